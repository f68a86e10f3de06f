/- The specification's calls of a history, its parts and comparisons, as pure functions of the events. -/
import Derived.Test.YtfokmfnafbladaaDoorP2
namespace Go.Proofs.YtfokmfnafbladaaDoor.Q
open Go.RowKit Go.Proofs.YtfokmfnafbladaaDoorW.PrintWords Go.Proofs.YtfokmfnafbladaaDoorW.PrintLast Go.Proofs.YtfokmfnafbladaaDoorW.PrintMore
set_option linter.unusedVariables false
set_option linter.unusedSimpArgs false

theorem link_go : ∀ (es : List S37) {i : Nat} {s : SpSt} {r : RvSt}, Link i s r → (spGo es i s = none ∧ rvGo es r = none) ∨ ∃ s' r', spGo es i s = some s' ∧ rvGo es r = some r' ∧ Link (i + es.length) s' r'
  | [], i, s, r, h => .inr ⟨s, r, rfl, rfl, h⟩
  | e :: es, i, s, r, h => by
    unfold spGo rvGo
    rcases link_step h e with ⟨h1, h2⟩ | ⟨s1, r1, h1, h2, h3⟩
    · exact .inl ⟨by rw [h1]; rfl, by rw [h2]; rfl⟩
    · rw [h1, h2]
      have := link_go es h3
      rw [List.length_cons, show i + (es.length + 1) = i + 1 + es.length by omega]
      exact this
theorem valid_same (l : List S37) : (spGo l 0 spInit).isSome = rvB l := by
  unfold rvB
  rcases link_go l link_init with ⟨h1, h2⟩ | ⟨s1, r1, h1, h2, _⟩
  · rw [show spGo l 0 spInit = none from h1, h2]; rfl
  · rw [show spGo l 0 spInit = some s1 from h1, h2]; rfl

/-- A call of the specification's. -/
def conv59 (x : S54) : S59 := ⟨x.f0, x.f1, x.f2, x.f3, x.f4, x.f5⟩
theorem rd59_map (l : List S54) (j : Int) (h0 : 0 ≤ j) (h1 : j < l.length) : rd_T59 (l.map conv59) j = conv59 (rd_T54 l j) := by
  unfold rd_T59 rd_T54
  rw [List.getD_eq_getElem?_getD, List.getD_eq_getElem?_getD, List.getElem?_map, List.getElem?_eq_getElem (show j.toNat < l.length by omega)]
  rfl

theorem set59 (X : List S54) (own : Int) (h0 : 0 ≤ own) (h1 : own < X.length) (i f4 : Int) : ((X.map conv59).set own.toNat (⟨(conv59 (rd_T54 X own)).f0, (conv59 (rd_T54 X own)).f1, ⟨(conv59 (rd_T54 X own)).f2.f0, (conv59 (rd_T54 X own)).f2.f1, (conv59 (rd_T54 X own)).f2.f2⟩, (conv59 (rd_T54 X own)).f3, i, (conv59 (rd_T54 X own)).f5⟩ : S59)).set own.toNat
    (⟨(rd_T59 ((X.map conv59).set own.toNat (⟨(conv59 (rd_T54 X own)).f0, (conv59 (rd_T54 X own)).f1, ⟨(conv59 (rd_T54 X own)).f2.f0, (conv59 (rd_T54 X own)).f2.f1, (conv59 (rd_T54 X own)).f2.f2⟩, (conv59 (rd_T54 X own)).f3, i, (conv59 (rd_T54 X own)).f5⟩ : S59)) own).f0, (rd_T59 ((X.map conv59).set own.toNat (⟨(conv59 (rd_T54 X own)).f0, (conv59 (rd_T54 X own)).f1, ⟨(conv59 (rd_T54 X own)).f2.f0, (conv59 (rd_T54 X own)).f2.f1, (conv59 (rd_T54 X own)).f2.f2⟩, (conv59 (rd_T54 X own)).f3, i, (conv59 (rd_T54 X own)).f5⟩ : S59)) own).f1, ⟨(rd_T59 ((X.map conv59).set own.toNat (⟨(conv59 (rd_T54 X own)).f0, (conv59 (rd_T54 X own)).f1, ⟨(conv59 (rd_T54 X own)).f2.f0, (conv59 (rd_T54 X own)).f2.f1, (conv59 (rd_T54 X own)).f2.f2⟩, (conv59 (rd_T54 X own)).f3, i, (conv59 (rd_T54 X own)).f5⟩ : S59)) own).f2.f0, (rd_T59 ((X.map conv59).set own.toNat (⟨(conv59 (rd_T54 X own)).f0, (conv59 (rd_T54 X own)).f1, ⟨(conv59 (rd_T54 X own)).f2.f0, (conv59 (rd_T54 X own)).f2.f1, (conv59 (rd_T54 X own)).f2.f2⟩, (conv59 (rd_T54 X own)).f3, i, (conv59 (rd_T54 X own)).f5⟩ : S59)) own).f2.f1, (rd_T59 ((X.map conv59).set own.toNat (⟨(conv59 (rd_T54 X own)).f0, (conv59 (rd_T54 X own)).f1, ⟨(conv59 (rd_T54 X own)).f2.f0, (conv59 (rd_T54 X own)).f2.f1, (conv59 (rd_T54 X own)).f2.f2⟩, (conv59 (rd_T54 X own)).f3, i, (conv59 (rd_T54 X own)).f5⟩ : S59)) own).f2.f2⟩, (rd_T59 ((X.map conv59).set own.toNat (⟨(conv59 (rd_T54 X own)).f0, (conv59 (rd_T54 X own)).f1, ⟨(conv59 (rd_T54 X own)).f2.f0, (conv59 (rd_T54 X own)).f2.f1, (conv59 (rd_T54 X own)).f2.f2⟩, (conv59 (rd_T54 X own)).f3, i, (conv59 (rd_T54 X own)).f5⟩ : S59)) own).f3, (rd_T59 ((X.map conv59).set own.toNat (⟨(conv59 (rd_T54 X own)).f0, (conv59 (rd_T54 X own)).f1, ⟨(conv59 (rd_T54 X own)).f2.f0, (conv59 (rd_T54 X own)).f2.f1, (conv59 (rd_T54 X own)).f2.f2⟩, (conv59 (rd_T54 X own)).f3, i, (conv59 (rd_T54 X own)).f5⟩ : S59)) own).f4, f4⟩ : S59)
    = (X.set own.toNat ⟨(rd_T54 X own).f0, (rd_T54 X own).f1, (rd_T54 X own).f2, (rd_T54 X own).f3, i, f4⟩).map conv59 := by
  have hr : ∀ a : S59, rd_T59 ((X.map conv59).set own.toNat a) own = a := fun a => (rdOf_set z59 (X.map conv59) own own a h0 (by rw [List.length_map]; exact h1) h0).trans (if_pos rfl)
  simp only [hr]
  rw [List.set_set, List.map_set]
  rfl

theorem rspans_inner (l : List S37) {i : Nat} {X Y : List S54} {own : Int} {y : S37} {res : List S59 × Int} (hi : i < 4611686018427387904) (ho0 : 0 ≤ own) (ho1 : own < X.length) (hX : X.length ≤ 12) (hk : (rd_T54 X own).f0 = y.f0 ∧ (rd_T54 X own).f1 = y.f1) (hu : ∀ j : Int, 0 ≤ j → j < X.length → j ≠ own → ¬ ((rd_T54 X j).f0 = y.f0 ∧ (rd_T54 X j).f1 = y.f1))
    (hYX : Y = X.set own.toNat ⟨(rd_T54 X own).f0, (rd_T54 X own).f1, (rd_T54 X own).f2, (rd_T54 X own).f3, i, y.f4⟩)
    (hY : Ev (fun k => locklessref17_Spans.l0 k l (Y.map conv59) ((i + 1 : Nat) : Int)) res) :
    ∀ (m j : Nat), X.length - j ≤ m → j ≤ X.length → Ev (fun k => locklessref17_Spans.l1 k l ((if (j : Int) ≤ own then X else Y).map conv59) (i : Int) (j : Int) y.f0 y.f1 y.f2 y.f3.f0 y.f3.f1 y.f3.f2 y.f4) res := by
  have hw : wrap64 ((i : Int) + 1) = ((i + 1 : Nat) : Int) := by rw [w64 (by omega) (by omega)]; rfl
  have hYl : Y.length = X.length := by rw [hYX, List.length_set]
  have hYu : ∀ j : Int, 0 ≤ j → j < X.length → j ≠ own → rd_T54 Y j = rd_T54 X j := fun j h0 h1 h2 => by rw [hYX, rd54_set _ _ _ _ ho0 ho1 h0, if_neg (fun h => h2 h.symm)]
  have hYs := set59 X own ho0 ho1 i y.f4
  rw [← hYX] at hYs
  have HYS := Aside0.mk hYs
  have HK := Aside0.mk hk
  have HU := Aside0.mk hu
  have HYU := Aside0.mk hYu
  clear hYX hYs hk hu hYu
  intro m
  induction m with
  | zero =>
    intro j h1 h2
    have h3 : j = X.length := by omega
    subst h3
    rw [if_neg (by omega)]
    refine Ev.step (f := fun k => locklessref17_Spans.l0 k l (Y.map conv59) ((i + 1 : Nat) : Int)) (fun k => ?_) hY
    conv => lhs; unfold locklessref17_Spans.l1
    rw [List.length_map, hYl, if_neg (Int.lt_irrefl _), hw]
  | succ m ih =>
    intro j h1 h2
    by_cases hj : j < X.length
    · have hj2 : X.length - (j + 1) ≤ m := by omega
      have hj3 : j + 1 ≤ X.length := by omega
      have hwj : wrap64 ((j : Int) + 1) = ((j + 1 : Nat) : Int) := by rw [w64 (by omega) (by omega)]; rfl
      have hn := ih (j + 1) hj2 hj3
      by_cases he : (j : Int) = own
      · subst he
        rw [if_pos (Int.le_refl _)]
        rw [if_neg (by omega)] at hn
        refine Ev.step (f := fun k => locklessref17_Spans.l1 k l (Y.map conv59) (i : Int) ((j + 1 : Nat) : Int) y.f0 y.f1 y.f2 y.f3.f0 y.f3.f1 y.f3.f2 y.f4) (fun k => ?_) hn
        conv => lhs; unfold locklessref17_Spans.l1
        rw [List.length_map, if_pos (by omega), if_pos (by omega), rd59_map _ _ ho0 ho1, if_pos (show (conv59 (rd_T54 X j)).f0 = y.f0 from HK.out.1), if_pos (show (conv59 (rd_T54 X j)).f1 = y.f1 from HK.out.2), Option.bind_some, hwj, HYS.out]
      · have hne : ∀ Z : List S54, Z.length = X.length → rd_T54 Z j = rd_T54 X j → ∀ k, locklessref17_Spans.l1 (k + 1) l (Z.map conv59) (i : Int) (j : Int) y.f0 y.f1 y.f2 y.f3.f0 y.f3.f1 y.f3.f2 y.f4 = locklessref17_Spans.l1 k l (Z.map conv59) (i : Int) ((j + 1 : Nat) : Int) y.f0 y.f1 y.f2 y.f3.f0 y.f3.f1 y.f3.f2 y.f4 := by
          intro Z hZ hZr k
          have g0 : (0 : Int) ≤ j := by omega
          have g1 : (j : Int) < X.length := by omega
          have g2 : (j : Int) < Z.length := by rw [hZ]; exact g1
          conv => lhs; unfold locklessref17_Spans.l1
          rw [List.length_map, if_pos g2, if_pos g0, rd59_map _ _ g0 g2, hZr, hwj]
          have hu1 := HU.out j g0 g1 he
          by_cases q0 : (conv59 (rd_T54 X j)).f0 = y.f0
          · rw [if_pos q0, if_neg (show ¬ (conv59 (rd_T54 X j)).f1 = y.f1 from fun q1 => hu1 ⟨q0, q1⟩)]
          · rw [if_neg q0]
        by_cases hle : (j : Int) ≤ own
        · rw [if_pos hle]
          rw [if_pos (by omega)] at hn
          exact Ev.step (hne X rfl rfl) hn
        · rw [if_neg hle]
          rw [if_neg (by omega)] at hn
          exact Ev.step (hne Y hYl (HYU.out j (by omega) (by omega) he)) hn
    · have h3 : j = X.length := by omega
      exact ih j (by omega) (by omega)

theorem spStep_ret {i : Int} {s s1 : SpSt} {e : S37} (h : spStep i s e = some s1) (h1 : e.f2 = true) : (0 ≤ rd s.opn e.f0 ∧ (rd_T54 s.l (rd s.opn e.f0)).f1 = e.f1) ∧ s1 = ⟨s.l.set (rd s.opn e.f0).toNat ⟨(rd_T54 s.l (rd s.opn e.f0)).f0, (rd_T54 s.l (rd s.opn e.f0)).f1, (rd_T54 s.l (rd s.opn e.f0)).f2, (rd_T54 s.l (rd s.opn e.f0)).f3, i, e.f4⟩, s.cnt, s.opn.set e.f0.toNat (-1)⟩ := by
  unfold spStep at h
  split at h
  · split at h
    · split at h
      · split at h
        · injection h with h
          exact ⟨⟨by assumption, by assumption⟩, h.symm⟩
        · cases h
      · cases h
    · cases h
  · cases h
theorem spStep_call {i : Int} {s s1 : SpSt} {e : S37} (h : spStep i s e = some s1) (h1 : ¬ e.f2 = true) : rd s.opn e.f0 < 0 ∧ s1 = ⟨s.l ++ [⟨e.f0, e.f1, e.f3, i, -1, 0⟩], s.cnt.set e.f0.toNat (rd s.cnt e.f0 + 1), s.opn.set e.f0.toNat s.l.length⟩ := by
  unfold spStep at h
  split at h
  · split at h
    · split at h
      · split at h
        · split at h
          · cases h
          · injection h with h
            exact ⟨by assumption, h.symm⟩
        · cases h
      · cases h
    · cases h
  · cases h
theorem spStep_form {i : Int} {s s1 : SpSt} {e : S37} (h : spStep i s e = some s1) : formB e = true := by
  unfold spStep at h
  split at h
  · assumption
  · cases h

theorem rspans_go (l : List S37) (hl : l.length < 4611686018427387904) : ∀ (m i : Nat) (s F : SpSt) (r : RvSt), l.length - i ≤ m → i ≤ l.length → Link i s r → spGo (l.drop i) i s = some F → Ev (fun k => locklessref17_Spans.l0 k l (s.l.map conv59) (i : Int)) (F.l.map conv59, 0) := by
  intro m
  induction m with
  | zero =>
    intro i s F r h1 h2 hL hg
    have h3 : i = l.length := by omega
    subst h3
    rw [List.drop_length] at hg
    injection hg with hg
    subst hg
    refine Ev.step (f := fun _ => some (s.l.map conv59, 0)) (fun k => ?_) (Ev.now _)
    unfold locklessref17_Spans.l0
    rw [if_neg (Int.lt_irrefl _)]
  | succ m ih =>
    intro i s F r h1 h2 hL hg
    by_cases hi : i < l.length
    · have g0 : (0 : Int) ≤ i := by omega
      have g1 : (i : Int) < l.length := by omega
      have hw : wrap64 ((i : Int) + 1) = ((i + 1 : Nat) : Int) := by rw [w64 (by omega) (by omega)]; rfl
      rw [rdc37_drop hi] at hg
      unfold spGo at hg
      have hih := ih (i + 1)
      generalize hy : rd_T37 l (i : Int) = y at *
      obtain ⟨s1, hs, hg1⟩ := Option.bind_eq_some_iff.1 hg
      have hL1 : ∃ r1, Link (i + 1) s1 r1 := by
        rcases link_step hL y with ⟨q1, q2⟩ | ⟨s2, r2, q1, q2, q3⟩
        · rw [q1] at hs; cases hs
        · rw [q1] at hs
          injection hs with hs
          subst hs
          exact ⟨r2, q3⟩
      obtain ⟨r1, hL1⟩ := hL1
      have hn := hih s1 F r1 (by omega) (by omega) hL1 hg1
      have ht := formB_thread (spStep_form hs)
      have hfew := hL.sp.few
      by_cases hr : y.f2 = true
      · obtain ⟨⟨p0, p1⟩, p2⟩ := spStep_ret hs hr
        obtain ⟨o1, o2, o3, o4, o5⟩ := hL.open_ y.f0 ht.1 ht.2 p0
        have hown : rd s.opn y.f0 < s.l.length := hL.sp.opnb _ (rd_mem ht.1 (by rw [hL.sp.lopn]; exact ht.2))
        have hu : ∀ j : Int, 0 ≤ j → j < s.l.length → j ≠ rd s.opn y.f0 → ¬ ((rd_T54 s.l j).f0 = y.f0 ∧ (rd_T54 s.l j).f1 = y.f1) := by
          intro j j0 j1 jn hh
          rcases Int.lt_or_gt_of_ne jn with q | q
          · exact hL.uniq j _ j0 q hown ⟨by rw [o5, hh.1], by rw [p1, hh.2]⟩
          · exact hL.uniq _ j p0 q j1 ⟨by rw [o5, hh.1], by rw [p1, hh.2]⟩
        have hin := rspans_inner l (i := i) (y := y) (Y := s1.l) (by omega) p0 hown hfew ⟨o5, p1⟩ hu (by rw [p2]) hn s.l.length 0 (by omega) (by omega)
        rw [if_pos (show ((0 : Nat) : Int) ≤ _ from p0)] at hin
        refine Ev.step (f := fun k => locklessref17_Spans.l1 k l (s.l.map conv59) (i : Int) ((0 : Nat) : Int) y.f0 y.f1 y.f2 y.f3.f0 y.f3.f1 y.f3.f2 y.f4) (fun k => ?_) hin
        conv => lhs; unfold locklessref17_Spans.l0
        rw [if_pos g1, if_pos g0, hy, if_pos hr]
        rfl
      · obtain ⟨p0, p2⟩ := spStep_call hs hr
        refine Ev.step (f := fun k => locklessref17_Spans.l0 k l (s1.l.map conv59) ((i + 1 : Nat) : Int)) (fun k => ?_) hn
        conv => lhs; unfold locklessref17_Spans.l0
        rw [if_pos g1, if_pos g0, hy, if_neg hr, List.length_map, if_pos (by omega), hw, p2]
        congr 1
        simp [conv59]
    · have h3 : i = l.length := by omega
      exact ih i s F r (by omega) (by omega) hL hg

theorem rspans_ev (l : List S37) (hl : l.length < 4611686018427387904) (hz : ∀ e ∈ l, e.f3.f0.size ≤ 9223372036854775807) : Ev (fun k => locklessref17_Spans.f k l) (match spGo l 0 spInit with | some F => (F.l.map conv59, 0) | none => ([], 1)) := by
  refine Ev.bind (rvalid_ev l hl hz) ?_
  rw [← valid_same]
  cases hg : spGo l 0 spInit with
  | none => exact Ev.now _
  | some F =>
    have h := rspans_go l hl l.length 0 spInit F rvInit (by omega) (by omega) link_init (by rw [List.drop_zero]; exact hg)
    exact h

end Go.Proofs.YtfokmfnafbladaaDoor.Q
