/- The parts of a history, as the specification has them: of a thread, complete; the comparison of two lists; what is pending. -/
import Derived.Test.YtfokmfnafbladaaDoorP3
import Derived.Test.YtfokmfnafbladaaDoorHAlike
namespace Go.Proofs.YtfokmfnafbladaaDoor.Q
open Go.RowKit Go.Proofs.YtfokmfnafbladaaDoorW.PrintWords Go.Proofs.YtfokmfnafbladaaDoorW.PrintLast Go.Proofs.YtfokmfnafbladaaDoorW.PrintMore
set_option linter.unusedVariables false
set_option linter.unusedSimpArgs false

theorem rd54_drop {l : List S54} {k : Nat} (h : k < l.length) : l.drop k = rd_T54 l (k : Int) :: l.drop (k + 1) := by
  rw [List.drop_eq_getElem_cons h]
  simp [rd_T54, List.getD_eq_getElem?_getD, List.getElem?_eq_getElem h]

theorem rc_inner (l : List S37) (X : List S54) (hX : X.length ≤ 12) (i : Nat) (acc : List S37) {res : List S37 × Int} (hi : i < l.length) (hl : l.length < 4611686018427387904) (ha : acc.length ≤ i) (hb : i < 2199023255552)
    (hT : pend X (i : Int) = true → Ev (fun k => locklessref17_Complete.l0 k l (X.map conv59) acc ((i + 1 : Nat) : Int)) res)
    (hF : pend X (i : Int) = false → Ev (fun k => locklessref17_Complete.l0 k l (X.map conv59) (acc ++ [rd_T37 l (i : Int)]) ((i + 1 : Nat) : Int)) res) :
    ∀ (m j : Nat) (b : Bool), X.length - j ≤ m → j ≤ X.length → (b || pend (X.drop j) (i : Int)) = pend X (i : Int) → Ev (fun k => locklessref17_Complete.l1 k l (X.map conv59) acc (i : Int) b (j : Int)) res := by
  have hw : wrap64 ((i : Int) + 1) = ((i + 1 : Nat) : Int) := by rw [w64 (by omega) (by omega)]; rfl
  have g0 : (0 : Int) ≤ i := by omega
  have g1 : (i : Int) < l.length := by omega
  intro m
  induction m with
  | zero =>
    intro j b h1 h2 h3
    have h4 : j = X.length := by omega
    subst h4
    have h5 : pend (X.drop X.length) (i : Int) = false := by rw [List.drop_length]; rfl
    rw [h5, Bool.or_false] at h3
    cases b with
    | true =>
      refine Ev.step (f := fun k => locklessref17_Complete.l0 k l (X.map conv59) acc ((i + 1 : Nat) : Int)) (fun k => ?_) (hT h3.symm)
      conv => lhs; unfold locklessref17_Complete.l1
      rw [List.length_map, if_neg (Int.lt_irrefl _), if_pos rfl, hw]
    | false =>
      refine Ev.step (f := fun k => locklessref17_Complete.l0 k l (X.map conv59) (acc ++ [rd_T37 l (i : Int)]) ((i + 1 : Nat) : Int)) (fun k => ?_) (hF h3.symm)
      conv => lhs; unfold locklessref17_Complete.l1
      rw [List.length_map, if_neg (Int.lt_irrefl _), if_neg (by decide), if_pos g0, if_pos g1, if_pos (by omega), hw]
  | succ m ih =>
    intro j b h1 h2 h3
    by_cases hj : j < X.length
    · have j0 : (0 : Int) ≤ j := by omega
      have j1 : (j : Int) < X.length := by omega
      have hwj : wrap64 ((j : Int) + 1) = ((j + 1 : Nat) : Int) := by rw [w64 (by omega) (by omega)]; rfl
      have hd : pend (X.drop j) (i : Int) = (((rd_T54 X j).f3 == (i : Int) && decide ((rd_T54 X j).f4 < 0)) || pend (X.drop (j + 1)) (i : Int)) := by
        rw [rd54_drop hj]
        rfl
      rw [hd] at h3
      cases b with
      | true =>
        refine Ev.step (f := fun k => locklessref17_Complete.l1 k l (X.map conv59) acc (i : Int) true ((j + 1 : Nat) : Int)) (fun k => ?_) (ih (j + 1) true (by omega) (by omega) (by rw [Bool.true_or] at h3 ⊢; exact h3))
        conv => lhs; unfold locklessref17_Complete.l1
        rw [List.length_map, if_pos j1, if_pos rfl, hwj]
      | false =>
        rw [Bool.false_or] at h3
        by_cases he : (rd_T54 X j).f3 = (i : Int)
        · refine Ev.step (f := fun k => locklessref17_Complete.l1 k l (X.map conv59) acc (i : Int) (decide ((rd_T54 X j).f4 < 0)) ((j + 1 : Nat) : Int)) (fun k => ?_) (ih (j + 1) _ (by omega) (by omega) (by rw [← h3, he]; simp))
          conv => lhs; unfold locklessref17_Complete.l1
          rw [List.length_map, if_pos j1, if_neg (by decide), if_pos j0, rd59_map _ _ j0 j1, if_pos (show (conv59 (rd_T54 X j)).f3 = (i : Int) from he), hwj]
          rfl
        · refine Ev.step (f := fun k => locklessref17_Complete.l1 k l (X.map conv59) acc (i : Int) false ((j + 1 : Nat) : Int)) (fun k => ?_) (ih (j + 1) false (by omega) (by omega) (by rw [← h3, Bool.false_or, beq_false_of_ne he, Bool.false_and, Bool.false_or]))
          conv => lhs; unfold locklessref17_Complete.l1
          rw [List.length_map, if_pos j1, if_neg (by decide), if_pos j0, rd59_map _ _ j0 j1, if_neg (show ¬ (conv59 (rd_T54 X j)).f3 = (i : Int) from he), hwj]
    · exact ih j b (by omega) (by omega) h3

theorem rc_outer (l : List S37) (X : List S54) (hX : X.length ≤ 12) (hl : l.length < 2199023255552) : ∀ (m i : Nat) (acc : List S37), l.length - i ≤ m → i ≤ l.length → acc.length ≤ i → Ev (fun k => locklessref17_Complete.l0 k l (X.map conv59) acc (i : Int)) (acc ++ cpGo X i (l.drop i), 0) := by
  intro m
  induction m with
  | zero =>
    intro i acc h1 h2 h3
    have h4 : i = l.length := by omega
    subst h4
    rw [List.drop_length]
    unfold cpGo
    rw [List.append_nil]
    refine Ev.step (f := fun _ => some (acc, 0)) (fun k => ?_) (Ev.now _)
    unfold locklessref17_Complete.l0
    rw [if_neg (Int.lt_irrefl _)]
  | succ m ih =>
    intro i acc h1 h2 h3
    by_cases hi : i < l.length
    · rw [rdc37_drop hi]
      unfold cpGo
      refine Ev.step (f := fun k => locklessref17_Complete.l1 k l (X.map conv59) acc (i : Int) false ((0 : Nat) : Int)) (fun k => ?_) (rc_inner l X hX i acc hi (by omega) h3 (by omega) (fun hp => ?_) (fun hp => ?_) X.length 0 false (by omega) (by omega) (by rw [List.drop_zero, Bool.false_or]))
      · conv => lhs; unfold locklessref17_Complete.l0
        rw [if_pos (by omega)]
        rfl
      · rw [hp, if_pos rfl]
        exact ih (i + 1) acc (by omega) (by omega) (by omega)
      · rw [hp, if_neg (by decide)]
        have := ih (i + 1) (acc ++ [rd_T37 l (i : Int)]) (by omega) (by omega) (by rw [List.length_append, List.length_singleton]; omega)
        rw [List.append_assoc] at this
        exact this
    · exact ih i acc (by omega) (by omega) h3

theorem spGo_few {l : List S37} {F : SpSt} (hg : spGo l 0 spInit = some F) : ∃ r, Link l.length F r ∧ rvGo l rvInit = some r := by
  rcases link_go l link_init with ⟨q1, q2⟩ | ⟨s2, r2, q1, q2, q3⟩
  · rw [show spGo l 0 spInit = none from q1] at hg; cases hg
  · rw [show spGo l 0 spInit = some s2 from q1] at hg
    injection hg with hg
    subst hg
    rw [Nat.zero_add] at q3
    exact ⟨r2, q3, q2⟩

theorem rcomplete_ev (l : List S37) (hl : l.length < 2199023255552) (hz : ∀ e ∈ l, e.f3.f0.size ≤ 9223372036854775807) : Ev (fun k => locklessref17_Complete.f k l) (match spGo l 0 spInit with | some F => (cpGo F.l 0 l, 0) | none => ([], 1)) := by
  refine Ev.bind (rspans_ev l (by omega) hz) ?_
  cases hg : spGo l 0 spInit with
  | none => exact Ev.now _
  | some F =>
    obtain ⟨r, hL, _⟩ := spGo_few hg
    have h := rc_outer l F.l hL.sp.few hl l.length 0 [] (by omega) (by omega) (Nat.le_refl _)
    rw [List.drop_zero, List.nil_append] at h
    exact h

theorem rof_go (l : List S37) (t : Int) (hl : l.length < 2199023255552) : ∀ (m i : Nat) (acc : List S37), l.length - i ≤ m → i ≤ l.length → acc.length ≤ i → Ev (fun k => locklessref17_Of.l0 k l t acc (i : Int)) (acc ++ ofL (l.drop i) t, 0) := by
  intro m
  induction m with
  | zero =>
    intro i acc h1 h2 h3
    have h4 : i = l.length := by omega
    subst h4
    rw [List.drop_length]
    refine Ev.step (f := fun _ => some (acc, 0)) (fun k => ?_) (by rw [show acc ++ ofL [] t = acc from List.append_nil _]; exact Ev.now _)
    unfold locklessref17_Of.l0
    rw [if_neg (Int.lt_irrefl _)]
  | succ m ih =>
    intro i acc h1 h2 h3
    by_cases hi : i < l.length
    · have hw : wrap64 ((i : Int) + 1) = ((i + 1 : Nat) : Int) := by rw [w64 (by omega) (by omega)]; rfl
      have i0 : (0 : Int) ≤ i := by omega
      have i1 : (i : Int) < l.length := by omega
      rw [rdc37_drop hi]
      unfold ofL
      by_cases he : (rd_T37 l (i : Int)).f0 = t
      · rw [List.filter_cons_of_pos (by simpa using he)]
        have := ih (i + 1) (acc ++ [rd_T37 l (i : Int)]) (by omega) (by omega) (by rw [List.length_append, List.length_singleton]; omega)
        rw [List.append_assoc] at this
        refine Ev.step (f := fun k => locklessref17_Of.l0 k l t (acc ++ [rd_T37 l (i : Int)]) ((i + 1 : Nat) : Int)) (fun k => ?_) this
        conv => lhs; unfold locklessref17_Of.l0
        rw [if_pos i1, if_pos i0, if_pos he, if_pos (by omega), hw]
      · rw [List.filter_cons_of_neg (by simpa using he)]
        refine Ev.step (f := fun k => locklessref17_Of.l0 k l t acc ((i + 1 : Nat) : Int)) (fun k => ?_) (ih (i + 1) acc (by omega) (by omega) (by omega))
        conv => lhs; unfold locklessref17_Of.l0
        rw [if_pos i1, if_pos i0, if_neg he, hw]
    · exact ih i acc (by omega) (by omega) h3

theorem rof_ev (l : List S37) (t : Int) (hl : l.length < 2199023255552) (hz : ∀ e ∈ l, e.f3.f0.size ≤ 9223372036854775807) : Ev (fun k => locklessref17_Of.f k l t) (if rvB l = true ∧ 0 ≤ t ∧ t < 4 then (ofL l t, 0) else ([], 1)) := by
  refine Ev.bind (rvalid_ev l (by omega) hz) ?_
  have hbad : ∀ {b : Bool}, b = true → Ev (fun k => locklessref17_Of.j0 k l t b) ([], 1) := by
    intro b hb
    refine Ev.step (f := fun _ => some ([], 1)) (fun k => ?_) (Ev.now _)
    subst hb
    unfold locklessref17_Of.j0
    rfl
  cases hv : rvB l with
  | false =>
    rw [if_neg (fun h => by cases h.1)]
    exact hbad rfl
  | true =>
    by_cases h0 : t < 0
    · rw [if_neg (fun h => by have := h.2.1; omega)]
      refine Ev.congr (fun k => ?_) (hbad (b := true) rfl)
      rw [if_pos rfl, if_pos h0]
    · by_cases h1 : t ≥ 4
      · rw [if_neg (fun h => by have := h.2.2; omega)]
        refine Ev.congr (fun k => ?_) (hbad (b := decide (t ≥ 4)) (decide_eq_true h1))
        rw [if_pos rfl, if_neg h0]
      · rw [if_pos ⟨rfl, by omega, by omega⟩]
        have h := rof_go l t hl l.length 0 [] (by omega) (by omega) (Nat.le_refl _)
        rw [List.drop_zero, List.nil_append] at h
        refine Ev.congr (f := fun k => locklessref17_Of.j0 k l t false) (fun k => ?_) (Ev.step (f := fun k => locklessref17_Of.l0 k l t [] ((0 : Nat) : Int)) (fun k => ?_) h)
        · rw [if_pos rfl, if_neg h0, decide_eq_false h1]
        · unfold locklessref17_Of.j0
          rfl

theorem revents_go (x0 x1 : List S37) (hl : x0.length = x1.length) (hb : x0.length < 4611686018427387904) : ∀ (m i : Nat), x0.length - i ≤ m → i ≤ x0.length → Ev (fun k => locklessref01_Events.l0 k x0 x1 (i : Int)) (decide (x0.drop i = x1.drop i)) := by
  intro m
  induction m with
  | zero =>
    intro i h1 h2
    have h4 : i = x0.length := by omega
    refine Ev.step (f := fun _ => some true) (fun k => ?_) (by rw [List.drop_of_length_le (by omega), List.drop_of_length_le (by omega)]; exact Ev.now _)
    unfold locklessref01_Events.l0
    rw [if_neg (by omega)]
  | succ m ih =>
    intro i h1 h2
    by_cases hi : i < x0.length
    · have hi1 : i < x1.length := by omega
      have hw : wrap64 ((i : Int) + 1) = ((i + 1 : Nat) : Int) := by rw [w64 (by omega) (by omega)]; rfl
      rw [rdc37_drop hi, rdc37_drop hi1]
      by_cases he : rd_T37 x0 (i : Int) = rd_T37 x1 (i : Int)
      · have h := ih (i + 1) (by omega) (by omega)
        refine Ev.step (f := fun k => locklessref01_Events.l0 k x0 x1 ((i + 1 : Nat) : Int)) (fun k => ?_) (by rw [he]; simpa using h)
        conv => lhs; unfold locklessref01_Events.l0
        rw [if_pos (by omega), if_pos (by omega), if_pos (by omega)]
        change (if ne37 (rd_T37 x0 (i : Int)) (rd_T37 x1 (i : Int)) = true then _ else _) = _
        rw [ne37_iff, if_neg (by simp [he]), hw]
      · refine Ev.step (f := fun _ => some false) (fun k => ?_) (by rw [decide_eq_false (by simp [he])]; exact Ev.now _)
        conv => lhs; unfold locklessref01_Events.l0
        rw [if_pos (by omega), if_pos (by omega), if_pos (by omega)]
        change (if ne37 (rd_T37 x0 (i : Int)) (rd_T37 x1 (i : Int)) = true then _ else _) = _
        rw [ne37_iff, if_pos (by simp [he])]
    · exact ih i (by omega) (by omega)

theorem revents_ev (x0 x1 : List S37) (hb : x0.length < 4611686018427387904) : Ev (fun k => locklessref01_Events.f k x0 x1) (decide (x0 = x1)) := by
  by_cases hl : x0.length = x1.length
  · have h := revents_go x0 x1 hl hb x0.length 0 (by omega) (by omega)
    rw [List.drop_zero, List.drop_zero] at h
    refine Ev.congr (fun k => ?_) h
    unfold locklessref01_Events.f
    rw [if_pos (by omega)]
    rfl
  · refine Ev.congr (fun k => ?_) (f := fun _ => some false) (by rw [decide_eq_false (fun h => hl (by rw [h]))]; exact Ev.now _)
    unfold locklessref01_Events.f
    rw [if_neg (by omega)]

theorem pending_go (X : List S54) (hX : X.length ≤ 12) (hp : ∀ j : Int, 0 ≤ j → j < X.length → ¬ (rd_T54 X j).f4 < 0) : ∀ (m i : Nat), X.length - i ≤ m → i ≤ X.length → Ev (fun k => hist_Pending.l0 k X [] (X.length : Int) (i : Int)) ([], 0) := by
  intro m
  induction m with
  | zero =>
    intro i h1 h2
    have h4 : i = X.length := by omega
    subst h4
    refine Ev.step (f := fun _ => some ([], 0)) (fun k => ?_) (Ev.now _)
    unfold hist_Pending.l0
    rw [if_neg (Int.lt_irrefl _)]
  | succ m ih =>
    intro i h1 h2
    by_cases hi : i < X.length
    · have hw : wrap64 ((i : Int) + 1) = ((i + 1 : Nat) : Int) := by rw [w64 (by omega) (by omega)]; rfl
      refine Ev.step (f := fun k => hist_Pending.l0 k X [] (X.length : Int) ((i + 1 : Nat) : Int)) (fun k => ?_) (ih (i + 1) (by omega) (by omega))
      conv => lhs; unfold hist_Pending.l0
      rw [if_pos (by omega), if_pos (by omega), if_pos (by omega), if_neg (hp i (by omega) (by omega)), hw]
    · exact ih i (by omega) (by omega)

/-! What is kept of a history: the events but the calls that never return. -/
theorem link_next {i : Nat} {s s1 : SpSt} {r : RvSt} {e : S37} (h : Link i s r) (hs : spStep i s e = some s1) : ∃ r1, rvStep r e = some r1 ∧ Link (i + 1) s1 r1 := by
  rcases link_step h e with ⟨q1, q2⟩ | ⟨s2, r2, q1, q2, q3⟩
  · rw [q1] at hs; cases hs
  · rw [q1] at hs
    injection hs with hs
    subst hs
    exact ⟨r2, q2, q3⟩

structure Ext (i : Nat) (s F : SpSt) : Prop where
  len : s.l.length ≤ F.l.length
  place : ∀ j : Int, 0 ≤ j → j < s.l.length → (rd_T54 F.l j).f3 = (rd_T54 s.l j).f3
  late : ∀ j : Int, s.l.length ≤ j → j < F.l.length → (i : Int) ≤ (rd_T54 F.l j).f3
  back : ∀ j : Int, 0 ≤ j → j < s.l.length → ¬ (rd_T54 s.l j).f4 < 0 → ¬ (rd_T54 F.l j).f4 < 0

theorem ext_go : ∀ (es : List S37) {i : Nat} {s F : SpSt} {r : RvSt}, Link i s r → spGo es i s = some F → Ext i s F
  | [], i, s, F, r, h, hg => by
    injection hg with hg
    subst hg
    exact ⟨Nat.le_refl _, fun _ _ _ => rfl, fun j h0 h1 => by omega, fun _ _ _ h => h⟩
  | e :: es, i, s, F, r, h, hg => by
    unfold spGo at hg
    obtain ⟨s1, hs, hg1⟩ := Option.bind_eq_some_iff.1 hg
    obtain ⟨r1, _, hL1⟩ := link_next h hs
    have ih := ext_go es hL1 hg1
    have ht := formB_thread (spStep_form hs)
    by_cases hr : e.f2 = true
    · obtain ⟨⟨p0, p1⟩, p2⟩ := spStep_ret hs hr
      have hown : rd s.opn e.f0 < s.l.length := h.sp.opnb _ (rd_mem ht.1 (by rw [h.sp.lopn]; exact ht.2))
      have hlen : s1.l.length = s.l.length := by rw [p2]; simp
      have hrd : ∀ j : Int, 0 ≤ j → rd_T54 s1.l j = if rd s.opn e.f0 = j then ⟨(rd_T54 s.l (rd s.opn e.f0)).f0, (rd_T54 s.l (rd s.opn e.f0)).f1, (rd_T54 s.l (rd s.opn e.f0)).f2, (rd_T54 s.l (rd s.opn e.f0)).f3, i, e.f4⟩ else rd_T54 s.l j := fun j j0 => by rw [p2]; exact rd54_set _ _ _ _ p0 hown j0
      refine ⟨by rw [← hlen]; exact ih.len, fun j j0 j1 => ?_, fun j j0 j1 => ?_, fun j j0 j1 hj => ?_⟩
      · rw [ih.place j j0 (by rw [hlen]; exact j1), hrd j j0]
        split
        · rename_i hh
          rw [← hh]
        · rfl
      · have := ih.late j (by rw [hlen]; exact j0) j1
        omega
      · refine ih.back j j0 (by rw [hlen]; exact j1) ?_
        rw [hrd j j0]
        split
        · dsimp only; omega
        · exact hj
    · obtain ⟨p0, p2⟩ := spStep_call hs hr
      have hlen : s1.l.length = s.l.length + 1 := by rw [p2]; simp
      have hrd : ∀ j : Int, 0 ≤ j → rd_T54 s1.l j = if j = s.l.length then ⟨e.f0, e.f1, e.f3, i, -1, 0⟩ else rd_T54 s.l j := fun j j0 => by rw [p2]; exact rd54_append _ _ _ j0
      have hl2 := ih.len
      refine ⟨by omega, fun j j0 j1 => ?_, fun j j0 j1 => ?_, fun j j0 j1 hj => ?_⟩
      · rw [ih.place j j0 (by omega), hrd j j0, if_neg (by omega)]
      · by_cases hj : j = s.l.length
        · rw [ih.place j (by omega) (by omega), hrd j (by omega), if_pos hj]
          exact Int.le_refl _
        · have := ih.late j (by omega) j1
          omega
      · refine ih.back j j0 (by omega) ?_
        rw [hrd j j0, if_neg (by omega)]
        exact hj

/-- The state of the kept events (r') beside the state of all of them (s), F the end of all: a thread whose open call never returns is closed in r'. -/
structure Kept (s F : SpSt) (r' : RvSt) (i : Nat) : Prop where
  rv : RvInv i r'
  few : r'.calls ≤ s.l.length
  shut : ∀ t : Int, 0 ≤ t → t < 4 → (rd s.opn t < 0 ∨ (rd_T54 F.l (rd s.opn t)).f4 < 0) → rdOf false r'.opn t = false
  gone : ∀ t : Int, 0 ≤ t → t < 4 → rd s.opn t < 0 → rd r'.nxt t = rd s.cnt t
  open_ : ∀ t : Int, 0 ≤ t → t < 4 → 0 ≤ rd s.opn t → ¬ (rd_T54 F.l (rd s.opn t)).f4 < 0 → rdOf false r'.opn t = true ∧ rd r'.nxt t = (rd_T54 s.l (rd s.opn t)).f1 ∧ rd_T35 r'.und t = (rd_T54 s.l (rd s.opn t)).f2

theorem pend_false {X : List S54} {k : Int} (h : ∀ j : Int, 0 ≤ j → j < X.length → (rd_T54 X j).f3 = k → ¬ (rd_T54 X j).f4 < 0) : pend X k = false := by
  unfold pend
  cases hq : X.any (fun x => x.f3 == k && decide (x.f4 < 0)) with
  | false => rfl
  | true =>
    rw [List.any_eq_true] at hq
    obtain ⟨x, hx, hp⟩ := hq
    obtain ⟨j, hj, rfl⟩ := List.mem_iff_getElem.1 hx
    simp only [Bool.and_eq_true, beq_iff_eq, decide_eq_true_eq] at hp
    have e : rd_T54 X (j : Int) = X[j] := by simp [rd_T54, List.getD_eq_getElem?_getD, List.getElem?_eq_getElem hj]
    exact absurd (by rw [e]; exact hp.2) (h j (by omega) (by omega) (by rw [e]; exact hp.1))
theorem pend_true {X : List S54} {k j : Int} (h0 : 0 ≤ j) (h1 : j < X.length) (h2 : (rd_T54 X j).f3 = k) (h3 : (rd_T54 X j).f4 < 0) : pend X k = true := by
  unfold pend
  have e : rd_T54 X j = X[j.toNat]'(by omega) := by simp [rd_T54, List.getD_eq_getElem?_getD, List.getElem?_eq_getElem (show j.toNat < X.length by omega)]
  rw [List.any_eq_true]
  refine ⟨X[j.toNat]'(by omega), List.getElem_mem _, ?_⟩
  rw [← e, h2]
  simp [h3]

set_option maxHeartbeats 4000000 in
theorem kept_go : ∀ (es : List S37) {i : Nat} {s F : SpSt} {r r' : RvSt}, Link i s r → spGo es i s = some F → Kept s F r' i → ∃ r'', rvGo (cpGo F.l i es) r' = some r'' ∧ ∀ t : Int, 0 ≤ t → t < 4 → rdOf false r''.opn t = false
  | [], i, s, F, r, r', h, hg, hk => by
    injection hg with hg
    subst hg
    refine ⟨r', rfl, fun t t0 t1 => hk.shut t t0 t1 ?_⟩
    by_cases ho : rd s.opn t < 0
    · exact .inl ho
    · right
      have q := h.open_ t t0 t1 (by omega)
      have hown : rd s.opn t < s.l.length := h.sp.opnb _ (rd_mem t0 (by rw [h.sp.lopn]; exact t1))
      exact (h.pend _ (by omega) hown).2 (by rw [q.2.2.2.2])
  | e :: es, i, s, F, r, r', h, hg, hk => by
    unfold spGo at hg
    obtain ⟨s1, hs, hg1⟩ := Option.bind_eq_some_iff.1 hg
    obtain ⟨r1, _, hL1⟩ := link_next h hs
    have hx := ext_go es hL1 hg1
    have hf := spStep_form hs
    have ht := formB_thread hf
    have hopl : e.f0 < s.opn.length := by rw [h.sp.lopn]; exact ht.2
    have hcl : e.f0 < s.cnt.length := by rw [h.sp.lcnt]; exact ht.2
    have hrol : e.f0 < r'.opn.length := by rw [hk.rv.lo]; exact ht.2
    have hrnl : e.f0 < r'.nxt.length := by rw [hk.rv.ln]; exact ht.2
    have hrul : e.f0 < r'.und.length := by rw [hk.rv.lu]; exact ht.2
    have ih := fun (r2 : RvSt) (hk2 : Kept s1 F r2 (i + 1)) => kept_go es hL1 hg1 hk2
    unfold cpGo
    by_cases hr : e.f2 = true
    · obtain ⟨⟨p0, p1⟩, p2⟩ := spStep_ret hs hr
      have hown : rd s.opn e.f0 < s.l.length := h.sp.opnb _ (rd_mem ht.1 hopl)
      obtain ⟨o1, o2, o3, o4, o5⟩ := h.open_ e.f0 ht.1 ht.2 p0
      have hlen : s1.l.length = s.l.length := by rw [p2]; simp
      have hrd : ∀ j : Int, 0 ≤ j → rd_T54 s1.l j = if rd s.opn e.f0 = j then ⟨(rd_T54 s.l (rd s.opn e.f0)).f0, (rd_T54 s.l (rd s.opn e.f0)).f1, (rd_T54 s.l (rd s.opn e.f0)).f2, (rd_T54 s.l (rd s.opn e.f0)).f3, i, e.f4⟩ else rd_T54 s.l j := fun j j0 => by rw [p2]; exact rd54_set _ _ _ _ p0 hown j0
      have hop : ∀ t : Int, 0 ≤ t → rd s1.opn t = if e.f0 = t then -1 else rd s.opn t := fun t t0 => by rw [p2]; exact rd_set _ _ _ _ ht.1 hopl t0
      have hcn : s1.cnt = s.cnt := by rw [p2]
      have hFo : ¬ (rd_T54 F.l (rd s.opn e.f0)).f4 < 0 := hx.back _ p0 (by rw [hlen]; exact hown) (by rw [hrd _ p0, if_pos rfl]; dsimp only; omega)
      obtain ⟨k1, k2, k3⟩ := hk.open_ e.f0 ht.1 ht.2 p0 hFo
      have hp : pend F.l (i : Int) = false := pend_false (fun j j0 j1 j2 => by
        by_cases hj : j < s1.l.length
        · rw [hx.place j j0 hj] at j2
          have := (hL1.place j j0 hj).2
          rw [hlen] at hj
          have h3 := (h.place j j0 hj).2
          rw [hrd j j0] at j2
          split at j2
          · dsimp only at j2
            have := (h.place _ p0 hown).2
            omega
          · omega
        · have := hx.late j (by omega) j1
          omega)
      rw [hp, if_neg (by decide)]
      have hce : callEq e.f3 (rd_T35 r'.und e.f0) = true := by
        have h3 : callEq (rd_T54 s.l (rd s.opn e.f0)).f2 e.f3 = true := by
          unfold spStep at hs
          rw [if_pos hf, if_pos hr, if_pos p0] at hs
          split at hs
          · assumption
          · cases hs
        rw [callEq_iff] at h3 ⊢
        rw [k3, h3]
      have hr2 : rvStep r' e = some ⟨r'.calls, r'.opn.set e.f0.toNat false, r'.nxt.set e.f0.toNat (rd r'.nxt e.f0 + 1), r'.und⟩ := by
        unfold rvStep
        rw [if_pos hf, if_neg (by rw [hr, k1]; decide), if_neg (by rw [k2, p1]; simp), if_pos hr, if_pos hce]
      unfold rvGo
      rw [hr2, Option.bind_some]
      refine ih _ ⟨rvStep_inv hk.rv hr2, by rw [hlen]; exact hk.few, fun t t0 t1 ho => ?_, fun t t0 t1 ho => ?_, fun t t0 t1 ho hF => ?_⟩
      · dsimp only
        rw [rdOf_set _ _ _ _ _ ht.1 hrol t0]
        rw [hop t t0] at ho
        by_cases he : e.f0 = t
        · rw [if_pos he]
        · rw [if_neg he] at ho ⊢
          exact hk.shut t t0 t1 ho
      · dsimp only
        rw [rd_set _ _ _ _ ht.1 hrnl t0, hcn]
        rw [hop t t0] at ho
        by_cases he : e.f0 = t
        · rw [if_pos he, ← he, k2, o2, o3]
        · rw [if_neg he] at ho ⊢
          exact hk.gone t t0 t1 ho
      · dsimp only
        rw [rdOf_set _ _ _ _ _ ht.1 hrol t0, rd_set _ _ _ _ ht.1 hrnl t0]
        rw [hop t t0] at ho hF ⊢
        by_cases he : e.f0 = t
        · rw [if_pos he] at ho
          exact absurd ho (by decide)
        · rw [if_neg he] at ho hF ⊢
          rw [if_neg he, if_neg he, hrd _ ho, if_neg (fun hh => by
            have q5 := (h.open_ t t0 t1 ho).2.2.2.2
            rw [← hh, o5] at q5
            exact he q5)]
          exact hk.open_ t t0 t1 ho hF
    · obtain ⟨p0, p2⟩ := spStep_call hs hr
      have hlen : s1.l.length = s.l.length + 1 := by rw [p2]; simp
      have hrd : ∀ j : Int, 0 ≤ j → rd_T54 s1.l j = if j = s.l.length then ⟨e.f0, e.f1, e.f3, i, -1, 0⟩ else rd_T54 s.l j := fun j j0 => by rw [p2]; exact rd54_append _ _ _ j0
      have hop : ∀ t : Int, 0 ≤ t → rd s1.opn t = if e.f0 = t then (s.l.length : Int) else rd s.opn t := fun t t0 => by rw [p2]; exact rd_set _ _ _ _ ht.1 hopl t0
      have hcn : ∀ t : Int, 0 ≤ t → rd s1.cnt t = if e.f0 = t then rd s.cnt e.f0 + 1 else rd s.cnt t := fun t t0 => by rw [p2]; exact rd_set _ _ _ _ ht.1 hcl t0
      have hob : ∀ t : Int, 0 ≤ t → t < 4 → rd s.opn t < s.l.length := fun t t0 t1 => h.sp.opnb _ (rd_mem t0 (by rw [h.sp.lopn]; exact t1))
      have hl2 := hx.len
      have hFj : (rd_T54 F.l (s.l.length : Int)).f3 = i := by
        rw [hx.place _ (by omega) (by omega), hrd _ (by omega), if_pos rfl]
      have k1 := hk.shut e.f0 ht.1 ht.2 (.inl p0)
      have k2 := hk.gone e.f0 ht.1 ht.2 p0
      have hfew1 := hL1.sp.few
      have hfew := hk.few
      have hc : e.f1 = rd s.cnt e.f0 ∧ e.f4 = 0 := by
        unfold spStep at hs
        rw [if_pos hf, if_neg hr, if_pos p0] at hs
        split at hs
        · split at hs
          · exact ⟨by assumption, by assumption⟩
          · cases hs
        · cases hs
      have hr' : e.f2 = false := by simpa using hr
      by_cases hFp : (rd_T54 F.l (s.l.length : Int)).f4 < 0
      · rw [pend_true (j := (s.l.length : Int)) (by omega) (by omega) hFj hFp, if_pos rfl]
        refine ih r' ⟨⟨hk.rv.lo, hk.rv.ln, hk.rv.lu, hk.rv.cb, fun x hx' => by have := hk.rv.nb x hx'; omega⟩, by rw [hlen]; omega, fun t t0 t1 ho => ?_, fun t t0 t1 ho => ?_, fun t t0 t1 ho hF => ?_⟩
        · rw [hop t t0] at ho
          by_cases he : e.f0 = t
          · rw [← he]; exact k1
          · rw [if_neg he] at ho
            exact hk.shut t t0 t1 ho
        · rw [hop t t0] at ho
          rw [hcn t t0]
          by_cases he : e.f0 = t
          · rw [if_pos he] at ho
            omega
          · rw [if_neg he] at ho ⊢
            exact hk.gone t t0 t1 ho
        · rw [hop t t0] at ho hF ⊢
          by_cases he : e.f0 = t
          · rw [if_pos he] at hF
            exact absurd hFp hF
          · rw [if_neg he] at ho hF ⊢
            have := hob t t0 t1
            rw [hrd _ ho, if_neg (by omega)]
            exact hk.open_ t t0 t1 ho hF
      · have hp : pend F.l (i : Int) = false := pend_false (fun j j0 j1 j2 => by
          by_cases hj : j < s.l.length
          · rw [hx.place j j0 (by omega), hrd j j0, if_neg (by omega)] at j2
            have := (h.place j j0 hj).2
            omega
          · by_cases hj2 : j = s.l.length
            · rw [hj2]; exact hFp
            · have := hx.late j (by omega) j1
              omega)
        rw [hp, if_neg (by decide)]
        have hr2 : rvStep r' e = some ⟨r'.calls + 1, r'.opn.set e.f0.toNat true, r'.nxt, r'.und.set e.f0.toNat e.f3⟩ := by
          unfold rvStep
          rw [if_pos hf, if_neg (by rw [hr', k1]; decide), if_neg (by rw [k2, hc.1]; simp), if_neg hr, if_pos hc.2, if_neg (by omega)]
        unfold rvGo
        rw [hr2, Option.bind_some]
        refine ih _ ⟨rvStep_inv hk.rv hr2, by dsimp only; rw [hlen]; omega, fun t t0 t1 ho => ?_, fun t t0 t1 ho => ?_, fun t t0 t1 ho hF => ?_⟩
        · dsimp only
          rw [rdOf_set _ _ _ _ _ ht.1 hrol t0]
          rw [hop t t0] at ho
          by_cases he : e.f0 = t
          · rw [if_pos he] at ho
            rcases ho with ho | ho
            · omega
            · exact absurd ho hFp
          · rw [if_neg he] at ho ⊢
            exact hk.shut t t0 t1 ho
        · dsimp only
          rw [hop t t0] at ho
          rw [hcn t t0]
          by_cases he : e.f0 = t
          · rw [if_pos he] at ho
            omega
          · rw [if_neg he] at ho ⊢
            exact hk.gone t t0 t1 ho
        · dsimp only
          rw [rdOf_set _ _ _ _ _ ht.1 hrol t0, rd35_set _ _ _ _ ht.1 hrul t0]
          rw [hop t t0] at ho hF ⊢
          by_cases he : e.f0 = t
          · rw [if_pos he, if_pos he, if_pos he, hrd _ (by omega), if_pos rfl, ← he, k2]
            exact ⟨rfl, hc.1.symm, rfl⟩
          · rw [if_neg he] at ho hF ⊢
            have := hob t t0 t1
            rw [if_neg he, if_neg he, hrd _ ho, if_neg (by omega)]
            exact hk.open_ t t0 t1 ho hF

theorem kept_init (F : SpSt) : Kept spInit F rvInit 0 := by
  refine ⟨rvInit_inv, by decide, fun t t0 t1 _ => ?_, fun t t0 t1 _ => ?_, fun t t0 t1 ho => ?_⟩
  all_goals (have : t = 0 ∨ t = 1 ∨ t = 2 ∨ t = 3 := by omega)
  · rcases this with rfl | rfl | rfl | rfl <;> rfl
  · rcases this with rfl | rfl | rfl | rfl <;> rfl
  · rcases this with rfl | rfl | rfl | rfl <;> exact absurd ho (by decide)

/-- What Complete keeps is a history, and nothing of it is pending. -/
theorem kept_valid {l : List S37} {F : SpSt} (hg : spGo l 0 spInit = some F) : ∃ G : SpSt, spGo (cpGo F.l 0 l) 0 spInit = some G ∧ G.l.length ≤ 12 ∧ ∀ j : Int, 0 ≤ j → j < G.l.length → ¬ (rd_T54 G.l j).f4 < 0 := by
  obtain ⟨r'', h1, h2⟩ := kept_go l (i := 0) link_init hg (kept_init F)
  rcases link_go (cpGo F.l 0 l) link_init with ⟨q1, q2⟩ | ⟨G, r2, q1, q2, q3⟩
  · rw [h1] at q2; cases q2
  · rw [h1] at q2
    injection q2 with q2
    subst q2
    refine ⟨G, q1, q3.sp.few, fun j j0 j1 hp => ?_⟩
    have hk := (q3.key j j0 j1).1
    have ho := (q3.pend j j0 j1).1 hp
    have := (q3.open_ _ hk.1 hk.2 (by rw [ho]; exact j0)).1
    rw [h2 _ hk.1 hk.2] at this
    cases this

end Go.Proofs.YtfokmfnafbladaaDoor.Q
