/- A return exchanged with the call of another thread that follows it: the calls of the two lists, side by side. -/
import Derived.Test.YtfokmfnafbladaaDoorP5a
import Derived.Test.YtfokmfnafbladaaDoorHWider
namespace Go.Proofs.YtfokmfnafbladaaDoor.Q
open Go.RowKit Go.Proofs.YtfokmfnafbladaaDoorW.PrintWords Go.Proofs.YtfokmfnafbladaaDoorW.PrintLast Go.Proofs.YtfokmfnafbladaaDoorW.PrintMore
set_option linter.unusedVariables false
set_option linter.unusedSimpArgs false

/-- Two states that differ in where calls begin and end alone: those of the second are wider. -/
structure Twin (s s' : SpSt) : Prop where
  len : s'.l.length = s.l.length
  cnt : s'.cnt = s.cnt
  opn : s'.opn = s.opn
  same : ∀ j : Int, 0 ≤ j → j < s.l.length → (rd_T54 s'.l j).f0 = (rd_T54 s.l j).f0 ∧ (rd_T54 s'.l j).f1 = (rd_T54 s.l j).f1 ∧ (rd_T54 s'.l j).f2 = (rd_T54 s.l j).f2
  wide : ∀ j : Int, 0 ≤ j → j < s.l.length → (rd_T54 s'.l j).f3 ≤ (rd_T54 s.l j).f3 ∧ (0 ≤ (rd_T54 s'.l j).f4 → 0 ≤ (rd_T54 s.l j).f4 ∧ (rd_T54 s.l j).f4 ≤ (rd_T54 s'.l j).f4)

theorem spStep_ret_of {i : Int} {s : SpSt} {e : S37} (hf : formB e = true) (h1 : e.f2 = true) (h2 : 0 ≤ rd s.opn e.f0) (h3 : (rd_T54 s.l (rd s.opn e.f0)).f2 = e.f3) (h4 : (rd_T54 s.l (rd s.opn e.f0)).f1 = e.f1) :
    spStep i s e = some ⟨s.l.set (rd s.opn e.f0).toNat ⟨(rd_T54 s.l (rd s.opn e.f0)).f0, (rd_T54 s.l (rd s.opn e.f0)).f1, (rd_T54 s.l (rd s.opn e.f0)).f2, (rd_T54 s.l (rd s.opn e.f0)).f3, i, e.f4⟩, s.cnt, s.opn.set e.f0.toNat (-1)⟩ := by
  unfold spStep
  rw [if_pos hf, if_pos h1, if_pos h2, if_pos ((callEq_iff _ _).2 h3), if_pos h4]
theorem spStep_call_of {i : Int} {s : SpSt} {e : S37} (hf : formB e = true) (h1 : ¬ e.f2 = true) (h2 : rd s.opn e.f0 < 0) (h3 : e.f1 = rd s.cnt e.f0) (h4 : e.f4 = 0) (h5 : ¬ s.l.length = 12) :
    spStep i s e = some ⟨s.l ++ [⟨e.f0, e.f1, e.f3, i, -1, 0⟩], s.cnt.set e.f0.toNat (rd s.cnt e.f0 + 1), s.opn.set e.f0.toNat s.l.length⟩ := by
  unfold spStep
  rw [if_pos hf, if_neg h1, if_pos h2, if_pos h3, if_pos h4, if_neg h5]
theorem spStep_ret_why {i : Int} {s s1 : SpSt} {e : S37} (h : spStep i s e = some s1) (h1 : e.f2 = true) : (rd_T54 s.l (rd s.opn e.f0)).f2 = e.f3 := by
  unfold spStep at h
  split at h
  · split at h
    · split at h
      · rename_i hc
        exact (callEq_iff _ _).1 hc
      · cases h
    · cases h
  · cases h
theorem spStep_call_why {i : Int} {s s1 : SpSt} {e : S37} (h : spStep i s e = some s1) (h1 : ¬ e.f2 = true) : e.f1 = rd s.cnt e.f0 ∧ e.f4 = 0 ∧ ¬ s.l.length = 12 := by
  unfold spStep at h
  split at h
  · split at h
    · split at h
      · split at h
        · split at h
          · cases h
          · exact ⟨by assumption, by assumption, by assumption⟩
        · cases h
      · cases h
    · cases h
  · cases h

theorem twin_step {i : Nat} {s s' s1 : SpSt} {r : RvSt} {e : S37} (hL : Link i s r) (hT : Twin s s') (hs : spStep i s e = some s1) : ∃ s1', spStep i s' e = some s1' ∧ Twin s1 s1' := by
  have hf := spStep_form hs
  have ht := formB_thread hf
  by_cases hr : e.f2 = true
  · obtain ⟨⟨p0, p1⟩, p2⟩ := spStep_ret hs hr
    have p3 := spStep_ret_why hs hr
    have hown : rd s.opn e.f0 < s.l.length := hL.sp.opnb _ (rd_mem ht.1 (by rw [hL.sp.lopn]; exact ht.2))
    obtain ⟨q0, q1, q2⟩ := hT.same _ p0 hown
    have hown' : rd s.opn e.f0 < s'.l.length := by rw [hT.len]; exact hown
    have hn := spStep_ret_of (i := (i : Int)) (s := s') hf hr (by rw [hT.opn]; exact p0) (by rw [hT.opn, q2]; exact p3) (by rw [hT.opn, q1]; exact p1)
    rw [hT.opn] at hn
    refine ⟨_, hn, ?_⟩
    rw [p2]
    refine ⟨by simp [hT.len], hT.cnt, rfl, fun j j0 j1 => ?_, fun j j0 j1 => ?_⟩
    · simp only [List.length_set] at j1
      dsimp only
      rw [rd54_set _ _ _ _ p0 hown' j0, rd54_set _ _ _ _ p0 hown j0]
      split
      · exact ⟨q0, q1, q2⟩
      · exact hT.same j j0 j1
    · simp only [List.length_set] at j1
      dsimp only
      rw [rd54_set _ _ _ _ p0 hown' j0, rd54_set _ _ _ _ p0 hown j0]
      split
      · exact ⟨(hT.wide _ p0 hown).1, fun _ => ⟨by dsimp only; omega, Int.le_refl _⟩⟩
      · exact hT.wide j j0 j1
  · obtain ⟨p0, p2⟩ := spStep_call hs hr
    obtain ⟨p3, p4, p5⟩ := spStep_call_why hs hr
    have hn := spStep_call_of (i := (i : Int)) (s := s') hf hr (by rw [hT.opn]; exact p0) (by rw [hT.cnt]; exact p3) p4 (by rw [hT.len]; exact p5)
    rw [hT.opn, hT.cnt, hT.len] at hn
    refine ⟨_, hn, ?_⟩
    rw [p2]
    refine ⟨by simp [hT.len], rfl, rfl, fun j j0 j1 => ?_, fun j j0 j1 => ?_⟩
    · simp only [List.length_append, List.length_singleton] at j1
      dsimp only
      rw [rd54_append _ _ _ j0, rd54_append _ _ _ j0, hT.len]
      split
      · exact ⟨rfl, rfl, rfl⟩
      · exact hT.same j j0 (by omega)
    · simp only [List.length_append, List.length_singleton] at j1
      dsimp only
      rw [rd54_append _ _ _ j0, rd54_append _ _ _ j0, hT.len]
      split
      · exact ⟨Int.le_refl _, fun h => by dsimp only at h; omega⟩
      · exact hT.wide j j0 (by omega)

theorem twin_go : ∀ (es : List S37) {i : Nat} {s s' F : SpSt} {r : RvSt}, Link i s r → Twin s s' → spGo es i s = some F → ∃ G, spGo es i s' = some G ∧ Twin F G
  | [], i, s, s', F, r, hL, hT, hg => by
    injection hg with hg
    subst hg
    exact ⟨s', rfl, hT⟩
  | e :: es, i, s, s', F, r, hL, hT, hg => by
    unfold spGo at hg
    obtain ⟨s1, hs, hg1⟩ := Option.bind_eq_some_iff.1 hg
    obtain ⟨r1, _, hL1⟩ := link_next hL hs
    obtain ⟨s1', hs', hT1⟩ := twin_step hL hT hs
    unfold spGo
    rw [hs', Option.bind_some]
    exact twin_go es hL1 hT1 hg1

theorem swap_two {p : Nat} {s s1 s2 : SpSt} {r : RvSt} {e1 e2 : S37} (hL : Link p s r) (h1 : e1.f2 = true) (h2 : ¬ e2.f2 = true) (hne : e1.f0 ≠ e2.f0) (hs1 : spStep p s e1 = some s1) (hs2 : spStep ((p : Int) + 1) s1 e2 = some s2) :
    ∃ t1 t2, spStep p s e2 = some t1 ∧ spStep ((p : Int) + 1) t1 e1 = some t2 ∧ Twin s2 t2 := by
  have hf1 := spStep_form hs1
  have hf2 := spStep_form hs2
  have ht1 := formB_thread hf1
  have ht2 := formB_thread hf2
  obtain ⟨⟨p0, p1⟩, p2⟩ := spStep_ret hs1 h1
  have p3 := spStep_ret_why hs1 h1
  obtain ⟨q0, q2⟩ := spStep_call hs2 h2
  obtain ⟨q3, q4, q5⟩ := spStep_call_why hs2 h2
  have hown : rd s.opn e1.f0 < s.l.length := hL.sp.opnb _ (rd_mem ht1.1 (by rw [hL.sp.lopn]; exact ht1.2))
  have hol1 : e1.f0 < s.opn.length := by rw [hL.sp.lopn]; exact ht1.2
  have hol2 : e2.f0 < s.opn.length := by rw [hL.sp.lopn]; exact ht2.2
  have hlen : s1.l.length = s.l.length := by rw [p2]; simp
  have hcnt : s1.cnt = s.cnt := by rw [p2]
  have hop2 : rd s.opn e2.f0 < 0 := by
    rw [p2] at q0
    dsimp only at q0
    rw [rd_set _ _ _ _ ht1.1 hol1 ht2.1, if_neg hne] at q0
    exact q0
  rw [hcnt] at q3
  rw [hlen] at q5
  have hn1 := spStep_call_of (i := (p : Int)) (s := s) hf2 h2 hop2 q3 q4 q5
  have hrd : rd_T54 (s.l ++ [(⟨e2.f0, e2.f1, e2.f3, (p : Int), -1, 0⟩ : S54)]) (rd s.opn e1.f0) = rd_T54 s.l (rd s.opn e1.f0) := by
    rw [rd54_append _ _ _ p0, if_neg (by omega)]
  have hopn : rd (s.opn.set e2.f0.toNat (s.l.length : Int)) e1.f0 = rd s.opn e1.f0 := by
    rw [rd_set _ _ _ _ ht2.1 hol2 ht1.1, if_neg (fun h => hne h.symm)]
  have hn2 := spStep_ret_of (i := (p : Int) + 1) (s := ⟨s.l ++ [⟨e2.f0, e2.f1, e2.f3, p, -1, 0⟩], s.cnt.set e2.f0.toNat (rd s.cnt e2.f0 + 1), s.opn.set e2.f0.toNat s.l.length⟩) hf1 h1 (by dsimp only; rw [hopn]; exact p0) (by dsimp only; rw [hopn, hrd]; exact p3) (by dsimp only; rw [hopn, hrd]; exact p1)
  dsimp only at hn2
  rw [hopn, hrd] at hn2
  refine ⟨_, _, hn1, hn2, ?_⟩
  rw [q2, hlen, hcnt, p2]
  dsimp only
  refine ⟨by simp, rfl, ?_, fun j j0 j1 => ?_, fun j j0 j1 => ?_⟩
  · exact (List.set_comm _ _ (by omega)).symm
  · simp only [List.length_append, List.length_set, List.length_singleton] at j1
    dsimp only
    rw [rd54_set _ _ _ _ p0 (by rw [List.length_append]; omega) j0, rd54_append _ _ _ j0, rd54_append _ _ _ j0, List.length_set, rd54_set _ _ _ _ p0 hown j0]
    by_cases ej : rd s.opn e1.f0 = j
    · rw [if_pos ej, if_neg (by omega), if_pos ej]
      exact ⟨rfl, rfl, rfl⟩
    · rw [if_neg ej]
      split
      · exact ⟨rfl, rfl, rfl⟩
      · exact ⟨rfl, rfl, rfl⟩
  · simp only [List.length_append, List.length_set, List.length_singleton] at j1
    dsimp only
    rw [rd54_set _ _ _ _ p0 (by rw [List.length_append]; omega) j0, rd54_append _ _ _ j0, rd54_append _ _ _ j0, List.length_set, rd54_set _ _ _ _ p0 hown j0]
    by_cases ej : rd s.opn e1.f0 = j
    · rw [if_pos ej, if_neg (by omega), if_pos ej]
      exact ⟨Int.le_refl _, fun _ => ⟨by dsimp only; omega, by dsimp only; omega⟩⟩
    · rw [if_neg ej]
      split
      · exact ⟨by dsimp only; omega, fun h => by dsimp only at h; omega⟩
      · exact ⟨Int.le_refl _, fun h => ⟨h, Int.le_refl _⟩⟩

theorem spGo_append : ∀ (a b : List S37) (i : Int) (s : SpSt), spGo (a ++ b) i s = (spGo a i s).bind (spGo b (i + a.length))
  | [], b, i, s => by simp [spGo]
  | e :: a, b, i, s => by
    rw [List.cons_append]
    unfold spGo
    cases spStep i s e with
    | none => rfl
    | some s1 =>
      rw [Option.bind_some, Option.bind_some, spGo_append a b (i + 1) s1, List.length_cons]
      congr 2
      omega

/-- The exchange. -/
theorem swap_go {pre post : List S37} {e1 e2 : S37} {F : SpSt} (h1 : e1.f2 = true) (h2 : ¬ e2.f2 = true) (hne : e1.f0 ≠ e2.f0) (hg : spGo (pre ++ e1 :: e2 :: post) 0 spInit = some F) :
    ∃ G, spGo (pre ++ e2 :: e1 :: post) 0 spInit = some G ∧ Twin F G := by
  rw [spGo_append] at hg ⊢
  obtain ⟨s, hs, hg1⟩ := Option.bind_eq_some_iff.1 hg
  rw [hs, Option.bind_some]
  obtain ⟨r, hL, _⟩ := spGo_few hs
  rw [Int.zero_add] at hg1 ⊢
  unfold spGo at hg1
  obtain ⟨s1, hs1, hg2⟩ := Option.bind_eq_some_iff.1 hg1
  unfold spGo at hg2
  obtain ⟨s2, hs2, hg3⟩ := Option.bind_eq_some_iff.1 hg2
  obtain ⟨t1, t2, k1, k2, hT⟩ := swap_two hL h1 h2 hne hs1 hs2
  obtain ⟨r1, _, hL1⟩ := link_next hL hs1
  obtain ⟨r2, _, hL2⟩ := link_next (i := pre.length + 1) hL1 hs2
  unfold spGo
  rw [k1, Option.bind_some]
  unfold spGo
  rw [k2, Option.bind_some]
  exact twin_go post (i := pre.length + 1 + 1) hL2 hT hg3

end Go.Proofs.YtfokmfnafbladaaDoor.Q
