/- Wider histories: what the exchange and equality of events give. -/
import Derived.Test.YtfokmfnafbladaaDoorP6
namespace Go.Proofs.YtfokmfnafbladaaDoor.Q
open Go.RowKit Go.Proofs.YtfokmfnafbladaaDoorW.PrintWords Go.Proofs.YtfokmfnafbladaaDoorW.PrintLast Go.Proofs.YtfokmfnafbladaaDoorW.PrintMore
set_option linter.unusedVariables false
set_option linter.unusedSimpArgs false

theorem Twin.refl {s : SpSt} : Twin s s := ⟨rfl, rfl, rfl, fun _ _ _ => ⟨rfl, rfl, rfl⟩, fun _ _ _ => ⟨Int.le_refl _, fun h => ⟨h, Int.le_refl _⟩⟩⟩

theorem rd54_get {l : List S54} {j : Nat} (h : j < l.length) : l[j]? = some (rd_T54 l (j : Int)) := by
  simp [rd_T54, List.getD_eq_getElem?_getD, List.getElem?_eq_getElem h]
theorem mem_rd54 {l : List S54} {x : S54} (h : x ∈ l) : ∃ j : Nat, j < l.length ∧ x = rd_T54 l (j : Int) := by
  obtain ⟨j, hj, rfl⟩ := List.mem_iff_getElem.1 h
  refine ⟨j, hj, ?_⟩
  simp [rd_T54, List.getD_eq_getElem?_getD, List.getElem?_eq_getElem hj]

theorem idx_same {n : Nat} {F : SpSt} {r : RvSt} (hL : Link n F r) {x : S54} {j : Nat} (hj : j < F.l.length) (h0 : x.f0 = (rd_T54 F.l (j : Int)).f0) (h1 : x.f1 = (rd_T54 F.l (j : Int)).f1) : idx54 (sameB x) F.l = j := by
  refine idx54_found hj (rd54_get hj) ?_ (fun i y hi hy => ?_)
  · unfold sameB
    rw [h0, h1]
    simp
  · have hi' : i < F.l.length := by omega
    rw [rd54_get hi'] at hy
    injection hy with hy
    subst hy
    have hu := hL.uniq (i : Int) (j : Int) (by omega) (by omega) (by omega)
    unfold sameB
    rw [h0, h1]
    cases hq : ((rd_T54 F.l (i : Int)).f0 == (rd_T54 F.l (j : Int)).f0 && (rd_T54 F.l (i : Int)).f1 == (rd_T54 F.l (j : Int)).f1) with
    | false => rfl
    | true =>
      simp only [Bool.and_eq_true, beq_iff_eq] at hq
      exact absurd hq hu

theorem wider_twin {n : Nat} {F G : SpSt} {r : RvSt} (hL : Link n F r) (hT : Twin F G) : (G.l.all fun x => F.l.any (sameB x)) = true ∧ widerB G.l F.l = true := by
  have hin : ∀ i : Nat, i < F.l.length → inB F.l (rd_T54 G.l (i : Int)) = rd_T54 F.l (i : Int) ∧ idx54 (sameB (rd_T54 G.l (i : Int))) F.l = i := by
    intro i hi
    have h := hT.same (i : Int) (by omega) (by omega)
    have hx := idx_same hL (x := rd_T54 G.l (i : Int)) hi h.1 h.2.1
    exact ⟨by unfold inB; rw [hx], hx⟩
  constructor
  · rw [List.all_eq_true]
    intro x hx
    obtain ⟨i, hi, rfl⟩ := mem_rd54 hx
    rw [hT.len] at hi
    rw [← idx54_any, (hin i hi).2]
    exact decide_eq_true (by omega)
  · unfold widerB
    rw [List.all_eq_true]
    intro x hx
    rw [List.all_eq_true]
    intro y hy
    obtain ⟨i, hi, rfl⟩ := mem_rd54 hx
    obtain ⟨j, hj, rfl⟩ := mem_rd54 hy
    rw [hT.len] at hi hj
    unfold lostB
    rw [(hin i hi).1, (hin j hj).1]
    cases hp : aheadB (rd_T54 G.l (i : Int)) (rd_T54 G.l (j : Int)) with
    | false => rfl
    | true =>
      unfold aheadB at hp
      simp only [Bool.and_eq_true, decide_eq_true_eq] at hp
      have w1 := (hT.wide (i : Int) (by omega) (by omega)).2 hp.1
      have w2 := (hT.wide (j : Int) (by omega) (by omega)).1
      have : aheadB (rd_T54 F.l (i : Int)) (rd_T54 F.l (j : Int)) = true := by
        unfold aheadB
        simp only [Bool.and_eq_true, decide_eq_true_eq]
        exact ⟨w1.1, by omega⟩
      rw [this]
      rfl

/-- The calls of a history by thread and number: those of its calling events. -/
theorem keys_go : ∀ (es : List S37) {i : Nat} {s F : SpSt} {r : RvSt}, Link i s r → spGo es i s = some F → F.l.map (fun x => (x.f0, x.f1)) = s.l.map (fun x => (x.f0, x.f1)) ++ (es.filter (fun e => !e.f2)).map (fun e => (e.f0, e.f1))
  | [], i, s, F, r, hL, hg => by
    injection hg with hg
    subst hg
    simp
  | e :: es, i, s, F, r, hL, hg => by
    unfold spGo at hg
    obtain ⟨s1, hs, hg1⟩ := Option.bind_eq_some_iff.1 hg
    obtain ⟨r1, _, hL1⟩ := link_next hL hs
    rw [keys_go es hL1 hg1]
    have ht := formB_thread (spStep_form hs)
    by_cases hr : e.f2 = true
    · obtain ⟨⟨p0, p1⟩, p2⟩ := spStep_ret hs hr
      have hown : rd s.opn e.f0 < s.l.length := hL.sp.opnb _ (rd_mem ht.1 (by rw [hL.sp.lopn]; exact ht.2))
      have hm : s1.l.map (fun x => (x.f0, x.f1)) = s.l.map (fun x => (x.f0, x.f1)) := by
        rw [p2, List.map_set]
        dsimp only
        refine List.ext_getElem? (fun k => ?_)
        rw [List.getElem?_set]
        split
        · rename_i hk
          subst hk
          have hlt : (rd s.opn e.f0).toNat < s.l.length := by omega
          rw [if_pos (by rw [List.length_map]; exact hlt), List.getElem?_map, rd54_get hlt]
          have : (((rd s.opn e.f0).toNat : Nat) : Int) = rd s.opn e.f0 := by omega
          rw [this]
          rfl
        · rfl
      rw [hm, List.filter_cons_of_neg (by simp [hr])]
    · obtain ⟨p0, p2⟩ := spStep_call hs hr
      have hr' : e.f2 = false := by simpa using hr
      rw [p2, List.filter_cons_of_pos (by simp [hr'])]
      simp

theorem any_of_alike {h k : List S37} {F G : SpSt} (hF : spGo h 0 spInit = some F) (hG : spGo k 0 spInit = some G) (ha : alikeB h k = true) : (F.l.all fun x => G.l.any (sameB x)) = true := by
  have kF := keys_go h (i := 0) link_init hF
  have kG := keys_go k (i := 0) link_init hG
  have e0 : spInit.l = [] := rfl
  rw [e0, List.map_nil, List.nil_append] at kF kG
  obtain ⟨r, hL, _⟩ := spGo_few hF
  rw [List.all_eq_true]
  intro x hx
  have hm : (x.f0, x.f1) ∈ F.l.map (fun x => (x.f0, x.f1)) := List.mem_map.2 ⟨x, hx, rfl⟩
  rw [kF] at hm
  obtain ⟨e, he, hee⟩ := List.mem_map.1 hm
  obtain ⟨he1, he2⟩ := List.mem_filter.1 he
  injection hee with hq0 hq1
  obtain ⟨j, hj, rfl⟩ := mem_rd54 hx
  have ht := (hL.key (j : Int) (by omega) (by omega)).1
  have hof : e ∈ ofL h e.f0 := List.mem_filter.2 ⟨he1, by simp⟩
  have hsame : ofL h e.f0 = ofL k e.f0 := by
    unfold alikeB at ha
    simp only [Bool.and_eq_true, decide_eq_true_eq] at ha
    have : e.f0 = 0 ∨ e.f0 = 1 ∨ e.f0 = 2 ∨ e.f0 = 3 := by omega
    rcases this with q | q | q | q <;> rw [q]
    · exact ha.1
    · exact ha.2.1
    · exact ha.2.2.1
    · exact ha.2.2.2
  rw [hsame] at hof
  have hek := (List.mem_filter.1 hof).1
  have hm2 : (e.f0, e.f1) ∈ G.l.map (fun x => (x.f0, x.f1)) := by
    rw [kG]
    exact List.mem_map.2 ⟨e, List.mem_filter.2 ⟨hek, he2⟩, rfl⟩
  obtain ⟨y, hy, hyy⟩ := List.mem_map.1 hm2
  injection hyy with g0 g1
  rw [List.any_eq_true]
  refine ⟨y, hy, ?_⟩
  unfold sameB
  rw [g0, g1, hq0, hq1]
  simp

theorem alike_swap {pre post : List S37} {e1 e2 : S37} (hne : e1.f0 ≠ e2.f0) : alikeB (pre ++ e2 :: e1 :: post) (pre ++ e1 :: e2 :: post) = true := by
  have h : ∀ t : Int, ofL (pre ++ e2 :: e1 :: post) t = ofL (pre ++ e1 :: e2 :: post) t := by
    intro t
    unfold ofL
    rw [List.filter_append, List.filter_append]
    congr 1
    by_cases h1 : e1.f0 = t
    · have h2 : ¬ e2.f0 = t := fun h => hne (h1.trans h.symm)
      simp [List.filter_cons, h1, h2]
    · simp [List.filter_cons, h1]
  unfold alikeB
  simp [h]

end Go.Proofs.YtfokmfnafbladaaDoor.Q
