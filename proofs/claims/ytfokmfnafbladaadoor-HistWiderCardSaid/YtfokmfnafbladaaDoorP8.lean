/- The law HistWider, as a pure statement about lists. -/
import Derived.Test.YtfokmfnafbladaaDoorP7
import Derived.Test.YtfokmfnafbladaaDoorRx1
namespace Go.Proofs.YtfokmfnafbladaaDoor.Q
open Go.RowKit Go.Proofs.YtfokmfnafbladaaDoorW.PrintWords Go.Proofs.YtfokmfnafbladaaDoorW.PrintLast Go.Proofs.YtfokmfnafbladaaDoorW.PrintMore
set_option linter.unusedVariables false
set_option linter.unusedSimpArgs false

theorem rd37_get {l : List S37} {j : Nat} (h : j < l.length) : rd_T37 l (j : Int) = l[j] := by
  simp [rd_T37, List.getD_eq_getElem?_getD, List.getElem?_eq_getElem h]

/-- Two neighbours exchanged. -/
theorem swap_list {l : List S37} {p : Nat} (hp : p + 1 < l.length) :
    l = l.take p ++ rd_T37 l (p : Int) :: rd_T37 l ((p + 1 : Nat) : Int) :: l.drop (p + 2) ∧
    (l.set p (rd_T37 l ((p + 1 : Nat) : Int))).set (p + 1) (rd_T37 l (p : Int)) = l.take p ++ rd_T37 l ((p + 1 : Nat) : Int) :: rd_T37 l (p : Int) :: l.drop (p + 2) := by
  have h1 : l = l.take p ++ rd_T37 l (p : Int) :: rd_T37 l ((p + 1 : Nat) : Int) :: l.drop (p + 2) := by
    conv => lhs; rw [← List.take_append_drop p l]
    rw [rdc37_drop (show p < l.length by omega), rdc37_drop hp]
  refine ⟨h1, ?_⟩
  generalize rd_T37 l (p : Int) = a at *
  generalize rd_T37 l ((p + 1 : Nat) : Int) = b at *
  have hl : (l.take p).length = p := by rw [List.length_take]; omega
  generalize l.take p = pre at *
  generalize l.drop (p + 2) = post at *
  rw [h1, List.set_append_right _ _ (by omega), hl, Nat.sub_self, List.set_cons_zero, List.set_append_right _ _ (by omega), hl, show p + 1 - p = 1 by omega]
  rfl

theorem wider_j0 (l : List S37) (t : Int) {b : Bool} (hb : b = true) : Ev (fun k => locklesslaw17_HistWider.j0 k l t b) true := by
  refine Ev.step (f := fun k => (locklesslaw17_sane.f k).bind fun t226 => some t226) (fun k => ?_) (Ev.bind sane_ev (Ev.now _))
  unfold locklesslaw17_HistWider.j0
  subst hb
  rfl
theorem wider_j1 (l : List S37) (t : Int) {b : Bool} (hb : b = true) : Ev (fun k => locklesslaw17_HistWider.j1 k l t b) true := by
  refine Ev.step (f := fun k => (locklesslaw17_sane.f k).bind fun t226 => some t226) (fun k => ?_) (Ev.bind sane_ev (Ev.now _))
  unfold locklesslaw17_HistWider.j1
  subst hb
  rfl

theorem hwider_eq {h k : List S37} (h0 : h.length < 2199023255552) (h1 : k.length < 2199023255552) {F G : SpSt} (hF : spGo h 0 spInit = some F) (hG : spGo k 0 spInit = some G) :
    hist_Wider.f h k = if alikeB h k = false then some (false, 0) else some (widerB F.l G.l, 0) := by
  unfold hist_Wider.f hist_spans.f hist_Wider.g
  rw [if_pos ⟨h0, h1⟩, hF, hG]
  simp only [Option.bind_some, spRes]
  rw [if_neg (by decide)]
  cases ha : alikeB h k with
  | false => rfl
  | true =>
    rw [if_neg (by decide), if_pos (any_of_alike hF hG ha)]
    rfl

theorem HistWider_pure (l : List S37) (t : Int) : ∃ k, locklesslaw17_HistWider.f k l t = some true := by
  refine Ev.rounds ?_
  obtain ⟨b, hb, hs⟩ := large_ev l
  refine Ev.bind hb ?_
  cases b with
  | true => exact wider_j0 l t rfl
  | false =>
    have hl := hs rfl
    have hl2 : l.length < 2199023255552 := by omega
    rw [show (fun k => if false = true then locklesslaw17_HistWider.j0 k l t true else ((hist_Valid.f l).bind fun t225 => (if t225 = true then (if t < 0 then (locklesslaw17_HistWider.j0 k l t true) else (locklesslaw17_HistWider.j0 k l t (decide (t ≥ (wrap64 ((l.length : Int) - 1)))))) else (locklesslaw17_HistWider.j0 k l t true)))) = (fun k => ((hist_Valid.f l).bind fun t225 => (if t225 = true then (if t < 0 then (locklesslaw17_HistWider.j0 k l t true) else (locklesslaw17_HistWider.j0 k l t (decide (t ≥ (wrap64 ((l.length : Int) - 1)))))) else (locklesslaw17_HistWider.j0 k l t true)))) from rfl]
    simp only [hvalid_eq, Option.bind_some]
    cases hv : rvB l with
    | false =>
      simp only [Bool.false_eq_true, if_false]
      exact wider_j0 l t rfl
    | true =>
      simp only [if_true]
      by_cases h0 : t < 0
      · simp only [if_pos h0]
        exact wider_j0 l t rfl
      · simp only [if_neg h0]
        rw [w64 (n := (l.length : Int) - 1) (by omega) (by omega)]
        by_cases h1 : t ≥ (l.length : Int) - 1
        · exact wider_j0 l t (decide_eq_true h1)
        · rw [decide_eq_false h1]
          obtain ⟨p, rfl⟩ := Int.eq_ofNat_of_zero_le (show 0 ≤ t by omega)
          have hp : p + 1 < l.length := by omega
          have hw : wrap64 ((p : Int) + 1) = ((p + 1 : Nat) : Int) := by rw [w64 (by omega) (by omega)]; rfl
          obtain ⟨hsw1, hsw2⟩ := swap_list hp
          generalize he1 : rd_T37 l (p : Int) = e1 at *
          generalize he2 : rd_T37 l ((p + 1 : Nat) : Int) = e2 at *
          have hj1 : ∀ {b : Bool}, (if e1.f2 = true then if e2.f2 = true then true else (e1.f0 == e2.f0) else true) = b → Ev (fun k => locklesslaw17_HistWider.j1 k l (p : Int) b) true → Ev (fun k => locklesslaw17_HistWider.j0 k l (p : Int) false) true := by
            intro b hb2 hE
            refine Ev.step (f := fun k => locklesslaw17_HistWider.j1 k l (p : Int) b) (fun k => ?_) hE
            conv => lhs; unfold locklesslaw17_HistWider.j0
            dsimp only
            rw [if_neg (by decide), if_pos (by omega), if_pos (by omega), he1, hw, he2]
            subst hb2
            by_cases q1 : e1.f2 = true
            · rw [if_pos q1, if_pos (by omega), if_pos (by omega), if_pos q1]
              by_cases q2 : e2.f2 = true
              · rw [if_pos q2, if_pos q2]
              · rw [if_neg q2, if_neg q2]
            · rw [if_neg q1, if_neg q1]
          by_cases q1 : e1.f2 = true
          · by_cases q2 : e2.f2 = true
            · exact hj1 (b := true) (by rw [if_pos q1, if_pos q2]) (wider_j1 l _ rfl)
            · by_cases q3 : e1.f0 = e2.f0
              · exact hj1 (b := true) (by rw [if_pos q1, if_neg q2, q3]; simp) (wider_j1 l _ rfl)
              · refine hj1 (b := false) (by rw [if_pos q1, if_neg q2]; exact beq_false_of_ne q3) ?_
                obtain ⟨F, hF⟩ : ∃ F, spGo l 0 spInit = some F := by
                  have hv2 := hv
                  rw [← valid_same] at hv2
                  exact Option.isSome_iff_exists.1 hv2
                have hF2 := hF
                rw [hsw1] at hF2
                obtain ⟨G, hG, hT⟩ := swap_go q1 q2 q3 hF2
                rw [← hsw2] at hG
                obtain ⟨r, hL, _⟩ := spGo_few hF
                have hwid := (wider_twin hL hT).2
                have hal : alikeB ((l.set p e2).set (p + 1) e1) l = true := by
                  have := alike_swap (pre := l.take p) (post := l.drop (p + 2)) q3
                  rw [← hsw1, ← hsw2] at this
                  exact this
                have hlen : ((l.set p e2).set (p + 1) e1).length = l.length := by simp
                have hwe := hwider_eq (h := (l.set p e2).set (p + 1) e1) (k := l) (by rw [hlen]; exact hl2) hl2 hG hF
                rw [hal, if_neg (by decide), hwid] at hwe
                have hvk : hist_Valid.f ((l.set p e2).set (p + 1) e1) = some true := by
                  rw [hvalid_eq, ← valid_same, hG]
                  rfl
                refine Ev.step (f := fun k => (locklesslaw17_sane.f k).bind fun t242 => locklesslaw17_HistWider.j2 k t242) (fun k => ?_) (Ev.bind sane_ev (Ev.step (f := fun _ => some true) (fun k => by unfold locklesslaw17_HistWider.j2; rfl) (Ev.now _)))
                conv => lhs; unfold locklesslaw17_HistWider.j1
                unfold locklesslaw17_own.f
                dsimp only
                rw [if_neg (by decide), Option.bind_some, if_pos (by simp; omega), Option.bind_some, List.nil_append, hw, he1, he2, if_pos (by omega), if_pos (by omega), if_pos (by omega), if_pos (by omega), if_pos (by omega), if_pos (by omega), Option.bind_some]
                have hset : (l.set ((p : Int)).toNat (⟨e2.f0, e2.f1, e2.f2, ⟨e2.f3.f0, e2.f3.f1, e2.f3.f2⟩, e2.f4⟩ : S37)).set (((p + 1 : Nat) : Int)).toNat (⟨e1.f0, e1.f1, e1.f2, ⟨e1.f3.f0, e1.f3.f1, e1.f3.f2⟩, e1.f4⟩ : S37) = (l.set p e2).set (p + 1) e1 := rfl
                rw [hset, hwe, Option.bind_some, hvk, Option.bind_some, if_pos rfl, if_pos rfl, if_pos rfl]
          · exact hj1 (b := true) (by rw [if_neg q1]) (wider_j1 l _ rfl)

end Go.Proofs.YtfokmfnafbladaaDoor.Q
