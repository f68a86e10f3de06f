/- The law HistParts, as a pure statement about lists. -/
import Derived.Test.YtfokmfnafbladaaDoorP4
namespace Go.Proofs.YtfokmfnafbladaaDoor.Q
open Go.RowKit Go.Proofs.YtfokmfnafbladaaDoorW.PrintWords Go.Proofs.YtfokmfnafbladaaDoorW.PrintLast Go.Proofs.YtfokmfnafbladaaDoorW.PrintMore
set_option linter.unusedVariables false
set_option linter.unusedSimpArgs false

theorem sane_ev : Ev (fun k => locklesslaw17_sane.f k) true := Ev.of locklesslaw17_sane.mono (k := 10) (by kernel_rfl)

theorem large_go (l : List S37) (hl : l.length < 4611686018427387904) : ∀ (m i : Nat) (n : Int), l.length - i ≤ m → i ≤ l.length → ∃ b, Ev (fun k => locklesslaw17_large.l0 k l n (i : Int)) b := by
  intro m
  induction m with
  | zero =>
    intro i n h1 h2
    refine ⟨decide (n ≥ 2000), Ev.step (f := fun _ => some (decide (n ≥ 2000))) (fun k => ?_) (Ev.now _)⟩
    unfold locklesslaw17_large.l0
    rw [if_neg (by omega)]
  | succ m ih =>
    intro i n h1 h2
    by_cases hi : i < l.length
    · have hw : wrap64 ((i : Int) + 1) = ((i + 1 : Nat) : Int) := by rw [w64 (by omega) (by omega)]; rfl
      by_cases hn : n < 2000
      · obtain ⟨b, hb⟩ := ih (i + 1) (wrap64 (n + ((rd_T37 l (i : Int)).f3.f0.size : Int))) (by omega) (by omega)
        refine ⟨b, Ev.step (f := fun k => locklesslaw17_large.l0 k l (wrap64 (n + ((rd_T37 l (i : Int)).f3.f0.size : Int))) ((i + 1 : Nat) : Int)) (fun k => ?_) hb⟩
        conv => lhs; unfold locklesslaw17_large.l0
        rw [if_pos (by omega), if_pos hn, if_pos (by omega), hw]
      · refine ⟨decide (n ≥ 2000), Ev.step (f := fun _ => some (decide (n ≥ 2000))) (fun k => ?_) (Ev.now _)⟩
        unfold locklesslaw17_large.l0
        rw [if_pos (by omega), if_neg hn]
    · exact ih i n (by omega) (by omega)
theorem large_ev (l : List S37) : ∃ b, Ev (fun k => locklesslaw17_large.f k l) b ∧ (b = false → l.length ≤ 60) := by
  by_cases h : (l.length : Int) > 60
  · refine ⟨true, Ev.congr (f := fun _ => some true) (fun k => ?_) (Ev.now _), fun h => by cases h⟩
    unfold locklesslaw17_large.f
    rw [if_pos h]
  · obtain ⟨b, hb⟩ := large_go l (by omega) l.length 0 0 (by omega) (by omega)
    refine ⟨b, Ev.congr (fun k => ?_) hb, fun _ => by omega⟩
    unfold locklesslaw17_large.f
    rw [if_neg h]
    rfl

theorem hvalid_eq (l : List S37) : hist_Valid.f l = some (rvB l) := by
  unfold hist_Valid.f hist_spans.f
  rw [← valid_same]
  cases spGo l 0 spInit <;> rfl
theorem hof_eq (l : List S37) (t : Int) (hl : l.length < 2199023255552) : hist_Of.f l t = some (if rvB l = true ∧ 0 ≤ t ∧ t < 4 then (ofL l t, 0) else ([], 1)) := by
  unfold hist_Of.f
  rw [hvalid_eq, Option.bind_some]
  cases hv : rvB l with
  | false => rw [if_neg (by decide), if_neg (fun h => by cases h.1)]
  | true =>
    rw [if_pos rfl]
    by_cases h0 : t < 0
    · rw [if_pos h0, if_neg (fun h => by have := h.2.1; omega)]
    · by_cases h1 : t ≥ 4
      · rw [if_neg h0, if_pos h1, if_neg (fun h => by have := h.2.2; omega)]
      · rw [if_neg h0, if_neg h1, if_pos ⟨rfl, by omega, by omega⟩]
        unfold hist_of.f
        rw [if_pos hl]
        rfl
theorem hcomplete_eq (l : List S37) (hl : l.length < 2199023255552) : hist_Complete.f l = some (match spGo l 0 spInit with | some F => (cpGo F.l 0 l, 0) | none => ([], 1)) := by
  unfold hist_Complete.f hist_spans.f
  rw [if_pos hl]
  cases spGo l 0 spInit <;> rfl

theorem parts_end {l : List S37} {F : SpSt} (hg : spGo l 0 spInit = some F) : Ev (fun k => locklesslaw17_HistParts.j0 k (cpGo F.l 0 l) 0 false) true := by
  obtain ⟨G, h1, h2, h3⟩ := kept_valid hg
  have hv : hist_Valid.f (cpGo F.l 0 l) = some true := by
    rw [hvalid_eq, ← valid_same, h1]
    rfl
  have hp : Ev (fun k => hist_Pending.f k (cpGo F.l 0 l)) ([], 0) := by
    refine Ev.congr (fun k => ?_) (pending_go G.l h2 h3 G.l.length 0 (by omega) (by omega))
    unfold hist_Pending.f hist_spans.f
    rw [h1]
    rfl
  refine Ev.step (f := fun k => (hist_Pending.f k (cpGo F.l 0 l)).bind fun bt212 => ((hist_Valid.f (cpGo F.l 0 l)).bind fun t216 => (if t216 = true then (if bt212.2 = 0 then (if (bt212.1.length : Int) = 0 then ((locklesslaw17_sane.f k).bind fun t217 => (some t217)) else (some false)) else (some false)) else (some false)))) (fun k => ?_) (Ev.bind hp ?_)
  · unfold locklesslaw17_HistParts.j0
    rfl
  · refine Ev.congr (f := fun k => (locklesslaw17_sane.f k).bind fun t217 => (some t217)) (fun k => ?_) (Ev.bind sane_ev (Ev.now _))
    rw [hv]
    rfl

theorem HistParts_pure (l : List S37) (t : Int) (hz : ∀ e ∈ l, e.f3.f0.size ≤ 9223372036854775807) : ∃ k, locklesslaw17_HistParts.f k l t = some true := by
  refine Ev.rounds ?_
  obtain ⟨b, hb, hs⟩ := large_ev l
  refine Ev.bind hb ?_
  cases b with
  | true => exact Ev.bind sane_ev (Ev.now _)
  | false =>
    have hl := hs rfl
    have hl2 : l.length < 2199023255552 := by omega
    refine Ev.congr (f := fun k => (hist_Of.f l t).bind fun bt194 => ((locklessref17_Of.f k l t).bind fun bt198 => ((hist_Complete.f l).bind fun bt202 => ((locklessref17_Complete.f k l).bind fun bt206 => (if bt194.2 = bt198.2 then (if bt202.2 = bt206.2 then ((locklessref01_Events.f k bt194.1 bt198.1).bind fun t210 => (if t210 = true then ((locklessref01_Events.f k bt202.1 bt206.1).bind fun t211 => (locklesslaw17_HistParts.j0 k bt202.1 bt202.2 (!t211))) else (locklesslaw17_HistParts.j0 k bt202.1 bt202.2 true))) else (locklesslaw17_HistParts.j0 k bt202.1 bt202.2 true)) else (locklesslaw17_HistParts.j0 k bt202.1 bt202.2 true)))))) (fun k => ?_) ?_
    · rw [if_neg (by decide)]
    · rw [hof_eq l t hl2]
      simp only [Option.bind_some]
      refine Ev.bind (rof_ev l t hl2 hz) ?_
      rw [hcomplete_eq l hl2]
      simp only [Option.bind_some]
      refine Ev.bind (rcomplete_ev l hl2 hz) ?_
      have h1 : (if rvB l = true ∧ 0 ≤ t ∧ t < 4 then (ofL l t, (0 : Int)) else ([], 1)).1.length < 4611686018427387904 := by
        have := ofL_length l t
        split
        · dsimp only; omega
        · decide
      have e1 := revents_ev _ (if rvB l = true ∧ 0 ≤ t ∧ t < 4 then (ofL l t, (0 : Int)) else ([], 1)).1 h1
      rw [decide_eq_true rfl] at e1
      cases hg : spGo l 0 spInit with
      | none =>
        simp only [if_true]
        refine Ev.bind e1 ?_
        simp only [if_true]
        have e2 := revents_ev [] [] (by decide)
        rw [decide_eq_true rfl] at e2
        refine Ev.bind e2 ?_
        refine Ev.step (f := fun k => (locklesslaw17_sane.f k).bind fun t218 => (some t218)) (fun k => ?_) (Ev.bind sane_ev (Ev.now _))
        unfold locklesslaw17_HistParts.j0
        rfl
      | some F =>
        simp only [if_true]
        refine Ev.bind e1 ?_
        simp only [if_true]
        have hc : (cpGo F.l 0 l).length < 4611686018427387904 := by
          have := cpGo_length F.l l 0
          omega
        have e2 := revents_ev (cpGo F.l 0 l) (cpGo F.l 0 l) hc
        rw [decide_eq_true rfl] at e2
        exact Ev.bind e2 (parts_end hg)

end Go.Proofs.YtfokmfnafbladaaDoor.Q
