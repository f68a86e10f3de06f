/- The example of the laws, and which lists are looked at. -/
import Derived.Test.YtfokmfnafbladaaDoorQx3
import Derived.Test.YtfokmfnafbladaaDoorP3a
namespace Go.Proofs.YtfokmfnafbladaaDoor.Q
open Go.RowKit Go.Proofs.YtfokmfnafbladaaDoorW.PrintWords Go.Proofs.YtfokmfnafbladaaDoorW.PrintLast Go.Proofs.YtfokmfnafbladaaDoorW.PrintMore
set_option linter.unusedVariables false
set_option linter.unusedSimpArgs false

theorem sane_ev : Ev (fun k => locklesslaw17_sane.f k) true := Ev.of locklesslaw17_sane.mono (k := 10) (by kernel_rfl)

theorem large_go (l : List S37) (hl : l.length < 4611686018427387904) : ∀ (m i : Nat) (n : Int), l.length - i ≤ m → i ≤ l.length → ∃ b, Ev (fun k => locklesslaw17_large.l0 k l n (i : Int)) b := by
  intro m
  induction m with
  | zero =>
    intro i n h1 h2
    refine ⟨decide (n ≥ 2000), Ev.step (f := fun _ => some (decide (n ≥ 2000))) (fun k => ?_) (Ev.now _)⟩
    unfold locklesslaw17_large.l0
    rw [if_neg (by omega)]
  | succ m ih =>
    intro i n h1 h2
    by_cases hi : i < l.length
    · have hw : wrap64 ((i : Int) + 1) = ((i + 1 : Nat) : Int) := by rw [w64 (by omega) (by omega)]; rfl
      by_cases hn : n < 2000
      · obtain ⟨b, hb⟩ := ih (i + 1) (wrap64 (n + ((rd_T37 l (i : Int)).f3.f0.size : Int))) (by omega) (by omega)
        refine ⟨b, Ev.step (f := fun k => locklesslaw17_large.l0 k l (wrap64 (n + ((rd_T37 l (i : Int)).f3.f0.size : Int))) ((i + 1 : Nat) : Int)) (fun k => ?_) hb⟩
        conv => lhs; unfold locklesslaw17_large.l0
        rw [if_pos (by omega), if_pos hn, if_pos (by omega), hw]
      · refine ⟨decide (n ≥ 2000), Ev.step (f := fun _ => some (decide (n ≥ 2000))) (fun k => ?_) (Ev.now _)⟩
        unfold locklesslaw17_large.l0
        rw [if_pos (by omega), if_neg hn]
    · exact ih i n (by omega) (by omega)
theorem large_ev (l : List S37) : ∃ b, Ev (fun k => locklesslaw17_large.f k l) b ∧ (b = false → l.length ≤ 60) := by
  by_cases h : (l.length : Int) > 60
  · refine ⟨true, Ev.congr (f := fun _ => some true) (fun k => ?_) (Ev.now _), fun h => by cases h⟩
    unfold locklesslaw17_large.f
    rw [if_pos h]
  · obtain ⟨b, hb⟩ := large_go l (by omega) l.length 0 0 (by omega) (by omega)
    refine ⟨b, Ev.congr (fun k => ?_) hb, fun _ => by omega⟩
    unfold locklesslaw17_large.f
    rw [if_neg h]
    rfl

theorem hvalid_eq (l : List S37) : hist_Valid.f l = some (rvB l) := by
  unfold hist_Valid.f hist_spans.f
  rw [← valid_same]
  cases spGo l 0 spInit <;> rfl

end Go.Proofs.YtfokmfnafbladaaDoor.Q
