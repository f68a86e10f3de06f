/- The specification's states of a history, event by event. -/
import Derived.Test.YtfokmfnafbladaaDoorHComplete
namespace Go.Proofs.YtfokmfnafbladaaDoor.Q
open Go.RowKit Go.Proofs.YtfokmfnafbladaaDoorW.PrintWords Go.Proofs.YtfokmfnafbladaaDoorW.PrintLast Go.Proofs.YtfokmfnafbladaaDoorW.PrintMore
set_option linter.unusedVariables false
set_option linter.unusedSimpArgs false

theorem w64 {n : Int} (h0 : -9223372036854775808 ≤ n) (h1 : n ≤ 9223372036854775807) : wrap64 n = n := by unfold wrap64; omega

/-! The specification's states. -/
structure RvSt where
  calls : Int
  opn : List Bool
  nxt : List Int
  und : List S35
def rvStep (s : RvSt) (e : S37) : Option RvSt :=
  if formB e = true then
    if (e.f2 != rdOf false s.opn e.f0) = true then none
    else if (e.f1 != rd s.nxt e.f0) = true then none
    else if e.f2 = true then
      if callEq e.f3 (rd_T35 s.und e.f0) = true then some ⟨s.calls, s.opn.set e.f0.toNat false, s.nxt.set e.f0.toNat (rd s.nxt e.f0 + 1), s.und⟩ else none
    else if e.f4 = 0 then
      if s.calls + 1 > 12 then none else some ⟨s.calls + 1, s.opn.set e.f0.toNat true, s.nxt, s.und.set e.f0.toNat e.f3⟩
    else none
  else none
def rvGo : List S37 → RvSt → Option RvSt
  | [], s => some s
  | e :: r, s => (rvStep s e).bind fun s' => rvGo r s'
def rvInit : RvSt := ⟨0, [false, false, false, false], [0, 0, 0, 0], [z35, z35, z35, z35]⟩
structure RvInv (i : Nat) (s : RvSt) : Prop where
  lo : s.opn.length = 4
  ln : s.nxt.length = 4
  lu : s.und.length = 4
  cb : 0 ≤ s.calls ∧ s.calls ≤ 12
  nb : ∀ x ∈ s.nxt, 0 ≤ x ∧ x ≤ i
theorem rvInit_inv : RvInv 0 rvInit := ⟨rfl, rfl, rfl, by decide, by decide⟩
theorem formB_thread {e : S37} (h : formB e = true) : 0 ≤ e.f0 ∧ e.f0 < 4 := by
  unfold formB at h
  simp only [Bool.and_eq_true, decide_eq_true_eq] at h
  exact ⟨h.1, h.2.1⟩
theorem rvStep_inv {i : Nat} {s s' : RvSt} {e : S37} (h : RvInv i s) (hs : rvStep s e = some s') : RvInv (i + 1) s' := by
  unfold rvStep at hs
  split at hs
  · rename_i hf
    have ht := formB_thread hf
    split at hs
    · cases hs
    · split at hs
      · cases hs
      · split at hs
        · split at hs
          · injection hs with hs
            subst hs
            refine ⟨by simp [h.lo], by simp [h.ln], h.lu, h.cb, fun x hx => ?_⟩
            rcases List.mem_or_eq_of_mem_set hx with hx | rfl
            · have := h.nb x hx
              omega
            · have := h.nb _ (rd_mem ht.1 (by rw [h.ln]; exact ht.2))
              omega
          · cases hs
        · split at hs
          · split at hs
            · cases hs
            · injection hs with hs
              subst hs
              have := h.cb
              refine ⟨by simp [h.lo], h.ln, by simp [h.lu], ⟨by dsimp only; omega, by dsimp only; omega⟩, fun x hx => ?_⟩
              have := h.nb x hx
              omega
          · cases hs
  · cases hs

def rvB (l : List S37) : Bool := (rvGo l rvInit).isSome

end Go.Proofs.YtfokmfnafbladaaDoor.Q
