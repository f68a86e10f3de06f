/- What hist.spans answers: the calls of a history, and whether they are well formed. -/
import Derived.Test.YtfokmfnafbladaaDoorQx1
import Derived.Test.YtfokmfnafbladaaDoorShelf
import Derived.RegionTactic
import Derived.ChangeAlike
import Derived.BigRegion
import Derived.Shelf.Bits.Mul64
namespace Go.Proofs.YtfokmfnafbladaaDoor.Q
open Go.RowKit Go.Proofs.YtfokmfnafbladaaDoorW.PrintWords Go.Proofs.YtfokmfnafbladaaDoorW.PrintLast Go.Proofs.YtfokmfnafbladaaDoorW.PrintMore
set_option linter.unusedVariables false
set_option linter.unusedSimpArgs false
set_option linter.unnecessarySimpa false
attribute [local go_sem high] eqA35

/-- The lower-case letters, as strings.Trim's cutset. -/
def letters : List UInt8 := [97, 98, 99, 100, 101, 102, 103, 104, 105, 106, 107, 108, 109, 110, 111, 112, 113, 114, 115, 116, 117, 118, 119, 120, 121, 122]
def nameB (s : ByteArray) : Bool := decide (1 ≤ s.size) && (decide (s.size ≤ 8) && s.data.toList.all (fun b => letters.contains b))

theorem dropWhile_isEmpty {α : Type} (p : α → Bool) : ∀ l : List α, (l.dropWhile p).isEmpty = l.all p
  | [] => rfl
  | x :: l => by
    cases h : p x with
    | true => simp [List.dropWhile_cons, h, dropWhile_isEmpty p l]
    | false => simp [List.dropWhile_cons, h]
theorem dropWhile_all {α : Type} (p : α → Bool) : ∀ l : List α, (l.dropWhile p).all p = l.all p
  | [] => rfl
  | x :: l => by
    cases h : p x with
    | true => simp [List.dropWhile_cons, h, dropWhile_all p l]
    | false => simp [List.dropWhile_cons, h]
theorem trimS_nil (l cs : List UInt8) : (Lib.trimS l cs).isEmpty = l.all (fun b => cs.contains b) := by
  unfold Lib.trimS Lib.trimLeftS Lib.trimRightS
  rw [dropWhile_isEmpty, List.all_reverse, dropWhile_all, List.all_reverse]

set_option maxHeartbeats 2000000 in
set_option maxRecDepth 100000 in
theorem named_calls (s : ByteArray) (w : World) :
    Calls Tryd.prog 54 #[.string s] w fun e w' => e = .returned (.bool (nameB s)) ∧ Below w.heap.size w w' := by
  by_cases h1 : (1 : Int) ≤ (s.size : Int)
  · have d1 : decide (1 ≤ s.size) = true := decide_eq_true (by omega)
    by_cases h2 : (s.size : Int) ≤ 8
    · have d2 : decide (s.size ≤ 8) = true := decide_eq_true (by omega)
      have hT := Tryd.strings_Trim_laid s ⟨letters.toArray⟩ w (by omega) (by decide) (ascii_of_all (by decide))
      have HN : Aside0 (nameB s = (Lib.trimS s.data.toList letters).isEmpty) := ⟨by unfold nameB; rw [d1, d2, trimS_nil]; rfl⟩
      have hl : (⟨letters.toArray⟩ : ByteArray).data.toList = letters := rfl
      rw [hl] at hT
      unfold letters at hT
      clear d1 d2 hl
      generalize hx : Lib.trimS s.data.toList [97, 98, 99, 100, 101, 102, 103, 104, 105, 106, 107, 108, 109, 110, 111, 112, 113, 114, 115, 116, 117, 118, 119, 120, 121, 122] = xs at hT
      have HX := Aside0.mk hx
      clear hx
      go_enter Tryd.func54, Tryd.ntmps54
      go_wp2_with (go_at_call 69; refine hT.mono ?_; rintro e w' ⟨rfl, hb⟩)
      go_ret
      refine ⟨?_, hb⟩
      rw [HN.out, show Lib.trimS s.data.toList letters = xs from HX.out]
      rfl
    · have d2 : decide (s.size ≤ 8) = false := decide_eq_false (by omega)
      have HN : Aside0 (nameB s = false) := ⟨by unfold nameB; rw [d1, d2]; rfl⟩
      clear d1 d2
      go_enter Tryd.func54, Tryd.ntmps54
      go_wp2_with fail
      go_ret
      refine ⟨?_, Below.refl _ _⟩
      rw [HN.out]
      rfl
  · have d1 : decide (1 ≤ s.size) = false := decide_eq_false (by omega)
    have HN : Aside0 (nameB s = false) := ⟨by unfold nameB; rw [d1]; rfl⟩
    clear d1
    go_enter Tryd.func54, Tryd.ntmps54
    go_wp2_with fail
    go_ret
    refine ⟨?_, Below.refl _ _⟩
    rw [HN.out]
    rfl


set_option maxHeartbeats 2000000 in
set_option maxRecDepth 100000 in
theorem mul68 (w : World) : Calls Tryd.prog 68 #[.int .u64 1, .int .u64 4] w fun e w' => e = .returned (.tuple #[.int .u64 0, .int .u64 4]) ∧ w = w' := by
  go_enter Tryd.func68, Tryd.ntmps68
  go_wp2
  go_ret2
  exact ⟨rfl, rfl⟩


theorem size3 : (Tryd.prog.info? 3).map (·.size) = some 1 := by kernel_rfl
theorem copy_in_row (W : World) (gb o m sl sc dl dc : Nat) (cs : List Value) (cur : Array Value) (hh : W.heap[gb]? = some (.cells cur 3 (0, 0))) (hn : cs.length = Nat.min sl dl) (h1 : ∀ v ∈ cs, v.oneCell' = true) (A : Addr) (hsrc : ∀ j v, cs[j]? = some v → W.cell? (A.add j) = some v) (hfit : o + cs.length ≤ cur.size) (ty : TypeId) :
    (Builtin.copy_ #[30, 30] ty #[.slice (some ⟨gb, o, none⟩) dl dc, .slice (some A) sl sc]).run Tryd.prog W = .ok (goInt cs.length) (W.setCells gb o cs) := by
  refine run_copy_cells (P := Tryd.prog) (ty := ty) W 30 30 3 gb o dl dc A sl sc cs Tryd.underlying30 size3 hn hsrc (fun j hj => ?_) (fun j _ => blk_frozen hh _) h1
  rw [cell_of_row W gb _ cur 3 (0, 0) hh]
  simp
  omega

set_option maxHeartbeats 4000000 in
set_option maxRecDepth 100000 in
theorem rp53_calls (g : Nat) (w : World) (hg : w.cell? ⟨g, 0, none⟩ = some (.int .i64 (-1))) :
    Calls Tryd.prog 53 #[.slice (some ⟨g, 0, none⟩) 1 1, .int .i64 4] w fun e w' => ∃ v' : Value, e = .returned v' ∧ Kd.R (Kd.int .i64) 3 w' w.heap.size (fun _ => True) v' [-1, -1, -1, -1] ∧ Below w.heap.size w w' := by
  have hmk : ∀ W, (Instr.makeSlice 30 (.int .i64 4) (.int .i64 4)).run Tryd.prog W = .ok (.slice (some ⟨W.heap.size, 0, none⟩) 4 4) (W.alloc (.cells #[.int .i64 0, .int .i64 0, .int .i64 0, .int .i64 0] 3)) := fun _ => by kernel_rfl
  have hc0 : ∀ ty, (Builtin.copy_ #[30, 30] ty #[.slice (some ⟨w.heap.size, 0, none⟩) 4 4, .slice (some ⟨g, 0, none⟩) 1 1]).run Tryd.prog (w.alloc (.cells #[.int .i64 0, .int .i64 0, .int .i64 0, .int .i64 0] 3)) = .ok (.int .i64 1) ((w.alloc (.cells #[.int .i64 0, .int .i64 0, .int .i64 0, .int .i64 0] 3)).setCell ⟨w.heap.size, 0, none⟩ (.int .i64 (-1))) := by
    intro ty
    refine copy_in_row _ w.heap.size 0 1 1 1 4 4 [.int .i64 (-1)] _ (blk_new w _) rfl (by simp [Value.oneCell']) ⟨g, 0, none⟩ (fun j v hj => ?_) (by decide) ty
    cases j with
    | zero =>
      injection hj with hj
      subst hj
      exact pw_cell_below ((Below.refl _ _).alloc (Nat.le_refl _) _) hg
    | succ j => cases hj
  have hS : Aside0 (((w.alloc (.cells #[.int .i64 0, .int .i64 0, .int .i64 0, .int .i64 0] 3)).setCell ⟨w.heap.size, 0, none⟩ (.int .i64 (-1))).heap[w.heap.size]? = some (.cells #[.int .i64 (-1), .int .i64 0, .int .i64 0, .int .i64 0] 3 (0, 0))) := ⟨blk_put (blk_new w _) 0 _ rfl⟩
  have hW : Aside0 (Below w.heap.size w ((w.alloc (.cells #[.int .i64 0, .int .i64 0, .int .i64 0, .int .i64 0] 3)).setCell ⟨w.heap.size, 0, none⟩ (.int .i64 (-1)))) := ⟨below_set ((Below.refl _ _).alloc (Nat.le_refl _) _) (Nat.le_refl _)⟩
  clear hg
  generalize hw0 : (w.alloc (.cells #[.int .i64 0, .int .i64 0, .int .i64 0, .int .i64 0] 3)).setCell ⟨w.heap.size, 0, none⟩ (.int .i64 (-1)) = w0 at hc0 hS hW
  clear hw0
  go_enter Tryd.func53, Tryd.ntmps53
  go_wp2_with (go_at_call 68; refine (mul68 _).mono ?_; rintro e w' ⟨rfl, rfl⟩)
  clear hmk hc0
  go_loopg [8] 4 (fun gg s8 wr => ∃ (k : Nat) (cs : List Int), ((k = 1 ∧ cs = [-1, 0, 0, 0]) ∨ (k = 2 ∧ cs = [-1, -1, 0, 0]) ∨ (k = 4 ∧ cs = [-1, -1, -1, -1])) ∧ 4 - k ≤ gg ∧ s8 = .int .i64 k ∧ Aside0 (wr.heap[w.heap.size]? = some (.cells (cs.map (Value.int .i64)).toArray 3 (0, 0))) ∧ Aside0 (Below w.heap.size w wr))
  case atStart => exact ⟨1, [-1, 0, 0, 0], .inl ⟨rfl, rfl⟩, by omega, rfl, hS, hW⟩
  case round =>
    clear hS hW
    obtain ⟨k, cs, hk, hg, rfl, HK, HB⟩ := hrel
    rcases hk with ⟨rfl, rfl⟩ | ⟨rfl, rfl⟩ | ⟨rfl, rfl⟩
    · have hc1 : ∀ ty, (Builtin.copy_ #[30, 30] ty #[.slice (some ⟨w.heap.size, 1, none⟩) 3 3, .slice (some ⟨w.heap.size, 0, none⟩) 1 4]).run Tryd.prog wr.drew = .ok (.int .i64 1) ((wr.drew.setCell ⟨w.heap.size, 1, none⟩ (.int .i64 (-1)))) := by
        intro ty
        refine copy_in_row _ w.heap.size 1 1 1 4 3 3 [.int .i64 (-1)] _ (blk_drew HK.out) rfl (by simp [Value.oneCell']) ⟨w.heap.size, 0, none⟩ (fun j v hj => ?_) (by decide) ty
        match j, hj with
        | 0, hj => injection hj with hj; subst hj; exact (blk_cell (blk_drew HK.out) 0).trans rfl
      have hK2 : Aside0 (((wr.drew.setCell ⟨w.heap.size, 1, none⟩ (.int .i64 (-1)))).heap[w.heap.size]? = some (.cells (([-1, -1, 0, 0] : List Int).map (Value.int .i64)).toArray 3 (0, 0))) := ⟨blk_put (blk_drew HK.out) 1 _ rfl⟩
      have hB2 : Aside0 (Below w.heap.size w ((wr.drew.setCell ⟨w.heap.size, 1, none⟩ (.int .i64 (-1))))) := ⟨below_set (HB.out.drew) (Nat.le_refl _)⟩
      go_wp2
      go_region
      go_wp2
      go_roundg (4 - 2)
      case measure => omega
      case rel => exact ⟨2, [-1, -1, 0, 0], .inr (.inl ⟨rfl, rfl⟩), Nat.le_refl _, rfl, hK2, hB2⟩
    · have hc1 : ∀ ty, (Builtin.copy_ #[30, 30] ty #[.slice (some ⟨w.heap.size, 2, none⟩) 2 2, .slice (some ⟨w.heap.size, 0, none⟩) 2 4]).run Tryd.prog wr.drew = .ok (.int .i64 2) (((wr.drew.setCell ⟨w.heap.size, 2, none⟩ (.int .i64 (-1))).setCell ⟨w.heap.size, 3, none⟩ (.int .i64 (-1)))) := by
        intro ty
        refine copy_in_row _ w.heap.size 2 2 2 4 2 2 [.int .i64 (-1), .int .i64 (-1)] _ (blk_drew HK.out) rfl (by simp [Value.oneCell']) ⟨w.heap.size, 0, none⟩ (fun j v hj => ?_) (by decide) ty
        match j, hj with
        | 0, hj => injection hj with hj; subst hj; exact (blk_cell (blk_drew HK.out) 0).trans rfl
        | 1, hj => injection hj with hj; subst hj; exact (blk_cell (blk_drew HK.out) 1).trans rfl
      have hK2 : Aside0 ((((wr.drew.setCell ⟨w.heap.size, 2, none⟩ (.int .i64 (-1))).setCell ⟨w.heap.size, 3, none⟩ (.int .i64 (-1)))).heap[w.heap.size]? = some (.cells (([-1, -1, -1, -1] : List Int).map (Value.int .i64)).toArray 3 (0, 0))) := ⟨blk_put (blk_put (blk_drew HK.out) 2 _ rfl) 3 _ rfl⟩
      have hB2 : Aside0 (Below w.heap.size w (((wr.drew.setCell ⟨w.heap.size, 2, none⟩ (.int .i64 (-1))).setCell ⟨w.heap.size, 3, none⟩ (.int .i64 (-1))))) := ⟨below_set (below_set (HB.out.drew) (Nat.le_refl _)) (Nat.le_refl _)⟩
      go_wp2
      go_region
      go_wp2
      go_roundg (4 - 4)
      case measure => omega
      case rel => exact ⟨4, [-1, -1, -1, -1], .inr (.inr ⟨rfl, rfl⟩), Nat.le_refl _, rfl, hK2, hB2⟩
    · go_wp2
      go_ret
      refine ⟨_, rfl, ⟨fun _ _ => trivial, [.int .i64 (-1), .int .i64 (-1), .int .i64 (-1), .int .i64 (-1)], ⟨rfl, .inr ⟨w.heap.size, 4, _, rfl, Nat.le_refl _, HK.out, by decide, by decide, rfl, rfl⟩⟩, Kd.reps_scalar (enc := Value.int .i64) [-1, -1, -1, -1]⟩, HB.out⟩


/-! The calls of a history, as hist.spans reads them: one event after the other. -/
def wordB (n : Int) : Bool := decide (-1000000000000000 ≤ n) && decide (n ≤ 1000000000000000)
/-- What of an event does not hang on those before it. -/
def formB (e : S37) : Bool := decide (0 ≤ e.f0) && (decide (e.f0 < 4) && (nameB e.f3.f0 && (wordB e.f3.f1 && (wordB e.f3.f2 && wordB e.f4))))
structure SpSt where
  l : List S54
  cnt : List Int
  opn : List Int
def callEq (a b : S35) : Bool := a.f0.toList == b.f0.toList && (a.f1 == b.f1 && (a.f2 == b.f2))
/-- One event; none: the list is no history. -/
def spStep (at_ : Int) (s : SpSt) (e : S37) : Option SpSt :=
  if formB e = true then
    if e.f2 = true then
      if 0 ≤ rd s.opn e.f0 then
        if callEq (rd_T54 s.l (rd s.opn e.f0)).f2 e.f3 = true then
          if (rd_T54 s.l (rd s.opn e.f0)).f1 = e.f1 then
            some ⟨s.l.set (rd s.opn e.f0).toNat ⟨(rd_T54 s.l (rd s.opn e.f0)).f0, (rd_T54 s.l (rd s.opn e.f0)).f1, (rd_T54 s.l (rd s.opn e.f0)).f2, (rd_T54 s.l (rd s.opn e.f0)).f3, at_, e.f4⟩, s.cnt, s.opn.set e.f0.toNat (-1)⟩
          else none
        else none
      else none
    else
      if rd s.opn e.f0 < 0 then
        if e.f1 = rd s.cnt e.f0 then
          if e.f4 = 0 then
            if s.l.length = 12 then none
            else some ⟨s.l ++ [⟨e.f0, e.f1, e.f3, at_, -1, 0⟩], s.cnt.set e.f0.toNat (rd s.cnt e.f0 + 1), s.opn.set e.f0.toNat s.l.length⟩
          else none
        else none
      else none
  else none
def spGo : List S37 → Int → SpSt → Option SpSt
  | [], _, s => some s
  | e :: r, k, s => (spStep k s e).bind fun s' => spGo r (k + 1) s'
def spInit : SpSt := ⟨[], [0, 0, 0, 0], [-1, -1, -1, -1]⟩
def spRes : Option SpSt → List S54 × Bool
  | some s => (s.l, true)
  | none => ([], false)
def hist_spans.f (l0 : List S37) : Option (List S54 × Bool) := some (spRes (spGo l0 0 spInit))

/-- What holds of the state between two events. -/
structure SpInv (s : SpSt) : Prop where
  lcnt : s.cnt.length = 4
  lopn : s.opn.length = 4
  few : s.l.length ≤ 12
  cntb : ∀ x ∈ s.cnt, 0 ≤ x ∧ x ≤ s.l.length
  opnb : ∀ x ∈ s.opn, x < s.l.length

theorem rd_mem {xs : List Int} {i : Int} (h0 : 0 ≤ i) (h1 : i < xs.length) : rd xs i ∈ xs := by
  unfold rd
  rw [List.getD_eq_getElem?_getD, List.getElem?_eq_getElem (by omega)]
  exact List.getElem_mem _
theorem mem_set_or {α : Type} {xs : List α} {i : Nat} {a x : α} (h : x ∈ xs.set i a) : x ∈ xs ∨ x = a := List.mem_or_eq_of_mem_set h
theorem spInit_inv : SpInv spInit := ⟨rfl, rfl, by decide, by decide, by decide⟩
theorem spStep_inv {k : Int} {s s' : SpSt} {e : S37} (h : SpInv s) (hs : spStep k s e = some s') : SpInv s' := by
  unfold spStep at hs
  by_cases h1 : formB e = true
  · rw [if_pos h1] at hs
    have hf : 0 ≤ e.f0 ∧ e.f0 < 4 := by
      unfold formB at h1
      simp only [Bool.and_eq_true, decide_eq_true_eq] at h1
      exact ⟨h1.1, h1.2.1⟩
    by_cases h2 : e.f2 = true
    · rw [if_pos h2] at hs
      split at hs
      · split at hs
        · split at hs
          · injection hs with hs
            subst hs
            refine ⟨h.lcnt, by simp [h.lopn], by simp [h.few], by simpa using h.cntb, fun x hx => ?_⟩
            have := h.few
            rcases mem_set_or hx with hx | rfl
            · simpa using h.opnb x hx
            · simp; omega
          · cases hs
        · cases hs
      · cases hs
    · rw [if_neg h2] at hs
      split at hs
      · split at hs
        · split at hs
          · split at hs
            · cases hs
            · injection hs with hs
              subst hs
              rename_i hne
              have hfew := h.few
              have hl : (s.l ++ [(⟨e.f0, e.f1, e.f3, k, -1, 0⟩ : S54)]).length = s.l.length + 1 := by simp
              refine ⟨by simp [h.lcnt], by simp [h.lopn], by rw [hl]; omega, fun x hx => ?_, fun x hx => ?_⟩
              · rw [hl]
                rcases mem_set_or hx with hx | rfl
                · have := h.cntb x hx
                  omega
                · have := h.cntb _ (rd_mem hf.1 (by rw [h.lcnt]; exact hf.2))
                  omega
              · rw [hl]
                rcases mem_set_or hx with hx | rfl
                · have := h.opnb x hx
                  omega
                · omega
          · cases hs
        · cases hs
      · cases hs
  · rw [if_neg h1] at hs
    cases hs

set_option maxHeartbeats 1000000 in
theorem isWord55 (n : Int) (w : World) : Calls Tryd.prog 55 #[.int .i64 n] w fun e w' => e = .returned (.bool (wordB n)) ∧ w = w' := by
  by_cases h1 : -1000000000000000 ≤ n
  · have d1 : decide (-1000000000000000 ≤ n) = true := decide_eq_true h1
    have HW : Aside0 (wordB n = decide (n ≤ 1000000000000000)) := ⟨by unfold wordB; rw [d1]; rfl⟩
    go_enter Tryd.func55, Tryd.ntmps55
    go_wp2
    go_ret
    exact ⟨by rw [HW.out]; rfl, rfl⟩
  · have d1 : decide (-1000000000000000 ≤ n) = false := decide_eq_false h1
    have HW : Aside0 (wordB n = false) := ⟨by unfold wordB; rw [d1]; rfl⟩
    go_enter Tryd.func55, Tryd.ntmps55
    go_wp2
    go_ret
    exact ⟨by rw [HW.out]; rfl, rfl⟩


theorem rd37_drop {l0 : List S37} {k : Nat} (h : k < l0.length) : l0.drop k = rd_T37 l0 (k : Int) :: l0.drop (k + 1) := by
  rw [List.drop_eq_getElem_cons h]
  simp [rd_T37, List.getD_eq_getElem?_getD, List.getElem?_eq_getElem h]

set_option maxHeartbeats 16000000 in
set_option maxRecDepth 100000 in
theorem hist_spans.calls (A0 : Option Addr) (c0 : Nat) (l0 : List S37) (r1 : List S54) (r2 : Bool) (w : World) (hr0 : Kd.C k37 w A0 l0.length l0) (hc0 : l0.length ≤ c0) (h : hist_spans.f l0 = some (r1, r2)) :
    Calls Tryd.prog 30 #[.slice A0 l0.length c0] w fun e w' => ∃ v0_ : Value, e = .returned (.tuple #[v0_, .bool r2]) ∧ Kd.R k54 54 w' w.heap.size (fun _ => True) v0_ r1 ∧ Below w.heap.size w w' := by
  have hbig : l0.length ≤ 9223372036854775807 := hr0.2.1
  unfold hist_spans.f at h
  injection h with h
  have HF := Aside0.mk h
  have HR := Aside0.mk hr0
  clear h hr0 hc0
  -- the two tables
  have hB1 : Below w.heap.size w ((w.alloc (.cells #[.int .i64 0, .int .i64 0, .int .i64 0, .int .i64 0] 66)).alloc (.cells #[.int .i64 (-1)] 3)) := ((Below.refl _ _).alloc (Nat.le_refl _) _).alloc (by simp) _
  have hC1 : ((w.alloc (.cells #[.int .i64 0, .int .i64 0, .int .i64 0, .int .i64 0] 66)).alloc (.cells #[.int .i64 (-1)] 3)).heap[w.heap.size]? = some (.cells #[.int .i64 0, .int .i64 0, .int .i64 0, .int .i64 0] 66 (0, 0)) := blk_alloc (blk_new w _) _
  have hrp := rp53_calls (w.heap.size + 1) ((w.alloc (.cells #[.int .i64 0, .int .i64 0, .int .i64 0, .int .i64 0] 66)).alloc (.cells #[.int .i64 (-1)] 3)) (by
    have := blk_cell (blk_new (w.alloc (.cells #[.int .i64 0, .int .i64 0, .int .i64 0, .int .i64 0] 66)) (.cells #[.int .i64 (-1)] 3 (0, 0))) 0
    simpa using this)
  have HB1 := Aside0.mk hB1
  have HC1 := Aside0.mk hC1
  clear hB1 hC1
  go_enter Tryd.func30, Tryd.ntmps30
  go_wp2_with (go_at_call 53; refine hrp.mono ?_; rintro e w1 ⟨vo, rfl, ho, hb⟩; have HO := Aside0.mk ho; have HB := Aside0.mk hb; clear ho hb)
  obtain ⟨go, co, eo, hgo, hglt, cells, hG⟩ := Kd.R_form HO.out (by decide)
  subst eo
  have hO1 : Kd.R (Kd.int .i64) 3 w1 w.heap.size (fun _ => True) (.slice (some ⟨go, 0, none⟩) 4 co) [-1, -1, -1, -1] := Kd.R_lower HO.out (by simp; omega)
  have hK1 : Kd.R (Kd.int .i64) 66 w1 w.heap.size (fun _ => True) (.slice (some ⟨w.heap.size, 0, none⟩) 4 4) [0, 0, 0, 0] := ⟨fun _ _ => trivial, [.int .i64 0, .int .i64 0, .int .i64 0, .int .i64 0], ⟨rfl, .inr ⟨w.heap.size, 4, _, rfl, Nat.le_refl _, blk_below HC1.out HB.out, by decide, by decide, rfl, rfl⟩⟩, Kd.reps_scalar (enc := Value.int .i64) [0, 0, 0, 0]⟩
  have hW1 : Below w.heap.size w w1 := below_then HB1.out HB1.out.size HB.out
  have hgo2 : w.heap.size ≤ go := by
    simp at hgo
    omega
  clear hgo
  have HO1 := Aside0.mk hO1
  have HK1 := Aside0.mk hK1
  have HW1 := Aside0.mk hW1
  clear hO1 hK1 hW1 HO HB HB1 HC1 hrp hG hglt
  go_loopg [4, 14] l0.length (fun gg s4 s14 wr => ∃ (k : Nat) (s : SpSt), k ≤ l0.length ∧ l0.length - k ≤ gg ∧ s14 = .int .i64 k ∧ Aside0 (spRes (spGo (l0.drop k) k s) = (r1, r2)) ∧ Aside0 (SpInv s) ∧ Aside0 (Kd.R k54 54 wr w.heap.size (fun _ => True) s4 s.l) ∧ Aside0 (Kd.R (Kd.int .i64) 66 wr w.heap.size (fun _ => True) (.slice (some ⟨w.heap.size, 0, none⟩) 4 4) s.cnt) ∧ Aside0 (Kd.R (Kd.int .i64) 3 wr w.heap.size (fun _ => True) (.slice (some ⟨go, 0, none⟩) 4 co) s.opn) ∧ Aside0 (Below w.heap.size w wr))
  case atStart => exact ⟨0, spInit, Nat.zero_le _, by omega, rfl, HF, ⟨spInit_inv⟩, ⟨Kd.R_nil _ _ _ _ _⟩, HK1, HO1, HW1⟩
  case round =>
    clear HF HO1 HK1 HW1
    obtain ⟨k, s, hkn, hgg, rfl, HF, HI, HL, HK, HO, HB⟩ := hrel
    by_cases hlt : k < l0.length
    · have hltz : (k : Int) < (l0.length : Int) := by omega
      have hkz : 0 ≤ (k : Int) := by omega
      obtain ⟨ad, e, hx0, hx1, hx2, hx3, hx4, hx5, hx6⟩ := at_T37 (Kd.C_below HR.out HB.out) (k : Int) hkz hltz
      cases e
      simp only [Int.toNat_natCast] at hx0 hx1 hx2 hx3 hx4 hx5 hx6
      have hF := HF.out
      rw [rd37_drop hlt] at hF
      generalize rd_T37 l0 (k : Int) = y at *
      have HF2 := Aside0.mk hF
      clear hF HF
      have hbl : Below wr.heap.size wr (wr.alloc (.cells #[.int .i64 y.f0, .int .i64 y.f1, .bool y.f2, .string y.f3.f0, .int .i64 y.f3.f1, .int .i64 y.f3.f2, .int .i64 y.f4] 37 (0, 0))) := (Below.refl _ _).alloc (Nat.le_refl _) _
      have hbx := blk_new wr (.cells #[.int .i64 y.f0, .int .i64 y.f1, .bool y.f2, .string y.f3.f0, .int .i64 y.f3.f1, .int .i64 y.f3.f2, .int .i64 y.f4] 37 (0, 0))
      have hN := named_calls y.f3.f0 (wr.alloc (.cells #[.int .i64 y.f0, .int .i64 y.f1, .bool y.f2, .string y.f3.f0, .int .i64 y.f3.f1, .int .i64 y.f3.f2, .int .i64 y.f4] 37 (0, 0)))
      have hx1 := fun W => isWord55 y.f3.f1 W
      have hx2 := fun W => isWord55 y.f3.f2 W
      have hx3 := fun W => isWord55 y.f4 W
      have HBL := Aside0.mk hbl
      have HBX := Aside0.mk hbx
      clear hbl hbx
      by_cases hform : formB y = true
      · have hform' := hform
        unfold formB at hform'
        simp only [Bool.and_eq_true, decide_eq_true_eq] at hform'
        obtain ⟨a1, a2, n, n1, n2, n3⟩ := hform'
        have b1 : decide (y.f0 < 0) = false := decide_eq_false (by omega)
        have b2 : decide (y.f0 ≥ 4) = false := decide_eq_false (by omega)
        rw [n] at hN
        simp only [n1] at hx1
        simp only [n2] at hx2
        simp only [n3] at hx3
        clear n n1 n2 n3
        have hF := HF2.out
        clear HF2
        simp only [spGo] at hF
        have hfo : y.f0 < ((4 : Nat) : Int) := by omega
        obtain ⟨own, eown⟩ : ∃ x, rd s.opn y.f0 = x := ⟨_, rfl⟩
        obtain ⟨ct, ect⟩ : ∃ x, rd s.cnt y.f0 = x := ⟨_, rfl⟩
        have hob : own < (s.l.length : Int) := by rw [← eown]; exact HI.out.opnb _ (rd_mem a1 (by rw [HI.out.lopn]; exact a2))
        have hctb : 0 ≤ ct ∧ ct ≤ (s.l.length : Int) := by rw [← ect]; exact HI.out.cntb _ (rd_mem a1 (by rw [HI.out.lcnt]; exact a2))
        have hfew := HI.out.few
        obtain ⟨st, est⟩ : ∃ x, spStep (k : Int) s y = x := ⟨_, rfl⟩
        rw [est] at hF
        have EALL := Aside0.mk est
        have HF2 := Aside0.mk hF
        clear hF
        unfold spStep at est
        rw [if_pos hform, eown, ect] at est
        clear hform
        have EOWN := Aside0.mk eown
        have ECT := Aside0.mk ect
        clear eown ect
        cases r : y.f2 with
        | true =>
          rw [r, if_pos rfl] at est
          rw [r] at hN
          have hbl2 := HBL.out
          rw [r] at hbl2
          have hbx2 := HBX.out
          rw [r] at hbx2
          clear HBL HBX
          have HBL := Aside0.mk hbl2
          have HBX := Aside0.mk hbx2
          clear hbl2 hbx2
          by_cases o1 : 0 ≤ own
          · rw [if_pos o1] at est
            have o2 : decide (own < 0) = false := decide_eq_false (by omega)
            obtain ⟨gl, cl, el, hgl, hglt, cells2, hGL⟩ := Kd.R_form HL.out (by omega)
            subst el
            obtain ⟨sp, esp⟩ : ∃ x, rd_T54 s.l own = x := ⟨_, rfl⟩
            rw [esp] at est
            have ESP := Aside0.mk esp
            clear esp
            by_cases q1 : callEq sp.f2 y.f3 = true
            · rw [if_pos q1] at est
              have q2 : (sp.f2.f0.toList == y.f3.f0.toList && (sp.f2.f1 == y.f3.f1 && (sp.f2.f2 == y.f3.f2))) = true := q1
              clear q1
              by_cases i1 : sp.f1 = y.f1
              · rw [if_pos i1] at est
                have i2 : (sp.f1 != y.f1) = false := by rw [bne_eq_false_iff_eq]; exact i1
                clear i1
                have EST := Aside0.mk est
                clear est
                go_wp2_with (first | (go_at_call 54; refine hN.mono ?_; rintro e w2 ⟨rfl, hb2⟩; have HB2 := Aside0.mk hb2; clear hb2; have hk2 := blk_below HBX.out HB2.out; have hz0 : w2.cell? ⟨wr.heap.size, 0, none⟩ = some (.int .i64 y.f0) := (blk_cell hk2 0).trans rfl; have hz1 : w2.cell? ⟨wr.heap.size, 1, none⟩ = some (.int .i64 y.f1) := (blk_cell hk2 1).trans rfl; have hz2 : w2.cell? ⟨wr.heap.size, 2, none⟩ = some (.bool true) := (blk_cell hk2 2).trans rfl; have hz3 : w2.cell? ⟨wr.heap.size, 3, none⟩ = some (.string y.f3.f0) := (blk_cell hk2 3).trans rfl; have hz4 : w2.cell? ⟨wr.heap.size, 4, none⟩ = some (.int .i64 y.f3.f1) := (blk_cell hk2 4).trans rfl; have hz5 : w2.cell? ⟨wr.heap.size, 5, none⟩ = some (.int .i64 y.f3.f2) := (blk_cell hk2 5).trans rfl; have hz6 : w2.cell? ⟨wr.heap.size, 6, none⟩ = some (.int .i64 y.f4) := (blk_cell hk2 6).trans rfl; clear hk2; have hbb : Below wr.heap.size wr w2 := below_step HBL.out HB2.out; obtain ⟨hoc, hof⟩ := Kd.R_celln 0 (Kd.R_below HO.out hbb) y.f0 a1 hfo; rw [show rdOf 0 s.opn y.f0 = own from EOWN.out] at hoc; obtain ⟨ce, hcl, hM, hcc, hfr⟩ := Kd.R_elem (Kd.R_below HL.out hbb) z54 own o1 hob; obtain rfl := k54_openM hM; rw [show s.l.getD own.toNat z54 = sp from ESP.out] at hcc; have hs1 := hcc 1 _ rfl; have hs2 := hcc 2 _ rfl; have hs3 := hcc 3 _ rfl; have hs4 := hcc 4 _ rfl; have hs5 := hcc 5 _ rfl; have hs6 := hcc 6 _ rfl; have hs7 := hcc 7 _ rfl; have hg6 := hfr 6; have hg7 := hfr 7; (simp only [show k54.sz = 8 from rfl] at hs1 hs2 hs3 hs4 hs5 hs6 hs7 hg6 hg7); clear hcc hfr hM hcl; clear hbb) | (go_at_call 55; (with_reducible refine (hx1 _).mono ?_); rintro e w3 ⟨rfl, rfl⟩) | (go_at_call 55; (with_reducible refine (hx2 _).mono ?_); rintro e w3 ⟨rfl, rfl⟩) | (go_at_call 55; (with_reducible refine (hx3 _).mono ?_); rintro e w3 ⟨rfl, rfl⟩))
                go_quiet (fail)
                go_wp2
                go_region
                have hb4 : Below wr.heap.size wr (w2.drewN (nq + 1)) := pw_below_drewN (below_step HBL.out HB2.out) _
                have hLd : Kd.R k54 54 (w2.drewN (nq + 1)) w.heap.size (fun _ => True) (.slice (some ⟨gl, 0, none⟩) s.l.length cl) s.l := Kd.R_below HL.out hb4
                have hOd : Kd.R (Kd.int .i64) 3 (w2.drewN (nq + 1)) w.heap.size (fun _ => True) (.slice (some ⟨go, 0, none⟩) 4 co) s.opn := Kd.R_below HO.out hb4
                have hKd : Kd.R (Kd.int .i64) 66 (w2.drewN (nq + 1)) w.heap.size (fun _ => True) (.slice (some ⟨w.heap.size, 0, none⟩) 4 4) s.cnt := Kd.R_below HK.out hb4
                have hXd := blk_below HBX.out (pw_below_drewN HB2.out (nq + 1))
                obtain ⟨ce, hcl, hM, hcc, hfr⟩ := Kd.R_elem hLd z54 own o1 hob
                obtain rfl := k54_openM hM
                obtain ⟨hP, hgP⟩ := Kd.R_seg hLd own o1 hob (seg := [.int .i64 k, .int .i64 y.f4]) (j := 6) hcl hcc (show 8 ≤ 8 from Nat.le_refl 8) (x' := (⟨(rd_T54 s.l own).f0, (rd_T54 s.l own).f1, (rd_T54 s.l own).f2, (rd_T54 s.l own).f3, (k : Int), y.f4⟩ : S54)) (k54_mkM _ _ _ _) (fun _ hk => hk)
                have hO4 := Kd.R_over' hOd (Kd.R_typed hLd) (by decide) hgP
                have hK4 := Kd.R_over' hKd (Kd.R_typed hLd) (by decide) hgP
                have hX4 := blk_grown hXd hgP (Kd.R_ne hLd hXd (by decide))
                have hB4 : Below w.heap.size w ((w2.drewN (nq + 1)).setCells gl (own.toNat * k54.sz + 6) [.int .i64 k, .int .i64 y.f4]) := (below_step HB.out hb4).grown hgP (below_step HB.out hb4).size (fun k_ hk_ => by cases hk_; exact hgl)
                rw [show (rd_T54 s.l own) = sp from ESP.out] at hP
                rw [show (w2.drewN (nq + 1)).setCells gl (own.toNat * k54.sz + 6) [.int .i64 k, .int .i64 y.f4] = ((w2.drewN (nq + 1)).setCell ⟨gl, own.toNat * 8 + 6, none⟩ (.int .i64 k)).setCell ⟨gl, own.toNat * 8 + 7, none⟩ (.int .i64 y.f4) from rfl] at hP hO4 hK4 hX4 hB4
                clear hLd hOd hKd hXd hcl hM hcc hfr hgP hb4 hs1 hs2 hs3 hs4 hs5 hs6 hs7 hg6 hg7 hz0 hz1 hz2 hz3 hz4 hz5 hz6 hoc hof
                generalize ((w2.drewN (nq + 1)).setCell ⟨gl, own.toNat * 8 + 6, none⟩ (.int .i64 k)).setCell ⟨gl, own.toNat * 8 + 7, none⟩ (.int .i64 y.f4) = w4 at hP hO4 hK4 hX4 hB4 ⊢
                have hz0 : w4.cell? ⟨wr.heap.size, 0, none⟩ = some (.int .i64 y.f0) := (blk_cell hX4 0).trans rfl
                obtain ⟨hoc, hof⟩ := Kd.R_celln 0 hO4 y.f0 a1 hfo
                obtain ⟨hO5, hg5⟩ := Kd.R_putg hO4 y.f0 (-1)
                have hL5 := Kd.R_over' hP (Kd.R_typed hO4) (by decide) hg5
                have hK5 := Kd.R_over' hK4 (Kd.R_typed hO4) (by decide) hg5
                have hB5 : Below w.heap.size w (w4.setCell ⟨go, y.f0.toNat, none⟩ (.int .i64 (-1))) := below_set hB4 hgo2
                have HO5 := Aside0.mk hO5
                have HL5 := Aside0.mk hL5
                have HK5 := Aside0.mk hK5
                have HB5 := Aside0.mk hB5
                clear hP hO4 hK4 hX4 hB4 hO5 hL5 hK5 hB5 hg5
                go_wp2
                go_roundg (l0.length - (k + 1))
                case measure => omega
                case rel =>
                  refine ⟨k + 1, ⟨s.l.set own.toNat ⟨sp.f0, sp.f1, sp.f2, sp.f3, (k : Int), y.f4⟩, s.cnt, s.opn.set y.f0.toNat (-1)⟩, by omega, Nat.le_refl _, by go_num, ⟨?_⟩, ⟨?_⟩, ?_, HK5, HO5, HB5⟩
                  · have h1 := HF2.out
                    rw [← EST.out] at h1
                    exact h1
                  · exact spStep_inv HI.out (by rw [EALL.out, ← EST.out])
                  · have h1 := HL5.out
                    have e1 := (Kd.R_reads' h1).1
                    rw [List.length_set] at e1
                    exact HL5
              · rw [if_neg i1] at est
                have i2 : (sp.f1 != y.f1) = true := by rw [bne_iff_ne]; exact i1
                clear i1
                have hres : [] = r1 ∧ false = r2 := by
                  have h1 := HF2.out
                  rw [← est] at h1
                  simpa [spRes] using h1
                have HRES := Aside0.mk hres
                clear hres est HF2
                go_wp2_with (first | (go_at_call 54; refine hN.mono ?_; rintro e w2 ⟨rfl, hb2⟩; have HB2 := Aside0.mk hb2; clear hb2; have hk2 := blk_below HBX.out HB2.out; have hz0 : w2.cell? ⟨wr.heap.size, 0, none⟩ = some (.int .i64 y.f0) := (blk_cell hk2 0).trans rfl; have hz1 : w2.cell? ⟨wr.heap.size, 1, none⟩ = some (.int .i64 y.f1) := (blk_cell hk2 1).trans rfl; have hz2 : w2.cell? ⟨wr.heap.size, 2, none⟩ = some (.bool true) := (blk_cell hk2 2).trans rfl; have hz3 : w2.cell? ⟨wr.heap.size, 3, none⟩ = some (.string y.f3.f0) := (blk_cell hk2 3).trans rfl; have hz4 : w2.cell? ⟨wr.heap.size, 4, none⟩ = some (.int .i64 y.f3.f1) := (blk_cell hk2 4).trans rfl; have hz5 : w2.cell? ⟨wr.heap.size, 5, none⟩ = some (.int .i64 y.f3.f2) := (blk_cell hk2 5).trans rfl; have hz6 : w2.cell? ⟨wr.heap.size, 6, none⟩ = some (.int .i64 y.f4) := (blk_cell hk2 6).trans rfl; clear hk2; have hbb : Below wr.heap.size wr w2 := below_step HBL.out HB2.out; obtain ⟨hoc, hof⟩ := Kd.R_celln 0 (Kd.R_below HO.out hbb) y.f0 a1 hfo; rw [show rdOf 0 s.opn y.f0 = own from EOWN.out] at hoc; obtain ⟨ce, hcl, hM, hcc, hfr⟩ := Kd.R_elem (Kd.R_below HL.out hbb) z54 own o1 hob; obtain rfl := k54_openM hM; rw [show s.l.getD own.toNat z54 = sp from ESP.out] at hcc; have hs1 := hcc 1 _ rfl; have hs2 := hcc 2 _ rfl; have hs3 := hcc 3 _ rfl; have hs4 := hcc 4 _ rfl; have hs5 := hcc 5 _ rfl; have hs6 := hcc 6 _ rfl; have hs7 := hcc 7 _ rfl; have hg6 := hfr 6; have hg7 := hfr 7; (simp only [show k54.sz = 8 from rfl] at hs1 hs2 hs3 hs4 hs5 hs6 hs7 hg6 hg7); clear hcc hfr hM hcl; clear hbb) | (go_at_call 55; (with_reducible refine (hx1 _).mono ?_); rintro e w3 ⟨rfl, rfl⟩) | (go_at_call 55; (with_reducible refine (hx2 _).mono ?_); rintro e w3 ⟨rfl, rfl⟩) | (go_at_call 55; (with_reducible refine (hx3 _).mono ?_); rintro e w3 ⟨rfl, rfl⟩))
                go_quiet (fail)
                go_wp2
                refine bodyPost_ret (v := .tuple #[.slice none 0 0, .bool false]) (by simp [results, Tryd.results30, go_sem]) rfl ?_
                obtain ⟨rfl, rfl⟩ := HRES.out
                exact ⟨_, rfl, Kd.R_nil _ _ _ _ _, pw_below_drewN (below_step (below_step HB.out HBL.out) HB2.out) _⟩
            · rw [if_neg q1] at est
              have q2 : (sp.f2.f0.toList == y.f3.f0.toList && (sp.f2.f1 == y.f3.f1 && (sp.f2.f2 == y.f3.f2))) = false := by
                rw [← Bool.not_eq_true]
                exact q1
              clear q1
              have hres : [] = r1 ∧ false = r2 := by
                have h1 := HF2.out
                rw [← est] at h1
                simpa [spRes] using h1
              have HRES := Aside0.mk hres
              clear hres est HF2
              go_wp2_with (first | (go_at_call 54; refine hN.mono ?_; rintro e w2 ⟨rfl, hb2⟩; have HB2 := Aside0.mk hb2; clear hb2; have hk2 := blk_below HBX.out HB2.out; have hz0 : w2.cell? ⟨wr.heap.size, 0, none⟩ = some (.int .i64 y.f0) := (blk_cell hk2 0).trans rfl; have hz1 : w2.cell? ⟨wr.heap.size, 1, none⟩ = some (.int .i64 y.f1) := (blk_cell hk2 1).trans rfl; have hz2 : w2.cell? ⟨wr.heap.size, 2, none⟩ = some (.bool true) := (blk_cell hk2 2).trans rfl; have hz3 : w2.cell? ⟨wr.heap.size, 3, none⟩ = some (.string y.f3.f0) := (blk_cell hk2 3).trans rfl; have hz4 : w2.cell? ⟨wr.heap.size, 4, none⟩ = some (.int .i64 y.f3.f1) := (blk_cell hk2 4).trans rfl; have hz5 : w2.cell? ⟨wr.heap.size, 5, none⟩ = some (.int .i64 y.f3.f2) := (blk_cell hk2 5).trans rfl; have hz6 : w2.cell? ⟨wr.heap.size, 6, none⟩ = some (.int .i64 y.f4) := (blk_cell hk2 6).trans rfl; clear hk2; have hbb : Below wr.heap.size wr w2 := below_step HBL.out HB2.out; obtain ⟨hoc, hof⟩ := Kd.R_celln 0 (Kd.R_below HO.out hbb) y.f0 a1 hfo; rw [show rdOf 0 s.opn y.f0 = own from EOWN.out] at hoc; obtain ⟨ce, hcl, hM, hcc, hfr⟩ := Kd.R_elem (Kd.R_below HL.out hbb) z54 own o1 hob; obtain rfl := k54_openM hM; rw [show s.l.getD own.toNat z54 = sp from ESP.out] at hcc; have hs1 := hcc 1 _ rfl; have hs2 := hcc 2 _ rfl; have hs3 := hcc 3 _ rfl; have hs4 := hcc 4 _ rfl; have hs5 := hcc 5 _ rfl; have hs6 := hcc 6 _ rfl; have hs7 := hcc 7 _ rfl; have hg6 := hfr 6; have hg7 := hfr 7; (simp only [show k54.sz = 8 from rfl] at hs1 hs2 hs3 hs4 hs5 hs6 hs7 hg6 hg7); clear hcc hfr hM hcl; clear hbb) | (go_at_call 55; (with_reducible refine (hx1 _).mono ?_); rintro e w3 ⟨rfl, rfl⟩) | (go_at_call 55; (with_reducible refine (hx2 _).mono ?_); rintro e w3 ⟨rfl, rfl⟩) | (go_at_call 55; (with_reducible refine (hx3 _).mono ?_); rintro e w3 ⟨rfl, rfl⟩))
              go_quiet (fail)
              go_wp2
              refine bodyPost_ret (v := .tuple #[.slice none 0 0, .bool false]) (by simp [results, Tryd.results30, go_sem]) rfl ?_
              obtain ⟨rfl, rfl⟩ := HRES.out
              exact ⟨_, rfl, Kd.R_nil _ _ _ _ _, pw_below_drewN (below_step (below_step HB.out HBL.out) HB2.out) _⟩
          · rw [if_neg o1] at est
            have o2 : decide (own < 0) = true := decide_eq_true (by omega)
            have hres : [] = r1 ∧ false = r2 := by
              have h1 := HF2.out
              rw [← est] at h1
              simpa [spRes] using h1
            have HRES := Aside0.mk hres
            clear hres est HF2
            go_wp2_with (first | (go_at_call 54; refine hN.mono ?_; rintro e w2 ⟨rfl, hb2⟩; have HB2 := Aside0.mk hb2; clear hb2; have hk2 := blk_below HBX.out HB2.out; have hz0 : w2.cell? ⟨wr.heap.size, 0, none⟩ = some (.int .i64 y.f0) := (blk_cell hk2 0).trans rfl; have hz1 : w2.cell? ⟨wr.heap.size, 1, none⟩ = some (.int .i64 y.f1) := (blk_cell hk2 1).trans rfl; have hz2 : w2.cell? ⟨wr.heap.size, 2, none⟩ = some (.bool true) := (blk_cell hk2 2).trans rfl; have hz3 : w2.cell? ⟨wr.heap.size, 3, none⟩ = some (.string y.f3.f0) := (blk_cell hk2 3).trans rfl; have hz4 : w2.cell? ⟨wr.heap.size, 4, none⟩ = some (.int .i64 y.f3.f1) := (blk_cell hk2 4).trans rfl; have hz5 : w2.cell? ⟨wr.heap.size, 5, none⟩ = some (.int .i64 y.f3.f2) := (blk_cell hk2 5).trans rfl; have hz6 : w2.cell? ⟨wr.heap.size, 6, none⟩ = some (.int .i64 y.f4) := (blk_cell hk2 6).trans rfl; clear hk2; have hbb : Below wr.heap.size wr w2 := below_step HBL.out HB2.out; obtain ⟨hoc, hof⟩ := Kd.R_celln 0 (Kd.R_below HO.out hbb) y.f0 a1 hfo; rw [show rdOf 0 s.opn y.f0 = own from EOWN.out] at hoc; clear hbb) | (go_at_call 55; (with_reducible refine (hx1 _).mono ?_); rintro e w3 ⟨rfl, rfl⟩) | (go_at_call 55; (with_reducible refine (hx2 _).mono ?_); rintro e w3 ⟨rfl, rfl⟩) | (go_at_call 55; (with_reducible refine (hx3 _).mono ?_); rintro e w3 ⟨rfl, rfl⟩))
            go_quiet (fail)
            go_wp2
            refine bodyPost_ret (v := .tuple #[.slice none 0 0, .bool false]) (by simp [results, Tryd.results30, go_sem]) rfl ?_
            obtain ⟨rfl, rfl⟩ := HRES.out
            exact ⟨_, rfl, Kd.R_nil _ _ _ _ _, pw_below_drewN (below_step (below_step HB.out HBL.out) HB2.out) _⟩
        | false =>
          rw [r, if_neg (by decide)] at est
          rw [r] at hN
          have hbl2 := HBL.out
          rw [r] at hbl2
          have hbx2 := HBX.out
          rw [r] at hbx2
          clear HBL HBX
          have HBL := Aside0.mk hbl2
          have HBX := Aside0.mk hbx2
          clear hbl2 hbx2
          obtain ⟨Al, cl, el, _⟩ := Kd.R_reads HL.out
          subst el
          by_cases o1 : own < 0
          · rw [if_pos o1] at est
            have o2 : decide (own ≥ 0) = false := decide_eq_false (by omega)
            by_cases i1 : y.f1 = ct
            · rw [if_pos i1] at est
              have i2 : (y.f1 != ct) = false := by rw [bne_eq_false_iff_eq]; exact i1
              by_cases j1 : y.f4 = 0
              · rw [if_pos j1] at est
                have j2 : (y.f4 != 0) = false := by rw [bne_eq_false_iff_eq]; exact j1
                by_cases m1 : s.l.length = 12
                · rw [if_pos m1] at est
                  have m2 : ((s.l.length : Int) == 12) = true := by rw [beq_iff_eq]; omega
                  have hres : [] = r1 ∧ false = r2 := by
                    have h1 := HF2.out
                    rw [← est] at h1
                    simpa [spRes] using h1
                  have HRES := Aside0.mk hres
                  clear hres est HF2 i1 j1 m1
                  go_wp2_with (first | (go_at_call 54; refine hN.mono ?_; rintro e w2 ⟨rfl, hb2⟩; have HB2 := Aside0.mk hb2; clear hb2; have hk2 := blk_below HBX.out HB2.out; have hz0 : w2.cell? ⟨wr.heap.size, 0, none⟩ = some (.int .i64 y.f0) := (blk_cell hk2 0).trans rfl; have hz1 : w2.cell? ⟨wr.heap.size, 1, none⟩ = some (.int .i64 y.f1) := (blk_cell hk2 1).trans rfl; have hz2 : w2.cell? ⟨wr.heap.size, 2, none⟩ = some (.bool false) := (blk_cell hk2 2).trans rfl; have hz3 : w2.cell? ⟨wr.heap.size, 3, none⟩ = some (.string y.f3.f0) := (blk_cell hk2 3).trans rfl; have hz4 : w2.cell? ⟨wr.heap.size, 4, none⟩ = some (.int .i64 y.f3.f1) := (blk_cell hk2 4).trans rfl; have hz5 : w2.cell? ⟨wr.heap.size, 5, none⟩ = some (.int .i64 y.f3.f2) := (blk_cell hk2 5).trans rfl; have hz6 : w2.cell? ⟨wr.heap.size, 6, none⟩ = some (.int .i64 y.f4) := (blk_cell hk2 6).trans rfl; clear hk2; have hbb : Below wr.heap.size wr w2 := below_step HBL.out HB2.out; obtain ⟨hoc, hof⟩ := Kd.R_celln 0 (Kd.R_below HO.out hbb) y.f0 a1 hfo; rw [show rdOf 0 s.opn y.f0 = own from EOWN.out] at hoc; obtain ⟨hcc, hcf⟩ := Kd.R_celln 0 (Kd.R_below HK.out hbb) y.f0 a1 hfo; rw [show rdOf 0 s.cnt y.f0 = ct from ECT.out] at hcc; clear hbb) | (go_at_call 55; (with_reducible refine (hx1 _).mono ?_); rintro e w3 ⟨rfl, rfl⟩) | (go_at_call 55; (with_reducible refine (hx2 _).mono ?_); rintro e w3 ⟨rfl, rfl⟩) | (go_at_call 55; (with_reducible refine (hx3 _).mono ?_); rintro e w3 ⟨rfl, rfl⟩))
                  go_quiet (fail)
                  go_wp2
                  refine bodyPost_ret (v := .tuple #[.slice none 0 0, .bool false]) (by simp [results, Tryd.results30, go_sem]) rfl ?_
                  obtain ⟨rfl, rfl⟩ := HRES.out
                  exact ⟨_, rfl, Kd.R_nil _ _ _ _ _, pw_below_drewN (below_step (below_step HB.out HBL.out) HB2.out) _⟩
                · rw [if_neg m1] at est
                  have m2 : ((s.l.length : Int) == 12) = false := by rw [beq_eq_false_iff_ne]; omega
                  have EST := Aside0.mk est
                  clear est i1 j1 m1
                  go_wp2_with (first | (go_at_call 54; refine hN.mono ?_; rintro e w2 ⟨rfl, hb2⟩; have HB2 := Aside0.mk hb2; clear hb2; have hk2 := blk_below HBX.out HB2.out; have hz0 : w2.cell? ⟨wr.heap.size, 0, none⟩ = some (.int .i64 y.f0) := (blk_cell hk2 0).trans rfl; have hz1 : w2.cell? ⟨wr.heap.size, 1, none⟩ = some (.int .i64 y.f1) := (blk_cell hk2 1).trans rfl; have hz2 : w2.cell? ⟨wr.heap.size, 2, none⟩ = some (.bool false) := (blk_cell hk2 2).trans rfl; have hz3 : w2.cell? ⟨wr.heap.size, 3, none⟩ = some (.string y.f3.f0) := (blk_cell hk2 3).trans rfl; have hz4 : w2.cell? ⟨wr.heap.size, 4, none⟩ = some (.int .i64 y.f3.f1) := (blk_cell hk2 4).trans rfl; have hz5 : w2.cell? ⟨wr.heap.size, 5, none⟩ = some (.int .i64 y.f3.f2) := (blk_cell hk2 5).trans rfl; have hz6 : w2.cell? ⟨wr.heap.size, 6, none⟩ = some (.int .i64 y.f4) := (blk_cell hk2 6).trans rfl; clear hk2; have hbb : Below wr.heap.size wr w2 := below_step HBL.out HB2.out; obtain ⟨hoc, hof⟩ := Kd.R_celln 0 (Kd.R_below HO.out hbb) y.f0 a1 hfo; rw [show rdOf 0 s.opn y.f0 = own from EOWN.out] at hoc; obtain ⟨hcc, hcf⟩ := Kd.R_celln 0 (Kd.R_below HK.out hbb) y.f0 a1 hfo; rw [show rdOf 0 s.cnt y.f0 = ct from ECT.out] at hcc; clear hbb) | (go_at_call 55; (with_reducible refine (hx1 _).mono ?_); rintro e w3 ⟨rfl, rfl⟩) | (go_at_call 55; (with_reducible refine (hx2 _).mono ?_); rintro e w3 ⟨rfl, rfl⟩) | (go_at_call 55; (with_reducible refine (hx3 _).mono ?_); rintro e w3 ⟨rfl, rfl⟩))
                  go_quiet (fail)
                  have hbq : Below wr.heap.size wr (w2.drewN nq) := pw_below_drewN (below_step HBL.out HB2.out) nq
                  have hXq := blk_below HBX.out (pw_below_drewN HB2.out nq)
                  clear hz0 hz1 hz2 hz3 hz4 hz5 hz6 hoc hof hcc hcf
                  generalize w2.drewN nq = wq at hbq hXq ⊢
                  have hLq := Kd.R_below HL.out hbq
                  have hOq := Kd.R_below HO.out hbq
                  have hKq := Kd.R_below HK.out hbq
                  have hBq := below_step HB.out hbq
                  have hz0 : wq.cell? ⟨wr.heap.size, 0, none⟩ = some (.int .i64 y.f0) := (blk_cell hXq 0).trans rfl
                  obtain ⟨hcc, hcf⟩ := Kd.R_celln 0 hKq y.f0 a1 hfo
                  rw [show rdOf 0 s.cnt y.f0 = ct from ECT.out] at hcc
                  obtain ⟨hK3, hg3⟩ := Kd.R_putg hKq y.f0 (ct + 1)
                  have hL3 := Kd.R_over' hLq (Kd.R_typed hKq) (by decide) hg3
                  have hO3 := Kd.R_over' hOq (Kd.R_typed hKq) (by decide) hg3
                  have hX3 := blk_grown hXq hg3 (Kd.R_ne hKq hXq (by decide))
                  have hB3 : Below w.heap.size w (wq.setCell ⟨w.heap.size, y.f0.toNat, none⟩ (.int .i64 (ct + 1))) := below_set hBq (Nat.le_refl _)
                  have HK3 := Aside0.mk hK3
                  have HL3 := Aside0.mk hL3
                  have HO3 := Aside0.mk hO3
                  have HX3 := Aside0.mk hX3
                  have HB3 := Aside0.mk hB3
                  clear hK3 hL3 hO3 hX3 hB3 hLq hOq hKq hBq hbq hXq hg3 HB2 HBL HBX HB HL HO HK
                  have hct1 : 0 ≤ ct := hctb.1
                  have hct2 : ct ≤ 12 := by omega
                  clear hctb
                  go_wp2_with (first | ((with_reducible refine gate_store (t := 3) (p := 124) rfl ?_); refine store_event (t := 3) (p := 124) (v := ?vo1) (w1 := wq.setCell ⟨w.heap.size, y.f0.toNat, none⟩ (.int .i64 (ct + 1))) ?hg1 ?ho1 ?hn1 ?hr1 ?_; (case ho1 => rfl); (case hg1 => rfl); (case hn1 => rfl); (case hr1 => first | (go_simp; done) | (go_simp; rfl)); intro w5 hw5; rw [← hw5] at HK3 HL3 HO3 HX3 HB3; clear hw5 hcc hcf hz0; have hz0 : w5.cell? ⟨wr.heap.size, 0, none⟩ = some (.int .i64 y.f0) := (blk_cell HX3.out 0).trans rfl; obtain ⟨hoc, hof⟩ := Kd.R_celln 0 HO3.out y.f0 a1 hfo) | ((with_reducible refine gate_store (t := 3) (p := 130) rfl ?_); refine store_event (t := 3) (p := 130) (v := ?vo2) (w1 := w5.setCell ⟨go, y.f0.toNat, none⟩ (.int .i64 (s.l.length : Int))) ?hg2 ?ho2 ?hn2 ?hr2 ?_; (case ho2 => rfl); (case hg2 => rfl); (case hn2 => rfl); (case hr2 => first | (go_simp; done) | (go_simp; rfl)); intro w6 hw6; obtain ⟨hO6, hg6⟩ := Kd.R_putg HO3.out y.f0 (s.l.length : Int); have hL6 := Kd.R_over' HL3.out (Kd.R_typed HO3.out) (by decide) hg6; have hK6 := Kd.R_over' HK3.out (Kd.R_typed HO3.out) (by decide) hg6; have hX6 := blk_grown HX3.out hg6 (Kd.R_ne HO3.out HX3.out (by decide)); have hB6 : Below w.heap.size w (w5.setCell ⟨go, y.f0.toNat, none⟩ (.int .i64 (s.l.length : Int))) := below_set HB3.out hgo2; rw [← hw6] at hO6 hL6 hK6 hX6 hB6; have HO6 := Aside0.mk hO6; have HL6 := Aside0.mk hL6; have HK6 := Aside0.mk hK6; have HX6 := Aside0.mk hX6; have HB6 := Aside0.mk hB6; clear hw6 hg6 hoc hof hz0 hO6 hL6 hK6 hX6 hB6 HK3 HL3 HO3 HX3 HB3; have hz0 : w6.cell? ⟨wr.heap.size, 0, none⟩ = some (.int .i64 y.f0) := (blk_cell HX6.out 0).trans rfl; have hz1 : w6.cell? ⟨wr.heap.size, 1, none⟩ = some (.int .i64 y.f1) := (blk_cell HX6.out 1).trans rfl; have hz3 : w6.cell? ⟨wr.heap.size, 3, none⟩ = some (.string y.f3.f0) := (blk_cell HX6.out 3).trans rfl; have hz4 : w6.cell? ⟨wr.heap.size, 4, none⟩ = some (.int .i64 y.f3.f1) := (blk_cell HX6.out 4).trans rfl; have hz5 : w6.cell? ⟨wr.heap.size, 5, none⟩ = some (.int .i64 y.f3.f2) := (blk_cell HX6.out 5).trans rfl) | (at_builtin; go_loud (refine Kd.R_append k54 (w0 := w) w.heap.size rfl (.tmp 131) (.tmp 140) 49 54 (.agg #[(.int .i64 0), (.int .i64 0), (.string ⟨#[]⟩), (.int .i64 0), (.int .i64 0), (.int .i64 0), (.int .i64 0), (.int .i64 0)]) 72 rfl Tryd.underlying49 info54 rfl (by decide) (by omega) (.slice Al s.l.length cl) s.l (⟨y.f0, y.f1, y.f3, (k : Int), (-1), 0⟩ : S54) [.int .i64 y.f0, .int .i64 y.f1, .string y.f3.f0, .int .i64 y.f3.f1, .int .i64 y.f3.f2, .int .i64 (k : Int), .int .i64 (-1), .int .i64 0] (fun _ => True) (fun _ => False) rfl (by first | (go_simp; done) | (go_simp; rfl)) ?aP (fun _ hk => hk.elim) ?aF ?aO ?aB ?aS ?aL ?_; (case aP => exact k54_mkM _ _ _ (⟨y.f0, y.f1, y.f3, (k : Int), (-1), 0⟩ : S54)); (case aB => exact HB6.out); (case aF => exact (fun _ _ => trivial)); (case aO => exact HL6.out); (case aS => exact HB6.out.size); (case aL => omega)); intro v7 w7 ho7 hb7 hg7 hat7; have HL7 := Aside0.mk ho7; have HB7 := Aside0.mk hb7; have HK7 := Aside0.mk (Kd.R_over' HK6.out (Kd.R_typed HL6.out) (by decide) hg7); have HO7 := Aside0.mk (Kd.R_over' HO6.out (Kd.R_typed HL6.out) (by decide) hg7); clear ho7 hb7 hg7 hat7))
                  go_roundg (l0.length - (k + 1))
                  case measure => omega
                  case rel =>
                    refine ⟨k + 1, ⟨s.l ++ [⟨y.f0, y.f1, y.f3, (k : Int), -1, 0⟩], s.cnt.set y.f0.toNat (ct + 1), s.opn.set y.f0.toNat s.l.length⟩, by omega, Nat.le_refl _, by go_num, ⟨?_⟩, ⟨?_⟩, HL7, HK7, HO7, HB7⟩
                    · have h1 := HF2.out
                      rw [← EST.out] at h1
                      exact h1
                    · exact spStep_inv HI.out (by rw [EALL.out, ← EST.out])
              · rw [if_neg j1] at est
                have j2 : (y.f4 != 0) = true := by rw [bne_iff_ne]; exact j1
                have hres : [] = r1 ∧ false = r2 := by
                  have h1 := HF2.out
                  rw [← est] at h1
                  simpa [spRes] using h1
                have HRES := Aside0.mk hres
                clear hres est HF2 i1 j1
                go_wp2_with (first | (go_at_call 54; refine hN.mono ?_; rintro e w2 ⟨rfl, hb2⟩; have HB2 := Aside0.mk hb2; clear hb2; have hk2 := blk_below HBX.out HB2.out; have hz0 : w2.cell? ⟨wr.heap.size, 0, none⟩ = some (.int .i64 y.f0) := (blk_cell hk2 0).trans rfl; have hz1 : w2.cell? ⟨wr.heap.size, 1, none⟩ = some (.int .i64 y.f1) := (blk_cell hk2 1).trans rfl; have hz2 : w2.cell? ⟨wr.heap.size, 2, none⟩ = some (.bool false) := (blk_cell hk2 2).trans rfl; have hz3 : w2.cell? ⟨wr.heap.size, 3, none⟩ = some (.string y.f3.f0) := (blk_cell hk2 3).trans rfl; have hz4 : w2.cell? ⟨wr.heap.size, 4, none⟩ = some (.int .i64 y.f3.f1) := (blk_cell hk2 4).trans rfl; have hz5 : w2.cell? ⟨wr.heap.size, 5, none⟩ = some (.int .i64 y.f3.f2) := (blk_cell hk2 5).trans rfl; have hz6 : w2.cell? ⟨wr.heap.size, 6, none⟩ = some (.int .i64 y.f4) := (blk_cell hk2 6).trans rfl; clear hk2; have hbb : Below wr.heap.size wr w2 := below_step HBL.out HB2.out; obtain ⟨hoc, hof⟩ := Kd.R_celln 0 (Kd.R_below HO.out hbb) y.f0 a1 hfo; rw [show rdOf 0 s.opn y.f0 = own from EOWN.out] at hoc; obtain ⟨hcc, hcf⟩ := Kd.R_celln 0 (Kd.R_below HK.out hbb) y.f0 a1 hfo; rw [show rdOf 0 s.cnt y.f0 = ct from ECT.out] at hcc; clear hbb) | (go_at_call 55; (with_reducible refine (hx1 _).mono ?_); rintro e w3 ⟨rfl, rfl⟩) | (go_at_call 55; (with_reducible refine (hx2 _).mono ?_); rintro e w3 ⟨rfl, rfl⟩) | (go_at_call 55; (with_reducible refine (hx3 _).mono ?_); rintro e w3 ⟨rfl, rfl⟩))
                go_quiet (fail)
                go_wp2
                refine bodyPost_ret (v := .tuple #[.slice none 0 0, .bool false]) (by simp [results, Tryd.results30, go_sem]) rfl ?_
                obtain ⟨rfl, rfl⟩ := HRES.out
                exact ⟨_, rfl, Kd.R_nil _ _ _ _ _, pw_below_drewN (below_step (below_step HB.out HBL.out) HB2.out) _⟩
            · rw [if_neg i1] at est
              have i2 : (y.f1 != ct) = true := by rw [bne_iff_ne]; exact i1
              have hres : [] = r1 ∧ false = r2 := by
                have h1 := HF2.out
                rw [← est] at h1
                simpa [spRes] using h1
              have HRES := Aside0.mk hres
              clear hres est HF2 i1
              go_wp2_with (first | (go_at_call 54; refine hN.mono ?_; rintro e w2 ⟨rfl, hb2⟩; have HB2 := Aside0.mk hb2; clear hb2; have hk2 := blk_below HBX.out HB2.out; have hz0 : w2.cell? ⟨wr.heap.size, 0, none⟩ = some (.int .i64 y.f0) := (blk_cell hk2 0).trans rfl; have hz1 : w2.cell? ⟨wr.heap.size, 1, none⟩ = some (.int .i64 y.f1) := (blk_cell hk2 1).trans rfl; have hz2 : w2.cell? ⟨wr.heap.size, 2, none⟩ = some (.bool false) := (blk_cell hk2 2).trans rfl; have hz3 : w2.cell? ⟨wr.heap.size, 3, none⟩ = some (.string y.f3.f0) := (blk_cell hk2 3).trans rfl; have hz4 : w2.cell? ⟨wr.heap.size, 4, none⟩ = some (.int .i64 y.f3.f1) := (blk_cell hk2 4).trans rfl; have hz5 : w2.cell? ⟨wr.heap.size, 5, none⟩ = some (.int .i64 y.f3.f2) := (blk_cell hk2 5).trans rfl; have hz6 : w2.cell? ⟨wr.heap.size, 6, none⟩ = some (.int .i64 y.f4) := (blk_cell hk2 6).trans rfl; clear hk2; have hbb : Below wr.heap.size wr w2 := below_step HBL.out HB2.out; obtain ⟨hoc, hof⟩ := Kd.R_celln 0 (Kd.R_below HO.out hbb) y.f0 a1 hfo; rw [show rdOf 0 s.opn y.f0 = own from EOWN.out] at hoc; obtain ⟨hcc, hcf⟩ := Kd.R_celln 0 (Kd.R_below HK.out hbb) y.f0 a1 hfo; rw [show rdOf 0 s.cnt y.f0 = ct from ECT.out] at hcc; clear hbb) | (go_at_call 55; (with_reducible refine (hx1 _).mono ?_); rintro e w3 ⟨rfl, rfl⟩) | (go_at_call 55; (with_reducible refine (hx2 _).mono ?_); rintro e w3 ⟨rfl, rfl⟩) | (go_at_call 55; (with_reducible refine (hx3 _).mono ?_); rintro e w3 ⟨rfl, rfl⟩))
              go_quiet (fail)
              go_wp2
              refine bodyPost_ret (v := .tuple #[.slice none 0 0, .bool false]) (by simp [results, Tryd.results30, go_sem]) rfl ?_
              obtain ⟨rfl, rfl⟩ := HRES.out
              exact ⟨_, rfl, Kd.R_nil _ _ _ _ _, pw_below_drewN (below_step (below_step HB.out HBL.out) HB2.out) _⟩
          · rw [if_neg o1] at est
            have o2 : decide (own ≥ 0) = true := decide_eq_true (by omega)
            have hres : [] = r1 ∧ false = r2 := by
              have h1 := HF2.out
              rw [← est] at h1
              simpa [spRes] using h1
            have HRES := Aside0.mk hres
            clear hres est HF2
            go_wp2_with (first | (go_at_call 54; refine hN.mono ?_; rintro e w2 ⟨rfl, hb2⟩; have HB2 := Aside0.mk hb2; clear hb2; have hk2 := blk_below HBX.out HB2.out; have hz0 : w2.cell? ⟨wr.heap.size, 0, none⟩ = some (.int .i64 y.f0) := (blk_cell hk2 0).trans rfl; have hz1 : w2.cell? ⟨wr.heap.size, 1, none⟩ = some (.int .i64 y.f1) := (blk_cell hk2 1).trans rfl; have hz2 : w2.cell? ⟨wr.heap.size, 2, none⟩ = some (.bool false) := (blk_cell hk2 2).trans rfl; have hz3 : w2.cell? ⟨wr.heap.size, 3, none⟩ = some (.string y.f3.f0) := (blk_cell hk2 3).trans rfl; have hz4 : w2.cell? ⟨wr.heap.size, 4, none⟩ = some (.int .i64 y.f3.f1) := (blk_cell hk2 4).trans rfl; have hz5 : w2.cell? ⟨wr.heap.size, 5, none⟩ = some (.int .i64 y.f3.f2) := (blk_cell hk2 5).trans rfl; have hz6 : w2.cell? ⟨wr.heap.size, 6, none⟩ = some (.int .i64 y.f4) := (blk_cell hk2 6).trans rfl; clear hk2; have hbb : Below wr.heap.size wr w2 := below_step HBL.out HB2.out; obtain ⟨hoc, hof⟩ := Kd.R_celln 0 (Kd.R_below HO.out hbb) y.f0 a1 hfo; rw [show rdOf 0 s.opn y.f0 = own from EOWN.out] at hoc; obtain ⟨hcc, hcf⟩ := Kd.R_celln 0 (Kd.R_below HK.out hbb) y.f0 a1 hfo; rw [show rdOf 0 s.cnt y.f0 = ct from ECT.out] at hcc; clear hbb) | (go_at_call 55; (with_reducible refine (hx1 _).mono ?_); rintro e w3 ⟨rfl, rfl⟩) | (go_at_call 55; (with_reducible refine (hx2 _).mono ?_); rintro e w3 ⟨rfl, rfl⟩) | (go_at_call 55; (with_reducible refine (hx3 _).mono ?_); rintro e w3 ⟨rfl, rfl⟩))
            go_quiet (fail)
            go_wp2
            refine bodyPost_ret (v := .tuple #[.slice none 0 0, .bool false]) (by simp [results, Tryd.results30, go_sem]) rfl ?_
            obtain ⟨rfl, rfl⟩ := HRES.out
            exact ⟨_, rfl, Kd.R_nil _ _ _ _ _, pw_below_drewN (below_step (below_step HB.out HBL.out) HB2.out) _⟩
      · have hres : [] = r1 ∧ false = r2 := by
          have h1 := HF2.out
          simp only [spGo, spStep] at h1
          rw [if_neg hform] at h1
          simpa [spRes] using h1
        have HRES := Aside0.mk hres
        clear hres
        have hform' := hform
        unfold formB at hform'
        have HFORM := Aside0.mk hform'
        clear hform hform'
        by_cases a1 : y.f0 < 0
        · have b1 : decide (y.f0 < 0) = true := decide_eq_true a1
          go_wp2_with (first | (go_at_call 54; refine hN.mono ?_; rintro e w2 ⟨rfl, hb2⟩; have HB2 := Aside0.mk hb2; clear hb2; have hk2 := blk_below HBX.out HB2.out; have hz0 : w2.cell? ⟨wr.heap.size, 0, none⟩ = some (.int .i64 y.f0) := (blk_cell hk2 0).trans rfl; have hz1 : w2.cell? ⟨wr.heap.size, 1, none⟩ = some (.int .i64 y.f1) := (blk_cell hk2 1).trans rfl; have hz2 : w2.cell? ⟨wr.heap.size, 2, none⟩ = some (.bool y.f2) := (blk_cell hk2 2).trans rfl; have hz3 : w2.cell? ⟨wr.heap.size, 3, none⟩ = some (.string y.f3.f0) := (blk_cell hk2 3).trans rfl; have hz4 : w2.cell? ⟨wr.heap.size, 4, none⟩ = some (.int .i64 y.f3.f1) := (blk_cell hk2 4).trans rfl; have hz5 : w2.cell? ⟨wr.heap.size, 5, none⟩ = some (.int .i64 y.f3.f2) := (blk_cell hk2 5).trans rfl; have hz6 : w2.cell? ⟨wr.heap.size, 6, none⟩ = some (.int .i64 y.f4) := (blk_cell hk2 6).trans rfl; clear hk2) | (go_at_call 55; (with_reducible refine (hx1 _).mono ?_); rintro e w3 ⟨rfl, rfl⟩) | (go_at_call 55; (with_reducible refine (hx2 _).mono ?_); rintro e w3 ⟨rfl, rfl⟩) | (go_at_call 55; (with_reducible refine (hx3 _).mono ?_); rintro e w3 ⟨rfl, rfl⟩))
          refine bodyPost_ret (v := .tuple #[.slice none 0 0, .bool false]) (by simp [results, Tryd.results30, go_sem]) rfl ?_
          obtain ⟨rfl, rfl⟩ := HRES.out
          exact ⟨_, rfl, Kd.R_nil _ _ _ _ _, below_step HB.out HBL.out⟩
        · have b1 : decide (y.f0 < 0) = false := decide_eq_false a1
          have a1' : 0 ≤ y.f0 := by omega
          by_cases a2 : y.f0 ≥ 4
          · have b2 : decide (y.f0 ≥ 4) = true := decide_eq_true a2
            go_wp2_with (first | (go_at_call 54; refine hN.mono ?_; rintro e w2 ⟨rfl, hb2⟩; have HB2 := Aside0.mk hb2; clear hb2; have hk2 := blk_below HBX.out HB2.out; have hz0 : w2.cell? ⟨wr.heap.size, 0, none⟩ = some (.int .i64 y.f0) := (blk_cell hk2 0).trans rfl; have hz1 : w2.cell? ⟨wr.heap.size, 1, none⟩ = some (.int .i64 y.f1) := (blk_cell hk2 1).trans rfl; have hz2 : w2.cell? ⟨wr.heap.size, 2, none⟩ = some (.bool y.f2) := (blk_cell hk2 2).trans rfl; have hz3 : w2.cell? ⟨wr.heap.size, 3, none⟩ = some (.string y.f3.f0) := (blk_cell hk2 3).trans rfl; have hz4 : w2.cell? ⟨wr.heap.size, 4, none⟩ = some (.int .i64 y.f3.f1) := (blk_cell hk2 4).trans rfl; have hz5 : w2.cell? ⟨wr.heap.size, 5, none⟩ = some (.int .i64 y.f3.f2) := (blk_cell hk2 5).trans rfl; have hz6 : w2.cell? ⟨wr.heap.size, 6, none⟩ = some (.int .i64 y.f4) := (blk_cell hk2 6).trans rfl; clear hk2) | (go_at_call 55; (with_reducible refine (hx1 _).mono ?_); rintro e w3 ⟨rfl, rfl⟩) | (go_at_call 55; (with_reducible refine (hx2 _).mono ?_); rintro e w3 ⟨rfl, rfl⟩) | (go_at_call 55; (with_reducible refine (hx3 _).mono ?_); rintro e w3 ⟨rfl, rfl⟩))
            refine bodyPost_ret (v := .tuple #[.slice none 0 0, .bool false]) (by simp [results, Tryd.results30, go_sem]) rfl ?_
            obtain ⟨rfl, rfl⟩ := HRES.out
            exact ⟨_, rfl, Kd.R_nil _ _ _ _ _, below_step HB.out HBL.out⟩
          · have b2 : decide (y.f0 ≥ 4) = false := decide_eq_false a2
            cases n : nameB y.f3.f0 with
            | false =>
              rw [n] at hN
              clear n
              go_wp2_with (first | (go_at_call 54; refine hN.mono ?_; rintro e w2 ⟨rfl, hb2⟩; have HB2 := Aside0.mk hb2; clear hb2; have hk2 := blk_below HBX.out HB2.out; have hz0 : w2.cell? ⟨wr.heap.size, 0, none⟩ = some (.int .i64 y.f0) := (blk_cell hk2 0).trans rfl; have hz1 : w2.cell? ⟨wr.heap.size, 1, none⟩ = some (.int .i64 y.f1) := (blk_cell hk2 1).trans rfl; have hz2 : w2.cell? ⟨wr.heap.size, 2, none⟩ = some (.bool y.f2) := (blk_cell hk2 2).trans rfl; have hz3 : w2.cell? ⟨wr.heap.size, 3, none⟩ = some (.string y.f3.f0) := (blk_cell hk2 3).trans rfl; have hz4 : w2.cell? ⟨wr.heap.size, 4, none⟩ = some (.int .i64 y.f3.f1) := (blk_cell hk2 4).trans rfl; have hz5 : w2.cell? ⟨wr.heap.size, 5, none⟩ = some (.int .i64 y.f3.f2) := (blk_cell hk2 5).trans rfl; have hz6 : w2.cell? ⟨wr.heap.size, 6, none⟩ = some (.int .i64 y.f4) := (blk_cell hk2 6).trans rfl; clear hk2) | (go_at_call 55; (with_reducible refine (hx1 _).mono ?_); rintro e w3 ⟨rfl, rfl⟩) | (go_at_call 55; (with_reducible refine (hx2 _).mono ?_); rintro e w3 ⟨rfl, rfl⟩) | (go_at_call 55; (with_reducible refine (hx3 _).mono ?_); rintro e w3 ⟨rfl, rfl⟩))
              refine bodyPost_ret (v := .tuple #[.slice none 0 0, .bool false]) (by simp [results, Tryd.results30, go_sem]) rfl ?_
              obtain ⟨rfl, rfl⟩ := HRES.out
              exact ⟨_, rfl, Kd.R_nil _ _ _ _ _, below_step (below_step HB.out HBL.out) HB2.out⟩
            | true =>
              rw [n] at hN
              have N0 := Aside0.mk n
              clear n
              cases n1 : wordB y.f3.f1 with
              | false =>
                simp only [n1] at hx1
                clear n1
                go_wp2_with (first | (go_at_call 54; refine hN.mono ?_; rintro e w2 ⟨rfl, hb2⟩; have HB2 := Aside0.mk hb2; clear hb2; have hk2 := blk_below HBX.out HB2.out; have hz0 : w2.cell? ⟨wr.heap.size, 0, none⟩ = some (.int .i64 y.f0) := (blk_cell hk2 0).trans rfl; have hz1 : w2.cell? ⟨wr.heap.size, 1, none⟩ = some (.int .i64 y.f1) := (blk_cell hk2 1).trans rfl; have hz2 : w2.cell? ⟨wr.heap.size, 2, none⟩ = some (.bool y.f2) := (blk_cell hk2 2).trans rfl; have hz3 : w2.cell? ⟨wr.heap.size, 3, none⟩ = some (.string y.f3.f0) := (blk_cell hk2 3).trans rfl; have hz4 : w2.cell? ⟨wr.heap.size, 4, none⟩ = some (.int .i64 y.f3.f1) := (blk_cell hk2 4).trans rfl; have hz5 : w2.cell? ⟨wr.heap.size, 5, none⟩ = some (.int .i64 y.f3.f2) := (blk_cell hk2 5).trans rfl; have hz6 : w2.cell? ⟨wr.heap.size, 6, none⟩ = some (.int .i64 y.f4) := (blk_cell hk2 6).trans rfl; clear hk2) | (go_at_call 55; (with_reducible refine (hx1 _).mono ?_); rintro e w3 ⟨rfl, rfl⟩) | (go_at_call 55; (with_reducible refine (hx2 _).mono ?_); rintro e w3 ⟨rfl, rfl⟩) | (go_at_call 55; (with_reducible refine (hx3 _).mono ?_); rintro e w3 ⟨rfl, rfl⟩))
                refine bodyPost_ret (v := .tuple #[.slice none 0 0, .bool false]) (by simp [results, Tryd.results30, go_sem]) rfl ?_
                obtain ⟨rfl, rfl⟩ := HRES.out
                exact ⟨_, rfl, Kd.R_nil _ _ _ _ _, below_step (below_step HB.out HBL.out) HB2.out⟩
              | true =>
                simp only [n1] at hx1
                have N1 := Aside0.mk n1
                clear n1
                cases n2 : wordB y.f3.f2 with
                | false =>
                  simp only [n2] at hx2
                  clear n2
                  go_wp2_with (first | (go_at_call 54; refine hN.mono ?_; rintro e w2 ⟨rfl, hb2⟩; have HB2 := Aside0.mk hb2; clear hb2; have hk2 := blk_below HBX.out HB2.out; have hz0 : w2.cell? ⟨wr.heap.size, 0, none⟩ = some (.int .i64 y.f0) := (blk_cell hk2 0).trans rfl; have hz1 : w2.cell? ⟨wr.heap.size, 1, none⟩ = some (.int .i64 y.f1) := (blk_cell hk2 1).trans rfl; have hz2 : w2.cell? ⟨wr.heap.size, 2, none⟩ = some (.bool y.f2) := (blk_cell hk2 2).trans rfl; have hz3 : w2.cell? ⟨wr.heap.size, 3, none⟩ = some (.string y.f3.f0) := (blk_cell hk2 3).trans rfl; have hz4 : w2.cell? ⟨wr.heap.size, 4, none⟩ = some (.int .i64 y.f3.f1) := (blk_cell hk2 4).trans rfl; have hz5 : w2.cell? ⟨wr.heap.size, 5, none⟩ = some (.int .i64 y.f3.f2) := (blk_cell hk2 5).trans rfl; have hz6 : w2.cell? ⟨wr.heap.size, 6, none⟩ = some (.int .i64 y.f4) := (blk_cell hk2 6).trans rfl; clear hk2) | (go_at_call 55; (with_reducible refine (hx1 _).mono ?_); rintro e w3 ⟨rfl, rfl⟩) | (go_at_call 55; (with_reducible refine (hx2 _).mono ?_); rintro e w3 ⟨rfl, rfl⟩) | (go_at_call 55; (with_reducible refine (hx3 _).mono ?_); rintro e w3 ⟨rfl, rfl⟩))
                  refine bodyPost_ret (v := .tuple #[.slice none 0 0, .bool false]) (by simp [results, Tryd.results30, go_sem]) rfl ?_
                  obtain ⟨rfl, rfl⟩ := HRES.out
                  exact ⟨_, rfl, Kd.R_nil _ _ _ _ _, below_step (below_step HB.out HBL.out) HB2.out⟩
                | true =>
                  simp only [n2] at hx2
                  have N2 := Aside0.mk n2
                  clear n2
                  cases n3 : wordB y.f4 with
                  | false =>
                    simp only [n3] at hx3
                    clear n3
                    go_wp2_with (first | (go_at_call 54; refine hN.mono ?_; rintro e w2 ⟨rfl, hb2⟩; have HB2 := Aside0.mk hb2; clear hb2; have hk2 := blk_below HBX.out HB2.out; have hz0 : w2.cell? ⟨wr.heap.size, 0, none⟩ = some (.int .i64 y.f0) := (blk_cell hk2 0).trans rfl; have hz1 : w2.cell? ⟨wr.heap.size, 1, none⟩ = some (.int .i64 y.f1) := (blk_cell hk2 1).trans rfl; have hz2 : w2.cell? ⟨wr.heap.size, 2, none⟩ = some (.bool y.f2) := (blk_cell hk2 2).trans rfl; have hz3 : w2.cell? ⟨wr.heap.size, 3, none⟩ = some (.string y.f3.f0) := (blk_cell hk2 3).trans rfl; have hz4 : w2.cell? ⟨wr.heap.size, 4, none⟩ = some (.int .i64 y.f3.f1) := (blk_cell hk2 4).trans rfl; have hz5 : w2.cell? ⟨wr.heap.size, 5, none⟩ = some (.int .i64 y.f3.f2) := (blk_cell hk2 5).trans rfl; have hz6 : w2.cell? ⟨wr.heap.size, 6, none⟩ = some (.int .i64 y.f4) := (blk_cell hk2 6).trans rfl; clear hk2) | (go_at_call 55; (with_reducible refine (hx1 _).mono ?_); rintro e w3 ⟨rfl, rfl⟩) | (go_at_call 55; (with_reducible refine (hx2 _).mono ?_); rintro e w3 ⟨rfl, rfl⟩) | (go_at_call 55; (with_reducible refine (hx3 _).mono ?_); rintro e w3 ⟨rfl, rfl⟩))
                    refine bodyPost_ret (v := .tuple #[.slice none 0 0, .bool false]) (by simp [results, Tryd.results30, go_sem]) rfl ?_
                    obtain ⟨rfl, rfl⟩ := HRES.out
                    exact ⟨_, rfl, Kd.R_nil _ _ _ _ _, below_step (below_step HB.out HBL.out) HB2.out⟩
                  | true =>
                    refine absurd ?_ HFORM.out
                    rw [N0.out, N1.out, N2.out, n3, decide_eq_true a1', decide_eq_true (show y.f0 < 4 by omega)]
                    rfl
    · have hkn2 : k = l0.length := by omega
      have hltz : ¬ (k : Int) < (l0.length : Int) := by omega
      subst hkn2
      have hF := HF.out
      rw [List.drop_length] at hF
      simp only [spGo, spRes] at hF
      have HF2 := Aside0.mk hF
      clear hF HF
      go_wp2
      obtain ⟨A, c, rfl, _⟩ := Kd.R_reads HL.out
      refine bodyPost_ret (v := .tuple #[.slice A s.l.length c, .bool true]) (by simp [results, Tryd.results30, go_sem]) rfl ?_
      have h1 := HF2.out
      injection h1 with h1 h2
      subst h1; subst h2
      exact ⟨_, rfl, HL.out, HB.out⟩


end Go.Proofs.YtfokmfnafbladaaDoor.Q
