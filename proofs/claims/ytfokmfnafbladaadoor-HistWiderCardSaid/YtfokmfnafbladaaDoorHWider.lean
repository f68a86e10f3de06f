/- Whether two histories have the same events of each thread, and whether one is wider: what hist.Wider answers. -/
import Derived.Test.YtfokmfnafbladaaDoorHAlike
import Derived.Test.YtfokmfnafbladaaDoorHComplete
import Derived.Deep.DrawnRows
import Derived.Deep.RegionHeld3
namespace Go.Proofs.YtfokmfnafbladaaDoor.Q
open Go.RowKit Go.Proofs.YtfokmfnafbladaaDoorW.PrintWords Go.Proofs.YtfokmfnafbladaaDoorW.PrintLast Go.Proofs.YtfokmfnafbladaaDoorW.PrintMore
set_option linter.unusedVariables false
set_option linter.unusedSimpArgs false
set_option linter.unnecessarySimpa false

/-- A call is ahead of another. -/
def aheadB (a b : S54) : Bool := decide (a.f4 ≥ 0) && decide (a.f4 < b.f3)
/-- The same thread's call of the same number. -/
def sameB (s x : S54) : Bool := x.f0 == s.f0 && x.f1 == s.f1

set_option maxHeartbeats 2000000 in
theorem ah38_calls (a b : S54) (w : World) :
    Calls Tryd.prog 38 #[ev54 a, ev54 b] w fun e w' => e = .returned (.bool (aheadB a b)) ∧ Below w.heap.size w w' := by
  unfold ev54 aheadB
  have hb : ∀ o o', Below w.heap.size w ((w.alloc o).alloc o') := fun o o' => ((Below.refl _ _).alloc (Nat.le_refl _) _).alloc (by simp) _
  cases h1 : decide (a.f4 ≥ 0) with
  | true =>
    go_enter Tryd.func38, Tryd.ntmps38
    go_wp2
    go_ret
    exact ⟨by rw [Bool.true_and]; rfl, hb _ _⟩
  | false =>
    go_enter Tryd.func38, Tryd.ntmps38
    go_wp2
    go_ret
    exact ⟨by rw [Bool.false_and]; rfl, hb _ _⟩

set_option maxHeartbeats 2000000 in
theorem c37_calls (x : S54) (s0 s1 : Int) (B : Nat) (w : World) (hB : w.cell? ⟨B, 0, none⟩ = some (.int .i64 s0)) (hC : w.cell? ⟨B, 1, none⟩ = some (.int .i64 s1)) :
    Calls Tryd.prog 37 #[ev54 x, .pointer (some ⟨B, 0, none⟩)] w fun e w' => e = .returned (.bool (x.f0 == s0 && x.f1 == s1)) ∧ Below w.heap.size w w' := by
  unfold ev54
  have hlt : B < w.heap.size := World.block_lt_of_cell? w _ hB
  have hB1 : ∀ o, (w.alloc o).cell? ⟨B, 0, none⟩ = some (.int .i64 s0) := fun o => pw_cell_below ((Below.refl _ _).alloc (Nat.le_refl _) o) hB
  have hC1 : ∀ o, (w.alloc o).cell? ⟨B, 1, none⟩ = some (.int .i64 s1) := fun o => pw_cell_below ((Below.refl _ _).alloc (Nat.le_refl _) o) hC
  cases h1 : (x.f0 == s0) with
  | true =>
    go_enter Tryd.func37, Tryd.ntmps37
    go_wp2
    go_ret
    exact ⟨by rw [Bool.true_and]; rfl, (Below.refl _ _).alloc (Nat.le_refl _) _⟩
  | false =>
    go_enter Tryd.func37, Tryd.ntmps37
    go_wp2
    go_ret
    exact ⟨by rw [Bool.false_and]; rfl, (Below.refl _ _).alloc (Nat.le_refl _) _⟩

set_option maxHeartbeats 1000000 in
theorem if36_37 (A0 : Option Addr) (c0 : Nat) (l0 : List S54) (s0 s1 : Int) (B : Nat) (w : World) (hr0 : Kd.C k54 w A0 l0.length l0) (hB : w.cell? ⟨B, 0, none⟩ = some (.int .i64 s0)) (hC : w.cell? ⟨B, 1, none⟩ = some (.int .i64 s1)) :
    Calls Tryd.prog 36 #[.slice A0 l0.length c0, .func (.func 37) #[] #[.pointer (some ⟨B, 0, none⟩)]] w fun e w' => e = .returned (.int .i64 (idx54 (fun x => x.f0 == s0 && x.f1 == s1) l0)) ∧ Below w.heap.size w w' := by
  have hbig : l0.length ≤ 9223372036854775807 := hr0.2.1
  have HR := Aside0.mk hr0
  have HB_ := Aside0.mk hB
  have HC_ := Aside0.mk hC
  clear hr0 hB hC
  go_enter Tryd.func36, Tryd.ntmps36
  go_wp2
  go_loopg [5, 8] l0.length (fun gg _ s8 wr => ∃ kk : Nat, kk ≤ l0.length ∧ l0.length - kk ≤ gg ∧ s8 = .int .i64 kk ∧ Aside0 (Below w.heap.size w wr) ∧ Aside0 (∀ j x, j < kk → l0[j]? = some x → (x.f0 == s0 && x.f1 == s1) = false))
  case atStart => exact ⟨0, Nat.zero_le _, by omega, rfl, ⟨Below.refl _ w⟩, ⟨fun j x hj => absurd hj (Nat.not_lt_zero _)⟩⟩
  case round =>
    obtain ⟨kk, hkk, hg, rfl, BW, A⟩ := hrel
    by_cases hlt : kk < l0.length
    · have hltz : (kk : Int) < (l0.length : Int) := by omega
      have hz : 0 ≤ (kk : Int) := by omega
      obtain ⟨ad, e, hx0, hx1, hx2, hx3, hx4, hx5, hx6, hx7⟩ := at_T54 (Kd.C_below HR.out BW.out) (kk : Int) hz hltz
      cases e
      simp only [Int.toNat_natCast] at hx0 hx1 hx2 hx3 hx4 hx5 hx6 hx7
      have hcall := c37_calls (rd_T54 l0 kk) s0 s1 B wr (pw_cell_below BW.out HB_.out) (pw_cell_below BW.out HC_.out)
      have hrd : l0[kk]? = some (rd_T54 l0 (kk : Int)) := by simp [rd_T54, List.getD_eq_getElem?_getD, List.getElem?_eq_getElem hlt]
      have HRD := Aside0.mk hrd
      clear hrd
      generalize rd_T54 l0 (kk : Int) = x at *
      unfold ev54 at hcall
      cases hq : (x.f0 == s0 && x.f1 == s1) with
      | true =>
        rw [hq] at hcall
        have HQ := Aside0.mk hq
        clear hq
        go_wp2_with (go_at_call 37; refine hcall.mono ?_; rintro e w' ⟨rfl, hb'⟩)
        go_ret
        exact ⟨by rw [idx54_found hlt HRD.out HQ.out A.out]; rfl, below_step BW.out hb'⟩
      | false =>
        rw [hq] at hcall
        have HQ := Aside0.mk hq
        clear hq
        go_wp2_with (go_at_call 37; refine hcall.mono ?_; rintro e w' ⟨rfl, hb'⟩)
        go_roundg (l0.length - (kk + 1))
        case measure => omega
        case rel =>
          refine ⟨kk + 1, by omega, by omega, by go_num, ⟨below_step BW.out hb'⟩, ⟨fun j x' hj hx => ?_⟩⟩
          by_cases e : j = kk
          · subst e
            have h2 := HRD.out
            rw [hx] at h2
            injection h2 with h2
            subst h2
            exact HQ.out
          · exact A.out j x' (by omega) hx
    · have hltz : ¬ (kk : Int) < (l0.length : Int) := by omega
      have : kk = l0.length := by omega
      subst this
      go_wp2
      go_ret
      exact ⟨by rw [idx54_none A.out]; rfl, BW.out⟩

/-- The call of l that is the same as s (there is one). -/
def inB (l : List S54) (s : S54) : S54 := rd_T54 l (idx54 (sameB s) l)

set_option maxHeartbeats 4000000 in
theorem in35_calls (A0 : Option Addr) (c0 : Nat) (l0 : List S54) (s : S54) (B : Nat) (w : World) (hr0 : Kd.C k54 w A0 l0.length l0) (hB : w.cell? ⟨B, 0, none⟩ = some (.slice A0 l0.length c0)) (hany : l0.any (sameB s) = true) :
    Calls Tryd.prog 35 #[ev54 s, .pointer (some ⟨B, 0, none⟩)] w fun e w' => e = .returned (ev54 (inB l0 s)) ∧ Below w.heap.size w w' := by
  have hix : 0 ≤ idx54 (sameB s) l0 := by
    have h1 := hany
    rw [← idx54_any] at h1
    exact of_decide_eq_true h1
  have hix2 : idx54 (sameB s) l0 < l0.length := by
    unfold idx54 at *
    split at hix
    · rw [if_pos (by assumption)]; omega
    · omega
  have hbig : l0.length ≤ 9223372036854775807 := hr0.2.1
  have hlt : B < w.heap.size := World.block_lt_of_cell? w _ hB
  unfold inB
  have hb2 : Below w.heap.size w ((w.alloc (.cells #[.int .i64 s.f0, .int .i64 s.f1, .string s.f2.f0, .int .i64 s.f2.f1, .int .i64 s.f2.f2, .int .i64 s.f3, .int .i64 s.f4, .int .i64 s.f5] 54)).alloc (.cells #[.int .i64 0, .int .i64 0, .string ⟨#[]⟩, .int .i64 0, .int .i64 0, .int .i64 0, .int .i64 0, .int .i64 0] 54)) := ((Below.refl _ _).alloc (Nat.le_refl _) _).alloc (by simp) _
  have hx2 := blk_alloc (blk_new w (.cells #[.int .i64 s.f0, .int .i64 s.f1, .string s.f2.f0, .int .i64 s.f2.f1, .int .i64 s.f2.f2, .int .i64 s.f3, .int .i64 s.f4, .int .i64 s.f5] 54 (0, 0))) (.cells #[.int .i64 0, .int .i64 0, .string ⟨#[]⟩, .int .i64 0, .int .i64 0, .int .i64 0, .int .i64 0, .int .i64 0] 54 (0, 0))
  have hy2 := blk_new (w.alloc (.cells #[.int .i64 s.f0, .int .i64 s.f1, .string s.f2.f0, .int .i64 s.f2.f1, .int .i64 s.f2.f2, .int .i64 s.f3, .int .i64 s.f4, .int .i64 s.f5] 54 (0, 0))) (.cells #[.int .i64 0, .int .i64 0, .string ⟨#[]⟩, .int .i64 0, .int .i64 0, .int .i64 0, .int .i64 0, .int .i64 0] 54 (0, 0))
  have hy2' : ((w.alloc (.cells #[.int .i64 s.f0, .int .i64 s.f1, .string s.f2.f0, .int .i64 s.f2.f1, .int .i64 s.f2.f2, .int .i64 s.f3, .int .i64 s.f4, .int .i64 s.f5] 54)).alloc (.cells #[.int .i64 0, .int .i64 0, .string ⟨#[]⟩, .int .i64 0, .int .i64 0, .int .i64 0, .int .i64 0, .int .i64 0] 54)).heap[w.heap.size + 1]? = some (.cells #[.int .i64 0, .int .i64 0, .string ⟨#[]⟩, .int .i64 0, .int .i64 0, .int .i64 0, .int .i64 0, .int .i64 0] 54 (0, 0)) := by
    have h1 : (w.alloc (.cells #[.int .i64 s.f0, .int .i64 s.f1, .string s.f2.f0, .int .i64 s.f2.f1, .int .i64 s.f2.f2, .int .i64 s.f3, .int .i64 s.f4, .int .i64 s.f5] 54 (0, 0))).heap.size = w.heap.size + 1 := by simp
    rw [h1] at hy2
    exact hy2
  have HB2 := Aside0.mk hb2
  have HX2 := Aside0.mk hx2
  have HY2 := Aside0.mk hy2'
  have HR := Aside0.mk hr0
  have HBc := Aside0.mk hB
  clear hb2 hx2 hy2 hy2' hr0 hB hany
  unfold ev54
  go_enter Tryd.func35, Tryd.ntmps35
  go_wp2
  generalize (w.alloc (.cells #[.int .i64 s.f0, .int .i64 s.f1, .string s.f2.f0, .int .i64 s.f2.f1, .int .i64 s.f2.f2, .int .i64 s.f3, .int .i64 s.f4, .int .i64 s.f5] 54)).alloc (.cells #[.int .i64 0, .int .i64 0, .string ⟨#[]⟩, .int .i64 0, .int .i64 0, .int .i64 0, .int .i64 0, .int .i64 0] 54) = w2 at HB2 HX2 HY2 ⊢
  have hq0 : w2.cell? ⟨w.heap.size, 0, none⟩ = some (.int .i64 s.f0) := (blk_cell HX2.out 0).trans rfl
  have hq1 : w2.cell? ⟨w.heap.size, 1, none⟩ = some (.int .i64 s.f1) := (blk_cell HX2.out 1).trans rfl
  have hqB : w2.cell? ⟨B, 0, none⟩ = some (.slice A0 l0.length c0) := pw_cell_below HB2.out HBc.out
  have hcall := if36_37 A0 c0 l0 s.f0 s.f1 w.heap.size w2.drew (Kd.C_below HR.out HB2.out.drew) hq0 hq1
  change Calls Tryd.prog 36 _ _ (fun e w' => e = .returned (.int .i64 (idx54 (sameB s) l0)) ∧ _) at hcall
  obtain ⟨n, hn⟩ : ∃ n, n = idx54 (sameB s) l0 := ⟨_, rfl⟩
  rw [← hn] at hix hix2 hcall
  have HN := Aside0.mk hn
  clear hn
  have HC := Aside0.mk hcall
  clear hcall hq0 hq1
  obtain ⟨ad0, e0, hw0, hw1, hw2, hw3, hw4, hw5, hw6, hw7⟩ := at_T54 (Kd.C_below HR.out HB2.out) n hix hix2
  cases e0
  go_region_with (first | (go_at_call 36; go_loud (refine HC.out.mono ?_; rintro e w3 ⟨rfl, hb3⟩; have HB3 := Aside0.mk (below_step HB2.out.drew hb3); have hy3 := blk_below (w := w2.drew) HY2.out hb3; obtain ⟨ad, e, hx0, hx1, hx2, hx3, hx4, hx5, hx6, hx7⟩ := at_T54 (Kd.C_below HR.out HB3.out) n hix hix2; cases e; have hqB3 := pw_cell_below HB3.out HBc.out; have HY3 := Aside0.mk hy3; clear hb3; have hc0 := (blk_cell hy3 0).trans rfl; have hf0 := blk_frozen hy3 0; have hc1 := (blk_cell hy3 1).trans rfl; have hf1 := blk_frozen hy3 1; have hc2 := (blk_cell hy3 2).trans rfl; have hf2 := blk_frozen hy3 2; have hc3 := (blk_cell hy3 3).trans rfl; have hf3 := blk_frozen hy3 3; have hc4 := (blk_cell hy3 4).trans rfl; have hf4 := blk_frozen hy3 4; have hc5 := (blk_cell hy3 5).trans rfl; have hf5 := blk_frozen hy3 5; have hc6 := (blk_cell hy3 6).trans rfl; have hf6 := blk_frozen hy3 6; have hc7 := (blk_cell hy3 7).trans rfl; have hf7 := blk_frozen hy3 7; clear hy3)))
  all_goals
    go_wp2
    have hy4 := (blk_put (blk_put (blk_put (blk_put (blk_put (blk_put (blk_put (blk_put HY3.out 0 (.int .i64 (rd_T54 l0 n).f0) (show _ = #[.int .i64 (rd_T54 l0 n).f0, .int .i64 0, .string ⟨#[]⟩, .int .i64 0, .int .i64 0, .int .i64 0, .int .i64 0, .int .i64 0] from rfl)) 1 (.int .i64 (rd_T54 l0 n).f1) (show _ = #[.int .i64 (rd_T54 l0 n).f0, .int .i64 (rd_T54 l0 n).f1, .string ⟨#[]⟩, .int .i64 0, .int .i64 0, .int .i64 0, .int .i64 0, .int .i64 0] from rfl)) 2 (.string (rd_T54 l0 n).f2.f0) (show _ = #[.int .i64 (rd_T54 l0 n).f0, .int .i64 (rd_T54 l0 n).f1, .string (rd_T54 l0 n).f2.f0, .int .i64 0, .int .i64 0, .int .i64 0, .int .i64 0, .int .i64 0] from rfl)) 3 (.int .i64 (rd_T54 l0 n).f2.f1) (show _ = #[.int .i64 (rd_T54 l0 n).f0, .int .i64 (rd_T54 l0 n).f1, .string (rd_T54 l0 n).f2.f0, .int .i64 (rd_T54 l0 n).f2.f1, .int .i64 0, .int .i64 0, .int .i64 0, .int .i64 0] from rfl)) 4 (.int .i64 (rd_T54 l0 n).f2.f2) (show _ = #[.int .i64 (rd_T54 l0 n).f0, .int .i64 (rd_T54 l0 n).f1, .string (rd_T54 l0 n).f2.f0, .int .i64 (rd_T54 l0 n).f2.f1, .int .i64 (rd_T54 l0 n).f2.f2, .int .i64 0, .int .i64 0, .int .i64 0] from rfl)) 5 (.int .i64 (rd_T54 l0 n).f3) (show _ = #[.int .i64 (rd_T54 l0 n).f0, .int .i64 (rd_T54 l0 n).f1, .string (rd_T54 l0 n).f2.f0, .int .i64 (rd_T54 l0 n).f2.f1, .int .i64 (rd_T54 l0 n).f2.f2, .int .i64 (rd_T54 l0 n).f3, .int .i64 0, .int .i64 0] from rfl)) 6 (.int .i64 (rd_T54 l0 n).f4) (show _ = #[.int .i64 (rd_T54 l0 n).f0, .int .i64 (rd_T54 l0 n).f1, .string (rd_T54 l0 n).f2.f0, .int .i64 (rd_T54 l0 n).f2.f1, .int .i64 (rd_T54 l0 n).f2.f2, .int .i64 (rd_T54 l0 n).f3, .int .i64 (rd_T54 l0 n).f4, .int .i64 0] from rfl)) 7 (.int .i64 (rd_T54 l0 n).f5) (show _ = #[.int .i64 (rd_T54 l0 n).f0, .int .i64 (rd_T54 l0 n).f1, .string (rd_T54 l0 n).f2.f0, .int .i64 (rd_T54 l0 n).f2.f1, .int .i64 (rd_T54 l0 n).f2.f2, .int .i64 (rd_T54 l0 n).f3, .int .i64 (rd_T54 l0 n).f4, .int .i64 (rd_T54 l0 n).f5] from rfl))
    have hb4 := (below_set (g := w.heap.size + 1) (j := 7) (v := .int .i64 (rd_T54 l0 n).f5) (below_set (g := w.heap.size + 1) (j := 6) (v := .int .i64 (rd_T54 l0 n).f4) (below_set (g := w.heap.size + 1) (j := 5) (v := .int .i64 (rd_T54 l0 n).f3) (below_set (g := w.heap.size + 1) (j := 4) (v := .int .i64 (rd_T54 l0 n).f2.f2) (below_set (g := w.heap.size + 1) (j := 3) (v := .int .i64 (rd_T54 l0 n).f2.f1) (below_set (g := w.heap.size + 1) (j := 2) (v := .string (rd_T54 l0 n).f2.f0) (below_set (g := w.heap.size + 1) (j := 1) (v := .int .i64 (rd_T54 l0 n).f1) (below_set (g := w.heap.size + 1) (j := 0) (v := .int .i64 (rd_T54 l0 n).f0) HB3.out (Nat.le_add_right _ _)) (Nat.le_add_right _ _)) (Nat.le_add_right _ _)) (Nat.le_add_right _ _)) (Nat.le_add_right _ _)) (Nat.le_add_right _ _)) (Nat.le_add_right _ _)) (Nat.le_add_right _ _))
    clear hc0 hf0 hx0 hc1 hf1 hx1 hc2 hf2 hx2 hc3 hf3 hx3 hc4 hf4 hx4 hc5 hf5 hx5 hc6 hf6 hx6 hc7 hf7 hx7
    generalize World.setCell _ _ _ = w4 at hy4 hb4 ⊢
    have hz0 := (blk_cell hy4 0).trans (show _ = some (.int .i64 (rd_T54 l0 n).f0) from rfl)
    have hz1 := (blk_cell hy4 1).trans (show _ = some (.int .i64 (rd_T54 l0 n).f1) from rfl)
    have hz2 := (blk_cell hy4 2).trans (show _ = some (.string (rd_T54 l0 n).f2.f0) from rfl)
    have hz3 := (blk_cell hy4 3).trans (show _ = some (.int .i64 (rd_T54 l0 n).f2.f1) from rfl)
    have hz4 := (blk_cell hy4 4).trans (show _ = some (.int .i64 (rd_T54 l0 n).f2.f2) from rfl)
    have hz5 := (blk_cell hy4 5).trans (show _ = some (.int .i64 (rd_T54 l0 n).f3) from rfl)
    have hz6 := (blk_cell hy4 6).trans (show _ = some (.int .i64 (rd_T54 l0 n).f4) from rfl)
    have hz7 := (blk_cell hy4 7).trans (show _ = some (.int .i64 (rd_T54 l0 n).f5) from rfl)
    clear hy4
    refine bodyPost_ret (v := .agg #[.int .i64 (rd_T54 l0 n).f0, .int .i64 (rd_T54 l0 n).f1, .string (rd_T54 l0 n).f2.f0, .int .i64 (rd_T54 l0 n).f2.f1, .int .i64 (rd_T54 l0 n).f2.f2, .int .i64 (rd_T54 l0 n).f3, .int .i64 (rd_T54 l0 n).f4, .int .i64 (rd_T54 l0 n).f5]) (by simp [results, Tryd.results35, go_sem, hz0, hz1, hz2, hz3, hz4, hz5, hz6, hz7]) rfl ?_
    exact ⟨by rw [HN.out], hb4⟩


attribute [local go_sem ↓] Go.wp_at_zero Go.wp_at_succ

/-- x is ahead of y in a, and not so in b. -/
def lostB (b : List S54) (x y : S54) : Bool := aheadB x y && !(aheadB (inB b x) (inB b y))
def widerB (a b : List S54) : Bool := a.all fun x => a.all fun y => !(lostB b x y)
def hist_Wider.g (l0 l1 : List S37) (qa qb : List S54 × Bool) : Option (Bool × Int) :=
  if (qa.2 && qb.2) = false then some (false, 1)
  else if alikeB l0 l1 = false then some (false, 0)
  else if (qa.1.all fun x => qb.1.any (sameB x)) = true then some (widerB qa.1 qb.1, 0) else none
def hist_Wider.f (l0 : List S37) (l1 : List S37) : Option (Bool × Int) :=
  if l0.length < 2199023255552 ∧ l1.length < 2199023255552 then
    (hist_spans.f l0).bind fun qa => (hist_spans.f l1).bind fun qb => hist_Wider.g l0 l1 qa qb
  else none

theorem rdw54_drop {l0 : List S54} {k : Nat} (h : k < l0.length) : l0.drop k = rd_T54 l0 (k : Int) :: l0.drop (k + 1) := by
  rw [List.drop_eq_getElem_cons h]
  simp [rd_T54, List.getD_eq_getElem?_getD, List.getElem?_eq_getElem h]
theorem rdw54_mem {l0 : List S54} {k : Nat} (h : k < l0.length) : rd_T54 l0 (k : Int) ∈ l0 := by
  have : rd_T54 l0 (k : Int) = l0[k] := by simp [rd_T54, List.getD_eq_getElem?_getD, List.getElem?_eq_getElem h]
  rw [this]
  exact List.getElem_mem _

/-- A closure's call, run. -/
theorem clo35_run {P : Program} {oi : Oper} {a : Act} {w : World} {t : Tmp} {ars : Array Operand} {ts : Array TypeId} {bs xs : Array Value} (hop : oi.op = .call { callee := .value (.tmp t), args := ars, argTypes := ts }) (ht : a.eval (.tmp t) = .func (.func 35) #[] bs) (hargs : ars.map a.eval ++ bs = xs)
    (he : (callFunc 35 xs).run P w = .ok (.enter 35 xs) w) : (execOp a.eval oi).run P w = .ok (.enter 35 xs) w := by
  unfold execOp
  simp [hop, resolve, ht, Deferred.ofValue, invoke, hargs, he]

set_option maxHeartbeats 16000000 in
set_option maxRecDepth 100000 in
theorem hist_Wider.calls (A0 : Option Addr) (c0 : Nat) (l0 : List S37) (A1 : Option Addr) (c1 : Nat) (l1 : List S37) (r1 : Bool) (r2 : Int) (w : World) (hr0 : Kd.C k37 w A0 l0.length l0) (hc0 : l0.length ≤ c0) (hr1 : Kd.C k37 w A1 l1.length l1) (hc1 : l1.length ≤ c1) (h : hist_Wider.f l0 l1 = some (r1, r2)) :
    Calls Tryd.prog 18 #[.slice A0 l0.length c0, .slice A1 l1.length c1] w fun e w' => e = .returned (.tuple #[.bool r1, .int .i64 r2]) ∧ Below w.heap.size w w' := by
  unfold hist_Wider.f at h
  split at h
  case isFalse => cases h
  case isTrue hlen =>
  obtain ⟨⟨a, oa⟩, hsp, h⟩ := Option.bind_eq_some_iff.1 h
  obtain ⟨⟨b, ob⟩, hsq, h⟩ := Option.bind_eq_some_iff.1 h
  unfold hist_Wider.g at h
  dsimp only at h
  have hs0 := hist_spans.calls A0 c0 l0 a oa w hr0 hc0 hsp
  have hs1 : ∀ w', Below w.heap.size w w' → Calls Tryd.prog 30 #[.slice A1 l1.length c1] w' fun e w'' => ∃ v0_ : Value, e = .returned (.tuple #[v0_, .bool ob]) ∧ Kd.R k54 54 w'' w'.heap.size (fun _ => True) v0_ b ∧ Below w'.heap.size w' w'' := fun w' hb => hist_spans.calls A1 c1 l1 b ob w' (Kd.C_below hr1 hb) hc1 hsq
  have hal : ∀ w', Below w.heap.size w w' → Calls Tryd.prog 34 #[.slice A0 l0.length c0, .slice A1 l1.length c1] w' fun e w'' => e = .returned (.bool (alikeB l0 l1)) ∧ Below w'.heap.size w' w'' := fun w' hb => hist_alike.calls (l0.length + 6) A0 c0 l0 A1 c1 l1 _ w' (Kd.C_below hr0 hb) hc0 (Kd.C_below hr1 hb) hc1 (hist_alike_eq _ l0 l1 hlen.1 hlen.2 (Nat.lt_succ_self _))
  have HS1 := Aside0.mk hs1
  have HAL := Aside0.mk hal
  clear hs1 hal hr0 hr1 hc0 hc1 hsp hsq
  cases oa with
  | false =>
    have hres : r1 = false ∧ r2 = 1 := by
      rw [if_pos (by cases ob <;> rfl)] at h
      injection h with h
      injection h with h1 h2
      exact ⟨h1.symm, h2.symm⟩
    obtain ⟨rfl, rfl⟩ := hres
    clear h
    go_enter Tryd.func18, Tryd.ntmps18
    go_wp2_with (go_at_call 30; go_loud (first | (refine hs0.mono ?_; rintro e w1 ⟨v0, rfl, hl, hb⟩; obtain ⟨Aa, ca, rfl, _⟩ := Kd.R_reads hl; have HB1 := Aside0.mk hb; clear hb hl hs0) | (refine (HS1.out _ HB1.out).mono ?_; rintro e w2 ⟨v1, rfl, hl, hb⟩; obtain ⟨Ab, cb, rfl, _⟩ := Kd.R_reads hl; have HB2 := Aside0.mk (below_step HB1.out hb); clear hb hl)))
    refine bodyPost_ret (v := .tuple #[.bool false, .int .i64 1]) (by simp [results, Tryd.results18, go_sem]) rfl ?_
    exact ⟨rfl, (HB2.out.alloc HB2.out.size _)⟩
  | true =>
  cases ob with
  | false =>
    rw [if_pos (show (true && false) = false from rfl)] at h
    injection h with h
    injection h with h1 h2
    subst h1; subst h2
    go_enter Tryd.func18, Tryd.ntmps18
    go_wp2_with (go_at_call 30; go_loud (first | (refine hs0.mono ?_; rintro e w1 ⟨v0, rfl, hl, hb⟩; obtain ⟨Aa, ca, rfl, _⟩ := Kd.R_reads hl; have HB1 := Aside0.mk hb; clear hb hl hs0) | (refine (HS1.out _ HB1.out).mono ?_; rintro e w2 ⟨v1, rfl, hl, hb⟩; obtain ⟨Ab, cb, rfl, _⟩ := Kd.R_reads hl; have HB2 := Aside0.mk (below_step HB1.out hb); clear hb hl)))
    refine bodyPost_ret (v := .tuple #[.bool false, .int .i64 1]) (by simp [results, Tryd.results18, go_sem]) rfl ?_
    exact ⟨rfl, (HB2.out.alloc HB2.out.size _)⟩
  | true =>
  cases hae : alikeB l0 l1 with
  | false =>
    rw [if_neg (by decide), if_pos hae] at h
    have hal := HAL.out
    rw [hae] at hal
    have HAL2 := Aside0.mk hal
    clear hal HAL hae
    injection h with h
    injection h with h1 h2
    subst h1; subst h2
    go_enter Tryd.func18, Tryd.ntmps18
    go_wp2_with (first | (go_at_call 30; go_loud (first | (refine hs0.mono ?_; rintro e w1 ⟨v0, rfl, hl, hb⟩; obtain ⟨Aa, ca, rfl, _⟩ := Kd.R_reads hl; have HB1 := Aside0.mk hb; clear hb hl hs0) | (refine (HS1.out _ HB1.out).mono ?_; rintro e w2 ⟨v1, rfl, hl, hb⟩; obtain ⟨Ab, cb, rfl, _⟩ := Kd.R_reads hl; have HB2 := Aside0.mk (below_step HB1.out hb); clear hb hl))) | (go_at_call 34; go_loud (refine (HAL2.out _ (HB2.out.alloc HB2.out.size _)).mono ?_; rintro e w3 ⟨rfl, hb⟩; have HB3 := Aside0.mk (below_step (HB2.out.alloc HB2.out.size _) hb); clear hb)))
    refine bodyPost_ret (v := .tuple #[.bool false, .int .i64 0]) (by simp [results, Tryd.results18, go_sem]) rfl ?_
    exact ⟨rfl, HB3.out⟩
  | true =>
    rw [if_neg (by decide), if_neg (by rw [hae]; decide)] at h
    have hal := HAL.out
    rw [hae] at hal
    have HAL2 := Aside0.mk hal
    clear hal HAL hae
    split at h
    case isFalse => cases h
    case isTrue hany =>
    injection h with h
    injection h with h1 h2
    subst h2
    have HANY := Aside0.mk hany
    have H1 := Aside0.mk h1
    clear hany h1
    go_enter Tryd.func18, Tryd.ntmps18
    go_wp2_with (first | (go_at_call 30; go_loud (first | (refine hs0.mono ?_; rintro e w1 ⟨v0, rfl, hl, hb⟩; obtain ⟨Aa, ca, rfl, _⟩ := Kd.R_reads hl; have HLA := Aside0.mk hl; have HB1 := Aside0.mk hb; clear hb hl hs0) | (refine (HS1.out _ HB1.out).mono ?_; rintro e w2 ⟨v1, rfl, hl, hb⟩; obtain ⟨Ab, cb, rfl, _⟩ := Kd.R_reads hl; have HLB := Aside0.mk hl; have HLA2 := Aside0.mk (Kd.R_below HLA.out hb); have HB2 := Aside0.mk (below_step HB1.out hb); clear hb hl HLA HB1))) | (go_at_call 34; go_loud (refine (HAL2.out _ (HB2.out.alloc HB2.out.size _)).mono ?_; rintro e w3 ⟨rfl, hb⟩; have HB3 := Aside0.mk (below_step (HB2.out.alloc HB2.out.size _) hb); have HLA3 := Aside0.mk (Kd.R_below HLA2.out (below_step ((Below.refl _ _).alloc (Nat.le_refl _) _) hb)); have HLB3 := Aside0.mk (Kd.R_below HLB.out (below_step ((Below.refl _ _).alloc (Nat.le_refl _) _) hb)); have HX3 := Aside0.mk (blk_below (blk_new w2 (.cells #[.slice Ab b.length cb] 49 (0, 0))) hb); clear hb HLA2 HLB HB2)))
    clear HAL2 HS1
    have habig : a.length ≤ 9223372036854775807 := Kd.C_max (Kd.R_reads' HLA3.out).2.2
    have HLT := Aside0.mk (blk_lt HX3.out)
    go_loopg [38] a.length (fun gg s38 wr => ∃ (i : Nat), i ≤ a.length ∧ a.length - i ≤ gg ∧ s38 = .int .i64 i ∧ Aside0 ((a.drop i).all (fun x => a.all fun y => !(lostB b x y)) = r1) ∧ Aside0 (Below w3.heap.size w3 wr))
    case atStart => exact ⟨0, Nat.zero_le _, by omega, rfl, H1, ⟨Below.refl _ _⟩⟩
    case round =>
      clear H1
      obtain ⟨i, hin, hig, rfl, HF, HBo⟩ := hrel
      by_cases hi : i < a.length
      · have hiz : (i : Int) < (a.length : Int) := by omega
        have hiz0 : 0 ≤ (i : Int) := by omega
        have hF := HF.out
        rw [rdw54_drop hi, List.all_cons] at hF
        have hm := rdw54_mem hi
        obtain ⟨ada, e, hx0, hx1, hx2, hx3, hx4, hx5, hx6, hx7⟩ := at_T54 (Kd.C_below (Kd.R_reads' HLA3.out).2.2 HBo.out) (i : Int) hiz0 hiz
        cases e
        simp only [Int.toNat_natCast] at hx0 hx1 hx2 hx3 hx4 hx5 hx6 hx7
        generalize rd_T54 a (i : Int) = x at hx0 hx1 hx2 hx3 hx4 hx5 hx6 hx7 hF hm
        have HF1 := Aside0.mk hF
        have HM := Aside0.mk hm
        clear hF hm HF
        have hbo1 := below_step HBo.out ((Below.refl wr.heap.size wr).alloc (Nat.le_refl _) (.cells #[.int .i64 x.f0, .int .i64 x.f1, .string x.f2.f0, .int .i64 x.f2.f1, .int .i64 x.f2.f2, .int .i64 x.f3, .int .i64 x.f4, .int .i64 x.f5] 54 (0, 0)))
        have hbx1 := blk_new wr (.cells #[.int .i64 x.f0, .int .i64 x.f1, .string x.f2.f0, .int .i64 x.f2.f1, .int .i64 x.f2.f2, .int .i64 x.f3, .int .i64 x.f4, .int .i64 x.f5] 54 (0, 0))
        have HBo1 := Aside0.mk hbo1
        have HBX1 := Aside0.mk hbx1
        clear hbo1 hbx1 HBo
        go_wp2
        generalize wr.alloc (.cells #[.int .i64 x.f0, .int .i64 x.f1, .string x.f2.f0, .int .i64 x.f2.f1, .int .i64 x.f2.f2, .int .i64 x.f3, .int .i64 x.f4, .int .i64 x.f5] 54 (0, 0)) = wq at HBo1 HBX1 ⊢
        generalize hbxn : wr.heap.size = bx at HBX1 ⊢
        clear hbxn hx0 hx1 hx2 hx3 hx4 hx5 hx6 hx7
        go_loopg [44] a.length (fun gg s44 wr => ∃ (j : Nat), j ≤ a.length ∧ a.length - j ≤ gg ∧ s44 = .int .i64 j ∧ Aside0 (((a.drop j).all (fun y => !(lostB b x y)) && (a.drop (i + 1)).all (fun x => a.all fun y => !(lostB b x y))) = r1) ∧ Aside0 (Below w3.heap.size w3 wr) ∧ Aside0 (wr.heap[bx]? = some (.cells #[.int .i64 x.f0, .int .i64 x.f1, .string x.f2.f0, .int .i64 x.f2.f1, .int .i64 x.f2.f2, .int .i64 x.f3, .int .i64 x.f4, .int .i64 x.f5] 54 (0, 0))))
        case atStart => exact ⟨0, Nat.zero_le _, by omega, rfl, HF1, HBo1, HBX1⟩
        case round =>
          clear HF1 HBo1 HBX1
          obtain ⟨j, hjn, hjg, rfl, HFj, HBj, HBXj⟩ := hrel
          by_cases hj : j < a.length
          · have hjz : (j : Int) < (a.length : Int) := by omega
            have hjz0 : 0 ≤ (j : Int) := by omega
            obtain ⟨adb, e, hx0, hx1, hx2, hx3, hx4, hx5, hx6, hx7⟩ := at_T54 (Kd.C_below (Kd.R_reads' HLA3.out).2.2 HBj.out) (j : Int) hjz0 hjz
            cases e
            simp only [Int.toNat_natCast] at hx0 hx1 hx2 hx3 hx4 hx5 hx6 hx7
            have hF := HFj.out
            rw [rdw54_drop hj, List.all_cons] at hF
            have hm := rdw54_mem hj
            generalize rd_T54 a (j : Int) = y at hx0 hx1 hx2 hx3 hx4 hx5 hx6 hx7 hF hm
            have hbp := below_step HBj.out ((Below.refl wr.heap.size wr).alloc (Nat.le_refl _) (.cells #[.int .i64 y.f0, .int .i64 y.f1, .string y.f2.f0, .int .i64 y.f2.f1, .int .i64 y.f2.f2, .int .i64 y.f3, .int .i64 y.f4, .int .i64 y.f5] 54 (0, 0)))
            have hbyp := blk_new wr (.cells #[.int .i64 y.f0, .int .i64 y.f1, .string y.f2.f0, .int .i64 y.f2.f1, .int .i64 y.f2.f2, .int .i64 y.f3, .int .i64 y.f4, .int .i64 y.f5] 54 (0, 0))
            have hbxp := blk_alloc HBXj.out (.cells #[.int .i64 y.f0, .int .i64 y.f1, .string y.f2.f0, .int .i64 y.f2.f1, .int .i64 y.f2.f2, .int .i64 y.f3, .int .i64 y.f4, .int .i64 y.f5] 54 (0, 0))
            have HBp := Aside0.mk hbp
            have HBYp := Aside0.mk hbyp
            have HBXp := Aside0.mk hbxp
            have hin : ∀ s ∈ a, ∀ w', Below w3.heap.size w3 w' → Calls Tryd.prog 35 #[ev54 s, .pointer (some ⟨w2.heap.size, 0, none⟩)] w' fun e w'' => e = .returned (ev54 (inB b s)) ∧ Below w'.heap.size w' w'' := fun s hs w' hb => in35_calls Ab cb b s w2.heap.size w' (Kd.C_below (Kd.R_reads' HLB3.out).2.2 hb) (pw_cell_below hb ((blk_cell HX3.out 0).trans rfl)) ((List.all_eq_true.1 HANY.out) s hs)
            have hIX := hin x HM.out
            have hIY := hin y hm
            unfold ev54 at hIX hIY
            have HIX := Aside0.mk hIX
            have HIY := Aside0.mk hIY
            clear hIX hIY
            clear hbp hbyp hbxp hin hm HBj HBXj
            go_wp2
            generalize wr.alloc (.cells #[.int .i64 y.f0, .int .i64 y.f1, .string y.f2.f0, .int .i64 y.f2.f1, .int .i64 y.f2.f2, .int .i64 y.f3, .int .i64 y.f4, .int .i64 y.f5] 54 (0, 0)) = wp at HBp HBYp HBXp ⊢
            generalize hbyn : wr.heap.size = by_ at HBYp ⊢
            clear hbyn hx0 hx1 hx2 hx3 hx4 hx5 hx6 hx7
            have hA1 : ∀ w', Calls Tryd.prog 38 #[ev54 x, ev54 y] w' fun e w'' => e = .returned (.bool (aheadB x y)) ∧ Below w'.heap.size w' w'' := fun w' => ah38_calls x y w'
            unfold ev54 at hA1
            have qx0 : wp.cell? ⟨bx, 0, none⟩ = some (.int .i64 x.f0) := (blk_cell HBXp.out 0).trans rfl
            have qx1 : wp.cell? ⟨bx, 1, none⟩ = some (.int .i64 x.f1) := (blk_cell HBXp.out 1).trans rfl
            have qx2 : wp.cell? ⟨bx, 2, none⟩ = some (.string x.f2.f0) := (blk_cell HBXp.out 2).trans rfl
            have qx3 : wp.cell? ⟨bx, 3, none⟩ = some (.int .i64 x.f2.f1) := (blk_cell HBXp.out 3).trans rfl
            have qx4 : wp.cell? ⟨bx, 4, none⟩ = some (.int .i64 x.f2.f2) := (blk_cell HBXp.out 4).trans rfl
            have qx5 : wp.cell? ⟨bx, 5, none⟩ = some (.int .i64 x.f3) := (blk_cell HBXp.out 5).trans rfl
            have qx6 : wp.cell? ⟨bx, 6, none⟩ = some (.int .i64 x.f4) := (blk_cell HBXp.out 6).trans rfl
            have qx7 : wp.cell? ⟨bx, 7, none⟩ = some (.int .i64 x.f5) := (blk_cell HBXp.out 7).trans rfl
            have qy0 : wp.cell? ⟨by_, 0, none⟩ = some (.int .i64 y.f0) := (blk_cell HBYp.out 0).trans rfl
            have qy1 : wp.cell? ⟨by_, 1, none⟩ = some (.int .i64 y.f1) := (blk_cell HBYp.out 1).trans rfl
            have qy2 : wp.cell? ⟨by_, 2, none⟩ = some (.string y.f2.f0) := (blk_cell HBYp.out 2).trans rfl
            have qy3 : wp.cell? ⟨by_, 3, none⟩ = some (.int .i64 y.f2.f1) := (blk_cell HBYp.out 3).trans rfl
            have qy4 : wp.cell? ⟨by_, 4, none⟩ = some (.int .i64 y.f2.f2) := (blk_cell HBYp.out 4).trans rfl
            have qy5 : wp.cell? ⟨by_, 5, none⟩ = some (.int .i64 y.f3) := (blk_cell HBYp.out 5).trans rfl
            have qy6 : wp.cell? ⟨by_, 6, none⟩ = some (.int .i64 y.f4) := (blk_cell HBYp.out 6).trans rfl
            have qy7 : wp.cell? ⟨by_, 7, none⟩ = some (.int .i64 y.f5) := (blk_cell HBYp.out 7).trans rfl
            cases hp : aheadB x y with
            | false =>
              rw [hp] at hA1
              have hlost : lostB b x y = false := by unfold lostB; rw [hp]; rfl
              rw [hlost] at hF
              have HA1 := Aside0.mk hA1
              have HF2 := Aside0.mk hF
              clear hA1 hF hlost hp HFj
              refine start_ (n := 13) (S := fun w' => w'.cell? ⟨bx, 0, none⟩ = some (.int .i64 x.f0) ∧ w'.cell? ⟨bx, 1, none⟩ = some (.int .i64 x.f1) ∧ w'.cell? ⟨bx, 2, none⟩ = some (.string x.f2.f0) ∧ w'.cell? ⟨bx, 3, none⟩ = some (.int .i64 x.f2.f1) ∧ w'.cell? ⟨bx, 4, none⟩ = some (.int .i64 x.f2.f2) ∧ w'.cell? ⟨bx, 5, none⟩ = some (.int .i64 x.f3) ∧ w'.cell? ⟨bx, 6, none⟩ = some (.int .i64 x.f4) ∧ w'.cell? ⟨bx, 7, none⟩ = some (.int .i64 x.f5) ∧ w'.cell? ⟨by_, 0, none⟩ = some (.int .i64 y.f0) ∧ w'.cell? ⟨by_, 1, none⟩ = some (.int .i64 y.f1) ∧ w'.cell? ⟨by_, 2, none⟩ = some (.string y.f2.f0) ∧ w'.cell? ⟨by_, 3, none⟩ = some (.int .i64 y.f2.f1) ∧ w'.cell? ⟨by_, 4, none⟩ = some (.int .i64 y.f2.f2) ∧ w'.cell? ⟨by_, 5, none⟩ = some (.int .i64 y.f3) ∧ w'.cell? ⟨by_, 6, none⟩ = some (.int .i64 y.f4) ∧ w'.cell? ⟨by_, 7, none⟩ = some (.int .i64 y.f5)) (ds := []) #[false, false, false, false, false, false, false, false, false, false, false, false, false] (by kernel_rfl) rfl rfl ⟨qx0, qx1, qx2, qx3, qx4, qx5, qx6, qx7, qy0, qy1, qy2, qy3, qy4, qy5, qy6, qy7⟩ (fun hHeld => ?_)
              refine take_ (i := 0) (N := some 48) (v := ?_) (a' := ?_) #[true, false, false, false, false, false, false, false, false, false, false, false, false] rfl rfl (by kernel_rfl) (fun _ _ _ h => h) (Or.inl ⟨by rfl, ?_⟩) hHeld ?_ ?_
              rotate_left
              · rintro w' ⟨s0, s1, s2, s3, s4, s5, s6, s7, s8, s9, s10, s11, s12, s13, s14, s15⟩
                go_simp
                with_reducible rfl
              rotate_left
              · simp only [Act.put, List.setIfInBounds_toArray, List.set_cons_zero, List.set_cons_succ, i64_w, i32_w]
                rfl
              refine take_ (i := 1) (N := some 49) (v := ?_) (a' := ?_) #[true, true, false, false, false, false, false, false, false, false, false, false, false] rfl rfl (by kernel_rfl) (fun _ _ _ h => h) (Or.inl ⟨by rfl, ?_⟩) hHeld ?_ ?_
              rotate_left
              · rintro w' ⟨s0, s1, s2, s3, s4, s5, s6, s7, s8, s9, s10, s11, s12, s13, s14, s15⟩
                go_simp
                with_reducible rfl
              rotate_left
              · simp only [Act.put, List.setIfInBounds_toArray, List.set_cons_zero, List.set_cons_succ, i64_w, i32_w]
                rfl
              refine one_ (i := 2) (N := some 50) #[true, true, true, false, false, false, false, false, false, false, false, false, false] rfl rfl (by kernel_rfl) (by decide) (fun K hK => ?_)
              refine goes_ Tryd.func38 (by kernel_rfl) rfl #[.agg #[.int .i64 x.f0, .int .i64 x.f1, .string x.f2.f0, .int .i64 x.f2.f1, .int .i64 x.f2.f2, .int .i64 x.f3, .int .i64 x.f4, .int .i64 x.f5], .agg #[.int .i64 y.f0, .int .i64 y.f1, .string y.f2.f0, .int .i64 y.f2.f1, .int .i64 y.f2.f2, .int .i64 y.f3, .int .i64 y.f4, .int .i64 y.f5]] (by rfl) rfl rfl (by simp only [List.map_toArray, List.map_cons, List.map_nil]; rfl) ?_
              with_reducible refine (HA1.out _).mono ?_
              rintro e wA ⟨rfl, hb_⟩
              refine ⟨_, rfl, ?_⟩
              have HBwA := Aside0.mk (below_step HBp.out.drew hb_)
              have HBXwA := Aside0.mk (blk_below (w := wp.drew) HBXp.out hb_)
              have HBYwA := Aside0.mk (blk_below (w := wp.drew) HBYp.out hb_)
              clear hb_
              refine hK.out _ _ ⟨((blk_cell HBXwA.out 0).trans rfl), ((blk_cell HBXwA.out 1).trans rfl), ((blk_cell HBXwA.out 2).trans rfl), ((blk_cell HBXwA.out 3).trans rfl), ((blk_cell HBXwA.out 4).trans rfl), ((blk_cell HBXwA.out 5).trans rfl), ((blk_cell HBXwA.out 6).trans rfl), ((blk_cell HBXwA.out 7).trans rfl), ((blk_cell HBYwA.out 0).trans rfl), ((blk_cell HBYwA.out 1).trans rfl), ((blk_cell HBYwA.out 2).trans rfl), ((blk_cell HBYwA.out 3).trans rfl), ((blk_cell HBYwA.out 4).trans rfl), ((blk_cell HBYwA.out 5).trans rfl), ((blk_cell HBYwA.out 6).trans rfl), ((blk_cell HBYwA.out 7).trans rfl)⟩ (fun hHeld => ?_)
              clear hK K
              refine norm_ (a' := ?_) ?_ ?_
              rotate_left
              · show Act.put _ (some 50) _ = _
                simp only [Act.put, List.setIfInBounds_toArray, List.set_cons_zero, List.set_cons_succ, i64_w, i32_w]
                rfl
              refine pure_ (i := 3) (N := some 51) (v := ?_) (a' := ?_) #[true, true, true, true, false, false, false, false, false, false, false, false, false] rfl rfl (by kernel_rfl) (fun _ _ _ h => h) (Or.inl ⟨by rfl, ?_⟩) ?_ ?_
              rotate_left
              · intro w'
                go_simp
                with_reducible rfl
              rotate_left
              · simp only [Act.put, List.setIfInBounds_toArray, List.set_cons_zero, List.set_cons_succ, i64_w, i32_w]
                rfl
              refine pure_ (i := 4) (N := some 52) (v := undef) (a' := ?_) #[true, true, true, true, true, false, false, false, false, false, false, false, false] rfl rfl (by kernel_rfl) (fun _ _ _ h => h) (Or.inr ⟨by rfl, rfl⟩) ?_ ?_
              rotate_left
              · simp only [Act.put, List.setIfInBounds_toArray, List.set_cons_zero, List.set_cons_succ, i64_w, i32_w]
                rfl
              refine pure_ (i := 5) (N := some 53) (v := undef) (a' := ?_) #[true, true, true, true, true, true, false, false, false, false, false, false, false] rfl rfl (by kernel_rfl) (fun _ _ _ h => h) (Or.inr ⟨by rfl, rfl⟩) ?_ ?_
              rotate_left
              · simp only [Act.put, List.setIfInBounds_toArray, List.set_cons_zero, List.set_cons_succ, i64_w, i32_w]
                rfl
              refine pure_ (i := 6) (N := some 54) (v := undef) (a' := ?_) #[true, true, true, true, true, true, true, false, false, false, false, false, false] rfl rfl (by kernel_rfl) (fun _ _ _ h => h) (Or.inr ⟨by rfl, rfl⟩) ?_ ?_
              rotate_left
              · simp only [Act.put, List.setIfInBounds_toArray, List.set_cons_zero, List.set_cons_succ, i64_w, i32_w]
                rfl
              refine pure_ (i := 7) (N := some 55) (v := undef) (a' := ?_) #[true, true, true, true, true, true, true, true, false, false, false, false, false] rfl rfl (by kernel_rfl) (fun _ _ _ h => h) (Or.inr ⟨by rfl, rfl⟩) ?_ ?_
              rotate_left
              · simp only [Act.put, List.setIfInBounds_toArray, List.set_cons_zero, List.set_cons_succ, i64_w, i32_w]
                rfl
              refine pure_ (i := 8) (N := some 56) (v := undef) (a' := ?_) #[true, true, true, true, true, true, true, true, true, false, false, false, false] rfl rfl (by kernel_rfl) (fun _ _ _ h => h) (Or.inr ⟨by rfl, rfl⟩) ?_ ?_
              rotate_left
              · simp only [Act.put, List.setIfInBounds_toArray, List.set_cons_zero, List.set_cons_succ, i64_w, i32_w]
                rfl
              refine pure_ (i := 9) (N := some 57) (v := undef) (a' := ?_) #[true, true, true, true, true, true, true, true, true, true, false, false, false] rfl rfl (by kernel_rfl) (fun _ _ _ h => h) (Or.inr ⟨by rfl, rfl⟩) ?_ ?_
              rotate_left
              · simp only [Act.put, List.setIfInBounds_toArray, List.set_cons_zero, List.set_cons_succ, i64_w, i32_w]
                rfl
              refine pure_ (i := 10) (N := some 58) (v := undef) (a' := ?_) #[true, true, true, true, true, true, true, true, true, true, true, false, false] rfl rfl (by kernel_rfl) (fun _ _ _ h => h) (Or.inr ⟨by rfl, rfl⟩) ?_ ?_
              rotate_left
              · simp only [Act.put, List.setIfInBounds_toArray, List.set_cons_zero, List.set_cons_succ, i64_w, i32_w]
                rfl
              refine pure_ (i := 11) (N := some 59) (v := undef) (a' := ?_) #[true, true, true, true, true, true, true, true, true, true, true, true, false] rfl rfl (by kernel_rfl) (fun _ _ _ h => h) (Or.inr ⟨by rfl, rfl⟩) ?_ ?_
              rotate_left
              · simp only [Act.put, List.setIfInBounds_toArray, List.set_cons_zero, List.set_cons_succ, i64_w, i32_w]
                rfl
              refine pure_ (i := 12) (N := some 60) (v := ?_) (a' := ?_) #[true, true, true, true, true, true, true, true, true, true, true, true, true] rfl rfl (by kernel_rfl) (fun _ _ _ h => h) (Or.inl ⟨by rfl, ?_⟩) ?_ ?_
              rotate_left
              · intro w'
                go_simp
                with_reducible rfl
              rotate_left
              · simp only [Act.put, List.setIfInBounds_toArray, List.set_cons_zero, List.set_cons_succ, i64_w, i32_w]
                rfl
              refine done_ (by kernel_rfl) ?_
              go_wp2
              go_roundg (a.length - (j + 1))
              case measure => omega
              case rel => exact ⟨j + 1, by omega, Nat.le_refl _, by go_num, HF2, HBwA, HBXwA⟩
            | true =>
              rw [hp] at hA1
              have HA1 := Aside0.mk hA1
              have hA2 : ∀ w', Calls Tryd.prog 38 #[ev54 (inB b x), ev54 (inB b y)] w' fun e w'' => e = .returned (.bool (aheadB (inB b x) (inB b y))) ∧ Below w'.heap.size w' w'' := fun w' => ah38_calls _ _ w'
              unfold ev54 at hA2
              cases hp2 : aheadB (inB b x) (inB b y) with
              | false =>
                rw [hp2] at hA2
                have hlost : lostB b x y = true := by unfold lostB; rw [hp, hp2]; rfl
                rw [hlost] at hF
                have HA2 := Aside0.mk hA2
                have HF2 := Aside0.mk hF
                clear hA1 hA2 hF hlost hp hp2 HFj
                refine start_ (n := 13) (S := fun w' => w'.cell? ⟨bx, 0, none⟩ = some (.int .i64 x.f0) ∧ w'.cell? ⟨bx, 1, none⟩ = some (.int .i64 x.f1) ∧ w'.cell? ⟨bx, 2, none⟩ = some (.string x.f2.f0) ∧ w'.cell? ⟨bx, 3, none⟩ = some (.int .i64 x.f2.f1) ∧ w'.cell? ⟨bx, 4, none⟩ = some (.int .i64 x.f2.f2) ∧ w'.cell? ⟨bx, 5, none⟩ = some (.int .i64 x.f3) ∧ w'.cell? ⟨bx, 6, none⟩ = some (.int .i64 x.f4) ∧ w'.cell? ⟨bx, 7, none⟩ = some (.int .i64 x.f5) ∧ w'.cell? ⟨by_, 0, none⟩ = some (.int .i64 y.f0) ∧ w'.cell? ⟨by_, 1, none⟩ = some (.int .i64 y.f1) ∧ w'.cell? ⟨by_, 2, none⟩ = some (.string y.f2.f0) ∧ w'.cell? ⟨by_, 3, none⟩ = some (.int .i64 y.f2.f1) ∧ w'.cell? ⟨by_, 4, none⟩ = some (.int .i64 y.f2.f2) ∧ w'.cell? ⟨by_, 5, none⟩ = some (.int .i64 y.f3) ∧ w'.cell? ⟨by_, 6, none⟩ = some (.int .i64 y.f4) ∧ w'.cell? ⟨by_, 7, none⟩ = some (.int .i64 y.f5)) (ds := []) #[false, false, false, false, false, false, false, false, false, false, false, false, false] (by kernel_rfl) rfl rfl ⟨qx0, qx1, qx2, qx3, qx4, qx5, qx6, qx7, qy0, qy1, qy2, qy3, qy4, qy5, qy6, qy7⟩ (fun hHeld => ?_)
                refine take_ (i := 0) (N := some 48) (v := ?_) (a' := ?_) #[true, false, false, false, false, false, false, false, false, false, false, false, false] rfl rfl (by kernel_rfl) (fun _ _ _ h => h) (Or.inl ⟨by rfl, ?_⟩) hHeld ?_ ?_
                rotate_left
                · rintro w' ⟨s0, s1, s2, s3, s4, s5, s6, s7, s8, s9, s10, s11, s12, s13, s14, s15⟩
                  go_simp
                  with_reducible rfl
                rotate_left
                · simp only [Act.put, List.setIfInBounds_toArray, List.set_cons_zero, List.set_cons_succ, i64_w, i32_w]
                  rfl
                refine take_ (i := 1) (N := some 49) (v := ?_) (a' := ?_) #[true, true, false, false, false, false, false, false, false, false, false, false, false] rfl rfl (by kernel_rfl) (fun _ _ _ h => h) (Or.inl ⟨by rfl, ?_⟩) hHeld ?_ ?_
                rotate_left
                · rintro w' ⟨s0, s1, s2, s3, s4, s5, s6, s7, s8, s9, s10, s11, s12, s13, s14, s15⟩
                  go_simp
                  with_reducible rfl
                rotate_left
                · simp only [Act.put, List.setIfInBounds_toArray, List.set_cons_zero, List.set_cons_succ, i64_w, i32_w]
                  rfl
                refine one_ (i := 2) (N := some 50) #[true, true, true, false, false, false, false, false, false, false, false, false, false] rfl rfl (by kernel_rfl) (by decide) (fun K hK => ?_)
                refine goes_ Tryd.func38 (by kernel_rfl) rfl #[.agg #[.int .i64 x.f0, .int .i64 x.f1, .string x.f2.f0, .int .i64 x.f2.f1, .int .i64 x.f2.f2, .int .i64 x.f3, .int .i64 x.f4, .int .i64 x.f5], .agg #[.int .i64 y.f0, .int .i64 y.f1, .string y.f2.f0, .int .i64 y.f2.f1, .int .i64 y.f2.f2, .int .i64 y.f3, .int .i64 y.f4, .int .i64 y.f5]] (by rfl) rfl rfl (by simp only [List.map_toArray, List.map_cons, List.map_nil]; rfl) ?_
                with_reducible refine (HA1.out _).mono ?_
                rintro e wA ⟨rfl, hb_⟩
                refine ⟨_, rfl, ?_⟩
                have HBwA := Aside0.mk (below_step HBp.out.drew hb_)
                have HBXwA := Aside0.mk (blk_below (w := wp.drew) HBXp.out hb_)
                have HBYwA := Aside0.mk (blk_below (w := wp.drew) HBYp.out hb_)
                clear hb_
                refine hK.out _ _ ⟨((blk_cell HBXwA.out 0).trans rfl), ((blk_cell HBXwA.out 1).trans rfl), ((blk_cell HBXwA.out 2).trans rfl), ((blk_cell HBXwA.out 3).trans rfl), ((blk_cell HBXwA.out 4).trans rfl), ((blk_cell HBXwA.out 5).trans rfl), ((blk_cell HBXwA.out 6).trans rfl), ((blk_cell HBXwA.out 7).trans rfl), ((blk_cell HBYwA.out 0).trans rfl), ((blk_cell HBYwA.out 1).trans rfl), ((blk_cell HBYwA.out 2).trans rfl), ((blk_cell HBYwA.out 3).trans rfl), ((blk_cell HBYwA.out 4).trans rfl), ((blk_cell HBYwA.out 5).trans rfl), ((blk_cell HBYwA.out 6).trans rfl), ((blk_cell HBYwA.out 7).trans rfl)⟩ (fun hHeld => ?_)
                clear hK K
                refine norm_ (a' := ?_) ?_ ?_
                rotate_left
                · show Act.put _ (some 50) _ = _
                  simp only [Act.put, List.setIfInBounds_toArray, List.set_cons_zero, List.set_cons_succ, i64_w, i32_w]
                  rfl
                refine pure_ (i := 3) (N := some 51) (v := ?_) (a' := ?_) #[true, true, true, true, false, false, false, false, false, false, false, false, false] rfl rfl (by kernel_rfl) (fun _ _ _ h => h) (Or.inl ⟨by rfl, ?_⟩) ?_ ?_
                rotate_left
                · intro w'
                  go_simp
                  with_reducible rfl
                rotate_left
                · simp only [Act.put, List.setIfInBounds_toArray, List.set_cons_zero, List.set_cons_succ, i64_w, i32_w]
                  rfl
                refine pure_ (i := 4) (N := some 52) (v := ?_) (a' := ?_) #[true, true, true, true, true, false, false, false, false, false, false, false, false] rfl rfl (by kernel_rfl) (fun _ _ _ h => h) (Or.inl ⟨by rfl, ?_⟩) ?_ ?_
                rotate_left
                · intro w'
                  go_simp
                  with_reducible rfl
                rotate_left
                · simp only [Act.put, List.setIfInBounds_toArray, List.set_cons_zero, List.set_cons_succ, i64_w, i32_w]
                  rfl
                refine pure_ (i := 7) (N := some 55) (v := ?_) (a' := ?_) #[true, true, true, true, true, false, false, true, false, false, false, false, false] rfl rfl (by kernel_rfl) (fun _ _ _ h => h) (Or.inl ⟨by rfl, ?_⟩) ?_ ?_
                rotate_left
                · intro w'
                  go_simp
                  with_reducible rfl
                rotate_left
                · simp only [Act.put, List.setIfInBounds_toArray, List.set_cons_zero, List.set_cons_succ, i64_w, i32_w]
                  rfl
                refine take_ (i := 5) (N := some 53) (v := ?_) (a' := ?_) #[true, true, true, true, true, true, false, true, false, false, false, false, false] rfl rfl (by kernel_rfl) (fun _ _ _ h => h) (Or.inl ⟨by rfl, ?_⟩) hHeld ?_ ?_
                rotate_left
                · rintro w' ⟨s0, s1, s2, s3, s4, s5, s6, s7, s8, s9, s10, s11, s12, s13, s14, s15⟩
                  go_simp
                  with_reducible rfl
                rotate_left
                · simp only [Act.put, List.setIfInBounds_toArray, List.set_cons_zero, List.set_cons_succ, i64_w, i32_w]
                  rfl
                refine take_ (i := 8) (N := some 56) (v := ?_) (a' := ?_) #[true, true, true, true, true, true, false, true, true, false, false, false, false] rfl rfl (by kernel_rfl) (fun _ _ _ h => h) (Or.inl ⟨by rfl, ?_⟩) hHeld ?_ ?_
                rotate_left
                · rintro w' ⟨s0, s1, s2, s3, s4, s5, s6, s7, s8, s9, s10, s11, s12, s13, s14, s15⟩
                  go_simp
                  with_reducible rfl
                rotate_left
                · simp only [Act.put, List.setIfInBounds_toArray, List.set_cons_zero, List.set_cons_succ, i64_w, i32_w]
                  rfl
                refine one_ (i := 6) (N := some 54) #[true, true, true, true, true, true, true, true, true, false, false, false, false] rfl rfl (by kernel_rfl) (by decide) (fun K hK => ?_)
                refine call_ 35 #[.agg #[.int .i64 x.f0, .int .i64 x.f1, .string x.f2.f0, .int .i64 x.f2.f1, .int .i64 x.f2.f2, .int .i64 x.f3, .int .i64 x.f4, .int .i64 x.f5], .pointer (some ⟨w2.heap.size, 0, none⟩)] (by rfl) rfl ?_ ?_
                · have he := fun w => enters_ (P := Tryd.prog) Tryd.func35 (by kernel_rfl) rfl (#[.agg #[.int .i64 x.f0, .int .i64 x.f1, .string x.f2.f0, .int .i64 x.f2.f1, .int .i64 x.f2.f2, .int .i64 x.f3, .int .i64 x.f4, .int .i64 x.f5], .pointer (some ⟨w2.heap.size, 0, none⟩)]) w
                  exact clo35_run rfl rfl (by simp only [List.map_toArray, List.map_cons, List.map_nil]; rfl) (he _)
                with_reducible refine (HIX.out _ HBwA.out).mono ?_
                rintro e wB ⟨rfl, hb_⟩
                refine ⟨_, rfl, ?_⟩
                have HBwB := Aside0.mk (below_step HBwA.out hb_)
                have HBXwB := Aside0.mk (blk_below (w := wA) HBXwA.out hb_)
                have HBYwB := Aside0.mk (blk_below (w := wA) HBYwA.out hb_)
                clear hb_
                refine hK.out _ _ ⟨((blk_cell HBXwB.out 0).trans rfl), ((blk_cell HBXwB.out 1).trans rfl), ((blk_cell HBXwB.out 2).trans rfl), ((blk_cell HBXwB.out 3).trans rfl), ((blk_cell HBXwB.out 4).trans rfl), ((blk_cell HBXwB.out 5).trans rfl), ((blk_cell HBXwB.out 6).trans rfl), ((blk_cell HBXwB.out 7).trans rfl), ((blk_cell HBYwB.out 0).trans rfl), ((blk_cell HBYwB.out 1).trans rfl), ((blk_cell HBYwB.out 2).trans rfl), ((blk_cell HBYwB.out 3).trans rfl), ((blk_cell HBYwB.out 4).trans rfl), ((blk_cell HBYwB.out 5).trans rfl), ((blk_cell HBYwB.out 6).trans rfl), ((blk_cell HBYwB.out 7).trans rfl)⟩ (fun hHeld => ?_)
                clear hK K
                refine norm_ (a' := ?_) ?_ ?_
                rotate_left
                · show Act.put _ (some 54) _ = _
                  simp only [Act.put, List.setIfInBounds_toArray, List.set_cons_zero, List.set_cons_succ, i64_w, i32_w]
                  rfl
                refine one_ (i := 9) (N := some 57) #[true, true, true, true, true, true, true, true, true, true, false, false, false] rfl rfl (by kernel_rfl) (by decide) (fun K hK => ?_)
                refine call_ 35 #[.agg #[.int .i64 y.f0, .int .i64 y.f1, .string y.f2.f0, .int .i64 y.f2.f1, .int .i64 y.f2.f2, .int .i64 y.f3, .int .i64 y.f4, .int .i64 y.f5], .pointer (some ⟨w2.heap.size, 0, none⟩)] (by rfl) rfl ?_ ?_
                · have he := fun w => enters_ (P := Tryd.prog) Tryd.func35 (by kernel_rfl) rfl (#[.agg #[.int .i64 y.f0, .int .i64 y.f1, .string y.f2.f0, .int .i64 y.f2.f1, .int .i64 y.f2.f2, .int .i64 y.f3, .int .i64 y.f4, .int .i64 y.f5], .pointer (some ⟨w2.heap.size, 0, none⟩)]) w
                  exact clo35_run rfl rfl (by simp only [List.map_toArray, List.map_cons, List.map_nil]; rfl) (he _)
                with_reducible refine (HIY.out _ HBwB.out).mono ?_
                rintro e wC ⟨rfl, hb_⟩
                refine ⟨_, rfl, ?_⟩
                have HBwC := Aside0.mk (below_step HBwB.out hb_)
                have HBXwC := Aside0.mk (blk_below (w := wB) HBXwB.out hb_)
                have HBYwC := Aside0.mk (blk_below (w := wB) HBYwB.out hb_)
                clear hb_
                refine hK.out _ _ ⟨((blk_cell HBXwC.out 0).trans rfl), ((blk_cell HBXwC.out 1).trans rfl), ((blk_cell HBXwC.out 2).trans rfl), ((blk_cell HBXwC.out 3).trans rfl), ((blk_cell HBXwC.out 4).trans rfl), ((blk_cell HBXwC.out 5).trans rfl), ((blk_cell HBXwC.out 6).trans rfl), ((blk_cell HBXwC.out 7).trans rfl), ((blk_cell HBYwC.out 0).trans rfl), ((blk_cell HBYwC.out 1).trans rfl), ((blk_cell HBYwC.out 2).trans rfl), ((blk_cell HBYwC.out 3).trans rfl), ((blk_cell HBYwC.out 4).trans rfl), ((blk_cell HBYwC.out 5).trans rfl), ((blk_cell HBYwC.out 6).trans rfl), ((blk_cell HBYwC.out 7).trans rfl)⟩ (fun hHeld => ?_)
                clear hK K
                refine norm_ (a' := ?_) ?_ ?_
                rotate_left
                · show Act.put _ (some 57) _ = _
                  simp only [Act.put, List.setIfInBounds_toArray, List.set_cons_zero, List.set_cons_succ, i64_w, i32_w]
                  rfl
                refine one_ (i := 10) (N := some 58) #[true, true, true, true, true, true, true, true, true, true, true, false, false] rfl rfl (by kernel_rfl) (by decide) (fun K hK => ?_)
                refine goes_ Tryd.func38 (by kernel_rfl) rfl #[.agg #[.int .i64 (inB b x).f0, .int .i64 (inB b x).f1, .string (inB b x).f2.f0, .int .i64 (inB b x).f2.f1, .int .i64 (inB b x).f2.f2, .int .i64 (inB b x).f3, .int .i64 (inB b x).f4, .int .i64 (inB b x).f5], .agg #[.int .i64 (inB b y).f0, .int .i64 (inB b y).f1, .string (inB b y).f2.f0, .int .i64 (inB b y).f2.f1, .int .i64 (inB b y).f2.f2, .int .i64 (inB b y).f3, .int .i64 (inB b y).f4, .int .i64 (inB b y).f5]] (by rfl) rfl rfl (by simp only [List.map_toArray, List.map_cons, List.map_nil]; rfl) ?_
                with_reducible refine (HA2.out _).mono ?_
                rintro e wD ⟨rfl, hb_⟩
                refine ⟨_, rfl, ?_⟩
                have HBwD := Aside0.mk (below_step HBwC.out hb_)
                have HBXwD := Aside0.mk (blk_below (w := wC) HBXwC.out hb_)
                have HBYwD := Aside0.mk (blk_below (w := wC) HBYwC.out hb_)
                clear hb_
                refine hK.out _ _ ⟨((blk_cell HBXwD.out 0).trans rfl), ((blk_cell HBXwD.out 1).trans rfl), ((blk_cell HBXwD.out 2).trans rfl), ((blk_cell HBXwD.out 3).trans rfl), ((blk_cell HBXwD.out 4).trans rfl), ((blk_cell HBXwD.out 5).trans rfl), ((blk_cell HBXwD.out 6).trans rfl), ((blk_cell HBXwD.out 7).trans rfl), ((blk_cell HBYwD.out 0).trans rfl), ((blk_cell HBYwD.out 1).trans rfl), ((blk_cell HBYwD.out 2).trans rfl), ((blk_cell HBYwD.out 3).trans rfl), ((blk_cell HBYwD.out 4).trans rfl), ((blk_cell HBYwD.out 5).trans rfl), ((blk_cell HBYwD.out 6).trans rfl), ((blk_cell HBYwD.out 7).trans rfl)⟩ (fun hHeld => ?_)
                clear hK K
                refine norm_ (a' := ?_) ?_ ?_
                rotate_left
                · show Act.put _ (some 58) _ = _
                  simp only [Act.put, List.setIfInBounds_toArray, List.set_cons_zero, List.set_cons_succ, i64_w, i32_w]
                  rfl
                refine pure_ (i := 11) (N := some 59) (v := ?_) (a' := ?_) #[true, true, true, true, true, true, true, true, true, true, true, true, false] rfl rfl (by kernel_rfl) (fun _ _ _ h => h) (Or.inl ⟨by rfl, ?_⟩) ?_ ?_
                rotate_left
                · intro w'
                  go_simp
                  with_reducible rfl
                rotate_left
                · simp only [Act.put, List.setIfInBounds_toArray, List.set_cons_zero, List.set_cons_succ, i64_w, i32_w]
                  rfl
                refine pure_ (i := 12) (N := some 60) (v := ?_) (a' := ?_) #[true, true, true, true, true, true, true, true, true, true, true, true, true] rfl rfl (by kernel_rfl) (fun _ _ _ h => h) (Or.inl ⟨by rfl, ?_⟩) ?_ ?_
                rotate_left
                · intro w'
                  go_simp
                  with_reducible rfl
                rotate_left
                · simp only [Act.put, List.setIfInBounds_toArray, List.set_cons_zero, List.set_cons_succ, i64_w, i32_w]
                  rfl
                refine done_ (by kernel_rfl) ?_
                go_wp2
                have hr : r1 = false := by rw [← HF2.out]; rfl
                subst hr
                refine bodyPost_ret (v := .tuple #[.bool false, .int .i64 0]) (by simp [results, Tryd.results18, go_sem]) rfl ?_
                exact ⟨rfl, below_step HB3.out HBwD.out⟩
              | true =>
                rw [hp2] at hA2
                have hlost : lostB b x y = false := by unfold lostB; rw [hp, hp2]; rfl
                rw [hlost] at hF
                have HA2 := Aside0.mk hA2
                have HF2 := Aside0.mk hF
                clear hA1 hA2 hF hlost hp hp2 HFj
                refine start_ (n := 13) (S := fun w' => w'.cell? ⟨bx, 0, none⟩ = some (.int .i64 x.f0) ∧ w'.cell? ⟨bx, 1, none⟩ = some (.int .i64 x.f1) ∧ w'.cell? ⟨bx, 2, none⟩ = some (.string x.f2.f0) ∧ w'.cell? ⟨bx, 3, none⟩ = some (.int .i64 x.f2.f1) ∧ w'.cell? ⟨bx, 4, none⟩ = some (.int .i64 x.f2.f2) ∧ w'.cell? ⟨bx, 5, none⟩ = some (.int .i64 x.f3) ∧ w'.cell? ⟨bx, 6, none⟩ = some (.int .i64 x.f4) ∧ w'.cell? ⟨bx, 7, none⟩ = some (.int .i64 x.f5) ∧ w'.cell? ⟨by_, 0, none⟩ = some (.int .i64 y.f0) ∧ w'.cell? ⟨by_, 1, none⟩ = some (.int .i64 y.f1) ∧ w'.cell? ⟨by_, 2, none⟩ = some (.string y.f2.f0) ∧ w'.cell? ⟨by_, 3, none⟩ = some (.int .i64 y.f2.f1) ∧ w'.cell? ⟨by_, 4, none⟩ = some (.int .i64 y.f2.f2) ∧ w'.cell? ⟨by_, 5, none⟩ = some (.int .i64 y.f3) ∧ w'.cell? ⟨by_, 6, none⟩ = some (.int .i64 y.f4) ∧ w'.cell? ⟨by_, 7, none⟩ = some (.int .i64 y.f5)) (ds := []) #[false, false, false, false, false, false, false, false, false, false, false, false, false] (by kernel_rfl) rfl rfl ⟨qx0, qx1, qx2, qx3, qx4, qx5, qx6, qx7, qy0, qy1, qy2, qy3, qy4, qy5, qy6, qy7⟩ (fun hHeld => ?_)
                refine take_ (i := 0) (N := some 48) (v := ?_) (a' := ?_) #[true, false, false, false, false, false, false, false, false, false, false, false, false] rfl rfl (by kernel_rfl) (fun _ _ _ h => h) (Or.inl ⟨by rfl, ?_⟩) hHeld ?_ ?_
                rotate_left
                · rintro w' ⟨s0, s1, s2, s3, s4, s5, s6, s7, s8, s9, s10, s11, s12, s13, s14, s15⟩
                  go_simp
                  with_reducible rfl
                rotate_left
                · simp only [Act.put, List.setIfInBounds_toArray, List.set_cons_zero, List.set_cons_succ, i64_w, i32_w]
                  rfl
                refine take_ (i := 1) (N := some 49) (v := ?_) (a' := ?_) #[true, true, false, false, false, false, false, false, false, false, false, false, false] rfl rfl (by kernel_rfl) (fun _ _ _ h => h) (Or.inl ⟨by rfl, ?_⟩) hHeld ?_ ?_
                rotate_left
                · rintro w' ⟨s0, s1, s2, s3, s4, s5, s6, s7, s8, s9, s10, s11, s12, s13, s14, s15⟩
                  go_simp
                  with_reducible rfl
                rotate_left
                · simp only [Act.put, List.setIfInBounds_toArray, List.set_cons_zero, List.set_cons_succ, i64_w, i32_w]
                  rfl
                refine one_ (i := 2) (N := some 50) #[true, true, true, false, false, false, false, false, false, false, false, false, false] rfl rfl (by kernel_rfl) (by decide) (fun K hK => ?_)
                refine goes_ Tryd.func38 (by kernel_rfl) rfl #[.agg #[.int .i64 x.f0, .int .i64 x.f1, .string x.f2.f0, .int .i64 x.f2.f1, .int .i64 x.f2.f2, .int .i64 x.f3, .int .i64 x.f4, .int .i64 x.f5], .agg #[.int .i64 y.f0, .int .i64 y.f1, .string y.f2.f0, .int .i64 y.f2.f1, .int .i64 y.f2.f2, .int .i64 y.f3, .int .i64 y.f4, .int .i64 y.f5]] (by rfl) rfl rfl (by simp only [List.map_toArray, List.map_cons, List.map_nil]; rfl) ?_
                with_reducible refine (HA1.out _).mono ?_
                rintro e wA ⟨rfl, hb_⟩
                refine ⟨_, rfl, ?_⟩
                have HBwA := Aside0.mk (below_step HBp.out.drew hb_)
                have HBXwA := Aside0.mk (blk_below (w := wp.drew) HBXp.out hb_)
                have HBYwA := Aside0.mk (blk_below (w := wp.drew) HBYp.out hb_)
                clear hb_
                refine hK.out _ _ ⟨((blk_cell HBXwA.out 0).trans rfl), ((blk_cell HBXwA.out 1).trans rfl), ((blk_cell HBXwA.out 2).trans rfl), ((blk_cell HBXwA.out 3).trans rfl), ((blk_cell HBXwA.out 4).trans rfl), ((blk_cell HBXwA.out 5).trans rfl), ((blk_cell HBXwA.out 6).trans rfl), ((blk_cell HBXwA.out 7).trans rfl), ((blk_cell HBYwA.out 0).trans rfl), ((blk_cell HBYwA.out 1).trans rfl), ((blk_cell HBYwA.out 2).trans rfl), ((blk_cell HBYwA.out 3).trans rfl), ((blk_cell HBYwA.out 4).trans rfl), ((blk_cell HBYwA.out 5).trans rfl), ((blk_cell HBYwA.out 6).trans rfl), ((blk_cell HBYwA.out 7).trans rfl)⟩ (fun hHeld => ?_)
                clear hK K
                refine norm_ (a' := ?_) ?_ ?_
                rotate_left
                · show Act.put _ (some 50) _ = _
                  simp only [Act.put, List.setIfInBounds_toArray, List.set_cons_zero, List.set_cons_succ, i64_w, i32_w]
                  rfl
                refine pure_ (i := 3) (N := some 51) (v := ?_) (a' := ?_) #[true, true, true, true, false, false, false, false, false, false, false, false, false] rfl rfl (by kernel_rfl) (fun _ _ _ h => h) (Or.inl ⟨by rfl, ?_⟩) ?_ ?_
                rotate_left
                · intro w'
                  go_simp
                  with_reducible rfl
                rotate_left
                · simp only [Act.put, List.setIfInBounds_toArray, List.set_cons_zero, List.set_cons_succ, i64_w, i32_w]
                  rfl
                refine pure_ (i := 4) (N := some 52) (v := ?_) (a' := ?_) #[true, true, true, true, true, false, false, false, false, false, false, false, false] rfl rfl (by kernel_rfl) (fun _ _ _ h => h) (Or.inl ⟨by rfl, ?_⟩) ?_ ?_
                rotate_left
                · intro w'
                  go_simp
                  with_reducible rfl
                rotate_left
                · simp only [Act.put, List.setIfInBounds_toArray, List.set_cons_zero, List.set_cons_succ, i64_w, i32_w]
                  rfl
                refine pure_ (i := 7) (N := some 55) (v := ?_) (a' := ?_) #[true, true, true, true, true, false, false, true, false, false, false, false, false] rfl rfl (by kernel_rfl) (fun _ _ _ h => h) (Or.inl ⟨by rfl, ?_⟩) ?_ ?_
                rotate_left
                · intro w'
                  go_simp
                  with_reducible rfl
                rotate_left
                · simp only [Act.put, List.setIfInBounds_toArray, List.set_cons_zero, List.set_cons_succ, i64_w, i32_w]
                  rfl
                refine take_ (i := 5) (N := some 53) (v := ?_) (a' := ?_) #[true, true, true, true, true, true, false, true, false, false, false, false, false] rfl rfl (by kernel_rfl) (fun _ _ _ h => h) (Or.inl ⟨by rfl, ?_⟩) hHeld ?_ ?_
                rotate_left
                · rintro w' ⟨s0, s1, s2, s3, s4, s5, s6, s7, s8, s9, s10, s11, s12, s13, s14, s15⟩
                  go_simp
                  with_reducible rfl
                rotate_left
                · simp only [Act.put, List.setIfInBounds_toArray, List.set_cons_zero, List.set_cons_succ, i64_w, i32_w]
                  rfl
                refine take_ (i := 8) (N := some 56) (v := ?_) (a' := ?_) #[true, true, true, true, true, true, false, true, true, false, false, false, false] rfl rfl (by kernel_rfl) (fun _ _ _ h => h) (Or.inl ⟨by rfl, ?_⟩) hHeld ?_ ?_
                rotate_left
                · rintro w' ⟨s0, s1, s2, s3, s4, s5, s6, s7, s8, s9, s10, s11, s12, s13, s14, s15⟩
                  go_simp
                  with_reducible rfl
                rotate_left
                · simp only [Act.put, List.setIfInBounds_toArray, List.set_cons_zero, List.set_cons_succ, i64_w, i32_w]
                  rfl
                refine one_ (i := 6) (N := some 54) #[true, true, true, true, true, true, true, true, true, false, false, false, false] rfl rfl (by kernel_rfl) (by decide) (fun K hK => ?_)
                refine call_ 35 #[.agg #[.int .i64 x.f0, .int .i64 x.f1, .string x.f2.f0, .int .i64 x.f2.f1, .int .i64 x.f2.f2, .int .i64 x.f3, .int .i64 x.f4, .int .i64 x.f5], .pointer (some ⟨w2.heap.size, 0, none⟩)] (by rfl) rfl ?_ ?_
                · have he := fun w => enters_ (P := Tryd.prog) Tryd.func35 (by kernel_rfl) rfl (#[.agg #[.int .i64 x.f0, .int .i64 x.f1, .string x.f2.f0, .int .i64 x.f2.f1, .int .i64 x.f2.f2, .int .i64 x.f3, .int .i64 x.f4, .int .i64 x.f5], .pointer (some ⟨w2.heap.size, 0, none⟩)]) w
                  exact clo35_run rfl rfl (by simp only [List.map_toArray, List.map_cons, List.map_nil]; rfl) (he _)
                with_reducible refine (HIX.out _ HBwA.out).mono ?_
                rintro e wB ⟨rfl, hb_⟩
                refine ⟨_, rfl, ?_⟩
                have HBwB := Aside0.mk (below_step HBwA.out hb_)
                have HBXwB := Aside0.mk (blk_below (w := wA) HBXwA.out hb_)
                have HBYwB := Aside0.mk (blk_below (w := wA) HBYwA.out hb_)
                clear hb_
                refine hK.out _ _ ⟨((blk_cell HBXwB.out 0).trans rfl), ((blk_cell HBXwB.out 1).trans rfl), ((blk_cell HBXwB.out 2).trans rfl), ((blk_cell HBXwB.out 3).trans rfl), ((blk_cell HBXwB.out 4).trans rfl), ((blk_cell HBXwB.out 5).trans rfl), ((blk_cell HBXwB.out 6).trans rfl), ((blk_cell HBXwB.out 7).trans rfl), ((blk_cell HBYwB.out 0).trans rfl), ((blk_cell HBYwB.out 1).trans rfl), ((blk_cell HBYwB.out 2).trans rfl), ((blk_cell HBYwB.out 3).trans rfl), ((blk_cell HBYwB.out 4).trans rfl), ((blk_cell HBYwB.out 5).trans rfl), ((blk_cell HBYwB.out 6).trans rfl), ((blk_cell HBYwB.out 7).trans rfl)⟩ (fun hHeld => ?_)
                clear hK K
                refine norm_ (a' := ?_) ?_ ?_
                rotate_left
                · show Act.put _ (some 54) _ = _
                  simp only [Act.put, List.setIfInBounds_toArray, List.set_cons_zero, List.set_cons_succ, i64_w, i32_w]
                  rfl
                refine one_ (i := 9) (N := some 57) #[true, true, true, true, true, true, true, true, true, true, false, false, false] rfl rfl (by kernel_rfl) (by decide) (fun K hK => ?_)
                refine call_ 35 #[.agg #[.int .i64 y.f0, .int .i64 y.f1, .string y.f2.f0, .int .i64 y.f2.f1, .int .i64 y.f2.f2, .int .i64 y.f3, .int .i64 y.f4, .int .i64 y.f5], .pointer (some ⟨w2.heap.size, 0, none⟩)] (by rfl) rfl ?_ ?_
                · have he := fun w => enters_ (P := Tryd.prog) Tryd.func35 (by kernel_rfl) rfl (#[.agg #[.int .i64 y.f0, .int .i64 y.f1, .string y.f2.f0, .int .i64 y.f2.f1, .int .i64 y.f2.f2, .int .i64 y.f3, .int .i64 y.f4, .int .i64 y.f5], .pointer (some ⟨w2.heap.size, 0, none⟩)]) w
                  exact clo35_run rfl rfl (by simp only [List.map_toArray, List.map_cons, List.map_nil]; rfl) (he _)
                with_reducible refine (HIY.out _ HBwB.out).mono ?_
                rintro e wC ⟨rfl, hb_⟩
                refine ⟨_, rfl, ?_⟩
                have HBwC := Aside0.mk (below_step HBwB.out hb_)
                have HBXwC := Aside0.mk (blk_below (w := wB) HBXwB.out hb_)
                have HBYwC := Aside0.mk (blk_below (w := wB) HBYwB.out hb_)
                clear hb_
                refine hK.out _ _ ⟨((blk_cell HBXwC.out 0).trans rfl), ((blk_cell HBXwC.out 1).trans rfl), ((blk_cell HBXwC.out 2).trans rfl), ((blk_cell HBXwC.out 3).trans rfl), ((blk_cell HBXwC.out 4).trans rfl), ((blk_cell HBXwC.out 5).trans rfl), ((blk_cell HBXwC.out 6).trans rfl), ((blk_cell HBXwC.out 7).trans rfl), ((blk_cell HBYwC.out 0).trans rfl), ((blk_cell HBYwC.out 1).trans rfl), ((blk_cell HBYwC.out 2).trans rfl), ((blk_cell HBYwC.out 3).trans rfl), ((blk_cell HBYwC.out 4).trans rfl), ((blk_cell HBYwC.out 5).trans rfl), ((blk_cell HBYwC.out 6).trans rfl), ((blk_cell HBYwC.out 7).trans rfl)⟩ (fun hHeld => ?_)
                clear hK K
                refine norm_ (a' := ?_) ?_ ?_
                rotate_left
                · show Act.put _ (some 57) _ = _
                  simp only [Act.put, List.setIfInBounds_toArray, List.set_cons_zero, List.set_cons_succ, i64_w, i32_w]
                  rfl
                refine one_ (i := 10) (N := some 58) #[true, true, true, true, true, true, true, true, true, true, true, false, false] rfl rfl (by kernel_rfl) (by decide) (fun K hK => ?_)
                refine goes_ Tryd.func38 (by kernel_rfl) rfl #[.agg #[.int .i64 (inB b x).f0, .int .i64 (inB b x).f1, .string (inB b x).f2.f0, .int .i64 (inB b x).f2.f1, .int .i64 (inB b x).f2.f2, .int .i64 (inB b x).f3, .int .i64 (inB b x).f4, .int .i64 (inB b x).f5], .agg #[.int .i64 (inB b y).f0, .int .i64 (inB b y).f1, .string (inB b y).f2.f0, .int .i64 (inB b y).f2.f1, .int .i64 (inB b y).f2.f2, .int .i64 (inB b y).f3, .int .i64 (inB b y).f4, .int .i64 (inB b y).f5]] (by rfl) rfl rfl (by simp only [List.map_toArray, List.map_cons, List.map_nil]; rfl) ?_
                with_reducible refine (HA2.out _).mono ?_
                rintro e wD ⟨rfl, hb_⟩
                refine ⟨_, rfl, ?_⟩
                have HBwD := Aside0.mk (below_step HBwC.out hb_)
                have HBXwD := Aside0.mk (blk_below (w := wC) HBXwC.out hb_)
                have HBYwD := Aside0.mk (blk_below (w := wC) HBYwC.out hb_)
                clear hb_
                refine hK.out _ _ ⟨((blk_cell HBXwD.out 0).trans rfl), ((blk_cell HBXwD.out 1).trans rfl), ((blk_cell HBXwD.out 2).trans rfl), ((blk_cell HBXwD.out 3).trans rfl), ((blk_cell HBXwD.out 4).trans rfl), ((blk_cell HBXwD.out 5).trans rfl), ((blk_cell HBXwD.out 6).trans rfl), ((blk_cell HBXwD.out 7).trans rfl), ((blk_cell HBYwD.out 0).trans rfl), ((blk_cell HBYwD.out 1).trans rfl), ((blk_cell HBYwD.out 2).trans rfl), ((blk_cell HBYwD.out 3).trans rfl), ((blk_cell HBYwD.out 4).trans rfl), ((blk_cell HBYwD.out 5).trans rfl), ((blk_cell HBYwD.out 6).trans rfl), ((blk_cell HBYwD.out 7).trans rfl)⟩ (fun hHeld => ?_)
                clear hK K
                refine norm_ (a' := ?_) ?_ ?_
                rotate_left
                · show Act.put _ (some 58) _ = _
                  simp only [Act.put, List.setIfInBounds_toArray, List.set_cons_zero, List.set_cons_succ, i64_w, i32_w]
                  rfl
                refine pure_ (i := 11) (N := some 59) (v := ?_) (a' := ?_) #[true, true, true, true, true, true, true, true, true, true, true, true, false] rfl rfl (by kernel_rfl) (fun _ _ _ h => h) (Or.inl ⟨by rfl, ?_⟩) ?_ ?_
                rotate_left
                · intro w'
                  go_simp
                  with_reducible rfl
                rotate_left
                · simp only [Act.put, List.setIfInBounds_toArray, List.set_cons_zero, List.set_cons_succ, i64_w, i32_w]
                  rfl
                refine pure_ (i := 12) (N := some 60) (v := ?_) (a' := ?_) #[true, true, true, true, true, true, true, true, true, true, true, true, true] rfl rfl (by kernel_rfl) (fun _ _ _ h => h) (Or.inl ⟨by rfl, ?_⟩) ?_ ?_
                rotate_left
                · intro w'
                  go_simp
                  with_reducible rfl
                rotate_left
                · simp only [Act.put, List.setIfInBounds_toArray, List.set_cons_zero, List.set_cons_succ, i64_w, i32_w]
                  rfl
                refine done_ (by kernel_rfl) ?_
                go_wp2
                go_roundg (a.length - (j + 1))
                case measure => omega
                case rel => exact ⟨j + 1, by omega, Nat.le_refl _, by go_num, HF2, HBwD, HBXwD⟩
          · have hj2 : j = a.length := by omega
            have hjz : ¬ (j : Int) < (a.length : Int) := by omega
            subst hj2
            have hF := HFj.out
            rw [List.drop_length, List.all_nil, Bool.true_and] at hF
            have HF2 := Aside0.mk hF
            clear hF HFj
            go_wp2
            go_roundg (a.length - (i + 1))
            case measure => omega
            case rel => exact ⟨i + 1, by omega, Nat.le_refl _, by go_num, HF2, HBj⟩
      · have hi2 : i = a.length := by omega
        have hiz : ¬ (i : Int) < (a.length : Int) := by omega
        subst hi2
        have hF := HF.out
        rw [List.drop_length, List.all_nil] at hF
        subst hF
        go_wp2
        refine bodyPost_ret (v := .tuple #[.bool true, .int .i64 0]) (by simp [results, Tryd.results18, go_sem]) rfl ?_
        exact ⟨rfl, below_step HB3.out HBo.out⟩


end Go.Proofs.YtfokmfnafbladaaDoor.Q
