/- The contract of hist.of (the events of one thread): Clone, IndexFunc, DeleteFunc of slices at events, with the closure that asks for the thread. -/
import Derived.Test.YtfokmfnafbladaaDoorQx0
import Derived.Shelf.Abstract
import Derived.Lib.SliceRun
import Derived.WalkSpells
namespace Go.Proofs.YtfokmfnafbladaaDoor.Q
open Go.RowKit Go.Proofs.YtfokmfnafbladaaDoorW.PrintWords Go.Proofs.YtfokmfnafbladaaDoorW.PrintLast Go.Proofs.YtfokmfnafbladaaDoorW.PrintMore
set_option linter.unusedVariables false

/-- An event as a value. -/
def ev37 (x : S37) : Value := .agg #[.int .i64 x.f0, .int .i64 x.f1, .bool x.f2, .string x.f3.f0, .int .i64 x.f3.f1, .int .i64 x.f3.f2, .int .i64 x.f4]

theorem of1_calls (x : S37) (th : Int) (B : Nat) (w : World) (hB : w.cell? ⟨B, 0, none⟩ = some (.int .i64 th)) :
    Calls Tryd.prog 50 #[ev37 x, .pointer (some ⟨B, 0, none⟩)] w fun e w' => e = .returned (.bool (x.f0 != th)) ∧ Below w.heap.size w w' := by
  unfold ev37
  have hlt : B < w.heap.size := World.block_lt_of_cell? w _ hB
  have hB1 : ∀ o, (w.alloc o).cell? ⟨B, 0, none⟩ = some (.int .i64 th) := fun o => pw_cell_below ((Below.refl _ _).alloc (Nat.le_refl _) o) hB
  go_enter Tryd.func50, Tryd.ntmps50
  go_wp2
  go_ret
  exact ⟨rfl, (Below.refl _ _).alloc (Nat.le_refl _) _⟩

/-- The first place at which an event is of another thread; -1: none. -/
def idxNe (th : Int) (l : List S37) : Int := if l.findIdx (fun x => x.f0 != th) < l.length then (l.findIdx (fun x => x.f0 != th) : Int) else -1

set_option maxHeartbeats 1000000 in
theorem if67_calls (A0 : Option Addr) (c0 : Nat) (l0 : List S37) (th : Int) (B : Nat) (w : World) (hr0 : Kd.C k37 w A0 l0.length l0) (hB : w.cell? ⟨B, 0, none⟩ = some (.int .i64 th)) :
    Calls Tryd.prog 67 #[.slice A0 l0.length c0, .func (.func 50) #[] #[.pointer (some ⟨B, 0, none⟩)]] w fun e w' => e = .returned (.int .i64 (idxNe th l0)) ∧ Below w.heap.size w w' := by
  have hbig : l0.length ≤ 9223372036854775807 := hr0.2.1
  have HR := Aside0.mk hr0
  have HBc := Aside0.mk hB
  clear hr0 hB
  go_enter Tryd.func67, Tryd.ntmps67
  go_wp2
  go_loopg [5, 8] l0.length (fun gg _ s8 wr => ∃ kk : Nat, kk ≤ l0.length ∧ l0.length - kk ≤ gg ∧ s8 = .int .i64 kk ∧ Aside0 (Below w.heap.size w wr) ∧ Aside0 (∀ j x, j < kk → l0[j]? = some x → (x.f0 != th) = false))
  case atStart => exact ⟨0, Nat.zero_le _, by omega, rfl, ⟨Below.refl _ w⟩, ⟨fun j x hj => absurd hj (Nat.not_lt_zero _)⟩⟩
  case round =>
    obtain ⟨kk, hkk, hg, rfl, BW, A⟩ := hrel
    by_cases hlt : kk < l0.length
    · have hltz : (kk : Int) < (l0.length : Int) := by omega
      have hz : 0 ≤ (kk : Int) := by omega
      obtain ⟨ad, e, hx0, hx1, hx2, hx3, hx4, hx5, hx6⟩ := at_T37 (Kd.C_below HR.out BW.out) (kk : Int) hz hltz
      cases e
      simp only [Int.toNat_natCast] at hx0 hx1 hx2 hx3 hx4 hx5 hx6
      have hcall := of1_calls (rd_T37 l0 kk) th B wr (pw_cell_below BW.out HBc.out)
      have hrd : l0[kk]? = some (rd_T37 l0 (kk : Int)) := by simp [rd_T37, List.getD_eq_getElem?_getD, List.getElem?_eq_getElem hlt]
      have HRD := Aside0.mk hrd
      clear hrd
      generalize rd_T37 l0 (kk : Int) = y at *
      unfold ev37 at hcall
      cases hq : (y.f0 != th) with
      | true =>
        rw [hq] at hcall
        have HQ := Aside0.mk hq
        clear hq
        go_wp2_with (go_at_call 50; refine hcall.mono ?_; rintro e w' ⟨rfl, hb'⟩)
        go_ret
        refine ⟨?_, below_step BW.out hb'⟩
        have : l0.findIdx (fun x => x.f0 != th) = kk := by
          rw [List.findIdx_eq hlt]
          refine ⟨?_, fun j hj => ?_⟩
          · have h2 := HRD.out
            rw [List.getElem?_eq_getElem hlt] at h2
            injection h2 with h2
            rw [h2]; exact HQ.out
          · exact A.out j _ hj (List.getElem?_eq_getElem (by omega))
        unfold idxNe
        rw [this, if_pos hlt]
        rfl
      | false =>
        rw [hq] at hcall
        have HQ := Aside0.mk hq
        clear hq
        go_wp2_with (go_at_call 50; refine hcall.mono ?_; rintro e w' ⟨rfl, hb'⟩)
        go_roundg (l0.length - (kk + 1))
        case measure => omega
        case rel =>
          refine ⟨kk + 1, by omega, by omega, by go_num, ⟨below_step BW.out hb'⟩, ⟨fun j x hj hx => ?_⟩⟩
          by_cases e : j = kk
          · subst e
            have h2 := HRD.out
            rw [hx] at h2
            injection h2 with h2
            rw [h2]; exact HQ.out
          · exact A.out j x (by omega) hx
    · have hltz : ¬ (kk : Int) < (l0.length : Int) := by omega
      have : kk = l0.length := by omega
      subst this
      go_wp2
      go_ret
      refine ⟨?_, BW.out⟩
      have : ¬ l0.findIdx (fun x => x.f0 != th) < l0.length := by
        intro h
        have h2 := List.findIdx_getElem (w := h)
        have h3 := A.out _ _ h (List.getElem?_eq_getElem h)
        rw [h3] at h2
        cases h2
      unfold idxNe
      rw [if_neg this]
      rfl



theorem R_tail {α : Type} {d : Kd α} {e n cap g : Nat} {W : World} {base : Nat} {ok : Nat → Prop} {xs : List α} (h : d.R e W base ok (.slice (some ⟨g, 0, none⟩) n cap) xs) (i : Nat) (hi : i ≤ n) (zs : List Value) (hz : i * d.sz + zs.length ≤ n * d.sz) :
    d.R e (W.setCells g (i * d.sz) zs) base ok (.slice (some ⟨g, 0, none⟩) i cap) (xs.take i) ∧ W.grownBy (W.setCells g (i * d.sz) zs) (some g) := by
  obtain ⟨hn, hnc, _⟩ := Kd.R_reads' h
  obtain ⟨inner0, hown0⟩ := Kd.R_own h
  rcases hown0.2 with ⟨hv, _⟩ | ⟨g', cap', cur, hv, hb, hh, hnc', hcm, hcs, ht0⟩
  · cases hv
  injection hv with ha _ hc
  injection ha with ha
  injection ha with hg
  subst hg; subst hc
  have hfit : i * d.sz + zs.length ≤ cur.size := by
    have : n * d.sz ≤ cap * d.sz := Nat.mul_le_mul_right _ hnc
    omega
  obtain ⟨cur', h3, h4, h5⟩ := setCells_row zs (i * d.sz) W cur hh hfit
  obtain ⟨s1, s2, s3, s4⟩ := setCells_same g zs (i * d.sz) W
  have hfar : ∀ k, k ≠ g → (W.setCells g (i * d.sz) zs).heap[k]? = W.heap[k]? := fun k hk => setCells_far zs _ k hk
  obtain ⟨h0, inner, ho, hr⟩ := Kd.R_take h (m := i) (by omega)
  have hlen : (xs.take i).length = i := by rw [List.length_take]; omega
  refine ⟨⟨h0, inner, ⟨ho.1, .inr ⟨g, cap, cur', by rw [hlen], hb, h3, by omega, hcm, by rw [h4, hcs], ?_⟩⟩, ?_⟩, ⟨s1, s2, s3, by rw [s4]; exact Nat.le_refl _, fun k _ hk => hfar k (fun he => hk (by rw [he]))⟩⟩
  · rcases ho.2 with ⟨hv, _⟩ | ⟨g', cap', cur2, hv, _, hh2, _, _, _, ht2⟩
    · cases hv
    · injection hv with ha _ hc
      injection ha with ha
      injection ha with hg
      subst hg
      rw [hh] at hh2
      injection hh2 with hh2
      injection hh2 with hh2
      subst hh2
      rw [← ht2, h5, hlen, List.append_assoc, List.take_append_of_le_length (by rw [List.length_take, Array.length_toList]; omega), List.take_take, Nat.min_self]
  · exact hr.imp_ (fun _ _ hp => d.M_move (fun k hk => hfar k (fun he => hk.2 (by rw [he]; rfl))) hp)



/-- What the row holds while events of other threads are struck: the kept ones in front, the rest untouched. -/
structure DelInv (l : List S37) (th : Int) (i j : Nat) (dk : List S37) : Prop where
  len : dk.length = l.length
  lt : i < j
  le : j ≤ l.length
  kept : dk.take i = (l.take j).filter (fun x => x.f0 == th)
  rest : ∀ m, j ≤ m → dk[m]? = l[m]?

theorem DelInv.start {l : List S37} {th : Int} {k : Nat} (hk : k < l.length) (hall : ∀ j x, j < k → l[j]? = some x → (x.f0 != th) = false) (hne : ∀ x, l[k]? = some x → (x.f0 != th) = true) : DelInv l th k (k + 1) l := by
  refine ⟨rfl, by omega, by omega, ?_, fun _ _ => rfl⟩
  have h1 : (l.take k).filter (fun x => x.f0 == th) = l.take k := by
    rw [List.filter_eq_self]
    intro x hx
    obtain ⟨j, hj, rfl⟩ := List.mem_iff_getElem.1 hx
    have hj' : j < k := by rw [List.length_take] at hj; omega
    have := hall j _ hj' (List.getElem?_eq_getElem (by omega))
    rw [List.getElem_take]
    simpa [bne] using this
  rw [List.take_succ_eq_append_getElem hk, List.filter_append, h1]
  have h2 := hne _ (List.getElem?_eq_getElem hk)
  have h3 : (l[k].f0 == th) = false := by simpa [bne] using h2
  simp [h3]
theorem DelInv.keep {l : List S37} {th : Int} {i j : Nat} {dk : List S37} (h : DelInv l th i j dk) (hj : j < l.length) {x : S37} (hx : l[j]? = some x) (he : (x.f0 != th) = false) : DelInv l th (i + 1) (j + 1) (dk.set i x) := by
  have hlt := h.lt
  refine ⟨by rw [List.length_set, h.len], by omega, by omega, ?_, fun m hm => ?_⟩
  · have hi : i < (dk.set i x).length := by rw [List.length_set, h.len]; omega
    rw [List.take_succ_eq_append_getElem hi, List.getElem_set_self, List.take_set_of_le (Nat.le_refl _), h.kept, List.take_succ_eq_append_getElem hj, List.filter_append]
    rw [List.getElem?_eq_getElem hj] at hx
    injection hx with hx
    have h3 : (x.f0 == th) = true := by simpa [bne] using he
    rw [hx]
    simp [h3]
  · rw [List.getElem?_set_ne (by omega)]
    exact h.rest m (by omega)
theorem DelInv.skip {l : List S37} {th : Int} {i j : Nat} {dk : List S37} (h : DelInv l th i j dk) (hj : j < l.length) {x : S37} (hx : l[j]? = some x) (he : (x.f0 != th) = true) : DelInv l th i (j + 1) dk := by
  have hlt := h.lt
  refine ⟨h.len, by omega, by omega, ?_, fun m hm => h.rest m (by omega)⟩
  rw [h.kept, List.take_succ_eq_append_getElem hj, List.filter_append]
  rw [List.getElem?_eq_getElem hj] at hx
  injection hx with hx
  have h3 : (x.f0 == th) = false := by simpa [bne] using he
  rw [hx]
  simp [h3]
theorem DelInv.end_ {l : List S37} {th : Int} {i : Nat} {dk : List S37} (h : DelInv l th i l.length dk) : dk.take i = l.filter (fun x => x.f0 == th) := by
  rw [h.kept, List.take_length]

theorem idxNe_cases (th : Int) (l : List S37) : (idxNe th l = -1 ∧ l.filter (fun x => x.f0 == th) = l) ∨ ∃ k : Nat, k < l.length ∧ idxNe th l = (k : Int) ∧ DelInv l th k (k + 1) l := by
  unfold idxNe
  by_cases h : l.findIdx (fun x => x.f0 != th) < l.length
  · refine .inr ⟨_, h, by rw [if_pos h], DelInv.start h (fun j x hj hx => ?_) (fun x hx => ?_)⟩
    · have := List.not_of_lt_findIdx hj
      rw [List.getElem?_eq_getElem (by omega)] at hx
      injection hx with hx
      rw [← hx]
      simpa using this
    · have := List.findIdx_getElem (w := h)
      rw [List.getElem?_eq_getElem h] at hx
      injection hx with hx
      rw [← hx]
      exact this
  · refine .inl ⟨by rw [if_neg h], ?_⟩
    rw [List.filter_eq_self]
    intro x hx
    have h2 : ¬ ∃ x ∈ l, (x.f0 != th) = true := by
      intro ⟨y, hy, hp⟩
      exact h (List.findIdx_lt_length_of_exists ⟨y, hy, hp⟩)
    have h3 : ¬ (x.f0 != th) = true := fun hp => h2 ⟨x, hx, hp⟩
    simpa [bne] using h3

theorem ev37_cells (x : S37) : (ev37 x).cells.toList = [.int .i64 x.f0, .int .i64 x.f1, .bool x.f2, .string x.f3.f0, .int .i64 x.f3.f1, .int .i64 x.f3.f2, .int .i64 x.f4] := rfl
theorem size37 : (Tryd.prog.info? 37).map (·.size) = some 7 := by kernel_rfl
theorem k37sz : k37.sz = 7 := rfl
theorem whole_seg (c seg : List Value) (h : c.length = seg.length) : c.take 0 ++ seg ++ c.drop (0 + seg.length) = seg := by
  rw [List.take_zero, List.nil_append, Nat.zero_add, List.drop_eq_nil_of_le (by omega), List.append_nil]

theorem hM37 (w : World) (base : Nat) (ok : Nat → Prop) (c : List Value) (h : c.length = k37.sz) (y : S37) : k37.M w base ok y (c.take 0 ++ [.int .i64 y.f0, .int .i64 y.f1, .bool y.f2, .string y.f3.f0, .int .i64 y.f3.f1, .int .i64 y.f3.f2, .int .i64 y.f4] ++ c.drop (0 + ([.int .i64 y.f0, .int .i64 y.f1, .bool y.f2, .string y.f3.f0, .int .i64 y.f3.f1, .int .i64 y.f3.f2, .int .i64 y.f4] : List Value).length)) := by
  rw [whole_seg c _ (by rw [h]; rfl)]
  exact k37_mkM _ _ _ y

theorem zeros_one (z : Value) (n : Nat) (h : ∀ u ∈ z.cells.toList, u.oneCell' = true) (h0 : 0 < z.cells.size) : ∀ u ∈ (Builtin.zeroCells z.cells n).toList, u.oneCell' = true := by
  intro u hu
  simp only [Builtin.zeroCells, Array.toList_map, List.mem_map] at hu
  obtain ⟨i, _, rfl⟩ := hu
  have hi : i % z.cells.size < z.cells.size := Nat.mod_lt _ h0
  rw [getElem!_pos z.cells _ hi]
  exact h _ (by simp)
theorem run_clear_cells {P : Program} (w : World) (t e ty : TypeId) (z : Value) (ht : P.underlying t = some (.slice e)) (hv : ∀ w, (zeroValue e).run P w = .ok z w) (h0 : 0 < z.cells.size) (h1 : ∀ u ∈ z.cells.toList, u.oneCell' = true) (b o n c : Nat) (hn : 0 < n)
    (hc : ∀ j, j < n * z.cells.size → (w.cell? ⟨b, o + j, none⟩).isSome = true) (hf : ∀ j, j < n * z.cells.size → w.frozen? ⟨b, o + j, none⟩ = false) :
    (Builtin.clear_ #[t] ty #[.slice (some ⟨b, o, none⟩) n c]).run P w = .ok (.tuple #[]) (w.setCells b o (Builtin.zeroCells z.cells n).toList) := by
  have hl : (Builtin.zeroCells z.cells n).toList.length = n * z.cells.size := by simp [Builtin.zeroCells]
  have hst := run_storeCells_cells (P := P) b o (Builtin.zeroCells z.cells n).toList 0 w (by rw [hl]; simpa using hc) (by rw [hl]; simpa using hf) (zeros_one z n h1 h0)
  simp only [Nat.add_zero] at hst
  obtain ⟨m, rfl⟩ : ∃ m, n = m + 1 := ⟨n - 1, by omega⟩
  simp [Builtin.clear_, run_underlying ht, hv, hst]

set_option maxHeartbeats 4000000 in
set_option maxRecDepth 100000 in
theorem df48_calls (base : Nat) (v : Value) (l0 : List S37) (th : Int) (B : Nat) (w0 w : World) (hv : Kd.R k37 37 w base (fun _ => True) v l0) (hB : w.heap[B]? = some (.cells #[.int .i64 th] 3 (0, 0))) (hbase : base ≤ w.heap.size) (hW : Below base w0 w) :
    Calls Tryd.prog 48 #[v, .func (.func 50) #[] #[.pointer (some ⟨B, 0, none⟩)]] w fun e w' => ∃ v' : Value, e = .returned v' ∧ Kd.R k37 37 w' base (fun _ => True) v' (l0.filter (fun x => x.f0 == th)) ∧ Below base w0 w' := by
  have hBc : w.cell? ⟨B, 0, none⟩ = some (.int .i64 th) := (blk_cell hB 0).trans rfl
  obtain ⟨A, c, rfl, hlc, hC⟩ := Kd.R_reads hv
  have hIF := if67_calls A c l0 th B w hC hBc
  have hbig : l0.length ≤ 9223372036854775807 := hC.2.1
  have HO := Aside0.mk hv
  have HBK := Aside0.mk hB
  have HB := Aside0.mk hW
  clear hv hB hW hC hBc
  rcases idxNe_cases th l0 with ⟨e1, e2⟩ | ⟨k0, hk0, e1, hI⟩
  · rw [e1] at hIF
    have E2 := Aside0.mk e2
    clear e1 e2
    go_enter Tryd.func48, Tryd.ntmps48
    go_wp2_with (go_at_call 67; refine hIF.mono ?_; rintro e w' ⟨rfl, hb⟩)
    go_ret
    exact ⟨_, rfl, by rw [E2.out]; exact Kd.R_below HO.out hb, below_then HB.out hbase hb⟩
  · rw [e1] at hIF
    have HI := Aside0.mk hI
    clear e1 hI
    obtain ⟨g, cap, eo, hbg, hlt, cells, hG⟩ := Kd.R_form HO.out (by omega)
    cases eo
    have hne1 : ((k0 : Int) == -1) = false := beq_eq_false_iff_ne.2 (by omega)
    go_enter Tryd.func48, Tryd.ntmps48
    go_wp2_with (go_at_call 67; refine hIF.mono ?_; rintro e w1 ⟨rfl, hb⟩)
    have hO1 : Kd.R k37 37 w1 base (fun _ => True) (.slice (some ⟨g, 0, none⟩) l0.length c) l0 := Kd.R_below HO.out hb
    have hK1 : w1.heap[B]? = some (.cells #[.int .i64 th] 3 (0, 0)) := blk_below HBK.out hb
    have hB1 : Below base w0 w1 := below_then HB.out hbase hb
    have hS1 : base ≤ w1.heap.size := Nat.le_trans hbase hb.size
    have HO1 := Aside0.mk hO1
    have HK1 := Aside0.mk hK1
    have HB1 := Aside0.mk hB1
    have HS1 := Aside0.mk hS1
    clear HO HBK HB hO1 hK1 hB1 hS1 hb hG hlt
    go_loopg [5, 6, 7] l0.length (fun gg s5 s6 _ wr => ∃ (i j : Nat) (dk : List S37), s5 = .int .i64 i ∧ s6 = .int .i64 j ∧ i < j ∧ j ≤ l0.length ∧ l0.length - j ≤ gg ∧ Aside0 (DelInv l0 th i j dk) ∧ Aside0 (Kd.R k37 37 wr base (fun _ => True) (.slice (some ⟨g, 0, none⟩) l0.length c) dk) ∧ Aside0 (wr.heap[B]? = some (.cells #[.int .i64 th] 3 (0, 0))) ∧ Aside0 (Below base w0 wr) ∧ Aside0 (base ≤ wr.heap.size))
    case atStart => exact ⟨k0, k0 + 1, l0, rfl, by go_num, by omega, by omega, by omega, HI, HO1, HK1, HB1, HS1⟩
    case round =>
      clear HO1 HK1 HB1 HS1 HI
      obtain ⟨i, j, dk, rfl, rfl, hij, hjn, hgg, HI, HO, HK, HB, HS⟩ := hrel
      by_cases hlt : j < l0.length
      · have hltz : (j : Int) < (l0.length : Int) := by omega
        have hjz : 0 ≤ (j : Int) := by omega
        have hiz : 0 ≤ (i : Int) := by omega
        have hilt : (i : Int) < (l0.length : Int) := by omega
        have hlen := HI.out.len
        obtain ⟨ad, e, hx0, hx1, hx2, hx3, hx4, hx5, hx6⟩ := at_T37 (Kd.R_reads' HO.out).2.2 (j : Int) hjz (by rw [hlen]; exact hltz)
        cases e
        simp only [Int.toNat_natCast, add_plain] at hx0 hx1 hx2 hx3 hx4 hx5 hx6
        obtain ⟨y, hy⟩ : ∃ y, y = rd_T37 dk (j : Int) := ⟨_, rfl⟩
        rw [← hy] at hx0 hx1 hx2 hx3 hx4 hx5 hx6
        have hyl : l0[j]? = some y := by
          rw [← HI.out.rest j (Nat.le_refl _), hy]
          simp [rd_T37, List.getD_eq_getElem?_getD, List.getElem?_eq_getElem (show j < dk.length by omega)]
        have HY := Aside0.mk hyl
        clear hyl hy hlen
        have hcall := of1_calls y th B (wr.alloc (.cells #[.int .i64 y.f0, .int .i64 y.f1, .bool y.f2, .string y.f3.f0, .int .i64 y.f3.f1, .int .i64 y.f3.f2, .int .i64 y.f4] 37 (0, 0))) (pw_cell_below ((Below.refl _ _).alloc (Nat.le_refl _) _) ((blk_cell HK.out 0).trans rfl))
        unfold ev37 at hcall
        have hbl : Below wr.heap.size wr (wr.alloc (.cells #[.int .i64 y.f0, .int .i64 y.f1, .bool y.f2, .string y.f3.f0, .int .i64 y.f3.f1, .int .i64 y.f3.f2, .int .i64 y.f4] 37 (0, 0))) := (Below.refl _ _).alloc (Nat.le_refl _) _
        have hbk := blk_new wr (.cells #[.int .i64 y.f0, .int .i64 y.f1, .bool y.f2, .string y.f3.f0, .int .i64 y.f3.f1, .int .i64 y.f3.f2, .int .i64 y.f4] 37 (0, 0))
        have HBL := Aside0.mk hbl
        have HBK := Aside0.mk hbk
        clear hbl hbk
        cases hq : (y.f0 != th) with
        | true =>
          rw [hq] at hcall
          have HQ := Aside0.mk hq
          clear hq
          go_wp2_with (go_at_call 50; refine hcall.mono ?_; rintro e w2 ⟨rfl, hb2⟩)
          have hb3 : Below wr.heap.size wr w2 := below_step HBL.out hb2
          go_roundg (l0.length - (j + 1))
          case measure => omega
          case rel => exact ⟨i, j + 1, dk, rfl, by go_num, by omega, by omega, Nat.le_refl _, ⟨HI.out.skip hlt HY.out HQ.out⟩, ⟨Kd.R_below HO.out hb3⟩, ⟨blk_below HK.out hb3⟩, ⟨below_then HB.out HS.out hb3⟩, ⟨Nat.le_trans HS.out hb3.size⟩⟩
        | false =>
          rw [hq] at hcall
          have HQ := Aside0.mk hq
          clear hq
          go_wp2_with (first | (go_at_call 50; refine hcall.mono ?_; rintro e w2 ⟨rfl, hb2⟩; have HB2 := Aside0.mk hb2; clear hb2; have hk2 := blk_below HBK.out HB2.out; have hz0 : w2.cell? ⟨wr.heap.size, 0, none⟩ = some (.int .i64 y.f0) := (blk_cell hk2 0).trans rfl; have hz1 : w2.cell? ⟨wr.heap.size, 1, none⟩ = some (.int .i64 y.f1) := (blk_cell hk2 1).trans rfl; have hz2 : w2.cell? ⟨wr.heap.size, 2, none⟩ = some (.bool y.f2) := (blk_cell hk2 2).trans rfl; have hz3 : w2.cell? ⟨wr.heap.size, 3, none⟩ = some (.string y.f3.f0) := (blk_cell hk2 3).trans rfl; have hz4 : w2.cell? ⟨wr.heap.size, 4, none⟩ = some (.int .i64 y.f3.f1) := (blk_cell hk2 4).trans rfl; have hz5 : w2.cell? ⟨wr.heap.size, 5, none⟩ = some (.int .i64 y.f3.f2) := (blk_cell hk2 5).trans rfl; have hz6 : w2.cell? ⟨wr.heap.size, 6, none⟩ = some (.int .i64 y.f4) := (blk_cell hk2 6).trans rfl; clear hk2) | ((with_reducible refine gate_store (t := 37) (p := 33) rfl ?_); go_loud (have hb3 : Below wr.heap.size wr w2 := below_step HBL.out HB2.out; obtain ⟨ce, hcl, hM, hcc, hfr⟩ := Kd.R_elem (Kd.R_below HO.out hb3) z37 (i : Int) hiz hilt; refine Kd.R_store k37 (w0 := w0) base rfl rfl 37 (.tmp 33) (.tmp 32) rfl 37 (i : Int) 0 dk y (ev37 y) [.int .i64 y.f0, .int .i64 y.f1, .bool y.f2, .string y.f3.f0, .int .i64 y.f3.f1, .int .i64 y.f3.f2, .int .i64 y.f4] ce (fun _ => True) (fun k => True ∧ k ≠ g) rfl rfl rfl rfl size37 (by simp [Value.oneCell']) (Kd.R_below HO.out hb3) hiz hilt hcl hcc (show 7 ≤ 7 from Nat.le_refl 7) ?hM (fun _ h => h) (below_then HB.out HS.out hb3) ?_; (case hM => exact hM37 _ _ _ ce hcl y); intro w3 hO3 hB3 hg3)))
          have hb3 : Below wr.heap.size wr w2 := below_step HBL.out HB2.out
          have hk3 : w3.heap[B]? = some (.cells #[.int .i64 th] 3 (0, 0)) := blk_grown (blk_below HK.out hb3) hg3 (Kd.R_ne (Kd.R_below HO.out hb3) (blk_below HK.out hb3) (by decide))
          have hs3 : base ≤ w3.heap.size := Nat.le_trans (Nat.le_trans HS.out hb3.size) hg3.size
          go_roundg (l0.length - (j + 1))
          case measure => omega
          case rel => exact ⟨i + 1, j + 1, dk.set i y, by go_num, by go_num, by omega, by omega, Nat.le_refl _, ⟨HI.out.keep hlt HY.out HQ.out⟩, ⟨hO3⟩, ⟨hk3⟩, ⟨hB3⟩, ⟨hs3⟩⟩
      · obtain rfl : j = l0.length := by omega
        have hltz : ¬ (l0.length : Int) < (l0.length : Int) := by omega
        have hlen := HI.out.len
        obtain ⟨hT, hgr⟩ := R_tail HO.out i (by omega) (Builtin.zeroCells (Value.agg #[Value.int .i64 0, .int .i64 0, .bool false, .string ⟨#[]⟩, .int .i64 0, .int .i64 0, .int .i64 0]).cells (l0.length - i)).toList (by
          simp only [Builtin.zeroCells, k37sz, Value.cells, Array.length_toList, Array.size_map, Array.size_range, List.size_toArray, List.length_cons, List.length_nil]
          omega)
        have hcl : ∀ ty, (Builtin.clear_ #[22] ty #[.slice (some ⟨g, i * 7, none⟩) (l0.length - i) (c - i)]).run Tryd.prog wr = .ok (.tuple #[]) (wr.setCells g (i * 7) (Builtin.zeroCells (Value.agg #[Value.int .i64 0, .int .i64 0, .bool false, .string ⟨#[]⟩, .int .i64 0, .int .i64 0, .int .i64 0]).cells (l0.length - i)).toList) := by
          intro ty
          refine run_clear_cells wr 22 37 ty _ Tryd.underlying22 Tryd.zeroValue37 (by decide) (by decide) g (i * 7) (l0.length - i) (c - i) (by omega) ?_ ?_
          · intro j hj
            have hj7 : j < (l0.length - i) * 7 := hj
            obtain ⟨ce, hc1, _, hc2, _⟩ := Kd.R_elem HO.out z37 ((i + j / 7 : Nat) : Int) (by omega) (by omega)
            have hc3 : ce.length = 7 := hc1
            have h5 := hc2 (j % 7) _ (List.getElem?_eq_getElem (by omega))
            rw [k37sz, Int.toNat_natCast, show (i + j / 7) * 7 + j % 7 = i * 7 + j by omega] at h5
            rw [h5]
            rfl
          · intro j hj
            have hj7 : j < (l0.length - i) * 7 := hj
            obtain ⟨ce, _, _, _, hf⟩ := Kd.R_elem HO.out z37 ((i + j / 7 : Nat) : Int) (by omega) (by omega)
            have h5 := hf (j % 7)
            rw [k37sz, Int.toNat_natCast, show (i + j / 7) * 7 + j % 7 = i * 7 + j by omega] at h5
            exact h5
        have hbo := HB.out
        generalize (Builtin.zeroCells (Value.agg #[Value.int .i64 0, .int .i64 0, .bool false, .string ⟨#[]⟩, .int .i64 0, .int .i64 0, .int .i64 0]).cells (l0.length - i)).toList = zs at hT hgr hcl
        have HT := Aside0.mk hT
        have HGR := Aside0.mk hgr
        clear hT hgr hbo
        go_wp2
        go_ret
        exact ⟨_, rfl, by rw [← HI.out.end_]; exact HT.out, HB.out.grown HGR.out HS.out (fun k hk => by cases hk; exact hbg)⟩



set_option maxHeartbeats 4000000 in
theorem cl49_calls (A0 : Option Addr) (c0 : Nat) (l0 : List S37) (w : World) (hr0 : Kd.C k37 w A0 l0.length l0) (hlim : l0.length < 2199023255552) :
    Calls Tryd.prog 49 #[.slice A0 l0.length c0] w fun e w' => ∃ v : Value, e = .returned v ∧ Kd.R k37 37 w' w.heap.size (fun _ => True) v l0 ∧ Below w.heap.size w w' := by
  have heq := fun (W : World) => Lib.run_eql_slice_nil (P := Tryd.prog) W 22 37 A0 l0.length c0 0 0 Tryd.underlying22
  cases A0 with
  | none =>
    have h0 : l0 = [] := by
      rcases Nat.eq_zero_or_pos l0.length with h | h
      · exact List.eq_nil_of_length_eq_zero h
      · obtain ⟨ad, e, _⟩ := hr0.2.2 h
        cases e
    subst h0
    clear hr0 hlim
    simp only [List.length_nil] at heq ⊢
    go_enter Tryd.func49, Tryd.ntmps49
    go_wp2
    go_ret
    exact ⟨_, rfl, Kd.R_nil _ _ _ _ _, Below.refl _ _⟩
  | some ad =>
    have HR := Aside0.mk hr0
    have HL := Aside0.mk hlim
    clear hr0 hlim
    go_enter Tryd.func49, Tryd.ntmps49
    go_wp2_with (first | ((with_reducible refine gate_dst (N := 5) rfl ?_); refine Kd.R_lit k37 _ 37 ?hg (N := 5) ?hd (xs := ([] : List (S37))) (inner := []) (ok := fun _ => True) (okp := fun _ => True) ?hr ?hp (fun _ hk => hk) trivial (Below.refl _ _) (Nat.le_refl _) (by simp) ?_; (case hd => rfl); (case hg => rfl); (case hr => first | (go_simp; done) | (go_simp; rfl)); (case hp => exact (Reps.none _ _)); intro v1 w1 ho1 hb1 hg1 hn1; have HO1 := Aside0.mk ho1; have HB1 := Aside0.mk hb1; clear ho1 hb1 hg1 hn1) | ((with_reducible refine gate_builtin (b := .append) (xs := #[.tmp 5, .tmp 6]) rfl ?_); at_builtin; refine Kd.R_append_rows k37 (w0 := w) w.heap.size rfl (.tmp 5) (.tmp 6) 22 37 (.agg #[(.int .i64 0), (.int .i64 0), (.bool false), (.string ⟨#[]⟩), (.int .i64 0), (.int .i64 0), (.int .i64 0)]) 64 rfl Tryd.underlying22 info37 rfl (by decide) (by omega) v1 [] l0 _ _ _ (fun _ => True) (fun _ => False) rfl rfl ?aO ?aR (fun _ _ h => h) (fun _ h => h.elim) ?aF ?aB ?aS ?aL ?_; (case aR => exact Kd.C_below HR.out HB1.out); (case aB => exact HB1.out); (case aF => exact (fun _ _ => trivial)); (case aO => exact HO1.out); (case aS => exact HB1.out.size); (case aL => have := HL.out; simp only [List.length_nil]; omega); intro v2 w2 ho2 hb2 hg2 hat2; have HO2 := Aside0.mk ho2; have HB2 := Aside0.mk hb2; clear ho2 hb2 hg2 hat2))
    go_ret
    exact ⟨_, rfl, HO2.out, HB2.out⟩

/-- The events of a thread. -/
def hist_of.f (l0 : List S37) (a1 : Int) : Option (List S37) := if l0.length < 2199023255552 then some (l0.filter (fun x => x.f0 == a1)) else none

set_option maxHeartbeats 4000000 in
theorem hist_of.calls (A0 : Option Addr) (c0 : Nat) (l0 : List S37) (a1 : Int) (r : List S37) (w : World) (hr0 : Kd.C k37 w A0 l0.length l0) (hc0 : l0.length ≤ c0) (h : hist_of.f l0 a1 = some r) :
    Calls Tryd.prog 28 #[.slice A0 l0.length c0, .int .i64 a1] w fun e w' => ∃ v0_ : Value, e = .returned (v0_) ∧ Kd.R k37 37 w' w.heap.size (fun _ => True) v0_ r ∧ Below w.heap.size w w' := by
  unfold hist_of.f at h
  split at h
  case isFalse => cases h
  case isTrue hlim =>
    injection h with h
    subst h
    have hcl := cl49_calls A0 c0 l0 (w.alloc (.cells #[.int .i64 a1] 3)) (Kd.C_below hr0 ((Below.refl _ _).alloc (Nat.le_refl _) _)) hlim
    have hbk := blk_new w (.cells #[.int .i64 a1] 3 (0, 0))
    have HBK := Aside0.mk hbk
    clear hbk hr0
    go_enter Tryd.func28, Tryd.ntmps28
    go_wp2_with (first | (go_at_call 49; refine hcl.mono ?_; rintro e w1 ⟨v1, rfl, ho1, hb1⟩; have HO1 := Aside0.mk ho1; have HB1 := Aside0.mk hb1; clear ho1 hb1) | (go_at_call 48; refine (df48_calls w.heap.size v1 l0 a1 w.heap.size w w1 (Kd.R_lower HO1.out (by simp)) (blk_below HBK.out HB1.out) (Nat.le_trans (by simp) HB1.out.size) (below_then ((Below.refl _ _).alloc (Nat.le_refl _) _) (by simp) HB1.out)).mono ?_; rintro e w2 ⟨v2, rfl, ho2, hb2⟩; have HO2 := Aside0.mk ho2; have HB2 := Aside0.mk hb2; clear ho2 hb2))
    go_ret
    exact ⟨_, rfl, HO2.out, HB2.out⟩


end Go.Proofs.YtfokmfnafbladaaDoor.Q
