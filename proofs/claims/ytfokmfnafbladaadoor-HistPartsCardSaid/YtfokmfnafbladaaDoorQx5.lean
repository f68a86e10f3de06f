-- Written by a program of this session out of the translation (a printer's text). Not trusted: Lean checks it.
import Derived.Test.YtfokmfnafbladaaDoorQx0
import Derived.Test.YtfokmfnafbladaaDoorQx4
namespace Go.Proofs.YtfokmfnafbladaaDoor.Q
open Go.RowKit Go.Proofs.YtfokmfnafbladaaDoorW.PrintWords Go.Proofs.YtfokmfnafbladaaDoorW.PrintLast Go.Proofs.YtfokmfnafbladaaDoorW.PrintMore
attribute [local go_sem] max2_int min2_int max_two min_two max_three min_three max_four min_four   -- for this text's walks alone
set_option linter.unusedVariables false
set_option linter.unusedSimpArgs false

/-! ### locklessref17_Of: function 11 -/
mutual
def locklessref17_Of.j0 : Nat → List (S37) → Int → Bool → Option ((List (S37)) × Int)
  | 0, _, _, _ => none
  | k + 1, x0, x1, x18 => if x18 = true then (some (([] : List (S37)), 1)) else (locklessref17_Of.l0 k x0 x1 ([] : List (S37)) 0)
def locklessref17_Of.l0 : Nat → List (S37) → Int → List (S37) → Int → Option ((List (S37)) × Int)
  | 0, _, _, _, _ => none
  | k + 1, x0, x1, x6, x7 => if x7 < (x0.length : Int) then (if 0 ≤ x7 then (if ((rd_T37 x0 x7).f0) = x1 then (if x6.length < 2199023255552 then (locklessref17_Of.l0 k x0 x1 (x6 ++ [(⟨(rd_T37 x0 x7).f0, (rd_T37 x0 x7).f1, (rd_T37 x0 x7).f2, (⟨(rd_T37 x0 x7).f3.f0, (rd_T37 x0 x7).f3.f1, (rd_T37 x0 x7).f3.f2⟩ : S35), (rd_T37 x0 x7).f4⟩ : S37)]) (wrap64 (x7 + 1))) else (none)) else (locklessref17_Of.l0 k x0 x1 x6 (wrap64 (x7 + 1)))) else (none)) else (some (x6, 0))
end
def locklessref17_Of.f (k : Nat) (l0 : List (S37)) (a1 : Int) : Option ((List (S37)) × Int) := (locklessref17_Valid.f k l0).bind fun t156 => (if t156 = true then (if a1 < 0 then (locklessref17_Of.j0 k l0 a1 true) else (locklessref17_Of.j0 k l0 a1 (decide (a1 ≥ 4)))) else (locklessref17_Of.j0 k l0 a1 true))
theorem locklessref17_Of.mono_l : ∀ k, (∀ y0 y1 y2, LeO (locklessref17_Of.j0 k y0 y1 y2) (locklessref17_Of.j0 (k + 1) y0 y1 y2)) ∧ (∀ y0 y1 y2 y3, LeO (locklessref17_Of.l0 k y0 y1 y2 y3) (locklessref17_Of.l0 (k + 1) y0 y1 y2 y3))
  | 0 => ⟨fun _ _ _ r h => by simp [locklessref17_Of.j0] at h, fun _ _ _ _ r h => by simp [locklessref17_Of.l0] at h⟩
  | k + 1 => by
    obtain ⟨ih0, ih1⟩ := locklessref17_Of.mono_l k
    refine ⟨?_, ?_⟩
    · intro y0 y1 y2
      unfold locklessref17_Of.j0
      repeat' first
      | (with_reducible exact ih0 _ _ _)
      | (with_reducible exact ih1 _ _ _ _)
      | (with_reducible exact locklessref17_Valid.mono _ _)
      | (with_reducible exact LeO.refl _)
      | (with_reducible exact LeO.none _)
      | (with_reducible refine LeO.ite ?_ ?_)
      | (with_reducible refine LeO.bind ?_ (fun _ => ?_))
      | exact ih0 _ _ _
      | exact ih1 _ _ _ _
      | exact locklessref17_Valid.mono _ _
      | exact LeO.none _
      | refine LeO.ite ?_ ?_
      | refine LeO.bind ?_ (fun _ => ?_)
    · intro y0 y1 y2 y3
      unfold locklessref17_Of.l0
      repeat' first
      | (with_reducible exact ih0 _ _ _)
      | (with_reducible exact ih1 _ _ _ _)
      | (with_reducible exact locklessref17_Valid.mono _ _)
      | (with_reducible exact LeO.refl _)
      | (with_reducible exact LeO.none _)
      | (with_reducible refine LeO.ite ?_ ?_)
      | (with_reducible refine LeO.bind ?_ (fun _ => ?_))
      | exact ih0 _ _ _
      | exact ih1 _ _ _ _
      | exact locklessref17_Valid.mono _ _
      | exact LeO.none _
      | refine LeO.ite ?_ ?_
      | refine LeO.bind ?_ (fun _ => ?_)
theorem locklessref17_Of.mono : ∀ a0 a1 k, LeO (locklessref17_Of.f k a0 a1) (locklessref17_Of.f (k + 1) a0 a1) := by
  intro a0 a1 k
  obtain ⟨ih0, ih1⟩ := locklessref17_Of.mono_l k
  unfold locklessref17_Of.f
  repeat' first
      | (with_reducible exact ih0 _ _ _)
      | (with_reducible exact ih1 _ _ _ _)
      | (with_reducible exact locklessref17_Valid.mono _ _)
      | (with_reducible exact LeO.refl _)
      | (with_reducible exact LeO.none _)
      | (with_reducible refine LeO.ite ?_ ?_)
      | (with_reducible refine LeO.bind ?_ (fun _ => ?_))
      | exact ih0 _ _ _
      | exact ih1 _ _ _ _
      | exact locklessref17_Valid.mono _ _
      | exact LeO.none _
      | refine LeO.ite ?_ ?_
      | refine LeO.bind ?_ (fun _ => ?_)
set_option maxHeartbeats 8000000 in
set_option maxRecDepth 100000 in
theorem locklessref17_Of.calls (k : Nat) (A0 : Option Addr) (c0 : Nat) (l0 : List (S37)) (a1 : Int) (r1 : List (S37)) (r2 : Int) (w : World) (hr0 : Kd.C k37 w A0 l0.length l0) (hc0 : l0.length ≤ c0) (h : locklessref17_Of.f k l0 a1 = some (r1, r2)) :
    Calls Tryd.prog 11 #[.slice A0 l0.length c0, .int .i64 a1] w fun e w' => ∃ v0_ : Value, e = .returned (.tuple #[v0_, .int .i64 r2]) ∧ Kd.R k37 37 w' w.heap.size (fun _ => True) v0_ r1 ∧ Below w.heap.size w w' := by
  have hu37 := Tryd.underlying37
  have HR0 := Aside0.mk hr0
  have HC0 := Aside0.mk hc0
  clear hr0 hc0
  have HB := Aside0.mk (Below.refl w.heap.size w)
  have H : ((locklessref17_Valid.f k l0).bind fun t156 => (if t156 = true then (if a1 < 0 then (locklessref17_Of.j0 k l0 a1 true) else (locklessref17_Of.j0 k l0 a1 (decide (a1 ≥ 4)))) else (locklessref17_Of.j0 k l0 a1 true))) = some (r1, r2) := h
  clear h
  have HC3 := Aside0.mk H
  clear H
  go_enter Tryd.func11, Tryd.ntmps11
  go_upto_region 1 with (fail)
  go_cut [18] (fun v18 wc => ∃ (kq : Nat) (x18_2 : Bool), v18 = .bool x18_2 ∧ Aside0 (locklessref17_Of.j0 kq l0 a1 x18_2 = some (r1, r2)) ∧ Aside0 (kq ≤ k) ∧ Aside0 (Below w.heap.size w wc))
  case first =>
    have H := HC3.out
    clear HC3
    replace H := Option.bind_eq_some_iff.mp H
    obtain ⟨t156, A40, H⟩ := H
    replace H : (if t156 = true then (if a1 < 0 then (locklessref17_Of.j0 k l0 a1 true) else (locklessref17_Of.j0 k l0 a1 (decide (a1 ≥ 4)))) else (locklessref17_Of.j0 k l0 a1 true)) = some (r1, r2) := H
    have A4 := Aside0.mk A40
    clear A40
    by_cases c5 : t156 = true
    · subst c5
      have H1 : (if a1 < 0 then (locklessref17_Of.j0 k l0 a1 true) else (locklessref17_Of.j0 k l0 a1 (decide (a1 ≥ 4)))) = some (r1, r2) := by rw [if_pos rfl] at H; exact H
      clear H
      have H := H1
      clear H1
      by_cases c6 : a1 < 0
      · rw [if_pos c6] at H
        have c6b0 : decide (a1 < 0) = true := decide_eq_true c6
        clear c6
        (first | rw [c6b0] | (simp only [i64_w, i32_w]; rw [c6b0]) | skip)
        have H' := Aside0.mk H
        clear H
        go_wp2_with (first | ((with_reducible refine gate_callee (f := 29) rfl ?_); refine goesL_ (some 9) rfl rfl Tryd.func29 (by kernel_rfl) rfl #[.slice A0 l0.length c0] rfl (by (try simp only [List.map_toArray, List.map_cons, List.map_nil]); first | done | rfl | (simp only [List.length_drop, List.length_take]; rfl)) ?_; (with_reducible refine (locklessref17_Valid.calls k _ _ l0 true _ ?side1 ?side2 A4.out).mono ?_); (case side1 => repeat (first | exact (Kd.C_below HR0.out HB.out) | (with_reducible refine Kd.C_alloc ?_ _) | (with_reducible refine Kd.C_drewN ?_ _) | (with_reducible refine Kd.C_drew ?_))); (case side2 => exact HC0.out); rintro e w7 ⟨rfl, hb⟩; refine ⟨_, rfl, ?_⟩; have n0_ := Aside0.mk (below_step (by repeat (first | (with_reducible first | exact HB.out | apply below_alloc | apply pw_below_drewN | apply below_drew1) | exact HB.out)) hb); clear HB; have HB := n0_; clear n0_; (try clear hb); (try clear hb2); (try clear hk); (try clear hi)))
        go_meet
        case rel => exact ⟨_, (true), (by first | rfl | (simp; done) | (simp [*]; done)), H', ⟨by first | omega | exact Nat.le_refl _⟩, ⟨by repeat (first | (with_reducible first | exact HB.out | apply below_alloc | apply pw_below_drewN | apply below_drew1) | exact HB.out)⟩⟩
      · rw [if_neg c6] at H
        have c6b0 : decide (a1 < 0) = false := decide_eq_false c6
        clear c6
        (first | rw [c6b0] | (simp only [i64_w, i32_w]; rw [c6b0]) | skip)
        have H' := Aside0.mk H
        clear H
        go_wp2_with (first | ((with_reducible refine gate_callee (f := 29) rfl ?_); refine goesL_ (some 9) rfl rfl Tryd.func29 (by kernel_rfl) rfl #[.slice A0 l0.length c0] rfl (by (try simp only [List.map_toArray, List.map_cons, List.map_nil]); first | done | rfl | (simp only [List.length_drop, List.length_take]; rfl)) ?_; (with_reducible refine (locklessref17_Valid.calls k _ _ l0 true _ ?side1 ?side2 A4.out).mono ?_); (case side1 => repeat (first | exact (Kd.C_below HR0.out HB.out) | (with_reducible refine Kd.C_alloc ?_ _) | (with_reducible refine Kd.C_drewN ?_ _) | (with_reducible refine Kd.C_drew ?_))); (case side2 => exact HC0.out); rintro e w8 ⟨rfl, hb⟩; refine ⟨_, rfl, ?_⟩; have n0_ := Aside0.mk (below_step (by repeat (first | (with_reducible first | exact HB.out | apply below_alloc | apply pw_below_drewN | apply below_drew1) | exact HB.out)) hb); clear HB; have HB := n0_; clear n0_; (try clear hb); (try clear hb2); (try clear hk); (try clear hi)))
        go_meet
        case rel => exact ⟨_, (decide (a1 ≥ 4)), (by first | rfl | (simp; done) | (simp [*]; done)), H', ⟨by first | omega | exact Nat.le_refl _⟩, ⟨by repeat (first | (with_reducible first | exact HB.out | apply below_alloc | apply pw_below_drewN | apply below_drew1) | exact HB.out)⟩⟩
    · replace c5 := Bool.eq_false_iff.mpr c5
      subst c5
      have H1 : (locklessref17_Of.j0 k l0 a1 true) = some (r1, r2) := by rw [if_neg (show ¬ (false = true) by decide)] at H; exact H
      clear H
      have H := H1
      clear H1
      have H' := Aside0.mk H
      clear H
      go_wp2_with (first | ((with_reducible refine gate_callee (f := 29) rfl ?_); refine goesL_ (some 9) rfl rfl Tryd.func29 (by kernel_rfl) rfl #[.slice A0 l0.length c0] rfl (by (try simp only [List.map_toArray, List.map_cons, List.map_nil]); first | done | rfl | (simp only [List.length_drop, List.length_take]; rfl)) ?_; (with_reducible refine (locklessref17_Valid.calls k _ _ l0 false _ ?side1 ?side2 A4.out).mono ?_); (case side1 => repeat (first | exact (Kd.C_below HR0.out HB.out) | (with_reducible refine Kd.C_alloc ?_ _) | (with_reducible refine Kd.C_drewN ?_ _) | (with_reducible refine Kd.C_drew ?_))); (case side2 => exact HC0.out); rintro e w9 ⟨rfl, hb⟩; refine ⟨_, rfl, ?_⟩; have n0_ := Aside0.mk (below_step (by repeat (first | (with_reducible first | exact HB.out | apply below_alloc | apply pw_below_drewN | apply below_drew1) | exact HB.out)) hb); clear HB; have HB := n0_; clear n0_; (try clear hb); (try clear hb2); (try clear hk); (try clear hi)))
      go_meet
      case rel => exact ⟨_, (true), (by first | rfl | (simp; done) | (simp [*]; done)), H', ⟨by first | omega | exact Nat.le_refl _⟩, ⟨by repeat (first | (with_reducible first | exact HB.out | apply below_alloc | apply pw_below_drewN | apply below_drew1) | exact HB.out)⟩⟩
  case rest =>
    clear HC3
    try clear c1
    try clear c2
    try clear p2
    try clear c5
    try clear c6
    try clear c6b0
    obtain ⟨kq, x18_2, rfl, HA, HJ2, HB⟩ := hcut
    cases kq with
    | zero => exact absurd HA.out (by simp [locklessref17_Of.j0])
    | succ kj2 =>
      have H := HA.out
      clear HA
      simp only [locklessref17_Of.j0] at H
      by_cases c10 : x18_2 = true
      · subst c10
        have H1 : (some (([] : List (S37)), 1)) = some (r1, r2) := by rw [if_pos rfl] at H; exact H
        clear H
        have H := H1
        clear H1
        simp only [Option.some.injEq, Prod.mk.injEq] at H
        obtain ⟨rfl, rfl⟩ := H
        go_wp2
        go_ret2
        exact ⟨_, by first | rfl | (simp [errW_none, errW_some] <;> rfl) | (simp [*, errW_none, errW_some] <;> rfl), by first | exact Kd.R_nil _ _ _ _ _ | exact Kd.N_nil _ _ _ _ _ | exact Kd.V_nil _ _ _ _ _ | exact Kd.Q_nil _ _ _ _ _ | exact Kd.S_nil _ _ _ _ _, by repeat (first | (with_reducible first | exact HB.out | apply below_alloc | apply pw_below_drewN | apply below_drew1) | exact HB.out)⟩
      · replace c10 := Bool.eq_false_iff.mpr c10
        subst c10
        have H1 : (locklessref17_Of.l0 kj2 l0 a1 ([] : List (S37)) 0) = some (r1, r2) := by rw [if_neg (show ¬ (false = true) by decide)] at H; exact H
        clear H
        have H := H1
        clear H1
        have H' := Aside0.mk H
        clear H
        go_wp2
        go_loopg [6, 7] kj2 (fun kq v6 v7 w' => ∃ (x6_2 : List (S37)) (x7_2 : Int), v7 = .int .i64 x7_2 ∧ Aside0 (locklessref17_Of.l0 kq l0 a1 x6_2 x7_2 = some (r1, r2)) ∧ Aside0 (kq ≤ kj2) ∧ Aside0 (Kd.R k37 37 w' w.heap.size (fun _ => True) v6 x6_2) ∧ Aside0 (Below w.heap.size w w'))
        case atStart => exact ⟨(([] : List (S37))), (0), (by first | rfl | (simp; done) | (simp [*]; done)), H', ⟨Nat.le_refl _⟩, ⟨by first | exact Kd.R_nil _ _ _ _ _ | exact Kd.N_nil _ _ _ _ _ | exact Kd.V_nil _ _ _ _ _ | exact Kd.Q_nil _ _ _ _ _ | exact Kd.S_nil _ _ _ _ _⟩, ⟨by repeat (first | (with_reducible first | exact HB.out | apply below_alloc | apply pw_below_drewN | apply below_drew1) | exact HB.out)⟩⟩
        case round =>
          clear H'
          try clear c1
          try clear c2
          try clear p2
          try clear c5
          try clear c6
          try clear c6b0
          try clear c10
          try clear p2
          obtain ⟨x6_2, x7_2, rfl, HA, HK2, HO_6, HB⟩ := hrel
          cases gk with
          | zero => exact absurd HA.out (by simp [locklessref17_Of.l0])
          | succ k2 =>
            have H := HA.out
            clear HA
            simp only [locklessref17_Of.l0] at H
            by_cases c11 : x7_2 < (l0.length : Int)
            · rw [if_pos c11] at H
              have c11b0 : decide (x7_2 < (l0.length : Int)) = true := decide_eq_true c11
              clear c11
              by_cases c12 : 0 ≤ x7_2
              · rw [if_pos c12] at H
                have c12b0 : decide (0 ≤ x7_2) = true := decide_eq_true c12
                clear c12
                by_cases c13 : ((rd_T37 l0 x7_2).f0) = a1
                · rw [if_pos c13] at H
                  have c13b0 : (((rd_T37 l0 x7_2).f0) == a1) = true := beq_iff_eq.mpr c13
                  have c13b1 : (((rd_T37 l0 x7_2).f0) != a1) = false := bne_eq_false_iff_eq.mpr c13
                  clear c13
                  by_cases c14 : x6_2.length < 2199023255552
                  · rw [if_pos c14] at H
                    have LMc14 := Aside0.mk c14
                    clear c14
                    obtain ⟨y159, hy159⟩ : ∃ y_ : List (S37), y_ = (x6_2 ++ [(⟨(rd_T37 l0 x7_2).f0, (rd_T37 l0 x7_2).f1, (rd_T37 l0 x7_2).f2, (⟨(rd_T37 l0 x7_2).f3.f0, (rd_T37 l0 x7_2).f3.f1, (rd_T37 l0 x7_2).f3.f2⟩ : S35), (rd_T37 l0 x7_2).f4⟩ : S37)]) := ⟨_, rfl⟩
                    replace H : (locklessref17_Of.l0 k2 l0 a1 y159 (wrap64 (x7_2 + 1))) = some (r1, r2) := by first | (rw [hy159]; with_reducible exact H) | (have H2_ := (Option.bind_some _ _).symm.trans H; rw [hy159]; with_reducible exact H2_) | (have H2_ := (Option.bind_some _ _).symm.trans H; with_reducible exact H2_) | with_reducible exact H | (rw [hy159]; exact H) | exact H
                    have Ny159 := Aside0.mk hy159
                    clear hy159
                    have H' := Aside0.mk H
                    clear H
                    have p157 : 0 ≤ (x7_2 : Int) := of_decide_eq_true (by first | (with_reducible assumption) | assumption)
                    have q157 : x7_2 < (l0.length : Int) := of_decide_eq_true (by first | (with_reducible assumption) | assumption)
                    obtain ⟨ad157, e157, hx157_0, hx157_1, hx157_2, hx157_3, hx157_4, hx157_5, hx157_6⟩ := at_T37 HR0.out x7_2 p157 q157
                    cases e157
                    replace hx157_0 := (HB.out.cell (World.block_lt_of_cell? w _ hx157_0)).trans hx157_0
                    replace hx157_1 := (HB.out.cell (World.block_lt_of_cell? w _ hx157_1)).trans hx157_1
                    replace hx157_2 := (HB.out.cell (World.block_lt_of_cell? w _ hx157_2)).trans hx157_2
                    replace hx157_3 := (HB.out.cell (World.block_lt_of_cell? w _ hx157_3)).trans hx157_3
                    replace hx157_4 := (HB.out.cell (World.block_lt_of_cell? w _ hx157_4)).trans hx157_4
                    replace hx157_5 := (HB.out.cell (World.block_lt_of_cell? w _ hx157_5)).trans hx157_5
                    replace hx157_6 := (HB.out.cell (World.block_lt_of_cell? w _ hx157_6)).trans hx157_6
                    replace p157 := eq_true p157
                    replace q157 := eq_true q157
                    have p158 : 0 ≤ (x7_2 : Int) := of_decide_eq_true (by first | (with_reducible assumption) | assumption)
                    have q158 : x7_2 < (l0.length : Int) := of_decide_eq_true (by first | (with_reducible assumption) | assumption)
                    obtain ⟨ad158, e158, hx158_0, hx158_1, hx158_2, hx158_3, hx158_4, hx158_5, hx158_6⟩ := at_T37 HR0.out x7_2 p158 q158
                    obtain rfl : ad157 = ad158 := (by injection e158)
                    replace hx158_0 := (HB.out.cell (World.block_lt_of_cell? w _ hx158_0)).trans hx158_0
                    replace hx158_1 := (HB.out.cell (World.block_lt_of_cell? w _ hx158_1)).trans hx158_1
                    replace hx158_2 := (HB.out.cell (World.block_lt_of_cell? w _ hx158_2)).trans hx158_2
                    replace hx158_3 := (HB.out.cell (World.block_lt_of_cell? w _ hx158_3)).trans hx158_3
                    replace hx158_4 := (HB.out.cell (World.block_lt_of_cell? w _ hx158_4)).trans hx158_4
                    replace hx158_5 := (HB.out.cell (World.block_lt_of_cell? w _ hx158_5)).trans hx158_5
                    replace hx158_6 := (HB.out.cell (World.block_lt_of_cell? w _ hx158_6)).trans hx158_6
                    replace p158 := eq_true p158
                    replace q158 := eq_true q158
                    go_wp2_with (first | ((with_reducible refine gate_builtin (b := .append) (xs := #[.tmp 32, .tmp 37]) rfl ?_); at_builtin; refine Kd.R_append k37 (w0 := w) w.heap.size rfl (.tmp 32) (.tmp 37) 22 37 (.agg #[(.int .i64 0), (.int .i64 0), (.bool false), (.string ⟨#[]⟩), (.int .i64 0), (.int .i64 0), (.int .i64 0)]) 64 rfl Tryd.underlying22 info37 rfl (by decide) (by omega) u6 x6_2 (⟨(rd_T37 l0 x7_2).f0, (rd_T37 l0 x7_2).f1, (rd_T37 l0 x7_2).f2, (⟨(rd_T37 l0 x7_2).f3.f0, (rd_T37 l0 x7_2).f3.f1, (rd_T37 l0 x7_2).f3.f2⟩ : S35), (rd_T37 l0 x7_2).f4⟩ : S37) [.int .i64 ((rd_T37 l0 x7_2).f0), .int .i64 ((rd_T37 l0 x7_2).f1), .bool ((rd_T37 l0 x7_2).f2), .string ((rd_T37 l0 x7_2).f3.f0), .int .i64 ((rd_T37 l0 x7_2).f3.f1), .int .i64 ((rd_T37 l0 x7_2).f3.f2), .int .i64 ((rd_T37 l0 x7_2).f4)] (fun _ => True) (fun _ => False) rfl rfl ?aP (fun _ hk => hk.elim) ?aF ?aO ?aB ?aS ?aL ?_; (case aP => exact k37_mkM _ _ _ (⟨(rd_T37 l0 x7_2).f0, (rd_T37 l0 x7_2).f1, (rd_T37 l0 x7_2).f2, (⟨(rd_T37 l0 x7_2).f3.f0, (rd_T37 l0 x7_2).f3.f1, (rd_T37 l0 x7_2).f3.f2⟩ : S35), (rd_T37 l0 x7_2).f4⟩ : S37)); (case aB => exact (by repeat (first | (with_reducible first | exact HB.out | apply below_alloc | apply pw_below_drewN | apply below_drew1) | exact HB.out))); (case aF => exact (fun _ _ => trivial)); (case aO => exact (by (with_reducible repeat (first | apply Kd.R_alloc | apply Kd.R_drewN | apply Kd.R_drew)); exact HO_6.out)); (case aS => exact (below_size (by repeat (first | (with_reducible first | exact HB.out | apply below_alloc | apply pw_below_drewN | apply below_drew1) | exact HB.out)))); (case aL => have := LMc14.out; omega); intro v160 w15 ho hb hg hat; rw [← Ny159.out] at ho; have n0_ := Aside0.mk (hb); have n1_ := Aside0.mk (ho); clear HB; clear HO_6; have HB := n0_; have HO161 := n1_; clear n0_ n1_; clear ho hb hg hat))
                    go_roundg k2
                    case measure => have := HJ2.out; have := HK2.out; omega
                    case rel => exact ⟨(y159), (wrap64 (x7_2 + 1)), (by first | rfl | (simp; done) | (simp [*]; done)), H', ⟨by have := HJ2.out; have := HK2.out; omega⟩, ⟨by (with_reducible repeat (first | apply Kd.R_alloc | apply Kd.R_drewN | apply Kd.R_drew)); exact HO161.out⟩, ⟨by repeat (first | (with_reducible first | exact HB.out | apply below_alloc | apply pw_below_drewN | apply below_drew1) | exact HB.out)⟩⟩
                  · rw [if_neg c14] at H
                    exact absurd H (by simp)
                · rw [if_neg c13] at H
                  have c13b0 : (((rd_T37 l0 x7_2).f0) == a1) = false := beq_eq_false_iff_ne.mpr c13
                  have c13b1 : (((rd_T37 l0 x7_2).f0) != a1) = true := bne_iff_ne.mpr c13
                  have H' := Aside0.mk H
                  clear H
                  have p157 : 0 ≤ (x7_2 : Int) := of_decide_eq_true (by first | (with_reducible assumption) | assumption)
                  have q157 : x7_2 < (l0.length : Int) := of_decide_eq_true (by first | (with_reducible assumption) | assumption)
                  obtain ⟨ad157, e157, hx157_0, hx157_1, hx157_2, hx157_3, hx157_4, hx157_5, hx157_6⟩ := at_T37 HR0.out x7_2 p157 q157
                  cases e157
                  replace hx157_0 := (HB.out.cell (World.block_lt_of_cell? w _ hx157_0)).trans hx157_0
                  replace hx157_1 := (HB.out.cell (World.block_lt_of_cell? w _ hx157_1)).trans hx157_1
                  replace hx157_2 := (HB.out.cell (World.block_lt_of_cell? w _ hx157_2)).trans hx157_2
                  replace hx157_3 := (HB.out.cell (World.block_lt_of_cell? w _ hx157_3)).trans hx157_3
                  replace hx157_4 := (HB.out.cell (World.block_lt_of_cell? w _ hx157_4)).trans hx157_4
                  replace hx157_5 := (HB.out.cell (World.block_lt_of_cell? w _ hx157_5)).trans hx157_5
                  replace hx157_6 := (HB.out.cell (World.block_lt_of_cell? w _ hx157_6)).trans hx157_6
                  replace p157 := eq_true p157
                  replace q157 := eq_true q157
                  go_wp2
                  go_roundg k2
                  case measure => have := HJ2.out; have := HK2.out; omega
                  case rel => exact ⟨(x6_2), (wrap64 (x7_2 + 1)), (by first | rfl | (simp; done) | (simp [*]; done)), H', ⟨by have := HJ2.out; have := HK2.out; omega⟩, ⟨by (with_reducible repeat (first | apply Kd.R_alloc | apply Kd.R_drewN | apply Kd.R_drew)); exact HO_6.out⟩, ⟨by repeat (first | (with_reducible first | exact HB.out | apply below_alloc | apply pw_below_drewN | apply below_drew1) | exact HB.out)⟩⟩
              · rw [if_neg c12] at H
                exact absurd H (by simp)
            · rw [if_neg c11] at H
              have c11b0 : decide (x7_2 < (l0.length : Int)) = false := decide_eq_false c11
              clear c11
              simp only [Option.some.injEq, Prod.mk.injEq] at H
              obtain ⟨rfl, rfl⟩ := H
              go_wp2
              go_ret2
              exact ⟨_, by first | rfl | (simp [errW_none, errW_some] <;> rfl) | (simp [*, errW_none, errW_some] <;> rfl), by (with_reducible repeat (first | apply Kd.R_alloc | apply Kd.R_drewN | apply Kd.R_drew)); exact HO_6.out, by repeat (first | (with_reducible first | exact HB.out | apply below_alloc | apply pw_below_drewN | apply below_drew1) | exact HB.out)⟩

/-! ### locklessref17_Spans: function 33 -/
mutual
def locklessref17_Spans.l0 : Nat → List (S37) → List (S59) → Int → Option ((List (S59)) × Int)
  | 0, _, _, _ => none
  | k + 1, x0, x4, x5 => if x5 < (x0.length : Int) then (if 0 ≤ x5 then (if ((rd_T37 x0 x5).f2 = true) then (locklessref17_Spans.l1 k x0 x4 x5 0 ((rd_T37 x0 x5).f0) ((rd_T37 x0 x5).f1) ((rd_T37 x0 x5).f2) ((rd_T37 x0 x5).f3.f0) ((rd_T37 x0 x5).f3.f1) ((rd_T37 x0 x5).f3.f2) ((rd_T37 x0 x5).f4)) else (if x4.length < 1954687338268 then (locklessref17_Spans.l0 k x0 (x4 ++ [(⟨(rd_T37 x0 x5).f0, (rd_T37 x0 x5).f1, (⟨(rd_T37 x0 x5).f3.f0, (rd_T37 x0 x5).f3.f1, (rd_T37 x0 x5).f3.f2⟩ : S35), x5, (-1), 0⟩ : S59)]) (wrap64 (x5 + 1))) else (none))) else (none)) else (some (x4, 0))
def locklessref17_Spans.l1 : Nat → List (S37) → List (S59) → Int → Int → Int → Int → Bool → ByteArray → Int → Int → Int → Option ((List (S59)) × Int)
  | 0, _, _, _, _, _, _, _, _, _, _, _ => none
  | k + 1, x0, x4, x5, x7, x165000, x165001, x165002, x165003, x165004, x165005, x165006 => if x7 < (x4.length : Int) then (if 0 ≤ x7 then (if ((rd_T59 x4 x7).f0) = x165000 then (if ((rd_T59 x4 x7).f1) = x165001 then ((some (x4.set (x7 : Int).toNat (⟨(rd_T59 x4 x7).f0, (rd_T59 x4 x7).f1, (⟨(rd_T59 x4 x7).f2.f0, (rd_T59 x4 x7).f2.f1, (rd_T59 x4 x7).f2.f2⟩ : S35), (rd_T59 x4 x7).f3, x5, (rd_T59 x4 x7).f5⟩ : S59) : List (S59))).bind fun y170 => (locklessref17_Spans.l1 k x0 (y170.set (x7 : Int).toNat (⟨(rd_T59 y170 x7).f0, (rd_T59 y170 x7).f1, (⟨(rd_T59 y170 x7).f2.f0, (rd_T59 y170 x7).f2.f1, (rd_T59 y170 x7).f2.f2⟩ : S35), (rd_T59 y170 x7).f3, (rd_T59 y170 x7).f4, x165006⟩ : S59)) x5 (wrap64 (x7 + 1)) x165000 x165001 x165002 x165003 x165004 x165005 x165006)) else (locklessref17_Spans.l1 k x0 x4 x5 (wrap64 (x7 + 1)) x165000 x165001 x165002 x165003 x165004 x165005 x165006)) else (locklessref17_Spans.l1 k x0 x4 x5 (wrap64 (x7 + 1)) x165000 x165001 x165002 x165003 x165004 x165005 x165006)) else (none)) else (locklessref17_Spans.l0 k x0 x4 (wrap64 (x5 + 1)))
end
def locklessref17_Spans.f (k : Nat) (l0 : List (S37)) : Option ((List (S59)) × Int) := (locklessref17_Valid.f k l0).bind fun t162 => (if t162 = true then (locklessref17_Spans.l0 k l0 ([] : List (S59)) 0) else (some (([] : List (S59)), 1)))
theorem locklessref17_Spans.mono_l : ∀ k, (∀ y0 y1 y2, LeO (locklessref17_Spans.l0 k y0 y1 y2) (locklessref17_Spans.l0 (k + 1) y0 y1 y2)) ∧ (∀ y0 y1 y2 y3 y4 y5 y6 y7 y8 y9 y10, LeO (locklessref17_Spans.l1 k y0 y1 y2 y3 y4 y5 y6 y7 y8 y9 y10) (locklessref17_Spans.l1 (k + 1) y0 y1 y2 y3 y4 y5 y6 y7 y8 y9 y10))
  | 0 => ⟨fun _ _ _ r h => by simp [locklessref17_Spans.l0] at h, fun _ _ _ _ _ _ _ _ _ _ _ r h => by simp [locklessref17_Spans.l1] at h⟩
  | k + 1 => by
    obtain ⟨ih0, ih1⟩ := locklessref17_Spans.mono_l k
    refine ⟨?_, ?_⟩
    · intro y0 y1 y2
      unfold locklessref17_Spans.l0
      repeat' first
      | (with_reducible exact ih0 _ _ _)
      | (with_reducible exact ih1 _ _ _ _ _ _ _ _ _ _ _)
      | (with_reducible exact locklessref17_Valid.mono _ _)
      | (with_reducible exact LeO.refl _)
      | (with_reducible exact LeO.none _)
      | (with_reducible refine LeO.ite ?_ ?_)
      | (with_reducible refine LeO.bind ?_ (fun _ => ?_))
      | exact ih0 _ _ _
      | exact ih1 _ _ _ _ _ _ _ _ _ _ _
      | exact locklessref17_Valid.mono _ _
      | exact LeO.none _
      | refine LeO.ite ?_ ?_
      | refine LeO.bind ?_ (fun _ => ?_)
    · intro y0 y1 y2 y3 y4 y5 y6 y7 y8 y9 y10
      unfold locklessref17_Spans.l1
      repeat' first
      | (with_reducible exact ih0 _ _ _)
      | (with_reducible exact ih1 _ _ _ _ _ _ _ _ _ _ _)
      | (with_reducible exact locklessref17_Valid.mono _ _)
      | (with_reducible exact LeO.refl _)
      | (with_reducible exact LeO.none _)
      | (with_reducible refine LeO.ite ?_ ?_)
      | (with_reducible refine LeO.bind ?_ (fun _ => ?_))
      | exact ih0 _ _ _
      | exact ih1 _ _ _ _ _ _ _ _ _ _ _
      | exact locklessref17_Valid.mono _ _
      | exact LeO.none _
      | refine LeO.ite ?_ ?_
      | refine LeO.bind ?_ (fun _ => ?_)
theorem locklessref17_Spans.mono : ∀ a0 k, LeO (locklessref17_Spans.f k a0) (locklessref17_Spans.f (k + 1) a0) := by
  intro a0 k
  obtain ⟨ih0, ih1⟩ := locklessref17_Spans.mono_l k
  unfold locklessref17_Spans.f
  repeat' first
      | (with_reducible exact ih0 _ _ _)
      | (with_reducible exact ih1 _ _ _ _ _ _ _ _ _ _ _)
      | (with_reducible exact locklessref17_Valid.mono _ _)
      | (with_reducible exact LeO.refl _)
      | (with_reducible exact LeO.none _)
      | (with_reducible refine LeO.ite ?_ ?_)
      | (with_reducible refine LeO.bind ?_ (fun _ => ?_))
      | exact ih0 _ _ _
      | exact ih1 _ _ _ _ _ _ _ _ _ _ _
      | exact locklessref17_Valid.mono _ _
      | exact LeO.none _
      | refine LeO.ite ?_ ?_
      | refine LeO.bind ?_ (fun _ => ?_)
set_option maxHeartbeats 8000000 in
set_option maxRecDepth 100000 in
theorem locklessref17_Spans.calls (k : Nat) (A0 : Option Addr) (c0 : Nat) (l0 : List (S37)) (r1 : List (S59)) (r2 : Int) (w : World) (hr0 : Kd.C k37 w A0 l0.length l0) (hc0 : l0.length ≤ c0) (h : locklessref17_Spans.f k l0 = some (r1, r2)) :
    Calls Tryd.prog 33 #[.slice A0 l0.length c0] w fun e w' => ∃ v0_ : Value, e = .returned (.tuple #[v0_, .int .i64 r2]) ∧ Kd.R k59 59 w' w.heap.size (fun _ => True) v0_ r1 ∧ Below w.heap.size w w' := by
  have hu37 := Tryd.underlying37
  have hu35 := Tryd.underlying35
  have hu59 := Tryd.underlying59
  have HR0 := Aside0.mk hr0
  have HC0 := Aside0.mk hc0
  clear hr0 hc0
  have HB := Aside0.mk (Below.refl w.heap.size w)
  have H : ((locklessref17_Valid.f k l0).bind fun t162 => (if t162 = true then (locklessref17_Spans.l0 k l0 ([] : List (S59)) 0) else (some (([] : List (S59)), 1)))) = some (r1, r2) := h
  clear h
  replace H := Option.bind_eq_some_iff.mp H
  obtain ⟨t162, A20, H⟩ := H
  replace H : (if t162 = true then (locklessref17_Spans.l0 k l0 ([] : List (S59)) 0) else (some (([] : List (S59)), 1))) = some (r1, r2) := H
  have A2 := Aside0.mk A20
  clear A20
  by_cases c3 : t162 = true
  · subst c3
    have H1 : (locklessref17_Spans.l0 k l0 ([] : List (S59)) 0) = some (r1, r2) := by rw [if_pos rfl] at H; exact H
    clear H
    have H := H1
    clear H1
    have H' := Aside0.mk H
    clear H
    go_enter Tryd.func33, Tryd.ntmps33
    go_wp2_with (first | (go_at_call 29; (with_reducible refine (locklessref17_Valid.calls k _ _ l0 true _ ?side1 ?side2 A2.out).mono ?_); (case side1 => repeat (first | exact HR0.out | (with_reducible refine Kd.C_alloc ?_ _) | (with_reducible refine Kd.C_drewN ?_ _) | (with_reducible refine Kd.C_drew ?_))); (case side2 => exact HC0.out); rintro e w4 ⟨rfl, hb⟩; have n0_ := Aside0.mk (below_step (by repeat (first | (with_reducible first | exact HB.out | apply below_alloc | apply pw_below_drewN | apply below_drew1) | exact HB.out)) hb); clear HB; have HB := n0_; clear n0_; (try clear hb); (try clear hb2); (try clear hk); (try clear hi)))
    repeat (go_quiet (first | (go_at_call 29; (with_reducible refine (locklessref17_Valid.calls k _ _ l0 true _ ?side1 ?side2 A2.out).mono ?_); (case side1 => repeat (first | exact HR0.out | (with_reducible refine Kd.C_alloc ?_ _) | (with_reducible refine Kd.C_drewN ?_ _) | (with_reducible refine Kd.C_drew ?_))); (case side2 => exact HC0.out); rintro e w4 ⟨rfl, hb⟩; have n0_ := Aside0.mk (below_step (by repeat (first | (with_reducible first | exact HB.out | apply below_alloc | apply pw_below_drewN | apply below_drew1) | exact HB.out)) hb); clear HB; have HB := n0_; clear n0_; (try clear hb); (try clear hb2); (try clear hk); (try clear hi))); try go_wp2_with (first | (go_at_call 29; (with_reducible refine (locklessref17_Valid.calls k _ _ l0 true _ ?side1 ?side2 A2.out).mono ?_); (case side1 => repeat (first | exact HR0.out | (with_reducible refine Kd.C_alloc ?_ _) | (with_reducible refine Kd.C_drewN ?_ _) | (with_reducible refine Kd.C_drew ?_))); (case side2 => exact HC0.out); rintro e w4 ⟨rfl, hb⟩; have n0_ := Aside0.mk (below_step (by repeat (first | (with_reducible first | exact HB.out | apply below_alloc | apply pw_below_drewN | apply below_drew1) | exact HB.out)) hb); clear HB; have HB := n0_; clear n0_; (try clear hb); (try clear hb2); (try clear hk); (try clear hi))))
    go_loopg [4, 5] k (fun kq v4 v5 w' => ∃ (x4_1 : List (S59)) (x5_1 : Int), v5 = .int .i64 x5_1 ∧ Aside0 (locklessref17_Spans.l0 kq l0 x4_1 x5_1 = some (r1, r2)) ∧ Aside0 (kq ≤ k) ∧ Aside0 (Kd.R k59 59 w' w.heap.size (fun _ => True) v4 x4_1) ∧ Aside0 (Below w.heap.size w w'))
    case atStart => exact ⟨(([] : List (S59))), (0), (by first | rfl | (simp; done) | (simp [*]; done)), H', ⟨Nat.le_refl _⟩, ⟨by first | exact Kd.R_nil _ _ _ _ _ | exact Kd.N_nil _ _ _ _ _ | exact Kd.V_nil _ _ _ _ _ | exact Kd.Q_nil _ _ _ _ _ | exact Kd.S_nil _ _ _ _ _⟩, ⟨by repeat (first | (with_reducible first | exact HB.out | apply below_alloc | apply pw_below_drewN | apply below_drew1) | exact HB.out)⟩⟩
    case round =>
      clear H'
      try clear p2
      try clear c3
      obtain ⟨x4_1, x5_1, rfl, HA, HK1, HO_4, HB⟩ := hrel
      cases gk with
      | zero => exact absurd HA.out (by simp [locklessref17_Spans.l0])
      | succ k1 =>
        have H := HA.out
        clear HA
        simp only [locklessref17_Spans.l0] at H
        by_cases c5 : x5_1 < (l0.length : Int)
        · rw [if_pos c5] at H
          have c5b0 : decide (x5_1 < (l0.length : Int)) = true := decide_eq_true c5
          clear c5
          by_cases c6 : 0 ≤ x5_1
          · rw [if_pos c6] at H
            have c6b0 : decide (0 ≤ x5_1) = true := decide_eq_true c6
            clear c6
            obtain ⟨bq7, hbq7⟩ : ∃ b_ : Bool, b_ = ((rd_T37 l0 x5_1).f2) := ⟨_, rfl⟩
            replace H : (if (bq7 = true) then (locklessref17_Spans.l1 k1 l0 x4_1 x5_1 0 ((rd_T37 l0 x5_1).f0) ((rd_T37 l0 x5_1).f1) bq7 ((rd_T37 l0 x5_1).f3.f0) ((rd_T37 l0 x5_1).f3.f1) ((rd_T37 l0 x5_1).f3.f2) ((rd_T37 l0 x5_1).f4)) else (if x4_1.length < 1954687338268 then (locklessref17_Spans.l0 k1 l0 (x4_1 ++ [(⟨(rd_T37 l0 x5_1).f0, (rd_T37 l0 x5_1).f1, (⟨(rd_T37 l0 x5_1).f3.f0, (rd_T37 l0 x5_1).f3.f1, (rd_T37 l0 x5_1).f3.f2⟩ : S35), x5_1, (-1), 0⟩ : S59)]) (wrap64 (x5_1 + 1))) else (none))) = some (r1, r2) := by rw [← hbq7] at H; exact H
            have Nbq7 := Aside0.mk hbq7
            clear hbq7
            by_cases c8 : (bq7 = true)
            · subst c8
              have H1 : (locklessref17_Spans.l1 k1 l0 x4_1 x5_1 0 ((rd_T37 l0 x5_1).f0) ((rd_T37 l0 x5_1).f1) true ((rd_T37 l0 x5_1).f3.f0) ((rd_T37 l0 x5_1).f3.f1) ((rd_T37 l0 x5_1).f3.f2) ((rd_T37 l0 x5_1).f4)) = some (r1, r2) := by rw [if_pos rfl] at H; exact H
              clear H
              have H := H1
              clear H1
              have H' := Aside0.mk H
              clear H
              have p163 : 0 ≤ (x5_1 : Int) := of_decide_eq_true (by first | (with_reducible assumption) | assumption)
              have q163 : x5_1 < (l0.length : Int) := of_decide_eq_true (by first | (with_reducible assumption) | assumption)
              obtain ⟨ad163, e163, hx163_0, hx163_1, hx163_2, hx163_3, hx163_4, hx163_5, hx163_6⟩ := at_T37 HR0.out x5_1 p163 q163
              (try rw [← Nbq7.out] at hx163_2)
              cases e163
              replace hx163_0 := (HB.out.cell (World.block_lt_of_cell? w _ hx163_0)).trans hx163_0
              replace hx163_1 := (HB.out.cell (World.block_lt_of_cell? w _ hx163_1)).trans hx163_1
              replace hx163_2 := (HB.out.cell (World.block_lt_of_cell? w _ hx163_2)).trans hx163_2
              replace hx163_3 := (HB.out.cell (World.block_lt_of_cell? w _ hx163_3)).trans hx163_3
              replace hx163_4 := (HB.out.cell (World.block_lt_of_cell? w _ hx163_4)).trans hx163_4
              replace hx163_5 := (HB.out.cell (World.block_lt_of_cell? w _ hx163_5)).trans hx163_5
              replace hx163_6 := (HB.out.cell (World.block_lt_of_cell? w _ hx163_6)).trans hx163_6
              replace p163 := eq_true p163
              replace q163 := eq_true q163
              go_wp2_with (first | ((with_reducible refine gate_dst (N := 6) rfl ?_); refine box_event ?hg (N := 6) ?hd (cs := #[.int .i64 0, .int .i64 0, .bool false, .string (⟨#[]⟩ : ByteArray), .int .i64 0, .int .i64 0, .int .i64 0]) (t := 37) ?hr ?_; (case hd => rfl); (case hg => rfl); (case hr => first | (go_simp; done) | (go_simp; rfl)); intro gb164 hg w9 hbox hb; have n0_ := Aside0.mk (Kd.R_below (by (with_reducible repeat (first | apply Kd.R_alloc | apply Kd.R_drewN | apply Kd.R_drew)); exact HO_4.out) hb); have n1_ := Aside0.mk (below_step (by repeat (first | (with_reducible first | exact HB.out | apply below_alloc | apply pw_below_drewN | apply below_drew1) | exact HB.out)) hb); have n2_ := Aside0.mk (hbox); have n3_ := Aside0.mk ((by rw [hg]; exact (below_size (by repeat (first | (with_reducible first | exact HB.out | apply below_alloc | apply pw_below_drewN | apply below_drew1) | exact HB.out))) : w.heap.size ≤ gb164)); have n4_ := Aside0.mk ((by rw [hg]; exact (below_size (by repeat (first | (with_reducible first | exact HB.out | apply below_alloc | apply pw_below_drewN | apply below_drew1) | exact HB.out))) : w.heap.size ≤ gb164)); clear HO_4; clear HB; have HO_4 := n0_; have HB := n1_; have BK164 := n2_; have GW164 := n3_; have GE164 := n4_; clear n0_ n1_ n2_ n3_ n4_; clear hb hbox hg; have hcz10_0 : w9.cell? ⟨gb164, 0, none⟩ = some (.int .i64 0) := (blk_cell BK164.out 0).trans rfl; have hcz10_1 : w9.cell? ⟨gb164, 1, none⟩ = some (.int .i64 0) := (blk_cell BK164.out 1).trans rfl; have hcz10_2 : w9.cell? ⟨gb164, 2, none⟩ = some (.bool false) := (blk_cell BK164.out 2).trans rfl; have hcz10_3 : w9.cell? ⟨gb164, 3, none⟩ = some (.string (⟨#[]⟩ : ByteArray)) := (blk_cell BK164.out 3).trans rfl; have hcz10_4 : w9.cell? ⟨gb164, 4, none⟩ = some (.int .i64 0) := (blk_cell BK164.out 4).trans rfl; have hcz10_5 : w9.cell? ⟨gb164, 5, none⟩ = some (.int .i64 0) := (blk_cell BK164.out 5).trans rfl; have hcz10_6 : w9.cell? ⟨gb164, 6, none⟩ = some (.int .i64 0) := (blk_cell BK164.out 6).trans rfl; have hfz10_0 := blk_frozen BK164.out 0; have hfz10_1 := blk_frozen BK164.out 1; have hfz10_2 := blk_frozen BK164.out 2; have hfz10_3 := blk_frozen BK164.out 3; have hfz10_4 := blk_frozen BK164.out 4; have hfz10_5 := blk_frozen BK164.out 5; have hfz10_6 := blk_frozen BK164.out 6))
              repeat (go_quiet (first | ((with_reducible refine gate_dst (N := 6) rfl ?_); refine box_event ?hg (N := 6) ?hd (cs := #[.int .i64 0, .int .i64 0, .bool false, .string (⟨#[]⟩ : ByteArray), .int .i64 0, .int .i64 0, .int .i64 0]) (t := 37) ?hr ?_; (case hd => rfl); (case hg => rfl); (case hr => first | (go_simp; done) | (go_simp; rfl)); intro gb164 hg w9 hbox hb; have n0_ := Aside0.mk (Kd.R_below (by (with_reducible repeat (first | apply Kd.R_alloc | apply Kd.R_drewN | apply Kd.R_drew)); exact HO_4.out) hb); have n1_ := Aside0.mk (below_step (by repeat (first | (with_reducible first | exact HB.out | apply below_alloc | apply pw_below_drewN | apply below_drew1) | exact HB.out)) hb); have n2_ := Aside0.mk (hbox); have n3_ := Aside0.mk ((by rw [hg]; exact (below_size (by repeat (first | (with_reducible first | exact HB.out | apply below_alloc | apply pw_below_drewN | apply below_drew1) | exact HB.out))) : w.heap.size ≤ gb164)); have n4_ := Aside0.mk ((by rw [hg]; exact (below_size (by repeat (first | (with_reducible first | exact HB.out | apply below_alloc | apply pw_below_drewN | apply below_drew1) | exact HB.out))) : w.heap.size ≤ gb164)); clear HO_4; clear HB; have HO_4 := n0_; have HB := n1_; have BK164 := n2_; have GW164 := n3_; have GE164 := n4_; clear n0_ n1_ n2_ n3_ n4_; clear hb hbox hg; have hcz10_0 : w9.cell? ⟨gb164, 0, none⟩ = some (.int .i64 0) := (blk_cell BK164.out 0).trans rfl; have hcz10_1 : w9.cell? ⟨gb164, 1, none⟩ = some (.int .i64 0) := (blk_cell BK164.out 1).trans rfl; have hcz10_2 : w9.cell? ⟨gb164, 2, none⟩ = some (.bool false) := (blk_cell BK164.out 2).trans rfl; have hcz10_3 : w9.cell? ⟨gb164, 3, none⟩ = some (.string (⟨#[]⟩ : ByteArray)) := (blk_cell BK164.out 3).trans rfl; have hcz10_4 : w9.cell? ⟨gb164, 4, none⟩ = some (.int .i64 0) := (blk_cell BK164.out 4).trans rfl; have hcz10_5 : w9.cell? ⟨gb164, 5, none⟩ = some (.int .i64 0) := (blk_cell BK164.out 5).trans rfl; have hcz10_6 : w9.cell? ⟨gb164, 6, none⟩ = some (.int .i64 0) := (blk_cell BK164.out 6).trans rfl; have hfz10_0 := blk_frozen BK164.out 0; have hfz10_1 := blk_frozen BK164.out 1; have hfz10_2 := blk_frozen BK164.out 2; have hfz10_3 := blk_frozen BK164.out 3; have hfz10_4 := blk_frozen BK164.out 4; have hfz10_5 := blk_frozen BK164.out 5; have hfz10_6 := blk_frozen BK164.out 6)); try go_wp2_with (first | ((with_reducible refine gate_dst (N := 6) rfl ?_); refine box_event ?hg (N := 6) ?hd (cs := #[.int .i64 0, .int .i64 0, .bool false, .string (⟨#[]⟩ : ByteArray), .int .i64 0, .int .i64 0, .int .i64 0]) (t := 37) ?hr ?_; (case hd => rfl); (case hg => rfl); (case hr => first | (go_simp; done) | (go_simp; rfl)); intro gb164 hg w9 hbox hb; have n0_ := Aside0.mk (Kd.R_below (by (with_reducible repeat (first | apply Kd.R_alloc | apply Kd.R_drewN | apply Kd.R_drew)); exact HO_4.out) hb); have n1_ := Aside0.mk (below_step (by repeat (first | (with_reducible first | exact HB.out | apply below_alloc | apply pw_below_drewN | apply below_drew1) | exact HB.out)) hb); have n2_ := Aside0.mk (hbox); have n3_ := Aside0.mk ((by rw [hg]; exact (below_size (by repeat (first | (with_reducible first | exact HB.out | apply below_alloc | apply pw_below_drewN | apply below_drew1) | exact HB.out))) : w.heap.size ≤ gb164)); have n4_ := Aside0.mk ((by rw [hg]; exact (below_size (by repeat (first | (with_reducible first | exact HB.out | apply below_alloc | apply pw_below_drewN | apply below_drew1) | exact HB.out))) : w.heap.size ≤ gb164)); clear HO_4; clear HB; have HO_4 := n0_; have HB := n1_; have BK164 := n2_; have GW164 := n3_; have GE164 := n4_; clear n0_ n1_ n2_ n3_ n4_; clear hb hbox hg; have hcz10_0 : w9.cell? ⟨gb164, 0, none⟩ = some (.int .i64 0) := (blk_cell BK164.out 0).trans rfl; have hcz10_1 : w9.cell? ⟨gb164, 1, none⟩ = some (.int .i64 0) := (blk_cell BK164.out 1).trans rfl; have hcz10_2 : w9.cell? ⟨gb164, 2, none⟩ = some (.bool false) := (blk_cell BK164.out 2).trans rfl; have hcz10_3 : w9.cell? ⟨gb164, 3, none⟩ = some (.string (⟨#[]⟩ : ByteArray)) := (blk_cell BK164.out 3).trans rfl; have hcz10_4 : w9.cell? ⟨gb164, 4, none⟩ = some (.int .i64 0) := (blk_cell BK164.out 4).trans rfl; have hcz10_5 : w9.cell? ⟨gb164, 5, none⟩ = some (.int .i64 0) := (blk_cell BK164.out 5).trans rfl; have hcz10_6 : w9.cell? ⟨gb164, 6, none⟩ = some (.int .i64 0) := (blk_cell BK164.out 6).trans rfl; have hfz10_0 := blk_frozen BK164.out 0; have hfz10_1 := blk_frozen BK164.out 1; have hfz10_2 := blk_frozen BK164.out 2; have hfz10_3 := blk_frozen BK164.out 3; have hfz10_4 := blk_frozen BK164.out 4; have hfz10_5 := blk_frozen BK164.out 5; have hfz10_6 := blk_frozen BK164.out 6)))
              go_loopg [7] k1 (fun kq v7 w' => ∃ (x4_2 : List (S59)) (x7_2 : Int), v7 = .int .i64 x7_2 ∧ Aside0 (locklessref17_Spans.l1 kq l0 x4_2 x5_1 x7_2 ((rd_T37 l0 x5_1).f0) ((rd_T37 l0 x5_1).f1) true ((rd_T37 l0 x5_1).f3.f0) ((rd_T37 l0 x5_1).f3.f1) ((rd_T37 l0 x5_1).f3.f2) ((rd_T37 l0 x5_1).f4) = some (r1, r2)) ∧ Aside0 (kq ≤ k1) ∧ Aside0 (Kd.R k59 59 w' w.heap.size (fun _ => True) u4 x4_2) ∧ Aside0 (w'.heap[gb164]? = some (.cells #[.int .i64 ((rd_T37 l0 x5_1).f0), .int .i64 ((rd_T37 l0 x5_1).f1), .bool true, .string ((rd_T37 l0 x5_1).f3.f0), .int .i64 ((rd_T37 l0 x5_1).f3.f1), .int .i64 ((rd_T37 l0 x5_1).f3.f2), .int .i64 ((rd_T37 l0 x5_1).f4)] 37 (0, 0))) ∧ Aside0 (Below w.heap.size w w'))
              case atStart => exact ⟨(x4_1), (0), (by first | rfl | (simp; done) | (simp [*]; done)), H', ⟨Nat.le_refl _⟩, ⟨by (with_reducible repeat (first | apply Kd.R_alloc | apply Kd.R_drewN | apply Kd.R_drew)); exact Kd.R_mono (Kd.R_far (p := ⟨gb164, 6, none⟩) (Kd.R_far (p := ⟨gb164, 5, none⟩) (Kd.R_far (p := ⟨gb164, 4, none⟩) (Kd.R_far (p := ⟨gb164, 3, none⟩) (Kd.R_far (p := ⟨gb164, 2, none⟩) (Kd.R_far (p := ⟨gb164, 1, none⟩) (Kd.R_far (p := ⟨gb164, 0, none⟩) (Kd.R_types HO_4.out BK164.out (by decide)) (fun _ hk => hk.2) (.int .i64 ((rd_T37 l0 x5_1).f0))) (fun _ hk => hk.2) (.int .i64 ((rd_T37 l0 x5_1).f1))) (fun _ hk => hk.2) (.bool true)) (fun _ hk => hk.2) (.string ((rd_T37 l0 x5_1).f3.f0))) (fun _ hk => hk.2) (.int .i64 ((rd_T37 l0 x5_1).f3.f1))) (fun _ hk => hk.2) (.int .i64 ((rd_T37 l0 x5_1).f3.f2))) (fun _ hk => hk.2) (.int .i64 ((rd_T37 l0 x5_1).f4))) (fun _ hk => trivial)⟩, ⟨by (with_reducible repeat (first | refine blk_drewN ?_ _ | refine blk_drew ?_ | refine blk_alloc ?_ _)); refine blk_put (cs := #[.int .i64 ((rd_T37 l0 x5_1).f0), .int .i64 ((rd_T37 l0 x5_1).f1), .bool true, .string ((rd_T37 l0 x5_1).f3.f0), .int .i64 ((rd_T37 l0 x5_1).f3.f1), .int .i64 ((rd_T37 l0 x5_1).f3.f2), .int .i64 0]) ?_ 6 _ rfl; (with_reducible repeat (first | refine blk_drewN ?_ _ | refine blk_drew ?_ | refine blk_alloc ?_ _)); refine blk_put (cs := #[.int .i64 ((rd_T37 l0 x5_1).f0), .int .i64 ((rd_T37 l0 x5_1).f1), .bool true, .string ((rd_T37 l0 x5_1).f3.f0), .int .i64 ((rd_T37 l0 x5_1).f3.f1), .int .i64 0, .int .i64 0]) ?_ 5 _ rfl; (with_reducible repeat (first | refine blk_drewN ?_ _ | refine blk_drew ?_ | refine blk_alloc ?_ _)); refine blk_put (cs := #[.int .i64 ((rd_T37 l0 x5_1).f0), .int .i64 ((rd_T37 l0 x5_1).f1), .bool true, .string ((rd_T37 l0 x5_1).f3.f0), .int .i64 0, .int .i64 0, .int .i64 0]) ?_ 4 _ rfl; (with_reducible repeat (first | refine blk_drewN ?_ _ | refine blk_drew ?_ | refine blk_alloc ?_ _)); refine blk_put (cs := #[.int .i64 ((rd_T37 l0 x5_1).f0), .int .i64 ((rd_T37 l0 x5_1).f1), .bool true, .string (⟨#[]⟩ : ByteArray), .int .i64 0, .int .i64 0, .int .i64 0]) ?_ 3 _ rfl; (with_reducible repeat (first | refine blk_drewN ?_ _ | refine blk_drew ?_ | refine blk_alloc ?_ _)); refine blk_put (cs := #[.int .i64 ((rd_T37 l0 x5_1).f0), .int .i64 ((rd_T37 l0 x5_1).f1), .bool false, .string (⟨#[]⟩ : ByteArray), .int .i64 0, .int .i64 0, .int .i64 0]) ?_ 2 _ rfl; (with_reducible repeat (first | refine blk_drewN ?_ _ | refine blk_drew ?_ | refine blk_alloc ?_ _)); refine blk_put (cs := #[.int .i64 ((rd_T37 l0 x5_1).f0), .int .i64 0, .bool false, .string (⟨#[]⟩ : ByteArray), .int .i64 0, .int .i64 0, .int .i64 0]) ?_ 1 _ rfl; (with_reducible repeat (first | refine blk_drewN ?_ _ | refine blk_drew ?_ | refine blk_alloc ?_ _)); refine blk_put (cs := #[.int .i64 0, .int .i64 0, .bool false, .string (⟨#[]⟩ : ByteArray), .int .i64 0, .int .i64 0, .int .i64 0]) ?_ 0 _ rfl; (with_reducible repeat (first | refine blk_drewN ?_ _ | refine blk_drew ?_ | refine blk_alloc ?_ _)); exact BK164.out⟩, ⟨by repeat (first | (with_reducible first | exact HB.out | apply below_alloc | apply pw_below_drewN | apply below_drew1 | refine below_set ?_ GE164.out) | exact HB.out)⟩⟩
              case round =>
                clear H'
                try clear p1
                try clear q1
                try clear hx1
                try clear p2
                try clear c3
                try clear c5
                try clear c5b0
                try clear c6
                try clear c6b0
                try clear p6
                try clear q7
                try clear c8
                try clear hcz10_0
                try clear hcz10_1
                try clear hcz10_2
                try clear hcz10_3
                try clear hcz10_4
                try clear hcz10_5
                try clear hcz10_6
                try clear hfz10_0
                try clear hfz10_1
                try clear hfz10_2
                try clear hfz10_3
                try clear hfz10_4
                try clear hfz10_5
                try clear hfz10_6
                try clear hx163_0
                try clear hx163_1
                try clear hx163_2
                try clear hx163_3
                try clear hx163_4
                try clear hx163_5
                try clear hx163_6
                try clear p163
                try clear p2
                try clear q163
                obtain ⟨x4_2, x7_2, rfl, HA, HK2, HO_4, BK164, HB⟩ := hrel
                cases gk with
                | zero => exact absurd HA.out (by simp [locklessref17_Spans.l1])
                | succ k2 =>
                  have H := HA.out
                  clear HA
                  simp only [locklessref17_Spans.l1] at H
                  by_cases c11 : x7_2 < (x4_2.length : Int)
                  · rw [if_pos c11] at H
                    have c11b0 : decide (x7_2 < (x4_2.length : Int)) = true := decide_eq_true c11
                    clear c11
                    by_cases c12 : 0 ≤ x7_2
                    · rw [if_pos c12] at H
                      have c12b0 : decide (0 ≤ x7_2) = true := decide_eq_true c12
                      clear c12
                      by_cases c13 : ((rd_T59 x4_2 x7_2).f0) = ((rd_T37 l0 x5_1).f0)
                      · rw [if_pos c13] at H
                        have c13b0 : (((rd_T59 x4_2 x7_2).f0) == ((rd_T37 l0 x5_1).f0)) = true := beq_iff_eq.mpr c13
                        have c13b1 : (((rd_T59 x4_2 x7_2).f0) != ((rd_T37 l0 x5_1).f0)) = false := bne_eq_false_iff_eq.mpr c13
                        clear c13
                        by_cases c14 : ((rd_T59 x4_2 x7_2).f1) = ((rd_T37 l0 x5_1).f1)
                        · rw [if_pos c14] at H
                          have c14b0 : (((rd_T59 x4_2 x7_2).f1) == ((rd_T37 l0 x5_1).f1)) = true := beq_iff_eq.mpr c14
                          have c14b1 : (((rd_T59 x4_2 x7_2).f1) != ((rd_T37 l0 x5_1).f1)) = false := bne_eq_false_iff_eq.mpr c14
                          clear c14
                          obtain ⟨y170, hy170⟩ : ∃ y_ : List (S59), y_ = (x4_2.set (x7_2 : Int).toNat (⟨(rd_T59 x4_2 x7_2).f0, (rd_T59 x4_2 x7_2).f1, (⟨(rd_T59 x4_2 x7_2).f2.f0, (rd_T59 x4_2 x7_2).f2.f1, (rd_T59 x4_2 x7_2).f2.f2⟩ : S35), (rd_T59 x4_2 x7_2).f3, x5_1, (rd_T59 x4_2 x7_2).f5⟩ : S59)) := ⟨_, rfl⟩
                          replace H : (locklessref17_Spans.l1 k2 l0 (y170.set (x7_2 : Int).toNat (⟨(rd_T59 y170 x7_2).f0, (rd_T59 y170 x7_2).f1, (⟨(rd_T59 y170 x7_2).f2.f0, (rd_T59 y170 x7_2).f2.f1, (rd_T59 y170 x7_2).f2.f2⟩ : S35), (rd_T59 y170 x7_2).f3, (rd_T59 y170 x7_2).f4, ((rd_T37 l0 x5_1).f4)⟩ : S59)) x5_1 (wrap64 (x7_2 + 1)) ((rd_T37 l0 x5_1).f0) ((rd_T37 l0 x5_1).f1) true ((rd_T37 l0 x5_1).f3.f0) ((rd_T37 l0 x5_1).f3.f1) ((rd_T37 l0 x5_1).f3.f2) ((rd_T37 l0 x5_1).f4)) = some (r1, r2) := by first | (rw [hy170]; with_reducible exact H) | (have H2_ := (Option.bind_some _ _).symm.trans H; rw [hy170]; with_reducible exact H2_) | (have H2_ := (Option.bind_some _ _).symm.trans H; with_reducible exact H2_) | with_reducible exact H | (rw [hy170]; exact H) | exact H
                          have Ny170 := Aside0.mk hy170
                          clear hy170
                          obtain ⟨y171, hy171⟩ : ∃ y_ : List (S59), y_ = (y170.set (x7_2 : Int).toNat (⟨(rd_T59 y170 x7_2).f0, (rd_T59 y170 x7_2).f1, (⟨(rd_T59 y170 x7_2).f2.f0, (rd_T59 y170 x7_2).f2.f1, (rd_T59 y170 x7_2).f2.f2⟩ : S35), (rd_T59 y170 x7_2).f3, (rd_T59 y170 x7_2).f4, ((rd_T37 l0 x5_1).f4)⟩ : S59)) := ⟨_, rfl⟩
                          replace H : (locklessref17_Spans.l1 k2 l0 y171 x5_1 (wrap64 (x7_2 + 1)) ((rd_T37 l0 x5_1).f0) ((rd_T37 l0 x5_1).f1) true ((rd_T37 l0 x5_1).f3.f0) ((rd_T37 l0 x5_1).f3.f1) ((rd_T37 l0 x5_1).f3.f2) ((rd_T37 l0 x5_1).f4)) = some (r1, r2) := by first | (rw [hy171]; with_reducible exact H) | (have H2_ := (Option.bind_some _ _).symm.trans H; rw [hy171]; with_reducible exact H2_) | (have H2_ := (Option.bind_some _ _).symm.trans H; with_reducible exact H2_) | with_reducible exact H | (rw [hy171]; exact H) | exact H
                          have Ny171 := Aside0.mk hy171
                          clear hy171
                          have H' := Aside0.mk H
                          clear H
                          obtain ⟨Ao17, co17, eo17⟩ := Kd.R_slice HO_4.out
                          subst eo17
                          have p168 : 0 ≤ (x7_2 : Int) := of_decide_eq_true (by first | (with_reducible assumption) | assumption)
                          have q168 : x7_2 < (x4_2.length : Int) := of_decide_eq_true (by first | (with_reducible assumption) | assumption)
                          obtain ⟨ad168, e168, hx168_0, hx168_1, hx168_2, hx168_3, hx168_4, hx168_5, hx168_6, hx168_7⟩ := at_T59 (Kd.R_reads' HO_4.out).2.2 x7_2 p168 q168
                          cases e168
                          replace p168 := eq_true p168
                          replace q168 := eq_true q168
                          have hcz18_0 : wr.cell? ⟨gb164, 0, none⟩ = some (.int .i64 ((rd_T37 l0 x5_1).f0)) := (blk_cell BK164.out 0).trans rfl
                          have hcz18_1 : wr.cell? ⟨gb164, 1, none⟩ = some (.int .i64 ((rd_T37 l0 x5_1).f1)) := (blk_cell BK164.out 1).trans rfl
                          have hcz18_2 : wr.cell? ⟨gb164, 2, none⟩ = some (.bool true) := (blk_cell BK164.out 2).trans rfl
                          have hcz18_3 : wr.cell? ⟨gb164, 3, none⟩ = some (.string ((rd_T37 l0 x5_1).f3.f0)) := (blk_cell BK164.out 3).trans rfl
                          have hcz18_4 : wr.cell? ⟨gb164, 4, none⟩ = some (.int .i64 ((rd_T37 l0 x5_1).f3.f1)) := (blk_cell BK164.out 4).trans rfl
                          have hcz18_5 : wr.cell? ⟨gb164, 5, none⟩ = some (.int .i64 ((rd_T37 l0 x5_1).f3.f2)) := (blk_cell BK164.out 5).trans rfl
                          have hcz18_6 : wr.cell? ⟨gb164, 6, none⟩ = some (.int .i64 ((rd_T37 l0 x5_1).f4)) := (blk_cell BK164.out 6).trans rfl
                          have hfz18_0 := blk_frozen BK164.out 0
                          have hfz18_1 := blk_frozen BK164.out 1
                          have hfz18_2 := blk_frozen BK164.out 2
                          have hfz18_3 := blk_frozen BK164.out 3
                          have hfz18_4 := blk_frozen BK164.out 4
                          have hfz18_5 := blk_frozen BK164.out 5
                          have hfz18_6 := blk_frozen BK164.out 6
                          have p169 : 0 ≤ (x7_2 : Int) := of_decide_eq_true (by first | (with_reducible assumption) | assumption)
                          have q169 : x7_2 < (x4_2.length : Int) := of_decide_eq_true (by first | (with_reducible assumption) | assumption)
                          obtain ⟨ad169, e169, hx169_0, hx169_1, hx169_2, hx169_3, hx169_4, hx169_5, hx169_6, hx169_7⟩ := at_T59 (Kd.R_reads' HO_4.out).2.2 x7_2 p169 q169
                          obtain rfl : ad168 = ad169 := (by injection e169)
                          replace p169 := eq_true p169
                          replace q169 := eq_true q169
                          have p15 : 0 ≤ (x7_2 : Int) := of_decide_eq_true (by first | (with_reducible assumption) | assumption)
                          have q15 : (x7_2 : Int) < ((x4_2.length : Int) : Int) := of_decide_eq_true (by first | (with_reducible assumption) | assumption)
                          obtain ⟨go15, co15, eo15, gb15, gl15, cl15, HG15⟩ := Kd.R_form HO_4.out (by omega)
                          (first | cases eo15 | (injection eo15 with ea_ en_ ec_; (first | subst ea_ | (injection ea_ with ea_; subst ea_)); subst ec_; clear en_))
                          have GB15 := Aside0.mk gb15
                          have GG15 := Aside0.mk HG15
                          clear gb15 gl15 HG15
                          (first | simp only [add_plain] at hx168_0 | skip)
                          (first | simp only [add_plain] at hx168_1 | skip)
                          (first | simp only [add_plain] at hx168_2 | skip)
                          (first | simp only [add_plain] at hx168_3 | skip)
                          (first | simp only [add_plain] at hx168_4 | skip)
                          (first | simp only [add_plain] at hx168_5 | skip)
                          (first | simp only [add_plain] at hx168_6 | skip)
                          (first | simp only [add_plain] at hx168_7 | skip)
                          (first | simp only [add_plain] at hx169_0 | skip)
                          (first | simp only [add_plain] at hx169_1 | skip)
                          (first | simp only [add_plain] at hx169_2 | skip)
                          (first | simp only [add_plain] at hx169_3 | skip)
                          (first | simp only [add_plain] at hx169_4 | skip)
                          (first | simp only [add_plain] at hx169_5 | skip)
                          (first | simp only [add_plain] at hx169_6 | skip)
                          (first | simp only [add_plain] at hx169_7 | skip)
                          obtain ⟨ce15, hcl15, hM15, hcc15, hfr15⟩ := Kd.R_elem HO_4.out z59 (x7_2 : Int) p15 q15
                          obtain rfl := k59_openM hM15
                          have hx15_0 : wr.cell? ⟨go15, (x7_2 : Int).toNat * 8, none⟩ = some (.int .i64 ((rd_T59 x4_2 x7_2).f0)) := hcc15 0 _ rfl
                          have hx15_1 : wr.cell? ⟨go15, (x7_2 : Int).toNat * 8 + 1, none⟩ = some (.int .i64 ((rd_T59 x4_2 x7_2).f1)) := hcc15 1 _ rfl
                          have hx15_2 : wr.cell? ⟨go15, (x7_2 : Int).toNat * 8 + 2, none⟩ = some (.string ((rd_T59 x4_2 x7_2).f2.f0)) := hcc15 2 _ rfl
                          have hx15_3 : wr.cell? ⟨go15, (x7_2 : Int).toNat * 8 + 3, none⟩ = some (.int .i64 ((rd_T59 x4_2 x7_2).f2.f1)) := hcc15 3 _ rfl
                          have hx15_4 : wr.cell? ⟨go15, (x7_2 : Int).toNat * 8 + 4, none⟩ = some (.int .i64 ((rd_T59 x4_2 x7_2).f2.f2)) := hcc15 4 _ rfl
                          have hx15_5 : wr.cell? ⟨go15, (x7_2 : Int).toNat * 8 + 5, none⟩ = some (.int .i64 ((rd_T59 x4_2 x7_2).f3)) := hcc15 5 _ rfl
                          have hx15_6 : wr.cell? ⟨go15, (x7_2 : Int).toNat * 8 + 6, none⟩ = some (.int .i64 ((rd_T59 x4_2 x7_2).f4)) := hcc15 6 _ rfl
                          have hx15_7 : wr.cell? ⟨go15, (x7_2 : Int).toNat * 8 + 7, none⟩ = some (.int .i64 ((rd_T59 x4_2 x7_2).f5)) := hcc15 7 _ rfl
                          have hf15_0 : wr.frozen? ⟨go15, (x7_2 : Int).toNat * 8, none⟩ = false := hfr15 0
                          have hf15_1 : wr.frozen? ⟨go15, (x7_2 : Int).toNat * 8 + 1, none⟩ = false := hfr15 1
                          have hf15_2 : wr.frozen? ⟨go15, (x7_2 : Int).toNat * 8 + 2, none⟩ = false := hfr15 2
                          have hf15_3 : wr.frozen? ⟨go15, (x7_2 : Int).toNat * 8 + 3, none⟩ = false := hfr15 3
                          have hf15_4 : wr.frozen? ⟨go15, (x7_2 : Int).toNat * 8 + 4, none⟩ = false := hfr15 4
                          have hf15_5 : wr.frozen? ⟨go15, (x7_2 : Int).toNat * 8 + 5, none⟩ = false := hfr15 5
                          have hf15_6 : wr.frozen? ⟨go15, (x7_2 : Int).toNat * 8 + 6, none⟩ = false := hfr15 6
                          have hf15_7 : wr.frozen? ⟨go15, (x7_2 : Int).toNat * 8 + 7, none⟩ = false := hfr15 7
                          clear hcl15 hcc15 hfr15 hM15
                          replace p15 := eq_true p15
                          replace q15 := eq_true q15
                          have HX19 := Aside0.mk (show Kd.R k59 59 wr w.heap.size (fun _ => True) (.slice (some ⟨go15, 0, none⟩) x4_2.length co17) x4_2 from (by (with_reducible repeat (first | apply Kd.R_alloc | apply Kd.R_drewN | apply Kd.R_drew)); exact HO_4.out))
                          obtain ⟨ce19, hcl19, hM19, hcc19, hfr19⟩ := Kd.R_elem HX19.out z59 (x7_2 : Int) (of_decide_eq_true (by first | (with_reducible assumption) | assumption)) (by have h_ : (x7_2 : Int) < ((x4_2.length : Int) : Int) := of_decide_eq_true (by first | (with_reducible assumption) | assumption); first | exact h_ | (have e_ := (Kd.R_reads' HO_4.out).1; omega) | simpa using h_)
                          obtain rfl := k59_openM hM19
                          have HP19 := Kd.R_seg HX19.out (x7_2 : Int) (of_decide_eq_true (by first | (with_reducible assumption) | assumption)) (by have h_ : (x7_2 : Int) < ((x4_2.length : Int) : Int) := of_decide_eq_true (by first | (with_reducible assumption) | assumption); first | exact h_ | (have e_ := (Kd.R_reads' HO_4.out).1; omega) | simpa using h_) (seg := [.int .i64 x5_1]) (j := 6) hcl19 hcc19 (show 7 ≤ 8 from by decide) (x' := (⟨(rd_T59 x4_2 x7_2).f0, (rd_T59 x4_2 x7_2).f1, (⟨(rd_T59 x4_2 x7_2).f2.f0, (rd_T59 x4_2 x7_2).f2.f1, (rd_T59 x4_2 x7_2).f2.f2⟩ : S35), (rd_T59 x4_2 x7_2).f3, x5_1, (rd_T59 x4_2 x7_2).f5⟩ : S59)) (k59_mkM _ _ _ (⟨(rd_T59 x4_2 x7_2).f0, (rd_T59 x4_2 x7_2).f1, (⟨(rd_T59 x4_2 x7_2).f2.f0, (rd_T59 x4_2 x7_2).f2.f1, (rd_T59 x4_2 x7_2).f2.f2⟩ : S35), (rd_T59 x4_2 x7_2).f3, x5_1, (rd_T59 x4_2 x7_2).f5⟩ : S59) ) (fun _ hk => hk)
                          have hx19_6 := hcc19 6 _ rfl
                          (try simp only [show (k59).sz = 8 from rfl, Nat.mul_one, Nat.add_zero] at hx19_6)
                          have hf19_6 := hfr19 6
                          (try simp only [show (k59).sz = 8 from rfl, Nat.mul_one, Nat.add_zero] at hf19_6)
                          clear hcl19 hcc19 hfr19 hM19
                          go_wp2_with (first | ((with_reducible refine gate_store (t := 3) (p := 63) rfl ?_); (try (rw [drewN_self wr]; generalize hq_ : World.drewN wr _ = wr; have n0_ := Aside0.mk (Kd.R_at hq_ HO_4.out); have n1_ := Aside0.mk (blk_at hq_ BK164.out); have n2_ := Aside0.mk (below_at hq_ HB.out); clear hq_ HO_4 BK164 HB; have HO_4 := n0_; have BK164 := n1_; have HB := n2_; clear n0_ n1_ n2_; (try (have HX19 := Aside0.mk (show Kd.R k59 59 wr w.heap.size (fun _ => True) (.slice (some ⟨go15, 0, none⟩) x4_2.length co17) x4_2 from (by (with_reducible repeat (first | apply Kd.R_alloc | apply Kd.R_drewN | apply Kd.R_drew)); exact HO_4.out)))); (try (obtain ⟨ce19, hcl19, hM19, hcc19, hfr19⟩ := Kd.R_elem HX19.out z59 (x7_2 : Int) (of_decide_eq_true (by first | (with_reducible assumption) | assumption)) (by have h_ : (x7_2 : Int) < ((x4_2.length : Int) : Int) := of_decide_eq_true (by first | (with_reducible assumption) | assumption); first | exact h_ | (have e_ := (Kd.R_reads' HO_4.out).1; omega) | simpa using h_))); (try (obtain rfl := k59_openM hM19)); (try (have HP19 := Kd.R_seg HX19.out (x7_2 : Int) (of_decide_eq_true (by first | (with_reducible assumption) | assumption)) (by have h_ : (x7_2 : Int) < ((x4_2.length : Int) : Int) := of_decide_eq_true (by first | (with_reducible assumption) | assumption); first | exact h_ | (have e_ := (Kd.R_reads' HO_4.out).1; omega) | simpa using h_) (seg := [.int .i64 x5_1]) (j := 6) hcl19 hcc19 (show 7 ≤ 8 from by decide) (x' := (⟨(rd_T59 x4_2 x7_2).f0, (rd_T59 x4_2 x7_2).f1, (⟨(rd_T59 x4_2 x7_2).f2.f0, (rd_T59 x4_2 x7_2).f2.f1, (rd_T59 x4_2 x7_2).f2.f2⟩ : S35), (rd_T59 x4_2 x7_2).f3, x5_1, (rd_T59 x4_2 x7_2).f5⟩ : S59)) (k59_mkM _ _ _ (⟨(rd_T59 x4_2 x7_2).f0, (rd_T59 x4_2 x7_2).f1, (⟨(rd_T59 x4_2 x7_2).f2.f0, (rd_T59 x4_2 x7_2).f2.f1, (rd_T59 x4_2 x7_2).f2.f2⟩ : S35), (rd_T59 x4_2 x7_2).f3, x5_1, (rd_T59 x4_2 x7_2).f5⟩ : S59) ) (fun _ hk => hk))); (try (have hx19_6 := hcc19 6 _ rfl)); (try (try simp only [show (k59).sz = 8 from rfl, Nat.mul_one, Nat.add_zero] at hx19_6)); (try (have hf19_6 := hfr19 6)); (try (try simp only [show (k59).sz = 8 from rfl, Nat.mul_one, Nat.add_zero] at hf19_6)); (try (clear hcl19 hcc19 hfr19 hM19)))); refine store_event (t := 3) (p := 63) (v := ?vo_w20) (w1 := (wr.setCell ⟨go15, (x7_2 : Int).toNat * 8 + 6, none⟩ (.int .i64 x5_1))) ?hg ?ho ?hn ?hr ?_; (case ho => rfl); (case hg => rfl); (case hn => rfl); (case hr => first | (go_simp; done) | (go_simp; rfl)); intro w20 hw; have hg : wr.grownBy w20 (some go15) := (by rw [hw]; exact HP19.2); have hp_ : Kd.R k59 59 w20 w.heap.size (fun _ => True) (.slice (some ⟨go15, 0, none⟩) x4_2.length co17) y170 := (by rw [hw, Ny170.out]; exact HP19.1); clear HP19; have n0_ := Aside0.mk (hp_); have n1_ := Aside0.mk (blk_grown (g := gb164) (o := .cells #[.int .i64 ((rd_T37 l0 x5_1).f0), .int .i64 ((rd_T37 l0 x5_1).f1), .bool true, .string ((rd_T37 l0 x5_1).f3.f0), .int .i64 ((rd_T37 l0 x5_1).f3.f1), .int .i64 ((rd_T37 l0 x5_1).f3.f2), .int .i64 ((rd_T37 l0 x5_1).f4)] 37 (0, 0)) (by (with_reducible repeat (first | refine blk_drewN ?_ _ | refine blk_drew ?_ | refine blk_alloc ?_ _)); exact BK164.out) hg (Kd.R_ne HO_4.out BK164.out (by decide))); have n2_ := Aside0.mk ((by rw [hw]; exact below_set (HB.out) GB15.out : Below w.heap.size w w20)); clear HO_4; clear BK164; clear HB; have HO_4 := n0_; have BK164 := n1_; have HB := n2_; clear n0_ n1_ n2_; clear hg hw hp_; have hcz21_0 : w20.cell? ⟨gb164, 0, none⟩ = some (.int .i64 ((rd_T37 l0 x5_1).f0)) := (blk_cell BK164.out 0).trans rfl; have hcz21_1 : w20.cell? ⟨gb164, 1, none⟩ = some (.int .i64 ((rd_T37 l0 x5_1).f1)) := (blk_cell BK164.out 1).trans rfl; have hcz21_2 : w20.cell? ⟨gb164, 2, none⟩ = some (.bool true) := (blk_cell BK164.out 2).trans rfl; have hcz21_3 : w20.cell? ⟨gb164, 3, none⟩ = some (.string ((rd_T37 l0 x5_1).f3.f0)) := (blk_cell BK164.out 3).trans rfl; have hcz21_4 : w20.cell? ⟨gb164, 4, none⟩ = some (.int .i64 ((rd_T37 l0 x5_1).f3.f1)) := (blk_cell BK164.out 4).trans rfl; have hcz21_5 : w20.cell? ⟨gb164, 5, none⟩ = some (.int .i64 ((rd_T37 l0 x5_1).f3.f2)) := (blk_cell BK164.out 5).trans rfl; have hcz21_6 : w20.cell? ⟨gb164, 6, none⟩ = some (.int .i64 ((rd_T37 l0 x5_1).f4)) := (blk_cell BK164.out 6).trans rfl; have hfz21_0 := blk_frozen BK164.out 0; have hfz21_1 := blk_frozen BK164.out 1; have hfz21_2 := blk_frozen BK164.out 2; have hfz21_3 := blk_frozen BK164.out 3; have hfz21_4 := blk_frozen BK164.out 4; have hfz21_5 := blk_frozen BK164.out 5; have hfz21_6 := blk_frozen BK164.out 6; have p16 : 0 ≤ (x7_2 : Int) := of_decide_eq_true (by first | (with_reducible assumption) | assumption); have q16 : (x7_2 : Int) < ((x4_2.length : Int) : Int) := of_decide_eq_true (by first | (with_reducible assumption) | assumption); obtain ⟨ce16, hcl16, hM16, hcc16, hfr16⟩ := Kd.R_elem HO_4.out z59 (x7_2 : Int) p16 q16; obtain rfl := k59_openM hM16; have hx16_0 : w20.cell? ⟨go15, (x7_2 : Int).toNat * 8, none⟩ = some (.int .i64 ((rd_T59 y170 x7_2).f0)) := hcc16 0 _ rfl; have hx16_1 : w20.cell? ⟨go15, (x7_2 : Int).toNat * 8 + 1, none⟩ = some (.int .i64 ((rd_T59 y170 x7_2).f1)) := hcc16 1 _ rfl; have hx16_2 : w20.cell? ⟨go15, (x7_2 : Int).toNat * 8 + 2, none⟩ = some (.string ((rd_T59 y170 x7_2).f2.f0)) := hcc16 2 _ rfl; have hx16_3 : w20.cell? ⟨go15, (x7_2 : Int).toNat * 8 + 3, none⟩ = some (.int .i64 ((rd_T59 y170 x7_2).f2.f1)) := hcc16 3 _ rfl; have hx16_4 : w20.cell? ⟨go15, (x7_2 : Int).toNat * 8 + 4, none⟩ = some (.int .i64 ((rd_T59 y170 x7_2).f2.f2)) := hcc16 4 _ rfl; have hx16_5 : w20.cell? ⟨go15, (x7_2 : Int).toNat * 8 + 5, none⟩ = some (.int .i64 ((rd_T59 y170 x7_2).f3)) := hcc16 5 _ rfl; have hx16_6 : w20.cell? ⟨go15, (x7_2 : Int).toNat * 8 + 6, none⟩ = some (.int .i64 ((rd_T59 y170 x7_2).f4)) := hcc16 6 _ rfl; have hx16_7 : w20.cell? ⟨go15, (x7_2 : Int).toNat * 8 + 7, none⟩ = some (.int .i64 ((rd_T59 y170 x7_2).f5)) := hcc16 7 _ rfl; have hf16_0 : w20.frozen? ⟨go15, (x7_2 : Int).toNat * 8, none⟩ = false := hfr16 0; have hf16_1 : w20.frozen? ⟨go15, (x7_2 : Int).toNat * 8 + 1, none⟩ = false := hfr16 1; have hf16_2 : w20.frozen? ⟨go15, (x7_2 : Int).toNat * 8 + 2, none⟩ = false := hfr16 2; have hf16_3 : w20.frozen? ⟨go15, (x7_2 : Int).toNat * 8 + 3, none⟩ = false := hfr16 3; have hf16_4 : w20.frozen? ⟨go15, (x7_2 : Int).toNat * 8 + 4, none⟩ = false := hfr16 4; have hf16_5 : w20.frozen? ⟨go15, (x7_2 : Int).toNat * 8 + 5, none⟩ = false := hfr16 5; have hf16_6 : w20.frozen? ⟨go15, (x7_2 : Int).toNat * 8 + 6, none⟩ = false := hfr16 6; have hf16_7 : w20.frozen? ⟨go15, (x7_2 : Int).toNat * 8 + 7, none⟩ = false := hfr16 7; clear hcl16 hcc16 hfr16 hM16; replace p16 := eq_true p16; replace q16 := eq_true q16; have HX22 := Aside0.mk (show Kd.R k59 59 w20 w.heap.size (fun _ => True) (.slice (some ⟨go15, 0, none⟩) x4_2.length co17) y170 from (by (with_reducible repeat (first | apply Kd.R_alloc | apply Kd.R_drewN | apply Kd.R_drew)); exact HO_4.out)); obtain ⟨ce22, hcl22, hM22, hcc22, hfr22⟩ := Kd.R_elem HX22.out z59 (x7_2 : Int) (of_decide_eq_true (by first | (with_reducible assumption) | assumption)) (by have h_ : (x7_2 : Int) < ((x4_2.length : Int) : Int) := of_decide_eq_true (by first | (with_reducible assumption) | assumption); first | exact h_ | (have e_ := (Kd.R_reads' HO_4.out).1; omega) | simpa using h_); obtain rfl := k59_openM hM22; have HP22 := Kd.R_seg HX22.out (x7_2 : Int) (of_decide_eq_true (by first | (with_reducible assumption) | assumption)) (by have h_ : (x7_2 : Int) < ((x4_2.length : Int) : Int) := of_decide_eq_true (by first | (with_reducible assumption) | assumption); first | exact h_ | (have e_ := (Kd.R_reads' HO_4.out).1; omega) | simpa using h_) (seg := [.int .i64 ((rd_T37 l0 x5_1).f4)]) (j := 7) hcl22 hcc22 (show 8 ≤ 8 from by decide) (x' := (⟨(rd_T59 y170 x7_2).f0, (rd_T59 y170 x7_2).f1, (⟨(rd_T59 y170 x7_2).f2.f0, (rd_T59 y170 x7_2).f2.f1, (rd_T59 y170 x7_2).f2.f2⟩ : S35), (rd_T59 y170 x7_2).f3, (rd_T59 y170 x7_2).f4, ((rd_T37 l0 x5_1).f4)⟩ : S59)) (k59_mkM _ _ _ (⟨(rd_T59 y170 x7_2).f0, (rd_T59 y170 x7_2).f1, (⟨(rd_T59 y170 x7_2).f2.f0, (rd_T59 y170 x7_2).f2.f1, (rd_T59 y170 x7_2).f2.f2⟩ : S35), (rd_T59 y170 x7_2).f3, (rd_T59 y170 x7_2).f4, ((rd_T37 l0 x5_1).f4)⟩ : S59) ) (fun _ hk => hk); have hx22_7 := hcc22 7 _ rfl; (try simp only [show (k59).sz = 8 from rfl, Nat.mul_one, Nat.add_zero] at hx22_7); have hf22_7 := hfr22 7; (try simp only [show (k59).sz = 8 from rfl, Nat.mul_one, Nat.add_zero] at hf22_7); clear hcl22 hcc22 hfr22 hM22) | ((with_reducible refine gate_store (t := 3) (p := 69) rfl ?_); (try (rw [drewN_self w20]; generalize hq_ : World.drewN w20 _ = w20; have n0_ := Aside0.mk (Kd.R_at hq_ HO_4.out); have n1_ := Aside0.mk (blk_at hq_ BK164.out); have n2_ := Aside0.mk (below_at hq_ HB.out); clear hq_ HO_4 BK164 HB; have HO_4 := n0_; have BK164 := n1_; have HB := n2_; clear n0_ n1_ n2_; (try (have HX22 := Aside0.mk (show Kd.R k59 59 w20 w.heap.size (fun _ => True) (.slice (some ⟨go15, 0, none⟩) x4_2.length co17) y170 from (by (with_reducible repeat (first | apply Kd.R_alloc | apply Kd.R_drewN | apply Kd.R_drew)); exact HO_4.out)))); (try (obtain ⟨ce22, hcl22, hM22, hcc22, hfr22⟩ := Kd.R_elem HX22.out z59 (x7_2 : Int) (of_decide_eq_true (by first | (with_reducible assumption) | assumption)) (by have h_ : (x7_2 : Int) < ((x4_2.length : Int) : Int) := of_decide_eq_true (by first | (with_reducible assumption) | assumption); first | exact h_ | (have e_ := (Kd.R_reads' HO_4.out).1; omega) | simpa using h_))); (try (obtain rfl := k59_openM hM22)); (try (have HP22 := Kd.R_seg HX22.out (x7_2 : Int) (of_decide_eq_true (by first | (with_reducible assumption) | assumption)) (by have h_ : (x7_2 : Int) < ((x4_2.length : Int) : Int) := of_decide_eq_true (by first | (with_reducible assumption) | assumption); first | exact h_ | (have e_ := (Kd.R_reads' HO_4.out).1; omega) | simpa using h_) (seg := [.int .i64 ((rd_T37 l0 x5_1).f4)]) (j := 7) hcl22 hcc22 (show 8 ≤ 8 from by decide) (x' := (⟨(rd_T59 y170 x7_2).f0, (rd_T59 y170 x7_2).f1, (⟨(rd_T59 y170 x7_2).f2.f0, (rd_T59 y170 x7_2).f2.f1, (rd_T59 y170 x7_2).f2.f2⟩ : S35), (rd_T59 y170 x7_2).f3, (rd_T59 y170 x7_2).f4, ((rd_T37 l0 x5_1).f4)⟩ : S59)) (k59_mkM _ _ _ (⟨(rd_T59 y170 x7_2).f0, (rd_T59 y170 x7_2).f1, (⟨(rd_T59 y170 x7_2).f2.f0, (rd_T59 y170 x7_2).f2.f1, (rd_T59 y170 x7_2).f2.f2⟩ : S35), (rd_T59 y170 x7_2).f3, (rd_T59 y170 x7_2).f4, ((rd_T37 l0 x5_1).f4)⟩ : S59) ) (fun _ hk => hk))); (try (have hx22_7 := hcc22 7 _ rfl)); (try (try simp only [show (k59).sz = 8 from rfl, Nat.mul_one, Nat.add_zero] at hx22_7)); (try (have hf22_7 := hfr22 7)); (try (try simp only [show (k59).sz = 8 from rfl, Nat.mul_one, Nat.add_zero] at hf22_7)); (try (clear hcl22 hcc22 hfr22 hM22)))); refine store_event (t := 3) (p := 69) (v := ?vo_w23) (w1 := (w20.setCell ⟨go15, (x7_2 : Int).toNat * 8 + 7, none⟩ (.int .i64 ((rd_T37 l0 x5_1).f4)))) ?hg ?ho ?hn ?hr ?_; (case ho => rfl); (case hg => rfl); (case hn => rfl); (case hr => first | (go_simp; done) | (go_simp; rfl)); intro w23 hw; have hg : w20.grownBy w23 (some go15) := (by rw [hw]; exact HP22.2); have hp_ : Kd.R k59 59 w23 w.heap.size (fun _ => True) (.slice (some ⟨go15, 0, none⟩) x4_2.length co17) y171 := (by rw [hw, Ny171.out]; exact HP22.1); clear HP22; have n0_ := Aside0.mk (hp_); have n1_ := Aside0.mk (blk_grown (g := gb164) (o := .cells #[.int .i64 ((rd_T37 l0 x5_1).f0), .int .i64 ((rd_T37 l0 x5_1).f1), .bool true, .string ((rd_T37 l0 x5_1).f3.f0), .int .i64 ((rd_T37 l0 x5_1).f3.f1), .int .i64 ((rd_T37 l0 x5_1).f3.f2), .int .i64 ((rd_T37 l0 x5_1).f4)] 37 (0, 0)) (by (with_reducible repeat (first | refine blk_drewN ?_ _ | refine blk_drew ?_ | refine blk_alloc ?_ _)); exact BK164.out) hg (Kd.R_ne HO_4.out BK164.out (by decide))); have n2_ := Aside0.mk ((by rw [hw]; exact below_set (HB.out) GB15.out : Below w.heap.size w w23)); clear HO_4; clear BK164; clear HB; have HO_4 := n0_; have BK164 := n1_; have HB := n2_; clear n0_ n1_ n2_; clear hg hw hp_))
                          repeat (go_quiet (first | ((with_reducible refine gate_store (t := 3) (p := 63) rfl ?_); (try (rw [drewN_self wr]; generalize hq_ : World.drewN wr _ = wr; have n0_ := Aside0.mk (Kd.R_at hq_ HO_4.out); have n1_ := Aside0.mk (blk_at hq_ BK164.out); have n2_ := Aside0.mk (below_at hq_ HB.out); clear hq_ HO_4 BK164 HB; have HO_4 := n0_; have BK164 := n1_; have HB := n2_; clear n0_ n1_ n2_; (try (have HX19 := Aside0.mk (show Kd.R k59 59 wr w.heap.size (fun _ => True) (.slice (some ⟨go15, 0, none⟩) x4_2.length co17) x4_2 from (by (with_reducible repeat (first | apply Kd.R_alloc | apply Kd.R_drewN | apply Kd.R_drew)); exact HO_4.out)))); (try (obtain ⟨ce19, hcl19, hM19, hcc19, hfr19⟩ := Kd.R_elem HX19.out z59 (x7_2 : Int) (of_decide_eq_true (by first | (with_reducible assumption) | assumption)) (by have h_ : (x7_2 : Int) < ((x4_2.length : Int) : Int) := of_decide_eq_true (by first | (with_reducible assumption) | assumption); first | exact h_ | (have e_ := (Kd.R_reads' HO_4.out).1; omega) | simpa using h_))); (try (obtain rfl := k59_openM hM19)); (try (have HP19 := Kd.R_seg HX19.out (x7_2 : Int) (of_decide_eq_true (by first | (with_reducible assumption) | assumption)) (by have h_ : (x7_2 : Int) < ((x4_2.length : Int) : Int) := of_decide_eq_true (by first | (with_reducible assumption) | assumption); first | exact h_ | (have e_ := (Kd.R_reads' HO_4.out).1; omega) | simpa using h_) (seg := [.int .i64 x5_1]) (j := 6) hcl19 hcc19 (show 7 ≤ 8 from by decide) (x' := (⟨(rd_T59 x4_2 x7_2).f0, (rd_T59 x4_2 x7_2).f1, (⟨(rd_T59 x4_2 x7_2).f2.f0, (rd_T59 x4_2 x7_2).f2.f1, (rd_T59 x4_2 x7_2).f2.f2⟩ : S35), (rd_T59 x4_2 x7_2).f3, x5_1, (rd_T59 x4_2 x7_2).f5⟩ : S59)) (k59_mkM _ _ _ (⟨(rd_T59 x4_2 x7_2).f0, (rd_T59 x4_2 x7_2).f1, (⟨(rd_T59 x4_2 x7_2).f2.f0, (rd_T59 x4_2 x7_2).f2.f1, (rd_T59 x4_2 x7_2).f2.f2⟩ : S35), (rd_T59 x4_2 x7_2).f3, x5_1, (rd_T59 x4_2 x7_2).f5⟩ : S59) ) (fun _ hk => hk))); (try (have hx19_6 := hcc19 6 _ rfl)); (try (try simp only [show (k59).sz = 8 from rfl, Nat.mul_one, Nat.add_zero] at hx19_6)); (try (have hf19_6 := hfr19 6)); (try (try simp only [show (k59).sz = 8 from rfl, Nat.mul_one, Nat.add_zero] at hf19_6)); (try (clear hcl19 hcc19 hfr19 hM19)))); refine store_event (t := 3) (p := 63) (v := ?vo_w20) (w1 := (wr.setCell ⟨go15, (x7_2 : Int).toNat * 8 + 6, none⟩ (.int .i64 x5_1))) ?hg ?ho ?hn ?hr ?_; (case ho => rfl); (case hg => rfl); (case hn => rfl); (case hr => first | (go_simp; done) | (go_simp; rfl)); intro w20 hw; have hg : wr.grownBy w20 (some go15) := (by rw [hw]; exact HP19.2); have hp_ : Kd.R k59 59 w20 w.heap.size (fun _ => True) (.slice (some ⟨go15, 0, none⟩) x4_2.length co17) y170 := (by rw [hw, Ny170.out]; exact HP19.1); clear HP19; have n0_ := Aside0.mk (hp_); have n1_ := Aside0.mk (blk_grown (g := gb164) (o := .cells #[.int .i64 ((rd_T37 l0 x5_1).f0), .int .i64 ((rd_T37 l0 x5_1).f1), .bool true, .string ((rd_T37 l0 x5_1).f3.f0), .int .i64 ((rd_T37 l0 x5_1).f3.f1), .int .i64 ((rd_T37 l0 x5_1).f3.f2), .int .i64 ((rd_T37 l0 x5_1).f4)] 37 (0, 0)) (by (with_reducible repeat (first | refine blk_drewN ?_ _ | refine blk_drew ?_ | refine blk_alloc ?_ _)); exact BK164.out) hg (Kd.R_ne HO_4.out BK164.out (by decide))); have n2_ := Aside0.mk ((by rw [hw]; exact below_set (HB.out) GB15.out : Below w.heap.size w w20)); clear HO_4; clear BK164; clear HB; have HO_4 := n0_; have BK164 := n1_; have HB := n2_; clear n0_ n1_ n2_; clear hg hw hp_; have hcz21_0 : w20.cell? ⟨gb164, 0, none⟩ = some (.int .i64 ((rd_T37 l0 x5_1).f0)) := (blk_cell BK164.out 0).trans rfl; have hcz21_1 : w20.cell? ⟨gb164, 1, none⟩ = some (.int .i64 ((rd_T37 l0 x5_1).f1)) := (blk_cell BK164.out 1).trans rfl; have hcz21_2 : w20.cell? ⟨gb164, 2, none⟩ = some (.bool true) := (blk_cell BK164.out 2).trans rfl; have hcz21_3 : w20.cell? ⟨gb164, 3, none⟩ = some (.string ((rd_T37 l0 x5_1).f3.f0)) := (blk_cell BK164.out 3).trans rfl; have hcz21_4 : w20.cell? ⟨gb164, 4, none⟩ = some (.int .i64 ((rd_T37 l0 x5_1).f3.f1)) := (blk_cell BK164.out 4).trans rfl; have hcz21_5 : w20.cell? ⟨gb164, 5, none⟩ = some (.int .i64 ((rd_T37 l0 x5_1).f3.f2)) := (blk_cell BK164.out 5).trans rfl; have hcz21_6 : w20.cell? ⟨gb164, 6, none⟩ = some (.int .i64 ((rd_T37 l0 x5_1).f4)) := (blk_cell BK164.out 6).trans rfl; have hfz21_0 := blk_frozen BK164.out 0; have hfz21_1 := blk_frozen BK164.out 1; have hfz21_2 := blk_frozen BK164.out 2; have hfz21_3 := blk_frozen BK164.out 3; have hfz21_4 := blk_frozen BK164.out 4; have hfz21_5 := blk_frozen BK164.out 5; have hfz21_6 := blk_frozen BK164.out 6; have p16 : 0 ≤ (x7_2 : Int) := of_decide_eq_true (by first | (with_reducible assumption) | assumption); have q16 : (x7_2 : Int) < ((x4_2.length : Int) : Int) := of_decide_eq_true (by first | (with_reducible assumption) | assumption); obtain ⟨ce16, hcl16, hM16, hcc16, hfr16⟩ := Kd.R_elem HO_4.out z59 (x7_2 : Int) p16 q16; obtain rfl := k59_openM hM16; have hx16_0 : w20.cell? ⟨go15, (x7_2 : Int).toNat * 8, none⟩ = some (.int .i64 ((rd_T59 y170 x7_2).f0)) := hcc16 0 _ rfl; have hx16_1 : w20.cell? ⟨go15, (x7_2 : Int).toNat * 8 + 1, none⟩ = some (.int .i64 ((rd_T59 y170 x7_2).f1)) := hcc16 1 _ rfl; have hx16_2 : w20.cell? ⟨go15, (x7_2 : Int).toNat * 8 + 2, none⟩ = some (.string ((rd_T59 y170 x7_2).f2.f0)) := hcc16 2 _ rfl; have hx16_3 : w20.cell? ⟨go15, (x7_2 : Int).toNat * 8 + 3, none⟩ = some (.int .i64 ((rd_T59 y170 x7_2).f2.f1)) := hcc16 3 _ rfl; have hx16_4 : w20.cell? ⟨go15, (x7_2 : Int).toNat * 8 + 4, none⟩ = some (.int .i64 ((rd_T59 y170 x7_2).f2.f2)) := hcc16 4 _ rfl; have hx16_5 : w20.cell? ⟨go15, (x7_2 : Int).toNat * 8 + 5, none⟩ = some (.int .i64 ((rd_T59 y170 x7_2).f3)) := hcc16 5 _ rfl; have hx16_6 : w20.cell? ⟨go15, (x7_2 : Int).toNat * 8 + 6, none⟩ = some (.int .i64 ((rd_T59 y170 x7_2).f4)) := hcc16 6 _ rfl; have hx16_7 : w20.cell? ⟨go15, (x7_2 : Int).toNat * 8 + 7, none⟩ = some (.int .i64 ((rd_T59 y170 x7_2).f5)) := hcc16 7 _ rfl; have hf16_0 : w20.frozen? ⟨go15, (x7_2 : Int).toNat * 8, none⟩ = false := hfr16 0; have hf16_1 : w20.frozen? ⟨go15, (x7_2 : Int).toNat * 8 + 1, none⟩ = false := hfr16 1; have hf16_2 : w20.frozen? ⟨go15, (x7_2 : Int).toNat * 8 + 2, none⟩ = false := hfr16 2; have hf16_3 : w20.frozen? ⟨go15, (x7_2 : Int).toNat * 8 + 3, none⟩ = false := hfr16 3; have hf16_4 : w20.frozen? ⟨go15, (x7_2 : Int).toNat * 8 + 4, none⟩ = false := hfr16 4; have hf16_5 : w20.frozen? ⟨go15, (x7_2 : Int).toNat * 8 + 5, none⟩ = false := hfr16 5; have hf16_6 : w20.frozen? ⟨go15, (x7_2 : Int).toNat * 8 + 6, none⟩ = false := hfr16 6; have hf16_7 : w20.frozen? ⟨go15, (x7_2 : Int).toNat * 8 + 7, none⟩ = false := hfr16 7; clear hcl16 hcc16 hfr16 hM16; replace p16 := eq_true p16; replace q16 := eq_true q16; have HX22 := Aside0.mk (show Kd.R k59 59 w20 w.heap.size (fun _ => True) (.slice (some ⟨go15, 0, none⟩) x4_2.length co17) y170 from (by (with_reducible repeat (first | apply Kd.R_alloc | apply Kd.R_drewN | apply Kd.R_drew)); exact HO_4.out)); obtain ⟨ce22, hcl22, hM22, hcc22, hfr22⟩ := Kd.R_elem HX22.out z59 (x7_2 : Int) (of_decide_eq_true (by first | (with_reducible assumption) | assumption)) (by have h_ : (x7_2 : Int) < ((x4_2.length : Int) : Int) := of_decide_eq_true (by first | (with_reducible assumption) | assumption); first | exact h_ | (have e_ := (Kd.R_reads' HO_4.out).1; omega) | simpa using h_); obtain rfl := k59_openM hM22; have HP22 := Kd.R_seg HX22.out (x7_2 : Int) (of_decide_eq_true (by first | (with_reducible assumption) | assumption)) (by have h_ : (x7_2 : Int) < ((x4_2.length : Int) : Int) := of_decide_eq_true (by first | (with_reducible assumption) | assumption); first | exact h_ | (have e_ := (Kd.R_reads' HO_4.out).1; omega) | simpa using h_) (seg := [.int .i64 ((rd_T37 l0 x5_1).f4)]) (j := 7) hcl22 hcc22 (show 8 ≤ 8 from by decide) (x' := (⟨(rd_T59 y170 x7_2).f0, (rd_T59 y170 x7_2).f1, (⟨(rd_T59 y170 x7_2).f2.f0, (rd_T59 y170 x7_2).f2.f1, (rd_T59 y170 x7_2).f2.f2⟩ : S35), (rd_T59 y170 x7_2).f3, (rd_T59 y170 x7_2).f4, ((rd_T37 l0 x5_1).f4)⟩ : S59)) (k59_mkM _ _ _ (⟨(rd_T59 y170 x7_2).f0, (rd_T59 y170 x7_2).f1, (⟨(rd_T59 y170 x7_2).f2.f0, (rd_T59 y170 x7_2).f2.f1, (rd_T59 y170 x7_2).f2.f2⟩ : S35), (rd_T59 y170 x7_2).f3, (rd_T59 y170 x7_2).f4, ((rd_T37 l0 x5_1).f4)⟩ : S59) ) (fun _ hk => hk); have hx22_7 := hcc22 7 _ rfl; (try simp only [show (k59).sz = 8 from rfl, Nat.mul_one, Nat.add_zero] at hx22_7); have hf22_7 := hfr22 7; (try simp only [show (k59).sz = 8 from rfl, Nat.mul_one, Nat.add_zero] at hf22_7); clear hcl22 hcc22 hfr22 hM22) | ((with_reducible refine gate_store (t := 3) (p := 69) rfl ?_); (try (rw [drewN_self w20]; generalize hq_ : World.drewN w20 _ = w20; have n0_ := Aside0.mk (Kd.R_at hq_ HO_4.out); have n1_ := Aside0.mk (blk_at hq_ BK164.out); have n2_ := Aside0.mk (below_at hq_ HB.out); clear hq_ HO_4 BK164 HB; have HO_4 := n0_; have BK164 := n1_; have HB := n2_; clear n0_ n1_ n2_; (try (have HX22 := Aside0.mk (show Kd.R k59 59 w20 w.heap.size (fun _ => True) (.slice (some ⟨go15, 0, none⟩) x4_2.length co17) y170 from (by (with_reducible repeat (first | apply Kd.R_alloc | apply Kd.R_drewN | apply Kd.R_drew)); exact HO_4.out)))); (try (obtain ⟨ce22, hcl22, hM22, hcc22, hfr22⟩ := Kd.R_elem HX22.out z59 (x7_2 : Int) (of_decide_eq_true (by first | (with_reducible assumption) | assumption)) (by have h_ : (x7_2 : Int) < ((x4_2.length : Int) : Int) := of_decide_eq_true (by first | (with_reducible assumption) | assumption); first | exact h_ | (have e_ := (Kd.R_reads' HO_4.out).1; omega) | simpa using h_))); (try (obtain rfl := k59_openM hM22)); (try (have HP22 := Kd.R_seg HX22.out (x7_2 : Int) (of_decide_eq_true (by first | (with_reducible assumption) | assumption)) (by have h_ : (x7_2 : Int) < ((x4_2.length : Int) : Int) := of_decide_eq_true (by first | (with_reducible assumption) | assumption); first | exact h_ | (have e_ := (Kd.R_reads' HO_4.out).1; omega) | simpa using h_) (seg := [.int .i64 ((rd_T37 l0 x5_1).f4)]) (j := 7) hcl22 hcc22 (show 8 ≤ 8 from by decide) (x' := (⟨(rd_T59 y170 x7_2).f0, (rd_T59 y170 x7_2).f1, (⟨(rd_T59 y170 x7_2).f2.f0, (rd_T59 y170 x7_2).f2.f1, (rd_T59 y170 x7_2).f2.f2⟩ : S35), (rd_T59 y170 x7_2).f3, (rd_T59 y170 x7_2).f4, ((rd_T37 l0 x5_1).f4)⟩ : S59)) (k59_mkM _ _ _ (⟨(rd_T59 y170 x7_2).f0, (rd_T59 y170 x7_2).f1, (⟨(rd_T59 y170 x7_2).f2.f0, (rd_T59 y170 x7_2).f2.f1, (rd_T59 y170 x7_2).f2.f2⟩ : S35), (rd_T59 y170 x7_2).f3, (rd_T59 y170 x7_2).f4, ((rd_T37 l0 x5_1).f4)⟩ : S59) ) (fun _ hk => hk))); (try (have hx22_7 := hcc22 7 _ rfl)); (try (try simp only [show (k59).sz = 8 from rfl, Nat.mul_one, Nat.add_zero] at hx22_7)); (try (have hf22_7 := hfr22 7)); (try (try simp only [show (k59).sz = 8 from rfl, Nat.mul_one, Nat.add_zero] at hf22_7)); (try (clear hcl22 hcc22 hfr22 hM22)))); refine store_event (t := 3) (p := 69) (v := ?vo_w23) (w1 := (w20.setCell ⟨go15, (x7_2 : Int).toNat * 8 + 7, none⟩ (.int .i64 ((rd_T37 l0 x5_1).f4)))) ?hg ?ho ?hn ?hr ?_; (case ho => rfl); (case hg => rfl); (case hn => rfl); (case hr => first | (go_simp; done) | (go_simp; rfl)); intro w23 hw; have hg : w20.grownBy w23 (some go15) := (by rw [hw]; exact HP22.2); have hp_ : Kd.R k59 59 w23 w.heap.size (fun _ => True) (.slice (some ⟨go15, 0, none⟩) x4_2.length co17) y171 := (by rw [hw, Ny171.out]; exact HP22.1); clear HP22; have n0_ := Aside0.mk (hp_); have n1_ := Aside0.mk (blk_grown (g := gb164) (o := .cells #[.int .i64 ((rd_T37 l0 x5_1).f0), .int .i64 ((rd_T37 l0 x5_1).f1), .bool true, .string ((rd_T37 l0 x5_1).f3.f0), .int .i64 ((rd_T37 l0 x5_1).f3.f1), .int .i64 ((rd_T37 l0 x5_1).f3.f2), .int .i64 ((rd_T37 l0 x5_1).f4)] 37 (0, 0)) (by (with_reducible repeat (first | refine blk_drewN ?_ _ | refine blk_drew ?_ | refine blk_alloc ?_ _)); exact BK164.out) hg (Kd.R_ne HO_4.out BK164.out (by decide))); have n2_ := Aside0.mk ((by rw [hw]; exact below_set (HB.out) GB15.out : Below w.heap.size w w23)); clear HO_4; clear BK164; clear HB; have HO_4 := n0_; have BK164 := n1_; have HB := n2_; clear n0_ n1_ n2_; clear hg hw hp_)); try go_wp2_with (first | ((with_reducible refine gate_store (t := 3) (p := 63) rfl ?_); (try (rw [drewN_self wr]; generalize hq_ : World.drewN wr _ = wr; have n0_ := Aside0.mk (Kd.R_at hq_ HO_4.out); have n1_ := Aside0.mk (blk_at hq_ BK164.out); have n2_ := Aside0.mk (below_at hq_ HB.out); clear hq_ HO_4 BK164 HB; have HO_4 := n0_; have BK164 := n1_; have HB := n2_; clear n0_ n1_ n2_; (try (have HX19 := Aside0.mk (show Kd.R k59 59 wr w.heap.size (fun _ => True) (.slice (some ⟨go15, 0, none⟩) x4_2.length co17) x4_2 from (by (with_reducible repeat (first | apply Kd.R_alloc | apply Kd.R_drewN | apply Kd.R_drew)); exact HO_4.out)))); (try (obtain ⟨ce19, hcl19, hM19, hcc19, hfr19⟩ := Kd.R_elem HX19.out z59 (x7_2 : Int) (of_decide_eq_true (by first | (with_reducible assumption) | assumption)) (by have h_ : (x7_2 : Int) < ((x4_2.length : Int) : Int) := of_decide_eq_true (by first | (with_reducible assumption) | assumption); first | exact h_ | (have e_ := (Kd.R_reads' HO_4.out).1; omega) | simpa using h_))); (try (obtain rfl := k59_openM hM19)); (try (have HP19 := Kd.R_seg HX19.out (x7_2 : Int) (of_decide_eq_true (by first | (with_reducible assumption) | assumption)) (by have h_ : (x7_2 : Int) < ((x4_2.length : Int) : Int) := of_decide_eq_true (by first | (with_reducible assumption) | assumption); first | exact h_ | (have e_ := (Kd.R_reads' HO_4.out).1; omega) | simpa using h_) (seg := [.int .i64 x5_1]) (j := 6) hcl19 hcc19 (show 7 ≤ 8 from by decide) (x' := (⟨(rd_T59 x4_2 x7_2).f0, (rd_T59 x4_2 x7_2).f1, (⟨(rd_T59 x4_2 x7_2).f2.f0, (rd_T59 x4_2 x7_2).f2.f1, (rd_T59 x4_2 x7_2).f2.f2⟩ : S35), (rd_T59 x4_2 x7_2).f3, x5_1, (rd_T59 x4_2 x7_2).f5⟩ : S59)) (k59_mkM _ _ _ (⟨(rd_T59 x4_2 x7_2).f0, (rd_T59 x4_2 x7_2).f1, (⟨(rd_T59 x4_2 x7_2).f2.f0, (rd_T59 x4_2 x7_2).f2.f1, (rd_T59 x4_2 x7_2).f2.f2⟩ : S35), (rd_T59 x4_2 x7_2).f3, x5_1, (rd_T59 x4_2 x7_2).f5⟩ : S59) ) (fun _ hk => hk))); (try (have hx19_6 := hcc19 6 _ rfl)); (try (try simp only [show (k59).sz = 8 from rfl, Nat.mul_one, Nat.add_zero] at hx19_6)); (try (have hf19_6 := hfr19 6)); (try (try simp only [show (k59).sz = 8 from rfl, Nat.mul_one, Nat.add_zero] at hf19_6)); (try (clear hcl19 hcc19 hfr19 hM19)))); refine store_event (t := 3) (p := 63) (v := ?vo_w20) (w1 := (wr.setCell ⟨go15, (x7_2 : Int).toNat * 8 + 6, none⟩ (.int .i64 x5_1))) ?hg ?ho ?hn ?hr ?_; (case ho => rfl); (case hg => rfl); (case hn => rfl); (case hr => first | (go_simp; done) | (go_simp; rfl)); intro w20 hw; have hg : wr.grownBy w20 (some go15) := (by rw [hw]; exact HP19.2); have hp_ : Kd.R k59 59 w20 w.heap.size (fun _ => True) (.slice (some ⟨go15, 0, none⟩) x4_2.length co17) y170 := (by rw [hw, Ny170.out]; exact HP19.1); clear HP19; have n0_ := Aside0.mk (hp_); have n1_ := Aside0.mk (blk_grown (g := gb164) (o := .cells #[.int .i64 ((rd_T37 l0 x5_1).f0), .int .i64 ((rd_T37 l0 x5_1).f1), .bool true, .string ((rd_T37 l0 x5_1).f3.f0), .int .i64 ((rd_T37 l0 x5_1).f3.f1), .int .i64 ((rd_T37 l0 x5_1).f3.f2), .int .i64 ((rd_T37 l0 x5_1).f4)] 37 (0, 0)) (by (with_reducible repeat (first | refine blk_drewN ?_ _ | refine blk_drew ?_ | refine blk_alloc ?_ _)); exact BK164.out) hg (Kd.R_ne HO_4.out BK164.out (by decide))); have n2_ := Aside0.mk ((by rw [hw]; exact below_set (HB.out) GB15.out : Below w.heap.size w w20)); clear HO_4; clear BK164; clear HB; have HO_4 := n0_; have BK164 := n1_; have HB := n2_; clear n0_ n1_ n2_; clear hg hw hp_; have hcz21_0 : w20.cell? ⟨gb164, 0, none⟩ = some (.int .i64 ((rd_T37 l0 x5_1).f0)) := (blk_cell BK164.out 0).trans rfl; have hcz21_1 : w20.cell? ⟨gb164, 1, none⟩ = some (.int .i64 ((rd_T37 l0 x5_1).f1)) := (blk_cell BK164.out 1).trans rfl; have hcz21_2 : w20.cell? ⟨gb164, 2, none⟩ = some (.bool true) := (blk_cell BK164.out 2).trans rfl; have hcz21_3 : w20.cell? ⟨gb164, 3, none⟩ = some (.string ((rd_T37 l0 x5_1).f3.f0)) := (blk_cell BK164.out 3).trans rfl; have hcz21_4 : w20.cell? ⟨gb164, 4, none⟩ = some (.int .i64 ((rd_T37 l0 x5_1).f3.f1)) := (blk_cell BK164.out 4).trans rfl; have hcz21_5 : w20.cell? ⟨gb164, 5, none⟩ = some (.int .i64 ((rd_T37 l0 x5_1).f3.f2)) := (blk_cell BK164.out 5).trans rfl; have hcz21_6 : w20.cell? ⟨gb164, 6, none⟩ = some (.int .i64 ((rd_T37 l0 x5_1).f4)) := (blk_cell BK164.out 6).trans rfl; have hfz21_0 := blk_frozen BK164.out 0; have hfz21_1 := blk_frozen BK164.out 1; have hfz21_2 := blk_frozen BK164.out 2; have hfz21_3 := blk_frozen BK164.out 3; have hfz21_4 := blk_frozen BK164.out 4; have hfz21_5 := blk_frozen BK164.out 5; have hfz21_6 := blk_frozen BK164.out 6; have p16 : 0 ≤ (x7_2 : Int) := of_decide_eq_true (by first | (with_reducible assumption) | assumption); have q16 : (x7_2 : Int) < ((x4_2.length : Int) : Int) := of_decide_eq_true (by first | (with_reducible assumption) | assumption); obtain ⟨ce16, hcl16, hM16, hcc16, hfr16⟩ := Kd.R_elem HO_4.out z59 (x7_2 : Int) p16 q16; obtain rfl := k59_openM hM16; have hx16_0 : w20.cell? ⟨go15, (x7_2 : Int).toNat * 8, none⟩ = some (.int .i64 ((rd_T59 y170 x7_2).f0)) := hcc16 0 _ rfl; have hx16_1 : w20.cell? ⟨go15, (x7_2 : Int).toNat * 8 + 1, none⟩ = some (.int .i64 ((rd_T59 y170 x7_2).f1)) := hcc16 1 _ rfl; have hx16_2 : w20.cell? ⟨go15, (x7_2 : Int).toNat * 8 + 2, none⟩ = some (.string ((rd_T59 y170 x7_2).f2.f0)) := hcc16 2 _ rfl; have hx16_3 : w20.cell? ⟨go15, (x7_2 : Int).toNat * 8 + 3, none⟩ = some (.int .i64 ((rd_T59 y170 x7_2).f2.f1)) := hcc16 3 _ rfl; have hx16_4 : w20.cell? ⟨go15, (x7_2 : Int).toNat * 8 + 4, none⟩ = some (.int .i64 ((rd_T59 y170 x7_2).f2.f2)) := hcc16 4 _ rfl; have hx16_5 : w20.cell? ⟨go15, (x7_2 : Int).toNat * 8 + 5, none⟩ = some (.int .i64 ((rd_T59 y170 x7_2).f3)) := hcc16 5 _ rfl; have hx16_6 : w20.cell? ⟨go15, (x7_2 : Int).toNat * 8 + 6, none⟩ = some (.int .i64 ((rd_T59 y170 x7_2).f4)) := hcc16 6 _ rfl; have hx16_7 : w20.cell? ⟨go15, (x7_2 : Int).toNat * 8 + 7, none⟩ = some (.int .i64 ((rd_T59 y170 x7_2).f5)) := hcc16 7 _ rfl; have hf16_0 : w20.frozen? ⟨go15, (x7_2 : Int).toNat * 8, none⟩ = false := hfr16 0; have hf16_1 : w20.frozen? ⟨go15, (x7_2 : Int).toNat * 8 + 1, none⟩ = false := hfr16 1; have hf16_2 : w20.frozen? ⟨go15, (x7_2 : Int).toNat * 8 + 2, none⟩ = false := hfr16 2; have hf16_3 : w20.frozen? ⟨go15, (x7_2 : Int).toNat * 8 + 3, none⟩ = false := hfr16 3; have hf16_4 : w20.frozen? ⟨go15, (x7_2 : Int).toNat * 8 + 4, none⟩ = false := hfr16 4; have hf16_5 : w20.frozen? ⟨go15, (x7_2 : Int).toNat * 8 + 5, none⟩ = false := hfr16 5; have hf16_6 : w20.frozen? ⟨go15, (x7_2 : Int).toNat * 8 + 6, none⟩ = false := hfr16 6; have hf16_7 : w20.frozen? ⟨go15, (x7_2 : Int).toNat * 8 + 7, none⟩ = false := hfr16 7; clear hcl16 hcc16 hfr16 hM16; replace p16 := eq_true p16; replace q16 := eq_true q16; have HX22 := Aside0.mk (show Kd.R k59 59 w20 w.heap.size (fun _ => True) (.slice (some ⟨go15, 0, none⟩) x4_2.length co17) y170 from (by (with_reducible repeat (first | apply Kd.R_alloc | apply Kd.R_drewN | apply Kd.R_drew)); exact HO_4.out)); obtain ⟨ce22, hcl22, hM22, hcc22, hfr22⟩ := Kd.R_elem HX22.out z59 (x7_2 : Int) (of_decide_eq_true (by first | (with_reducible assumption) | assumption)) (by have h_ : (x7_2 : Int) < ((x4_2.length : Int) : Int) := of_decide_eq_true (by first | (with_reducible assumption) | assumption); first | exact h_ | (have e_ := (Kd.R_reads' HO_4.out).1; omega) | simpa using h_); obtain rfl := k59_openM hM22; have HP22 := Kd.R_seg HX22.out (x7_2 : Int) (of_decide_eq_true (by first | (with_reducible assumption) | assumption)) (by have h_ : (x7_2 : Int) < ((x4_2.length : Int) : Int) := of_decide_eq_true (by first | (with_reducible assumption) | assumption); first | exact h_ | (have e_ := (Kd.R_reads' HO_4.out).1; omega) | simpa using h_) (seg := [.int .i64 ((rd_T37 l0 x5_1).f4)]) (j := 7) hcl22 hcc22 (show 8 ≤ 8 from by decide) (x' := (⟨(rd_T59 y170 x7_2).f0, (rd_T59 y170 x7_2).f1, (⟨(rd_T59 y170 x7_2).f2.f0, (rd_T59 y170 x7_2).f2.f1, (rd_T59 y170 x7_2).f2.f2⟩ : S35), (rd_T59 y170 x7_2).f3, (rd_T59 y170 x7_2).f4, ((rd_T37 l0 x5_1).f4)⟩ : S59)) (k59_mkM _ _ _ (⟨(rd_T59 y170 x7_2).f0, (rd_T59 y170 x7_2).f1, (⟨(rd_T59 y170 x7_2).f2.f0, (rd_T59 y170 x7_2).f2.f1, (rd_T59 y170 x7_2).f2.f2⟩ : S35), (rd_T59 y170 x7_2).f3, (rd_T59 y170 x7_2).f4, ((rd_T37 l0 x5_1).f4)⟩ : S59) ) (fun _ hk => hk); have hx22_7 := hcc22 7 _ rfl; (try simp only [show (k59).sz = 8 from rfl, Nat.mul_one, Nat.add_zero] at hx22_7); have hf22_7 := hfr22 7; (try simp only [show (k59).sz = 8 from rfl, Nat.mul_one, Nat.add_zero] at hf22_7); clear hcl22 hcc22 hfr22 hM22) | ((with_reducible refine gate_store (t := 3) (p := 69) rfl ?_); (try (rw [drewN_self w20]; generalize hq_ : World.drewN w20 _ = w20; have n0_ := Aside0.mk (Kd.R_at hq_ HO_4.out); have n1_ := Aside0.mk (blk_at hq_ BK164.out); have n2_ := Aside0.mk (below_at hq_ HB.out); clear hq_ HO_4 BK164 HB; have HO_4 := n0_; have BK164 := n1_; have HB := n2_; clear n0_ n1_ n2_; (try (have HX22 := Aside0.mk (show Kd.R k59 59 w20 w.heap.size (fun _ => True) (.slice (some ⟨go15, 0, none⟩) x4_2.length co17) y170 from (by (with_reducible repeat (first | apply Kd.R_alloc | apply Kd.R_drewN | apply Kd.R_drew)); exact HO_4.out)))); (try (obtain ⟨ce22, hcl22, hM22, hcc22, hfr22⟩ := Kd.R_elem HX22.out z59 (x7_2 : Int) (of_decide_eq_true (by first | (with_reducible assumption) | assumption)) (by have h_ : (x7_2 : Int) < ((x4_2.length : Int) : Int) := of_decide_eq_true (by first | (with_reducible assumption) | assumption); first | exact h_ | (have e_ := (Kd.R_reads' HO_4.out).1; omega) | simpa using h_))); (try (obtain rfl := k59_openM hM22)); (try (have HP22 := Kd.R_seg HX22.out (x7_2 : Int) (of_decide_eq_true (by first | (with_reducible assumption) | assumption)) (by have h_ : (x7_2 : Int) < ((x4_2.length : Int) : Int) := of_decide_eq_true (by first | (with_reducible assumption) | assumption); first | exact h_ | (have e_ := (Kd.R_reads' HO_4.out).1; omega) | simpa using h_) (seg := [.int .i64 ((rd_T37 l0 x5_1).f4)]) (j := 7) hcl22 hcc22 (show 8 ≤ 8 from by decide) (x' := (⟨(rd_T59 y170 x7_2).f0, (rd_T59 y170 x7_2).f1, (⟨(rd_T59 y170 x7_2).f2.f0, (rd_T59 y170 x7_2).f2.f1, (rd_T59 y170 x7_2).f2.f2⟩ : S35), (rd_T59 y170 x7_2).f3, (rd_T59 y170 x7_2).f4, ((rd_T37 l0 x5_1).f4)⟩ : S59)) (k59_mkM _ _ _ (⟨(rd_T59 y170 x7_2).f0, (rd_T59 y170 x7_2).f1, (⟨(rd_T59 y170 x7_2).f2.f0, (rd_T59 y170 x7_2).f2.f1, (rd_T59 y170 x7_2).f2.f2⟩ : S35), (rd_T59 y170 x7_2).f3, (rd_T59 y170 x7_2).f4, ((rd_T37 l0 x5_1).f4)⟩ : S59) ) (fun _ hk => hk))); (try (have hx22_7 := hcc22 7 _ rfl)); (try (try simp only [show (k59).sz = 8 from rfl, Nat.mul_one, Nat.add_zero] at hx22_7)); (try (have hf22_7 := hfr22 7)); (try (try simp only [show (k59).sz = 8 from rfl, Nat.mul_one, Nat.add_zero] at hf22_7)); (try (clear hcl22 hcc22 hfr22 hM22)))); refine store_event (t := 3) (p := 69) (v := ?vo_w23) (w1 := (w20.setCell ⟨go15, (x7_2 : Int).toNat * 8 + 7, none⟩ (.int .i64 ((rd_T37 l0 x5_1).f4)))) ?hg ?ho ?hn ?hr ?_; (case ho => rfl); (case hg => rfl); (case hn => rfl); (case hr => first | (go_simp; done) | (go_simp; rfl)); intro w23 hw; have hg : w20.grownBy w23 (some go15) := (by rw [hw]; exact HP22.2); have hp_ : Kd.R k59 59 w23 w.heap.size (fun _ => True) (.slice (some ⟨go15, 0, none⟩) x4_2.length co17) y171 := (by rw [hw, Ny171.out]; exact HP22.1); clear HP22; have n0_ := Aside0.mk (hp_); have n1_ := Aside0.mk (blk_grown (g := gb164) (o := .cells #[.int .i64 ((rd_T37 l0 x5_1).f0), .int .i64 ((rd_T37 l0 x5_1).f1), .bool true, .string ((rd_T37 l0 x5_1).f3.f0), .int .i64 ((rd_T37 l0 x5_1).f3.f1), .int .i64 ((rd_T37 l0 x5_1).f3.f2), .int .i64 ((rd_T37 l0 x5_1).f4)] 37 (0, 0)) (by (with_reducible repeat (first | refine blk_drewN ?_ _ | refine blk_drew ?_ | refine blk_alloc ?_ _)); exact BK164.out) hg (Kd.R_ne HO_4.out BK164.out (by decide))); have n2_ := Aside0.mk ((by rw [hw]; exact below_set (HB.out) GB15.out : Below w.heap.size w w23)); clear HO_4; clear BK164; clear HB; have HO_4 := n0_; have BK164 := n1_; have HB := n2_; clear n0_ n1_ n2_; clear hg hw hp_)))
                          go_roundg k2
                          case measure => have := HK1.out; have := HK2.out; omega
                          case rel => exact ⟨(y171), (wrap64 (x7_2 + 1)), (by first | rfl | (simp; done) | (simp [*]; done)), H', ⟨by have := HK1.out; have := HK2.out; omega⟩, ⟨by (with_reducible repeat (first | apply Kd.R_alloc | apply Kd.R_drewN | apply Kd.R_drew)); exact HO_4.out⟩, ⟨by (with_reducible repeat (first | refine blk_drewN ?_ _ | refine blk_drew ?_ | refine blk_alloc ?_ _)); exact BK164.out⟩, ⟨by repeat (first | (with_reducible first | exact HB.out | apply below_alloc | apply pw_below_drewN | apply below_drew1 | refine below_set ?_ GE164.out) | exact HB.out)⟩⟩
                        · rw [if_neg c14] at H
                          have c14b0 : (((rd_T59 x4_2 x7_2).f1) == ((rd_T37 l0 x5_1).f1)) = false := beq_eq_false_iff_ne.mpr c14
                          have c14b1 : (((rd_T59 x4_2 x7_2).f1) != ((rd_T37 l0 x5_1).f1)) = true := bne_iff_ne.mpr c14
                          have H' := Aside0.mk H
                          clear H
                          obtain ⟨Ao24, co24, eo24⟩ := Kd.R_slice HO_4.out
                          subst eo24
                          have p168 : 0 ≤ (x7_2 : Int) := of_decide_eq_true (by first | (with_reducible assumption) | assumption)
                          have q168 : x7_2 < (x4_2.length : Int) := of_decide_eq_true (by first | (with_reducible assumption) | assumption)
                          obtain ⟨ad168, e168, hx168_0, hx168_1, hx168_2, hx168_3, hx168_4, hx168_5, hx168_6, hx168_7⟩ := at_T59 (Kd.R_reads' HO_4.out).2.2 x7_2 p168 q168
                          cases e168
                          replace p168 := eq_true p168
                          replace q168 := eq_true q168
                          have hcz25_0 : wr.cell? ⟨gb164, 0, none⟩ = some (.int .i64 ((rd_T37 l0 x5_1).f0)) := (blk_cell BK164.out 0).trans rfl
                          have hcz25_1 : wr.cell? ⟨gb164, 1, none⟩ = some (.int .i64 ((rd_T37 l0 x5_1).f1)) := (blk_cell BK164.out 1).trans rfl
                          have hcz25_2 : wr.cell? ⟨gb164, 2, none⟩ = some (.bool true) := (blk_cell BK164.out 2).trans rfl
                          have hcz25_3 : wr.cell? ⟨gb164, 3, none⟩ = some (.string ((rd_T37 l0 x5_1).f3.f0)) := (blk_cell BK164.out 3).trans rfl
                          have hcz25_4 : wr.cell? ⟨gb164, 4, none⟩ = some (.int .i64 ((rd_T37 l0 x5_1).f3.f1)) := (blk_cell BK164.out 4).trans rfl
                          have hcz25_5 : wr.cell? ⟨gb164, 5, none⟩ = some (.int .i64 ((rd_T37 l0 x5_1).f3.f2)) := (blk_cell BK164.out 5).trans rfl
                          have hcz25_6 : wr.cell? ⟨gb164, 6, none⟩ = some (.int .i64 ((rd_T37 l0 x5_1).f4)) := (blk_cell BK164.out 6).trans rfl
                          have hfz25_0 := blk_frozen BK164.out 0
                          have hfz25_1 := blk_frozen BK164.out 1
                          have hfz25_2 := blk_frozen BK164.out 2
                          have hfz25_3 := blk_frozen BK164.out 3
                          have hfz25_4 := blk_frozen BK164.out 4
                          have hfz25_5 := blk_frozen BK164.out 5
                          have hfz25_6 := blk_frozen BK164.out 6
                          have p169 : 0 ≤ (x7_2 : Int) := of_decide_eq_true (by first | (with_reducible assumption) | assumption)
                          have q169 : x7_2 < (x4_2.length : Int) := of_decide_eq_true (by first | (with_reducible assumption) | assumption)
                          obtain ⟨ad169, e169, hx169_0, hx169_1, hx169_2, hx169_3, hx169_4, hx169_5, hx169_6, hx169_7⟩ := at_T59 (Kd.R_reads' HO_4.out).2.2 x7_2 p169 q169
                          obtain rfl : ad168 = ad169 := (by injection e169)
                          replace p169 := eq_true p169
                          replace q169 := eq_true q169
                          go_wp2
                          repeat (go_quiet (fail); try go_wp2)
                          go_roundg k2
                          case measure => have := HK1.out; have := HK2.out; omega
                          case rel => exact ⟨(x4_2), (wrap64 (x7_2 + 1)), (by first | rfl | (simp; done) | (simp [*]; done)), H', ⟨by have := HK1.out; have := HK2.out; omega⟩, ⟨by (with_reducible repeat (first | apply Kd.R_alloc | apply Kd.R_drewN | apply Kd.R_drew)); exact HO_4.out⟩, ⟨by (with_reducible repeat (first | refine blk_drewN ?_ _ | refine blk_drew ?_ | refine blk_alloc ?_ _)); exact BK164.out⟩, ⟨by repeat (first | (with_reducible first | exact HB.out | apply below_alloc | apply pw_below_drewN | apply below_drew1 | refine below_set ?_ GE164.out) | exact HB.out)⟩⟩
                      · rw [if_neg c13] at H
                        have c13b0 : (((rd_T59 x4_2 x7_2).f0) == ((rd_T37 l0 x5_1).f0)) = false := beq_eq_false_iff_ne.mpr c13
                        have c13b1 : (((rd_T59 x4_2 x7_2).f0) != ((rd_T37 l0 x5_1).f0)) = true := bne_iff_ne.mpr c13
                        have H' := Aside0.mk H
                        clear H
                        obtain ⟨Ao26, co26, eo26⟩ := Kd.R_slice HO_4.out
                        subst eo26
                        have p168 : 0 ≤ (x7_2 : Int) := of_decide_eq_true (by first | (with_reducible assumption) | assumption)
                        have q168 : x7_2 < (x4_2.length : Int) := of_decide_eq_true (by first | (with_reducible assumption) | assumption)
                        obtain ⟨ad168, e168, hx168_0, hx168_1, hx168_2, hx168_3, hx168_4, hx168_5, hx168_6, hx168_7⟩ := at_T59 (Kd.R_reads' HO_4.out).2.2 x7_2 p168 q168
                        cases e168
                        replace p168 := eq_true p168
                        replace q168 := eq_true q168
                        have hcz27_0 : wr.cell? ⟨gb164, 0, none⟩ = some (.int .i64 ((rd_T37 l0 x5_1).f0)) := (blk_cell BK164.out 0).trans rfl
                        have hcz27_1 : wr.cell? ⟨gb164, 1, none⟩ = some (.int .i64 ((rd_T37 l0 x5_1).f1)) := (blk_cell BK164.out 1).trans rfl
                        have hcz27_2 : wr.cell? ⟨gb164, 2, none⟩ = some (.bool true) := (blk_cell BK164.out 2).trans rfl
                        have hcz27_3 : wr.cell? ⟨gb164, 3, none⟩ = some (.string ((rd_T37 l0 x5_1).f3.f0)) := (blk_cell BK164.out 3).trans rfl
                        have hcz27_4 : wr.cell? ⟨gb164, 4, none⟩ = some (.int .i64 ((rd_T37 l0 x5_1).f3.f1)) := (blk_cell BK164.out 4).trans rfl
                        have hcz27_5 : wr.cell? ⟨gb164, 5, none⟩ = some (.int .i64 ((rd_T37 l0 x5_1).f3.f2)) := (blk_cell BK164.out 5).trans rfl
                        have hcz27_6 : wr.cell? ⟨gb164, 6, none⟩ = some (.int .i64 ((rd_T37 l0 x5_1).f4)) := (blk_cell BK164.out 6).trans rfl
                        have hfz27_0 := blk_frozen BK164.out 0
                        have hfz27_1 := blk_frozen BK164.out 1
                        have hfz27_2 := blk_frozen BK164.out 2
                        have hfz27_3 := blk_frozen BK164.out 3
                        have hfz27_4 := blk_frozen BK164.out 4
                        have hfz27_5 := blk_frozen BK164.out 5
                        have hfz27_6 := blk_frozen BK164.out 6
                        go_wp2
                        repeat (go_quiet (fail); try go_wp2)
                        go_roundg k2
                        case measure => have := HK1.out; have := HK2.out; omega
                        case rel => exact ⟨(x4_2), (wrap64 (x7_2 + 1)), (by first | rfl | (simp; done) | (simp [*]; done)), H', ⟨by have := HK1.out; have := HK2.out; omega⟩, ⟨by (with_reducible repeat (first | apply Kd.R_alloc | apply Kd.R_drewN | apply Kd.R_drew)); exact HO_4.out⟩, ⟨by (with_reducible repeat (first | refine blk_drewN ?_ _ | refine blk_drew ?_ | refine blk_alloc ?_ _)); exact BK164.out⟩, ⟨by repeat (first | (with_reducible first | exact HB.out | apply below_alloc | apply pw_below_drewN | apply below_drew1 | refine below_set ?_ GE164.out) | exact HB.out)⟩⟩
                    · rw [if_neg c12] at H
                      exact absurd H (by simp)
                  · rw [if_neg c11] at H
                    have c11b0 : decide (x7_2 < (x4_2.length : Int)) = false := decide_eq_false c11
                    clear c11
                    have H' := Aside0.mk H
                    clear H
                    obtain ⟨Ao28, co28, eo28⟩ := Kd.R_slice HO_4.out
                    subst eo28
                    go_wp2
                    repeat (go_quiet (fail); try go_wp2)
                    go_roundg k2
                    case measure => have := HK1.out; have := HK2.out; omega
                    case rel => exact ⟨(x4_2), (wrap64 (x5_1 + 1)), (by first | rfl | (simp; done) | (simp [*]; done)), H', ⟨by have := HK1.out; have := HK2.out; omega⟩, ⟨by (with_reducible repeat (first | apply Kd.R_alloc | apply Kd.R_drewN | apply Kd.R_drew)); exact HO_4.out⟩, ⟨by repeat (first | (with_reducible first | exact HB.out | apply below_alloc | apply pw_below_drewN | apply below_drew1 | refine below_set ?_ GE164.out) | exact HB.out)⟩⟩
            · replace c8 := Bool.eq_false_iff.mpr c8
              subst c8
              have H1 : (if x4_1.length < 1954687338268 then (locklessref17_Spans.l0 k1 l0 (x4_1 ++ [(⟨(rd_T37 l0 x5_1).f0, (rd_T37 l0 x5_1).f1, (⟨(rd_T37 l0 x5_1).f3.f0, (rd_T37 l0 x5_1).f3.f1, (rd_T37 l0 x5_1).f3.f2⟩ : S35), x5_1, (-1), 0⟩ : S59)]) (wrap64 (x5_1 + 1))) else (none)) = some (r1, r2) := by rw [if_neg (show ¬ (false = true) by decide)] at H; exact H
              clear H
              have H := H1
              clear H1
              by_cases c29 : x4_1.length < 1954687338268
              · rw [if_pos c29] at H
                have LMc29 := Aside0.mk c29
                clear c29
                obtain ⟨y165, hy165⟩ : ∃ y_ : List (S59), y_ = (x4_1 ++ [(⟨(rd_T37 l0 x5_1).f0, (rd_T37 l0 x5_1).f1, (⟨(rd_T37 l0 x5_1).f3.f0, (rd_T37 l0 x5_1).f3.f1, (rd_T37 l0 x5_1).f3.f2⟩ : S35), x5_1, (-1), 0⟩ : S59)]) := ⟨_, rfl⟩
                replace H : (locklessref17_Spans.l0 k1 l0 y165 (wrap64 (x5_1 + 1))) = some (r1, r2) := by first | (rw [hy165]; with_reducible exact H) | (have H2_ := (Option.bind_some _ _).symm.trans H; rw [hy165]; with_reducible exact H2_) | (have H2_ := (Option.bind_some _ _).symm.trans H; with_reducible exact H2_) | with_reducible exact H | (rw [hy165]; exact H) | exact H
                have Ny165 := Aside0.mk hy165
                clear hy165
                have H' := Aside0.mk H
                clear H
                have p163 : 0 ≤ (x5_1 : Int) := of_decide_eq_true (by first | (with_reducible assumption) | assumption)
                have q163 : x5_1 < (l0.length : Int) := of_decide_eq_true (by first | (with_reducible assumption) | assumption)
                obtain ⟨ad163, e163, hx163_0, hx163_1, hx163_2, hx163_3, hx163_4, hx163_5, hx163_6⟩ := at_T37 HR0.out x5_1 p163 q163
                (try rw [← Nbq7.out] at hx163_2)
                cases e163
                replace hx163_0 := (HB.out.cell (World.block_lt_of_cell? w _ hx163_0)).trans hx163_0
                replace hx163_1 := (HB.out.cell (World.block_lt_of_cell? w _ hx163_1)).trans hx163_1
                replace hx163_2 := (HB.out.cell (World.block_lt_of_cell? w _ hx163_2)).trans hx163_2
                replace hx163_3 := (HB.out.cell (World.block_lt_of_cell? w _ hx163_3)).trans hx163_3
                replace hx163_4 := (HB.out.cell (World.block_lt_of_cell? w _ hx163_4)).trans hx163_4
                replace hx163_5 := (HB.out.cell (World.block_lt_of_cell? w _ hx163_5)).trans hx163_5
                replace hx163_6 := (HB.out.cell (World.block_lt_of_cell? w _ hx163_6)).trans hx163_6
                replace p163 := eq_true p163
                replace q163 := eq_true q163
                go_wp2_with (first | ((with_reducible refine gate_dst (N := 6) rfl ?_); refine box_event ?hg (N := 6) ?hd (cs := #[.int .i64 0, .int .i64 0, .bool false, .string (⟨#[]⟩ : ByteArray), .int .i64 0, .int .i64 0, .int .i64 0]) (t := 37) ?hr ?_; (case hd => rfl); (case hg => rfl); (case hr => first | (go_simp; done) | (go_simp; rfl)); intro gb164 hg w30 hbox hb; have n0_ := Aside0.mk (Kd.R_below (by (with_reducible repeat (first | apply Kd.R_alloc | apply Kd.R_drewN | apply Kd.R_drew)); exact HO_4.out) hb); have n1_ := Aside0.mk (below_step (by repeat (first | (with_reducible first | exact HB.out | apply below_alloc | apply pw_below_drewN | apply below_drew1) | exact HB.out)) hb); have n2_ := Aside0.mk (hbox); have n3_ := Aside0.mk ((by rw [hg]; exact (below_size (by repeat (first | (with_reducible first | exact HB.out | apply below_alloc | apply pw_below_drewN | apply below_drew1) | exact HB.out))) : w.heap.size ≤ gb164)); have n4_ := Aside0.mk ((by rw [hg]; exact (below_size (by repeat (first | (with_reducible first | exact HB.out | apply below_alloc | apply pw_below_drewN | apply below_drew1) | exact HB.out))) : w.heap.size ≤ gb164)); clear HO_4; clear HB; have HO_4 := n0_; have HB := n1_; have BK164 := n2_; have GW164 := n3_; have GE164 := n4_; clear n0_ n1_ n2_ n3_ n4_; clear hb hbox hg; have hcz31_0 : w30.cell? ⟨gb164, 0, none⟩ = some (.int .i64 0) := (blk_cell BK164.out 0).trans rfl; have hcz31_1 : w30.cell? ⟨gb164, 1, none⟩ = some (.int .i64 0) := (blk_cell BK164.out 1).trans rfl; have hcz31_2 : w30.cell? ⟨gb164, 2, none⟩ = some (.bool false) := (blk_cell BK164.out 2).trans rfl; have hcz31_3 : w30.cell? ⟨gb164, 3, none⟩ = some (.string (⟨#[]⟩ : ByteArray)) := (blk_cell BK164.out 3).trans rfl; have hcz31_4 : w30.cell? ⟨gb164, 4, none⟩ = some (.int .i64 0) := (blk_cell BK164.out 4).trans rfl; have hcz31_5 : w30.cell? ⟨gb164, 5, none⟩ = some (.int .i64 0) := (blk_cell BK164.out 5).trans rfl; have hcz31_6 : w30.cell? ⟨gb164, 6, none⟩ = some (.int .i64 0) := (blk_cell BK164.out 6).trans rfl; have hfz31_0 := blk_frozen BK164.out 0; have hfz31_1 := blk_frozen BK164.out 1; have hfz31_2 := blk_frozen BK164.out 2; have hfz31_3 := blk_frozen BK164.out 3; have hfz31_4 := blk_frozen BK164.out 4; have hfz31_5 := blk_frozen BK164.out 5; have hfz31_6 := blk_frozen BK164.out 6) | ((with_reducible refine gate_builtin (b := .append) (xs := #[.tmp 24, .tmp 33]) rfl ?_); at_builtin; refine Kd.R_append k59 (w0 := w) w.heap.size rfl (.tmp 24) (.tmp 33) 56 59 (.agg #[(.int .i64 0), (.int .i64 0), (.string ⟨#[]⟩), (.int .i64 0), (.int .i64 0), (.int .i64 0), (.int .i64 0), (.int .i64 0)]) 72 rfl Tryd.underlying56 info59 rfl (by decide) (by omega) u4 x4_1 (⟨(rd_T37 l0 x5_1).f0, (rd_T37 l0 x5_1).f1, (⟨(rd_T37 l0 x5_1).f3.f0, (rd_T37 l0 x5_1).f3.f1, (rd_T37 l0 x5_1).f3.f2⟩ : S35), x5_1, (-1), 0⟩ : S59) [.int .i64 ((rd_T37 l0 x5_1).f0), .int .i64 ((rd_T37 l0 x5_1).f1), .string ((rd_T37 l0 x5_1).f3.f0), .int .i64 ((rd_T37 l0 x5_1).f3.f1), .int .i64 ((rd_T37 l0 x5_1).f3.f2), .int .i64 x5_1, .int .i64 (-1), .int .i64 0] (fun _ => True) (fun _ => False) rfl (by first | (go_simp; done) | (go_simp; rfl)) ?aP (fun _ hk => hk.elim) ?aF ?aO ?aB ?aS ?aL ?_; (case aP => exact k59_mkM _ _ _ (⟨(rd_T37 l0 x5_1).f0, (rd_T37 l0 x5_1).f1, (⟨(rd_T37 l0 x5_1).f3.f0, (rd_T37 l0 x5_1).f3.f1, (rd_T37 l0 x5_1).f3.f2⟩ : S35), x5_1, (-1), 0⟩ : S59)); (case aB => exact (by repeat (first | (with_reducible first | exact HB.out | apply below_alloc | apply pw_below_drewN | apply below_drew1 | refine below_set ?_ GE164.out) | exact HB.out))); (case aF => exact (fun _ _ => trivial)); (case aO => exact (by (with_reducible repeat (first | apply Kd.R_alloc | apply Kd.R_drewN | apply Kd.R_drew)); exact Kd.R_mono (Kd.R_far (p := ⟨gb164, 6, none⟩) (Kd.R_far (p := ⟨gb164, 5, none⟩) (Kd.R_far (p := ⟨gb164, 4, none⟩) (Kd.R_far (p := ⟨gb164, 3, none⟩) (Kd.R_far (p := ⟨gb164, 2, none⟩) (Kd.R_far (p := ⟨gb164, 1, none⟩) (Kd.R_far (p := ⟨gb164, 0, none⟩) (Kd.R_types HO_4.out BK164.out (by decide)) (fun _ hk => hk.2) (.int .i64 ((rd_T37 l0 x5_1).f0))) (fun _ hk => hk.2) (.int .i64 ((rd_T37 l0 x5_1).f1))) (fun _ hk => hk.2) (.bool false)) (fun _ hk => hk.2) (.string ((rd_T37 l0 x5_1).f3.f0))) (fun _ hk => hk.2) (.int .i64 ((rd_T37 l0 x5_1).f3.f1))) (fun _ hk => hk.2) (.int .i64 ((rd_T37 l0 x5_1).f3.f2))) (fun _ hk => hk.2) (.int .i64 ((rd_T37 l0 x5_1).f4))) (fun _ hk => trivial))); (case aS => exact (below_size (by repeat (first | (with_reducible first | exact HB.out | apply below_alloc | apply pw_below_drewN | apply below_drew1 | refine below_set ?_ GE164.out) | exact HB.out)))); (case aL => have := LMc29.out; omega); intro v166 w32 ho hb hg hat; rw [← Ny165.out] at ho; have n0_ := Aside0.mk (blk_grown (g := gb164) (o := .cells #[.int .i64 ((rd_T37 l0 x5_1).f0), .int .i64 ((rd_T37 l0 x5_1).f1), .bool false, .string ((rd_T37 l0 x5_1).f3.f0), .int .i64 ((rd_T37 l0 x5_1).f3.f1), .int .i64 ((rd_T37 l0 x5_1).f3.f2), .int .i64 ((rd_T37 l0 x5_1).f4)] 37 (0, 0)) (by (with_reducible repeat (first | refine blk_drewN ?_ _ | refine blk_drew ?_ | refine blk_alloc ?_ _)); refine blk_put (cs := #[.int .i64 ((rd_T37 l0 x5_1).f0), .int .i64 ((rd_T37 l0 x5_1).f1), .bool false, .string ((rd_T37 l0 x5_1).f3.f0), .int .i64 ((rd_T37 l0 x5_1).f3.f1), .int .i64 ((rd_T37 l0 x5_1).f3.f2), .int .i64 0]) ?_ 6 _ rfl; (with_reducible repeat (first | refine blk_drewN ?_ _ | refine blk_drew ?_ | refine blk_alloc ?_ _)); refine blk_put (cs := #[.int .i64 ((rd_T37 l0 x5_1).f0), .int .i64 ((rd_T37 l0 x5_1).f1), .bool false, .string ((rd_T37 l0 x5_1).f3.f0), .int .i64 ((rd_T37 l0 x5_1).f3.f1), .int .i64 0, .int .i64 0]) ?_ 5 _ rfl; (with_reducible repeat (first | refine blk_drewN ?_ _ | refine blk_drew ?_ | refine blk_alloc ?_ _)); refine blk_put (cs := #[.int .i64 ((rd_T37 l0 x5_1).f0), .int .i64 ((rd_T37 l0 x5_1).f1), .bool false, .string ((rd_T37 l0 x5_1).f3.f0), .int .i64 0, .int .i64 0, .int .i64 0]) ?_ 4 _ rfl; (with_reducible repeat (first | refine blk_drewN ?_ _ | refine blk_drew ?_ | refine blk_alloc ?_ _)); refine blk_put (cs := #[.int .i64 ((rd_T37 l0 x5_1).f0), .int .i64 ((rd_T37 l0 x5_1).f1), .bool false, .string (⟨#[]⟩ : ByteArray), .int .i64 0, .int .i64 0, .int .i64 0]) ?_ 3 _ rfl; (with_reducible repeat (first | refine blk_drewN ?_ _ | refine blk_drew ?_ | refine blk_alloc ?_ _)); refine blk_put (cs := #[.int .i64 ((rd_T37 l0 x5_1).f0), .int .i64 ((rd_T37 l0 x5_1).f1), .bool false, .string (⟨#[]⟩ : ByteArray), .int .i64 0, .int .i64 0, .int .i64 0]) ?_ 2 _ rfl; (with_reducible repeat (first | refine blk_drewN ?_ _ | refine blk_drew ?_ | refine blk_alloc ?_ _)); refine blk_put (cs := #[.int .i64 ((rd_T37 l0 x5_1).f0), .int .i64 0, .bool false, .string (⟨#[]⟩ : ByteArray), .int .i64 0, .int .i64 0, .int .i64 0]) ?_ 1 _ rfl; (with_reducible repeat (first | refine blk_drewN ?_ _ | refine blk_drew ?_ | refine blk_alloc ?_ _)); refine blk_put (cs := #[.int .i64 0, .int .i64 0, .bool false, .string (⟨#[]⟩ : ByteArray), .int .i64 0, .int .i64 0, .int .i64 0]) ?_ 0 _ rfl; (with_reducible repeat (first | refine blk_drewN ?_ _ | refine blk_drew ?_ | refine blk_alloc ?_ _)); exact BK164.out) hg (Kd.R_ne HO_4.out BK164.out (by decide))); have n1_ := Aside0.mk (hb); have n2_ := Aside0.mk (ho); clear BK164; clear HB; clear HO_4; have BK164 := n0_; have HB := n1_; have HO167 := n2_; clear n0_ n1_ n2_; clear ho hb hg hat))
                repeat (go_quiet (first | ((with_reducible refine gate_dst (N := 6) rfl ?_); refine box_event ?hg (N := 6) ?hd (cs := #[.int .i64 0, .int .i64 0, .bool false, .string (⟨#[]⟩ : ByteArray), .int .i64 0, .int .i64 0, .int .i64 0]) (t := 37) ?hr ?_; (case hd => rfl); (case hg => rfl); (case hr => first | (go_simp; done) | (go_simp; rfl)); intro gb164 hg w30 hbox hb; have n0_ := Aside0.mk (Kd.R_below (by (with_reducible repeat (first | apply Kd.R_alloc | apply Kd.R_drewN | apply Kd.R_drew)); exact HO_4.out) hb); have n1_ := Aside0.mk (below_step (by repeat (first | (with_reducible first | exact HB.out | apply below_alloc | apply pw_below_drewN | apply below_drew1) | exact HB.out)) hb); have n2_ := Aside0.mk (hbox); have n3_ := Aside0.mk ((by rw [hg]; exact (below_size (by repeat (first | (with_reducible first | exact HB.out | apply below_alloc | apply pw_below_drewN | apply below_drew1) | exact HB.out))) : w.heap.size ≤ gb164)); have n4_ := Aside0.mk ((by rw [hg]; exact (below_size (by repeat (first | (with_reducible first | exact HB.out | apply below_alloc | apply pw_below_drewN | apply below_drew1) | exact HB.out))) : w.heap.size ≤ gb164)); clear HO_4; clear HB; have HO_4 := n0_; have HB := n1_; have BK164 := n2_; have GW164 := n3_; have GE164 := n4_; clear n0_ n1_ n2_ n3_ n4_; clear hb hbox hg; have hcz31_0 : w30.cell? ⟨gb164, 0, none⟩ = some (.int .i64 0) := (blk_cell BK164.out 0).trans rfl; have hcz31_1 : w30.cell? ⟨gb164, 1, none⟩ = some (.int .i64 0) := (blk_cell BK164.out 1).trans rfl; have hcz31_2 : w30.cell? ⟨gb164, 2, none⟩ = some (.bool false) := (blk_cell BK164.out 2).trans rfl; have hcz31_3 : w30.cell? ⟨gb164, 3, none⟩ = some (.string (⟨#[]⟩ : ByteArray)) := (blk_cell BK164.out 3).trans rfl; have hcz31_4 : w30.cell? ⟨gb164, 4, none⟩ = some (.int .i64 0) := (blk_cell BK164.out 4).trans rfl; have hcz31_5 : w30.cell? ⟨gb164, 5, none⟩ = some (.int .i64 0) := (blk_cell BK164.out 5).trans rfl; have hcz31_6 : w30.cell? ⟨gb164, 6, none⟩ = some (.int .i64 0) := (blk_cell BK164.out 6).trans rfl; have hfz31_0 := blk_frozen BK164.out 0; have hfz31_1 := blk_frozen BK164.out 1; have hfz31_2 := blk_frozen BK164.out 2; have hfz31_3 := blk_frozen BK164.out 3; have hfz31_4 := blk_frozen BK164.out 4; have hfz31_5 := blk_frozen BK164.out 5; have hfz31_6 := blk_frozen BK164.out 6) | ((with_reducible refine gate_builtin (b := .append) (xs := #[.tmp 24, .tmp 33]) rfl ?_); at_builtin; refine Kd.R_append k59 (w0 := w) w.heap.size rfl (.tmp 24) (.tmp 33) 56 59 (.agg #[(.int .i64 0), (.int .i64 0), (.string ⟨#[]⟩), (.int .i64 0), (.int .i64 0), (.int .i64 0), (.int .i64 0), (.int .i64 0)]) 72 rfl Tryd.underlying56 info59 rfl (by decide) (by omega) u4 x4_1 (⟨(rd_T37 l0 x5_1).f0, (rd_T37 l0 x5_1).f1, (⟨(rd_T37 l0 x5_1).f3.f0, (rd_T37 l0 x5_1).f3.f1, (rd_T37 l0 x5_1).f3.f2⟩ : S35), x5_1, (-1), 0⟩ : S59) [.int .i64 ((rd_T37 l0 x5_1).f0), .int .i64 ((rd_T37 l0 x5_1).f1), .string ((rd_T37 l0 x5_1).f3.f0), .int .i64 ((rd_T37 l0 x5_1).f3.f1), .int .i64 ((rd_T37 l0 x5_1).f3.f2), .int .i64 x5_1, .int .i64 (-1), .int .i64 0] (fun _ => True) (fun _ => False) rfl (by first | (go_simp; done) | (go_simp; rfl)) ?aP (fun _ hk => hk.elim) ?aF ?aO ?aB ?aS ?aL ?_; (case aP => exact k59_mkM _ _ _ (⟨(rd_T37 l0 x5_1).f0, (rd_T37 l0 x5_1).f1, (⟨(rd_T37 l0 x5_1).f3.f0, (rd_T37 l0 x5_1).f3.f1, (rd_T37 l0 x5_1).f3.f2⟩ : S35), x5_1, (-1), 0⟩ : S59)); (case aB => exact (by repeat (first | (with_reducible first | exact HB.out | apply below_alloc | apply pw_below_drewN | apply below_drew1 | refine below_set ?_ GE164.out) | exact HB.out))); (case aF => exact (fun _ _ => trivial)); (case aO => exact (by (with_reducible repeat (first | apply Kd.R_alloc | apply Kd.R_drewN | apply Kd.R_drew)); exact Kd.R_mono (Kd.R_far (p := ⟨gb164, 6, none⟩) (Kd.R_far (p := ⟨gb164, 5, none⟩) (Kd.R_far (p := ⟨gb164, 4, none⟩) (Kd.R_far (p := ⟨gb164, 3, none⟩) (Kd.R_far (p := ⟨gb164, 2, none⟩) (Kd.R_far (p := ⟨gb164, 1, none⟩) (Kd.R_far (p := ⟨gb164, 0, none⟩) (Kd.R_types HO_4.out BK164.out (by decide)) (fun _ hk => hk.2) (.int .i64 ((rd_T37 l0 x5_1).f0))) (fun _ hk => hk.2) (.int .i64 ((rd_T37 l0 x5_1).f1))) (fun _ hk => hk.2) (.bool false)) (fun _ hk => hk.2) (.string ((rd_T37 l0 x5_1).f3.f0))) (fun _ hk => hk.2) (.int .i64 ((rd_T37 l0 x5_1).f3.f1))) (fun _ hk => hk.2) (.int .i64 ((rd_T37 l0 x5_1).f3.f2))) (fun _ hk => hk.2) (.int .i64 ((rd_T37 l0 x5_1).f4))) (fun _ hk => trivial))); (case aS => exact (below_size (by repeat (first | (with_reducible first | exact HB.out | apply below_alloc | apply pw_below_drewN | apply below_drew1 | refine below_set ?_ GE164.out) | exact HB.out)))); (case aL => have := LMc29.out; omega); intro v166 w32 ho hb hg hat; rw [← Ny165.out] at ho; have n0_ := Aside0.mk (blk_grown (g := gb164) (o := .cells #[.int .i64 ((rd_T37 l0 x5_1).f0), .int .i64 ((rd_T37 l0 x5_1).f1), .bool false, .string ((rd_T37 l0 x5_1).f3.f0), .int .i64 ((rd_T37 l0 x5_1).f3.f1), .int .i64 ((rd_T37 l0 x5_1).f3.f2), .int .i64 ((rd_T37 l0 x5_1).f4)] 37 (0, 0)) (by (with_reducible repeat (first | refine blk_drewN ?_ _ | refine blk_drew ?_ | refine blk_alloc ?_ _)); refine blk_put (cs := #[.int .i64 ((rd_T37 l0 x5_1).f0), .int .i64 ((rd_T37 l0 x5_1).f1), .bool false, .string ((rd_T37 l0 x5_1).f3.f0), .int .i64 ((rd_T37 l0 x5_1).f3.f1), .int .i64 ((rd_T37 l0 x5_1).f3.f2), .int .i64 0]) ?_ 6 _ rfl; (with_reducible repeat (first | refine blk_drewN ?_ _ | refine blk_drew ?_ | refine blk_alloc ?_ _)); refine blk_put (cs := #[.int .i64 ((rd_T37 l0 x5_1).f0), .int .i64 ((rd_T37 l0 x5_1).f1), .bool false, .string ((rd_T37 l0 x5_1).f3.f0), .int .i64 ((rd_T37 l0 x5_1).f3.f1), .int .i64 0, .int .i64 0]) ?_ 5 _ rfl; (with_reducible repeat (first | refine blk_drewN ?_ _ | refine blk_drew ?_ | refine blk_alloc ?_ _)); refine blk_put (cs := #[.int .i64 ((rd_T37 l0 x5_1).f0), .int .i64 ((rd_T37 l0 x5_1).f1), .bool false, .string ((rd_T37 l0 x5_1).f3.f0), .int .i64 0, .int .i64 0, .int .i64 0]) ?_ 4 _ rfl; (with_reducible repeat (first | refine blk_drewN ?_ _ | refine blk_drew ?_ | refine blk_alloc ?_ _)); refine blk_put (cs := #[.int .i64 ((rd_T37 l0 x5_1).f0), .int .i64 ((rd_T37 l0 x5_1).f1), .bool false, .string (⟨#[]⟩ : ByteArray), .int .i64 0, .int .i64 0, .int .i64 0]) ?_ 3 _ rfl; (with_reducible repeat (first | refine blk_drewN ?_ _ | refine blk_drew ?_ | refine blk_alloc ?_ _)); refine blk_put (cs := #[.int .i64 ((rd_T37 l0 x5_1).f0), .int .i64 ((rd_T37 l0 x5_1).f1), .bool false, .string (⟨#[]⟩ : ByteArray), .int .i64 0, .int .i64 0, .int .i64 0]) ?_ 2 _ rfl; (with_reducible repeat (first | refine blk_drewN ?_ _ | refine blk_drew ?_ | refine blk_alloc ?_ _)); refine blk_put (cs := #[.int .i64 ((rd_T37 l0 x5_1).f0), .int .i64 0, .bool false, .string (⟨#[]⟩ : ByteArray), .int .i64 0, .int .i64 0, .int .i64 0]) ?_ 1 _ rfl; (with_reducible repeat (first | refine blk_drewN ?_ _ | refine blk_drew ?_ | refine blk_alloc ?_ _)); refine blk_put (cs := #[.int .i64 0, .int .i64 0, .bool false, .string (⟨#[]⟩ : ByteArray), .int .i64 0, .int .i64 0, .int .i64 0]) ?_ 0 _ rfl; (with_reducible repeat (first | refine blk_drewN ?_ _ | refine blk_drew ?_ | refine blk_alloc ?_ _)); exact BK164.out) hg (Kd.R_ne HO_4.out BK164.out (by decide))); have n1_ := Aside0.mk (hb); have n2_ := Aside0.mk (ho); clear BK164; clear HB; clear HO_4; have BK164 := n0_; have HB := n1_; have HO167 := n2_; clear n0_ n1_ n2_; clear ho hb hg hat)); try go_wp2_with (first | ((with_reducible refine gate_dst (N := 6) rfl ?_); refine box_event ?hg (N := 6) ?hd (cs := #[.int .i64 0, .int .i64 0, .bool false, .string (⟨#[]⟩ : ByteArray), .int .i64 0, .int .i64 0, .int .i64 0]) (t := 37) ?hr ?_; (case hd => rfl); (case hg => rfl); (case hr => first | (go_simp; done) | (go_simp; rfl)); intro gb164 hg w30 hbox hb; have n0_ := Aside0.mk (Kd.R_below (by (with_reducible repeat (first | apply Kd.R_alloc | apply Kd.R_drewN | apply Kd.R_drew)); exact HO_4.out) hb); have n1_ := Aside0.mk (below_step (by repeat (first | (with_reducible first | exact HB.out | apply below_alloc | apply pw_below_drewN | apply below_drew1) | exact HB.out)) hb); have n2_ := Aside0.mk (hbox); have n3_ := Aside0.mk ((by rw [hg]; exact (below_size (by repeat (first | (with_reducible first | exact HB.out | apply below_alloc | apply pw_below_drewN | apply below_drew1) | exact HB.out))) : w.heap.size ≤ gb164)); have n4_ := Aside0.mk ((by rw [hg]; exact (below_size (by repeat (first | (with_reducible first | exact HB.out | apply below_alloc | apply pw_below_drewN | apply below_drew1) | exact HB.out))) : w.heap.size ≤ gb164)); clear HO_4; clear HB; have HO_4 := n0_; have HB := n1_; have BK164 := n2_; have GW164 := n3_; have GE164 := n4_; clear n0_ n1_ n2_ n3_ n4_; clear hb hbox hg; have hcz31_0 : w30.cell? ⟨gb164, 0, none⟩ = some (.int .i64 0) := (blk_cell BK164.out 0).trans rfl; have hcz31_1 : w30.cell? ⟨gb164, 1, none⟩ = some (.int .i64 0) := (blk_cell BK164.out 1).trans rfl; have hcz31_2 : w30.cell? ⟨gb164, 2, none⟩ = some (.bool false) := (blk_cell BK164.out 2).trans rfl; have hcz31_3 : w30.cell? ⟨gb164, 3, none⟩ = some (.string (⟨#[]⟩ : ByteArray)) := (blk_cell BK164.out 3).trans rfl; have hcz31_4 : w30.cell? ⟨gb164, 4, none⟩ = some (.int .i64 0) := (blk_cell BK164.out 4).trans rfl; have hcz31_5 : w30.cell? ⟨gb164, 5, none⟩ = some (.int .i64 0) := (blk_cell BK164.out 5).trans rfl; have hcz31_6 : w30.cell? ⟨gb164, 6, none⟩ = some (.int .i64 0) := (blk_cell BK164.out 6).trans rfl; have hfz31_0 := blk_frozen BK164.out 0; have hfz31_1 := blk_frozen BK164.out 1; have hfz31_2 := blk_frozen BK164.out 2; have hfz31_3 := blk_frozen BK164.out 3; have hfz31_4 := blk_frozen BK164.out 4; have hfz31_5 := blk_frozen BK164.out 5; have hfz31_6 := blk_frozen BK164.out 6) | ((with_reducible refine gate_builtin (b := .append) (xs := #[.tmp 24, .tmp 33]) rfl ?_); at_builtin; refine Kd.R_append k59 (w0 := w) w.heap.size rfl (.tmp 24) (.tmp 33) 56 59 (.agg #[(.int .i64 0), (.int .i64 0), (.string ⟨#[]⟩), (.int .i64 0), (.int .i64 0), (.int .i64 0), (.int .i64 0), (.int .i64 0)]) 72 rfl Tryd.underlying56 info59 rfl (by decide) (by omega) u4 x4_1 (⟨(rd_T37 l0 x5_1).f0, (rd_T37 l0 x5_1).f1, (⟨(rd_T37 l0 x5_1).f3.f0, (rd_T37 l0 x5_1).f3.f1, (rd_T37 l0 x5_1).f3.f2⟩ : S35), x5_1, (-1), 0⟩ : S59) [.int .i64 ((rd_T37 l0 x5_1).f0), .int .i64 ((rd_T37 l0 x5_1).f1), .string ((rd_T37 l0 x5_1).f3.f0), .int .i64 ((rd_T37 l0 x5_1).f3.f1), .int .i64 ((rd_T37 l0 x5_1).f3.f2), .int .i64 x5_1, .int .i64 (-1), .int .i64 0] (fun _ => True) (fun _ => False) rfl (by first | (go_simp; done) | (go_simp; rfl)) ?aP (fun _ hk => hk.elim) ?aF ?aO ?aB ?aS ?aL ?_; (case aP => exact k59_mkM _ _ _ (⟨(rd_T37 l0 x5_1).f0, (rd_T37 l0 x5_1).f1, (⟨(rd_T37 l0 x5_1).f3.f0, (rd_T37 l0 x5_1).f3.f1, (rd_T37 l0 x5_1).f3.f2⟩ : S35), x5_1, (-1), 0⟩ : S59)); (case aB => exact (by repeat (first | (with_reducible first | exact HB.out | apply below_alloc | apply pw_below_drewN | apply below_drew1 | refine below_set ?_ GE164.out) | exact HB.out))); (case aF => exact (fun _ _ => trivial)); (case aO => exact (by (with_reducible repeat (first | apply Kd.R_alloc | apply Kd.R_drewN | apply Kd.R_drew)); exact Kd.R_mono (Kd.R_far (p := ⟨gb164, 6, none⟩) (Kd.R_far (p := ⟨gb164, 5, none⟩) (Kd.R_far (p := ⟨gb164, 4, none⟩) (Kd.R_far (p := ⟨gb164, 3, none⟩) (Kd.R_far (p := ⟨gb164, 2, none⟩) (Kd.R_far (p := ⟨gb164, 1, none⟩) (Kd.R_far (p := ⟨gb164, 0, none⟩) (Kd.R_types HO_4.out BK164.out (by decide)) (fun _ hk => hk.2) (.int .i64 ((rd_T37 l0 x5_1).f0))) (fun _ hk => hk.2) (.int .i64 ((rd_T37 l0 x5_1).f1))) (fun _ hk => hk.2) (.bool false)) (fun _ hk => hk.2) (.string ((rd_T37 l0 x5_1).f3.f0))) (fun _ hk => hk.2) (.int .i64 ((rd_T37 l0 x5_1).f3.f1))) (fun _ hk => hk.2) (.int .i64 ((rd_T37 l0 x5_1).f3.f2))) (fun _ hk => hk.2) (.int .i64 ((rd_T37 l0 x5_1).f4))) (fun _ hk => trivial))); (case aS => exact (below_size (by repeat (first | (with_reducible first | exact HB.out | apply below_alloc | apply pw_below_drewN | apply below_drew1 | refine below_set ?_ GE164.out) | exact HB.out)))); (case aL => have := LMc29.out; omega); intro v166 w32 ho hb hg hat; rw [← Ny165.out] at ho; have n0_ := Aside0.mk (blk_grown (g := gb164) (o := .cells #[.int .i64 ((rd_T37 l0 x5_1).f0), .int .i64 ((rd_T37 l0 x5_1).f1), .bool false, .string ((rd_T37 l0 x5_1).f3.f0), .int .i64 ((rd_T37 l0 x5_1).f3.f1), .int .i64 ((rd_T37 l0 x5_1).f3.f2), .int .i64 ((rd_T37 l0 x5_1).f4)] 37 (0, 0)) (by (with_reducible repeat (first | refine blk_drewN ?_ _ | refine blk_drew ?_ | refine blk_alloc ?_ _)); refine blk_put (cs := #[.int .i64 ((rd_T37 l0 x5_1).f0), .int .i64 ((rd_T37 l0 x5_1).f1), .bool false, .string ((rd_T37 l0 x5_1).f3.f0), .int .i64 ((rd_T37 l0 x5_1).f3.f1), .int .i64 ((rd_T37 l0 x5_1).f3.f2), .int .i64 0]) ?_ 6 _ rfl; (with_reducible repeat (first | refine blk_drewN ?_ _ | refine blk_drew ?_ | refine blk_alloc ?_ _)); refine blk_put (cs := #[.int .i64 ((rd_T37 l0 x5_1).f0), .int .i64 ((rd_T37 l0 x5_1).f1), .bool false, .string ((rd_T37 l0 x5_1).f3.f0), .int .i64 ((rd_T37 l0 x5_1).f3.f1), .int .i64 0, .int .i64 0]) ?_ 5 _ rfl; (with_reducible repeat (first | refine blk_drewN ?_ _ | refine blk_drew ?_ | refine blk_alloc ?_ _)); refine blk_put (cs := #[.int .i64 ((rd_T37 l0 x5_1).f0), .int .i64 ((rd_T37 l0 x5_1).f1), .bool false, .string ((rd_T37 l0 x5_1).f3.f0), .int .i64 0, .int .i64 0, .int .i64 0]) ?_ 4 _ rfl; (with_reducible repeat (first | refine blk_drewN ?_ _ | refine blk_drew ?_ | refine blk_alloc ?_ _)); refine blk_put (cs := #[.int .i64 ((rd_T37 l0 x5_1).f0), .int .i64 ((rd_T37 l0 x5_1).f1), .bool false, .string (⟨#[]⟩ : ByteArray), .int .i64 0, .int .i64 0, .int .i64 0]) ?_ 3 _ rfl; (with_reducible repeat (first | refine blk_drewN ?_ _ | refine blk_drew ?_ | refine blk_alloc ?_ _)); refine blk_put (cs := #[.int .i64 ((rd_T37 l0 x5_1).f0), .int .i64 ((rd_T37 l0 x5_1).f1), .bool false, .string (⟨#[]⟩ : ByteArray), .int .i64 0, .int .i64 0, .int .i64 0]) ?_ 2 _ rfl; (with_reducible repeat (first | refine blk_drewN ?_ _ | refine blk_drew ?_ | refine blk_alloc ?_ _)); refine blk_put (cs := #[.int .i64 ((rd_T37 l0 x5_1).f0), .int .i64 0, .bool false, .string (⟨#[]⟩ : ByteArray), .int .i64 0, .int .i64 0, .int .i64 0]) ?_ 1 _ rfl; (with_reducible repeat (first | refine blk_drewN ?_ _ | refine blk_drew ?_ | refine blk_alloc ?_ _)); refine blk_put (cs := #[.int .i64 0, .int .i64 0, .bool false, .string (⟨#[]⟩ : ByteArray), .int .i64 0, .int .i64 0, .int .i64 0]) ?_ 0 _ rfl; (with_reducible repeat (first | refine blk_drewN ?_ _ | refine blk_drew ?_ | refine blk_alloc ?_ _)); exact BK164.out) hg (Kd.R_ne HO_4.out BK164.out (by decide))); have n1_ := Aside0.mk (hb); have n2_ := Aside0.mk (ho); clear BK164; clear HB; clear HO_4; have BK164 := n0_; have HB := n1_; have HO167 := n2_; clear n0_ n1_ n2_; clear ho hb hg hat)))
                go_roundg k1
                case measure => have := HK1.out; omega
                case rel => exact ⟨(y165), (wrap64 (x5_1 + 1)), (by first | rfl | (simp; done) | (simp [*]; done)), H', ⟨by have := HK1.out; omega⟩, ⟨by (with_reducible repeat (first | apply Kd.R_alloc | apply Kd.R_drewN | apply Kd.R_drew)); exact HO167.out⟩, ⟨by repeat (first | (with_reducible first | exact HB.out | apply below_alloc | apply pw_below_drewN | apply below_drew1 | refine below_set ?_ GE164.out) | exact HB.out)⟩⟩
              · rw [if_neg c29] at H
                exact absurd H (by simp)
          · rw [if_neg c6] at H
            exact absurd H (by simp)
        · rw [if_neg c5] at H
          have c5b0 : decide (x5_1 < (l0.length : Int)) = false := decide_eq_false c5
          clear c5
          simp only [Option.some.injEq, Prod.mk.injEq] at H
          obtain ⟨rfl, rfl⟩ := H
          go_wp2
          repeat (go_quiet (fail); try go_wp2)
          go_ret2
          exact ⟨_, by first | rfl | (simp [errW_none, errW_some] <;> rfl) | (simp [*, errW_none, errW_some] <;> rfl), by (with_reducible repeat (first | apply Kd.R_alloc | apply Kd.R_drewN | apply Kd.R_drew)); exact HO_4.out, by repeat (first | (with_reducible first | exact HB.out | apply below_alloc | apply pw_below_drewN | apply below_drew1) | exact HB.out)⟩
  · replace c3 := Bool.eq_false_iff.mpr c3
    subst c3
    have H1 : (some (([] : List (S59)), 1)) = some (r1, r2) := by rw [if_neg (show ¬ (false = true) by decide)] at H; exact H
    clear H
    have H := H1
    clear H1
    simp only [Option.some.injEq, Prod.mk.injEq] at H
    obtain ⟨rfl, rfl⟩ := H
    go_enter Tryd.func33, Tryd.ntmps33
    go_wp2_with (first | (go_at_call 29; (with_reducible refine (locklessref17_Valid.calls k _ _ l0 false _ ?side1 ?side2 A2.out).mono ?_); (case side1 => repeat (first | exact HR0.out | (with_reducible refine Kd.C_alloc ?_ _) | (with_reducible refine Kd.C_drewN ?_ _) | (with_reducible refine Kd.C_drew ?_))); (case side2 => exact HC0.out); rintro e w33 ⟨rfl, hb⟩; have n0_ := Aside0.mk (below_step (by repeat (first | (with_reducible first | exact HB.out | apply below_alloc | apply pw_below_drewN | apply below_drew1) | exact HB.out)) hb); clear HB; have HB := n0_; clear n0_; (try clear hb); (try clear hb2); (try clear hk); (try clear hi)))
    repeat (go_quiet (first | (go_at_call 29; (with_reducible refine (locklessref17_Valid.calls k _ _ l0 false _ ?side1 ?side2 A2.out).mono ?_); (case side1 => repeat (first | exact HR0.out | (with_reducible refine Kd.C_alloc ?_ _) | (with_reducible refine Kd.C_drewN ?_ _) | (with_reducible refine Kd.C_drew ?_))); (case side2 => exact HC0.out); rintro e w33 ⟨rfl, hb⟩; have n0_ := Aside0.mk (below_step (by repeat (first | (with_reducible first | exact HB.out | apply below_alloc | apply pw_below_drewN | apply below_drew1) | exact HB.out)) hb); clear HB; have HB := n0_; clear n0_; (try clear hb); (try clear hb2); (try clear hk); (try clear hi))); try go_wp2_with (first | (go_at_call 29; (with_reducible refine (locklessref17_Valid.calls k _ _ l0 false _ ?side1 ?side2 A2.out).mono ?_); (case side1 => repeat (first | exact HR0.out | (with_reducible refine Kd.C_alloc ?_ _) | (with_reducible refine Kd.C_drewN ?_ _) | (with_reducible refine Kd.C_drew ?_))); (case side2 => exact HC0.out); rintro e w33 ⟨rfl, hb⟩; have n0_ := Aside0.mk (below_step (by repeat (first | (with_reducible first | exact HB.out | apply below_alloc | apply pw_below_drewN | apply below_drew1) | exact HB.out)) hb); clear HB; have HB := n0_; clear n0_; (try clear hb); (try clear hb2); (try clear hk); (try clear hi))))
    go_ret2
    exact ⟨_, by first | rfl | (simp [errW_none, errW_some] <;> rfl) | (simp [*, errW_none, errW_some] <;> rfl), by first | exact Kd.R_nil _ _ _ _ _ | exact Kd.N_nil _ _ _ _ _ | exact Kd.V_nil _ _ _ _ _ | exact Kd.Q_nil _ _ _ _ _ | exact Kd.S_nil _ _ _ _ _, by repeat (first | (with_reducible first | exact HB.out | apply below_alloc | apply pw_below_drewN | apply below_drew1) | exact HB.out)⟩

end Go.Proofs.YtfokmfnafbladaaDoor.Q
