-- Written by a program of this session out of the translation (a printer's text). Not trusted: Lean checks it.
import Derived.Test.YtfokmfnafbladaaDoorQx0
import Derived.Test.YtfokmfnafbladaaDoorQx1
import Derived.Test.YtfokmfnafbladaaDoorQx3
namespace Go.Proofs.YtfokmfnafbladaaDoor.Q
open Go.RowKit Go.Proofs.YtfokmfnafbladaaDoorW.PrintWords Go.Proofs.YtfokmfnafbladaaDoorW.PrintLast Go.Proofs.YtfokmfnafbladaaDoorW.PrintMore
attribute [local go_sem] max2_int min2_int max_two min_two max_three min_three max_four min_four   -- for this text's walks alone
set_option linter.unusedVariables false
set_option linter.unusedSimpArgs false

attribute [local go_sem high] eqA35
/-! ### locklessref17_Valid: function 29 -/
mutual
def locklessref17_Valid.l0 : Nat → List (S37) → Int → List Bool → List Int → List (S35) → Int → Option (Bool)
  | 0, _, _, _, _, _, _ => none
  | k + 1, x0, x3, x4, x5, x6, x7 => if x7 < (x0.length : Int) then (if 0 ≤ x7 then (if ((rd_T37 x0 x7).f0) < 0 then (locklessref17_Valid.j1 k x0 x3 x4 x5 x6 x7 true ((rd_T37 x0 x7).f0) ((rd_T37 x0 x7).f1) ((rd_T37 x0 x7).f2) ((rd_T37 x0 x7).f3.f0) ((rd_T37 x0 x7).f3.f1) ((rd_T37 x0 x7).f3.f2) ((rd_T37 x0 x7).f4)) else (if ((rd_T37 x0 x7).f0) ≥ 4 then (locklessref17_Valid.j1 k x0 x3 x4 x5 x6 x7 true ((rd_T37 x0 x7).f0) ((rd_T37 x0 x7).f1) ((rd_T37 x0 x7).f2) ((rd_T37 x0 x7).f3.f0) ((rd_T37 x0 x7).f3.f1) ((rd_T37 x0 x7).f3.f2) ((rd_T37 x0 x7).f4)) else ((locklessref17_isWord.f ((rd_T37 x0 x7).f3.f1)).bind fun t144 => (if t144 = true then ((locklessref17_isWord.f ((rd_T37 x0 x7).f3.f2)).bind fun t145 => (if t145 = true then ((locklessref17_isWord.f ((rd_T37 x0 x7).f4)).bind fun t146 => (if t146 = true then ((locklessref17_isName.f k ((rd_T37 x0 x7).f3.f0)).bind fun t147 => (locklessref17_Valid.j1 k x0 x3 x4 x5 x6 x7 (!t147) ((rd_T37 x0 x7).f0) ((rd_T37 x0 x7).f1) ((rd_T37 x0 x7).f2) ((rd_T37 x0 x7).f3.f0) ((rd_T37 x0 x7).f3.f1) ((rd_T37 x0 x7).f3.f2) ((rd_T37 x0 x7).f4))) else (locklessref17_Valid.j1 k x0 x3 x4 x5 x6 x7 true ((rd_T37 x0 x7).f0) ((rd_T37 x0 x7).f1) ((rd_T37 x0 x7).f2) ((rd_T37 x0 x7).f3.f0) ((rd_T37 x0 x7).f3.f1) ((rd_T37 x0 x7).f3.f2) ((rd_T37 x0 x7).f4)))) else (locklessref17_Valid.j1 k x0 x3 x4 x5 x6 x7 true ((rd_T37 x0 x7).f0) ((rd_T37 x0 x7).f1) ((rd_T37 x0 x7).f2) ((rd_T37 x0 x7).f3.f0) ((rd_T37 x0 x7).f3.f1) ((rd_T37 x0 x7).f3.f2) ((rd_T37 x0 x7).f4)))) else (locklessref17_Valid.j1 k x0 x3 x4 x5 x6 x7 true ((rd_T37 x0 x7).f0) ((rd_T37 x0 x7).f1) ((rd_T37 x0 x7).f2) ((rd_T37 x0 x7).f3.f0) ((rd_T37 x0 x7).f3.f1) ((rd_T37 x0 x7).f3.f2) ((rd_T37 x0 x7).f4)))))) else (none)) else (some true)
def locklessref17_Valid.j1 : Nat → List (S37) → Int → List Bool → List Int → List (S35) → Int → Bool → Int → Int → Bool → ByteArray → Int → Int → Int → Option (Bool)
  | 0, _, _, _, _, _, _, _, _, _, _, _, _, _, _ => none
  | k + 1, x0, x3, x4, x5, x6, x7, x57, x144000, x144001, x144002, x144003, x144004, x144005, x144006 => if x57 = true then (some false) else (if 0 ≤ x144000 then (if x144000 < (x4.length : Int) then (if (x144002 != (rdOf false x4 x144000)) = true then (locklessref17_Valid.j2 k x0 x3 x4 x5 x6 x7 x144000 true x144000 x144001 x144002 x144003 x144004 x144005 x144006) else (if x144000 < (x5.length : Int) then (locklessref17_Valid.j2 k x0 x3 x4 x5 x6 x7 x144000 (x144001 != (rd x5 x144000)) x144000 x144001 x144002 x144003 x144004 x144005 x144006) else (none))) else (none)) else (none))
def locklessref17_Valid.j2 : Nat → List (S37) → Int → List Bool → List Int → List (S35) → Int → Int → Bool → Int → Int → Bool → ByteArray → Int → Int → Int → Option (Bool)
  | 0, _, _, _, _, _, _, _, _, _, _, _, _, _, _, _ => none
  | k + 1, x0, x3, x4, x5, x6, x7, x9, x75, x144000, x144001, x144002, x144003, x144004, x144005, x144006 => if x75 = true then (some false) else (if x144002 = true then (if 0 ≤ x9 then (if x9 < (x6.length : Int) then (if (!(x144003.toList == (((rd_T35 x6 x9).f0).toList)) || (!(x144004 == ((rd_T35 x6 x9).f1)) || (!(x144005 == ((rd_T35 x6 x9).f2))))) = true then (some false) else (if x9 < (x5.length : Int) then (if x9 < (x4.length : Int) then (locklessref17_Valid.l0 k x0 x3 (x4.set (x9 : Int).toNat false) (x5.set (x9 : Int).toNat (wrap64 ((rd x5 x9) + 1))) x6 (wrap64 (x7 + 1))) else (none)) else (none))) else (none)) else (none)) else (if x144006 = 0 then (if (wrap64 (x3 + 1)) > 12 then (some false) else (if 0 ≤ x9 then (if x9 < (x4.length : Int) then (if x9 < (x6.length : Int) then (locklessref17_Valid.l0 k x0 (wrap64 (x3 + 1)) (x4.set (x9 : Int).toNat true) x5 (x6.set (x9 : Int).toNat (⟨x144003, x144004, x144005⟩ : S35)) (wrap64 (x7 + 1))) else (none)) else (none)) else (none))) else (some false)))
end
def locklessref17_Valid.f (k : Nat) (l0 : List (S37)) : Option (Bool) := if 4 ≤ 281474976710656 then (if 4 ≤ 35184372088832 then (if 4 ≤ 8796093022208 then (locklessref17_Valid.l0 k l0 0 (List.replicate 4 false) (List.replicate 4 0) (List.replicate 4 z35) 0) else (none)) else (none)) else (none)
theorem locklessref17_Valid.mono_l : ∀ k, (∀ y0 y1 y2 y3 y4 y5, LeO (locklessref17_Valid.l0 k y0 y1 y2 y3 y4 y5) (locklessref17_Valid.l0 (k + 1) y0 y1 y2 y3 y4 y5)) ∧ (∀ y0 y1 y2 y3 y4 y5 y6 y7 y8 y9 y10 y11 y12 y13, LeO (locklessref17_Valid.j1 k y0 y1 y2 y3 y4 y5 y6 y7 y8 y9 y10 y11 y12 y13) (locklessref17_Valid.j1 (k + 1) y0 y1 y2 y3 y4 y5 y6 y7 y8 y9 y10 y11 y12 y13)) ∧ (∀ y0 y1 y2 y3 y4 y5 y6 y7 y8 y9 y10 y11 y12 y13 y14, LeO (locklessref17_Valid.j2 k y0 y1 y2 y3 y4 y5 y6 y7 y8 y9 y10 y11 y12 y13 y14) (locklessref17_Valid.j2 (k + 1) y0 y1 y2 y3 y4 y5 y6 y7 y8 y9 y10 y11 y12 y13 y14))
  | 0 => ⟨fun _ _ _ _ _ _ r h => by simp [locklessref17_Valid.l0] at h, fun _ _ _ _ _ _ _ _ _ _ _ _ _ _ r h => by simp [locklessref17_Valid.j1] at h, fun _ _ _ _ _ _ _ _ _ _ _ _ _ _ _ r h => by simp [locklessref17_Valid.j2] at h⟩
  | k + 1 => by
    obtain ⟨ih0, ih1, ih2⟩ := locklessref17_Valid.mono_l k
    refine ⟨?_, ?_, ?_⟩
    · intro y0 y1 y2 y3 y4 y5
      unfold locklessref17_Valid.l0
      repeat' first
      | (with_reducible exact ih0 _ _ _ _ _ _)
      | (with_reducible exact ih1 _ _ _ _ _ _ _ _ _ _ _ _ _ _)
      | (with_reducible exact ih2 _ _ _ _ _ _ _ _ _ _ _ _ _ _ _)
      | (with_reducible exact locklessref17_isName.mono _ _)
      | (with_reducible exact LeO.refl _)
      | (with_reducible exact LeO.none _)
      | (with_reducible refine LeO.ite ?_ ?_)
      | (with_reducible refine LeO.bind ?_ (fun _ => ?_))
      | exact ih0 _ _ _ _ _ _
      | exact ih1 _ _ _ _ _ _ _ _ _ _ _ _ _ _
      | exact ih2 _ _ _ _ _ _ _ _ _ _ _ _ _ _ _
      | exact locklessref17_isName.mono _ _
      | exact LeO.none _
      | refine LeO.ite ?_ ?_
      | refine LeO.bind ?_ (fun _ => ?_)
    · intro y0 y1 y2 y3 y4 y5 y6 y7 y8 y9 y10 y11 y12 y13
      unfold locklessref17_Valid.j1
      repeat' first
      | (with_reducible exact ih0 _ _ _ _ _ _)
      | (with_reducible exact ih1 _ _ _ _ _ _ _ _ _ _ _ _ _ _)
      | (with_reducible exact ih2 _ _ _ _ _ _ _ _ _ _ _ _ _ _ _)
      | (with_reducible exact locklessref17_isName.mono _ _)
      | (with_reducible exact LeO.refl _)
      | (with_reducible exact LeO.none _)
      | (with_reducible refine LeO.ite ?_ ?_)
      | (with_reducible refine LeO.bind ?_ (fun _ => ?_))
      | exact ih0 _ _ _ _ _ _
      | exact ih1 _ _ _ _ _ _ _ _ _ _ _ _ _ _
      | exact ih2 _ _ _ _ _ _ _ _ _ _ _ _ _ _ _
      | exact locklessref17_isName.mono _ _
      | exact LeO.none _
      | refine LeO.ite ?_ ?_
      | refine LeO.bind ?_ (fun _ => ?_)
    · intro y0 y1 y2 y3 y4 y5 y6 y7 y8 y9 y10 y11 y12 y13 y14
      unfold locklessref17_Valid.j2
      repeat' first
      | (with_reducible exact ih0 _ _ _ _ _ _)
      | (with_reducible exact ih1 _ _ _ _ _ _ _ _ _ _ _ _ _ _)
      | (with_reducible exact ih2 _ _ _ _ _ _ _ _ _ _ _ _ _ _ _)
      | (with_reducible exact locklessref17_isName.mono _ _)
      | (with_reducible exact LeO.refl _)
      | (with_reducible exact LeO.none _)
      | (with_reducible refine LeO.ite ?_ ?_)
      | (with_reducible refine LeO.bind ?_ (fun _ => ?_))
      | exact ih0 _ _ _ _ _ _
      | exact ih1 _ _ _ _ _ _ _ _ _ _ _ _ _ _
      | exact ih2 _ _ _ _ _ _ _ _ _ _ _ _ _ _ _
      | exact locklessref17_isName.mono _ _
      | exact LeO.none _
      | refine LeO.ite ?_ ?_
      | refine LeO.bind ?_ (fun _ => ?_)
theorem locklessref17_Valid.mono : ∀ a0 k, LeO (locklessref17_Valid.f k a0) (locklessref17_Valid.f (k + 1) a0) := by
  intro a0 k
  obtain ⟨ih0, ih1, ih2⟩ := locklessref17_Valid.mono_l k
  unfold locklessref17_Valid.f
  repeat' first
      | (with_reducible exact ih0 _ _ _ _ _ _)
      | (with_reducible exact ih1 _ _ _ _ _ _ _ _ _ _ _ _ _ _)
      | (with_reducible exact ih2 _ _ _ _ _ _ _ _ _ _ _ _ _ _ _)
      | (with_reducible exact locklessref17_isName.mono _ _)
      | (with_reducible exact LeO.refl _)
      | (with_reducible exact LeO.none _)
      | (with_reducible refine LeO.ite ?_ ?_)
      | (with_reducible refine LeO.bind ?_ (fun _ => ?_))
      | exact ih0 _ _ _ _ _ _
      | exact ih1 _ _ _ _ _ _ _ _ _ _ _ _ _ _
      | exact ih2 _ _ _ _ _ _ _ _ _ _ _ _ _ _ _
      | exact locklessref17_isName.mono _ _
      | exact LeO.none _
      | refine LeO.ite ?_ ?_
      | refine LeO.bind ?_ (fun _ => ?_)
set_option maxHeartbeats 8000000 in
set_option maxRecDepth 100000 in
theorem locklessref17_Valid.calls (k : Nat) (A0 : Option Addr) (c0 : Nat) (l0 : List (S37)) (r : Bool) (w : World) (hr0 : Kd.C k37 w A0 l0.length l0) (hc0 : l0.length ≤ c0) (h : locklessref17_Valid.f k l0 = some r) :
    Calls Tryd.prog 29 #[.slice A0 l0.length c0] w fun e w' => e = .returned (.bool r) ∧ Below w.heap.size w w' := by
  have hu37 := Tryd.underlying37
  have hu35 := Tryd.underlying35
  have HR0 := Aside0.mk hr0
  have HC0 := Aside0.mk hc0
  clear hr0 hc0
  have HB := Aside0.mk (Below.refl w.heap.size w)
  have H : (if 4 ≤ 281474976710656 then (if 4 ≤ 35184372088832 then (if 4 ≤ 8796093022208 then (locklessref17_Valid.l0 k l0 0 (List.replicate 4 false) (List.replicate 4 0) (List.replicate 4 z35) 0) else (none)) else (none)) else (none)) = some r := h
  clear h
  by_cases c2 : 4 ≤ 281474976710656
  · rw [if_pos c2] at H
    have c2b0 := eq_true c2
    have c2b1 : decide (4 ≤ 281474976710656) = true := decide_eq_true c2
    clear c2
    obtain ⟨y133, hy133⟩ : ∃ y_ : List Bool, y_ = (List.replicate 4 false) := ⟨_, rfl⟩
    replace H : (if 4 ≤ 35184372088832 then (if 4 ≤ 8796093022208 then (locklessref17_Valid.l0 k l0 0 y133 (List.replicate 4 0) (List.replicate 4 z35) 0) else (none)) else (none)) = some r := by first | (rw [hy133]; with_reducible exact H) | (have H2_ := (Option.bind_some _ _).symm.trans H; rw [hy133]; with_reducible exact H2_) | (have H2_ := (Option.bind_some _ _).symm.trans H; with_reducible exact H2_) | with_reducible exact H | (rw [hy133]; exact H) | exact H
    have Ny133 := Aside0.mk hy133
    clear hy133
    by_cases c3 : 4 ≤ 35184372088832
    · rw [if_pos c3] at H
      have c3b0 := eq_true c3
      have c3b1 : decide (4 ≤ 35184372088832) = true := decide_eq_true c3
      clear c3
      obtain ⟨y136, hy136⟩ : ∃ y_ : List Int, y_ = (List.replicate 4 0) := ⟨_, rfl⟩
      replace H : (if 4 ≤ 8796093022208 then (locklessref17_Valid.l0 k l0 0 y133 y136 (List.replicate 4 z35) 0) else (none)) = some r := by first | (rw [hy136]; with_reducible exact H) | (have H2_ := (Option.bind_some _ _).symm.trans H; rw [hy136]; with_reducible exact H2_) | (have H2_ := (Option.bind_some _ _).symm.trans H; with_reducible exact H2_) | with_reducible exact H | (rw [hy136]; exact H) | exact H
      have Ny136 := Aside0.mk hy136
      clear hy136
      by_cases c4 : 4 ≤ 8796093022208
      · rw [if_pos c4] at H
        have c4b0 := eq_true c4
        have c4b1 : decide (4 ≤ 8796093022208) = true := decide_eq_true c4
        clear c4
        obtain ⟨y139, hy139⟩ : ∃ y_ : List (S35), y_ = (List.replicate 4 z35) := ⟨_, rfl⟩
        replace H : (locklessref17_Valid.l0 k l0 0 y133 y136 y139 0) = some r := by first | (rw [hy139]; with_reducible exact H) | (have H2_ := (Option.bind_some _ _).symm.trans H; rw [hy139]; with_reducible exact H2_) | (have H2_ := (Option.bind_some _ _).symm.trans H; with_reducible exact H2_) | with_reducible exact H | (rw [hy139]; exact H) | exact H
        have Ny139 := Aside0.mk hy139
        clear hy139
        have H' := Aside0.mk H
        clear H
        go_enter Tryd.func29, Tryd.ntmps29
        go_wp2_with (first | ((with_reducible refine gate_dst (N := 10) rfl ?_); refine Kd.R_make Kd.bool _ 4 rfl (N := 10) rfl 82 _ _ rfl 4 rfl rfl Tryd.underlying82 (.bool false) 1 info4 rfl (by decide) (by omega) false (ok := fun _ => True) (okp := fun _ => True) rfl (fun _ hk => hk) trivial (by omega) (by omega) (Below.refl _ _) (Nat.le_refl _) ?_; intro v134 w5 ho6 hb hg_ hnew_; clear hg_ hnew_; (first | rw [← Ny133.out] at ho6 | (simp only [Int.reduceToNat] at ho6; rw [← Ny133.out] at ho6)); have n0_ := Aside0.mk (Kd.R_lower ho6 (below_size (by repeat (first | (with_reducible first | exact HB.out | apply below_alloc | apply pw_below_drewN | apply below_drew1) | exact HB.out)))); have n1_ := Aside0.mk (below_step (by repeat (first | (with_reducible first | exact HB.out | apply below_alloc | apply pw_below_drewN | apply below_drew1) | exact HB.out)) hb); clear HB; have HO135 := n0_; have HB := n1_; clear n0_ n1_; clear hb ho6) | ((with_reducible refine gate_dst (N := 11) rfl ?_); refine Kd.R_make (Kd.int .i64) _ 3 rfl (N := 11) rfl 30 _ _ rfl 4 rfl rfl Tryd.underlying30 (.int .i64 0) 8 info3 rfl (by decide) (by omega) 0 (ok := fun _ => True) (okp := fun _ => True) rfl (fun _ hk => hk) trivial (by omega) (by omega) (Below.refl _ _) (Nat.le_refl _) ?_; intro v137 w7 ho8 hb hg_ hnew_; clear hg_ hnew_; (first | rw [← Ny136.out] at ho8 | (simp only [Int.reduceToNat] at ho8; rw [← Ny136.out] at ho8)); have n0_ := Aside0.mk (Kd.R_below (by (with_reducible repeat (first | apply Kd.R_alloc | apply Kd.R_drewN | apply Kd.R_drew)); exact HO135.out) hb); have n1_ := Aside0.mk (Kd.R_lower ho8 (below_size (by repeat (first | (with_reducible first | exact HB.out | apply below_alloc | apply pw_below_drewN | apply below_drew1) | exact HB.out)))); have n2_ := Aside0.mk (below_step (by repeat (first | (with_reducible first | exact HB.out | apply below_alloc | apply pw_below_drewN | apply below_drew1) | exact HB.out)) hb); clear HO135; clear HB; have HO135 := n0_; have HO138 := n1_; have HB := n2_; clear n0_ n1_ n2_; clear hb ho8) | ((with_reducible refine gate_dst (N := 12) rfl ?_); refine Kd.R_make k35 _ 35 rfl (N := 12) rfl 83 _ _ rfl 4 rfl rfl Tryd.underlying83 (.agg #[(.string ⟨#[]⟩), (.int .i64 0), (.int .i64 0)]) 32 info35 rfl (by decide) (by omega) z35 (ok := fun _ => True) (okp := fun _ => True) (k35_mkM _ _ _ z35 ) (fun _ hk => hk) trivial (by omega) (by omega) (Below.refl _ _) (Nat.le_refl _) ?_; intro v140 w9 ho10 hb hg_ hnew_; clear hg_ hnew_; (first | rw [← Ny139.out] at ho10 | (simp only [Int.reduceToNat] at ho10; rw [← Ny139.out] at ho10)); have n0_ := Aside0.mk (Kd.R_below (by (with_reducible repeat (first | apply Kd.R_alloc | apply Kd.R_drewN | apply Kd.R_drew)); exact HO135.out) hb); have n1_ := Aside0.mk (Kd.R_below (by (with_reducible repeat (first | apply Kd.R_alloc | apply Kd.R_drewN | apply Kd.R_drew)); exact HO138.out) hb); have n2_ := Aside0.mk (Kd.R_lower ho10 (below_size (by repeat (first | (with_reducible first | exact HB.out | apply below_alloc | apply pw_below_drewN | apply below_drew1) | exact HB.out)))); have n3_ := Aside0.mk (below_step (by repeat (first | (with_reducible first | exact HB.out | apply below_alloc | apply pw_below_drewN | apply below_drew1) | exact HB.out)) hb); clear HO135; clear HO138; clear HB; have HO135 := n0_; have HO138 := n1_; have HO141 := n2_; have HB := n3_; clear n0_ n1_ n2_ n3_; clear hb ho10))
        repeat (go_quiet (first | ((with_reducible refine gate_dst (N := 10) rfl ?_); refine Kd.R_make Kd.bool _ 4 rfl (N := 10) rfl 82 _ _ rfl 4 rfl rfl Tryd.underlying82 (.bool false) 1 info4 rfl (by decide) (by omega) false (ok := fun _ => True) (okp := fun _ => True) rfl (fun _ hk => hk) trivial (by omega) (by omega) (Below.refl _ _) (Nat.le_refl _) ?_; intro v134 w5 ho6 hb hg_ hnew_; clear hg_ hnew_; (first | rw [← Ny133.out] at ho6 | (simp only [Int.reduceToNat] at ho6; rw [← Ny133.out] at ho6)); have n0_ := Aside0.mk (Kd.R_lower ho6 (below_size (by repeat (first | (with_reducible first | exact HB.out | apply below_alloc | apply pw_below_drewN | apply below_drew1) | exact HB.out)))); have n1_ := Aside0.mk (below_step (by repeat (first | (with_reducible first | exact HB.out | apply below_alloc | apply pw_below_drewN | apply below_drew1) | exact HB.out)) hb); clear HB; have HO135 := n0_; have HB := n1_; clear n0_ n1_; clear hb ho6) | ((with_reducible refine gate_dst (N := 11) rfl ?_); refine Kd.R_make (Kd.int .i64) _ 3 rfl (N := 11) rfl 30 _ _ rfl 4 rfl rfl Tryd.underlying30 (.int .i64 0) 8 info3 rfl (by decide) (by omega) 0 (ok := fun _ => True) (okp := fun _ => True) rfl (fun _ hk => hk) trivial (by omega) (by omega) (Below.refl _ _) (Nat.le_refl _) ?_; intro v137 w7 ho8 hb hg_ hnew_; clear hg_ hnew_; (first | rw [← Ny136.out] at ho8 | (simp only [Int.reduceToNat] at ho8; rw [← Ny136.out] at ho8)); have n0_ := Aside0.mk (Kd.R_below (by (with_reducible repeat (first | apply Kd.R_alloc | apply Kd.R_drewN | apply Kd.R_drew)); exact HO135.out) hb); have n1_ := Aside0.mk (Kd.R_lower ho8 (below_size (by repeat (first | (with_reducible first | exact HB.out | apply below_alloc | apply pw_below_drewN | apply below_drew1) | exact HB.out)))); have n2_ := Aside0.mk (below_step (by repeat (first | (with_reducible first | exact HB.out | apply below_alloc | apply pw_below_drewN | apply below_drew1) | exact HB.out)) hb); clear HO135; clear HB; have HO135 := n0_; have HO138 := n1_; have HB := n2_; clear n0_ n1_ n2_; clear hb ho8) | ((with_reducible refine gate_dst (N := 12) rfl ?_); refine Kd.R_make k35 _ 35 rfl (N := 12) rfl 83 _ _ rfl 4 rfl rfl Tryd.underlying83 (.agg #[(.string ⟨#[]⟩), (.int .i64 0), (.int .i64 0)]) 32 info35 rfl (by decide) (by omega) z35 (ok := fun _ => True) (okp := fun _ => True) (k35_mkM _ _ _ z35 ) (fun _ hk => hk) trivial (by omega) (by omega) (Below.refl _ _) (Nat.le_refl _) ?_; intro v140 w9 ho10 hb hg_ hnew_; clear hg_ hnew_; (first | rw [← Ny139.out] at ho10 | (simp only [Int.reduceToNat] at ho10; rw [← Ny139.out] at ho10)); have n0_ := Aside0.mk (Kd.R_below (by (with_reducible repeat (first | apply Kd.R_alloc | apply Kd.R_drewN | apply Kd.R_drew)); exact HO135.out) hb); have n1_ := Aside0.mk (Kd.R_below (by (with_reducible repeat (first | apply Kd.R_alloc | apply Kd.R_drewN | apply Kd.R_drew)); exact HO138.out) hb); have n2_ := Aside0.mk (Kd.R_lower ho10 (below_size (by repeat (first | (with_reducible first | exact HB.out | apply below_alloc | apply pw_below_drewN | apply below_drew1) | exact HB.out)))); have n3_ := Aside0.mk (below_step (by repeat (first | (with_reducible first | exact HB.out | apply below_alloc | apply pw_below_drewN | apply below_drew1) | exact HB.out)) hb); clear HO135; clear HO138; clear HB; have HO135 := n0_; have HO138 := n1_; have HO141 := n2_; have HB := n3_; clear n0_ n1_ n2_ n3_; clear hb ho10)); try go_wp2_with (first | ((with_reducible refine gate_dst (N := 10) rfl ?_); refine Kd.R_make Kd.bool _ 4 rfl (N := 10) rfl 82 _ _ rfl 4 rfl rfl Tryd.underlying82 (.bool false) 1 info4 rfl (by decide) (by omega) false (ok := fun _ => True) (okp := fun _ => True) rfl (fun _ hk => hk) trivial (by omega) (by omega) (Below.refl _ _) (Nat.le_refl _) ?_; intro v134 w5 ho6 hb hg_ hnew_; clear hg_ hnew_; (first | rw [← Ny133.out] at ho6 | (simp only [Int.reduceToNat] at ho6; rw [← Ny133.out] at ho6)); have n0_ := Aside0.mk (Kd.R_lower ho6 (below_size (by repeat (first | (with_reducible first | exact HB.out | apply below_alloc | apply pw_below_drewN | apply below_drew1) | exact HB.out)))); have n1_ := Aside0.mk (below_step (by repeat (first | (with_reducible first | exact HB.out | apply below_alloc | apply pw_below_drewN | apply below_drew1) | exact HB.out)) hb); clear HB; have HO135 := n0_; have HB := n1_; clear n0_ n1_; clear hb ho6) | ((with_reducible refine gate_dst (N := 11) rfl ?_); refine Kd.R_make (Kd.int .i64) _ 3 rfl (N := 11) rfl 30 _ _ rfl 4 rfl rfl Tryd.underlying30 (.int .i64 0) 8 info3 rfl (by decide) (by omega) 0 (ok := fun _ => True) (okp := fun _ => True) rfl (fun _ hk => hk) trivial (by omega) (by omega) (Below.refl _ _) (Nat.le_refl _) ?_; intro v137 w7 ho8 hb hg_ hnew_; clear hg_ hnew_; (first | rw [← Ny136.out] at ho8 | (simp only [Int.reduceToNat] at ho8; rw [← Ny136.out] at ho8)); have n0_ := Aside0.mk (Kd.R_below (by (with_reducible repeat (first | apply Kd.R_alloc | apply Kd.R_drewN | apply Kd.R_drew)); exact HO135.out) hb); have n1_ := Aside0.mk (Kd.R_lower ho8 (below_size (by repeat (first | (with_reducible first | exact HB.out | apply below_alloc | apply pw_below_drewN | apply below_drew1) | exact HB.out)))); have n2_ := Aside0.mk (below_step (by repeat (first | (with_reducible first | exact HB.out | apply below_alloc | apply pw_below_drewN | apply below_drew1) | exact HB.out)) hb); clear HO135; clear HB; have HO135 := n0_; have HO138 := n1_; have HB := n2_; clear n0_ n1_ n2_; clear hb ho8) | ((with_reducible refine gate_dst (N := 12) rfl ?_); refine Kd.R_make k35 _ 35 rfl (N := 12) rfl 83 _ _ rfl 4 rfl rfl Tryd.underlying83 (.agg #[(.string ⟨#[]⟩), (.int .i64 0), (.int .i64 0)]) 32 info35 rfl (by decide) (by omega) z35 (ok := fun _ => True) (okp := fun _ => True) (k35_mkM _ _ _ z35 ) (fun _ hk => hk) trivial (by omega) (by omega) (Below.refl _ _) (Nat.le_refl _) ?_; intro v140 w9 ho10 hb hg_ hnew_; clear hg_ hnew_; (first | rw [← Ny139.out] at ho10 | (simp only [Int.reduceToNat] at ho10; rw [← Ny139.out] at ho10)); have n0_ := Aside0.mk (Kd.R_below (by (with_reducible repeat (first | apply Kd.R_alloc | apply Kd.R_drewN | apply Kd.R_drew)); exact HO135.out) hb); have n1_ := Aside0.mk (Kd.R_below (by (with_reducible repeat (first | apply Kd.R_alloc | apply Kd.R_drewN | apply Kd.R_drew)); exact HO138.out) hb); have n2_ := Aside0.mk (Kd.R_lower ho10 (below_size (by repeat (first | (with_reducible first | exact HB.out | apply below_alloc | apply pw_below_drewN | apply below_drew1) | exact HB.out)))); have n3_ := Aside0.mk (below_step (by repeat (first | (with_reducible first | exact HB.out | apply below_alloc | apply pw_below_drewN | apply below_drew1) | exact HB.out)) hb); clear HO135; clear HO138; clear HB; have HO135 := n0_; have HO138 := n1_; have HO141 := n2_; have HB := n3_; clear n0_ n1_ n2_ n3_; clear hb ho10)))
        go_loopg [3, 7] k (fun kq v3 v7 w' => ∃ (x3_1 : Int) (x4_1 : List Bool) (x5_1 : List Int) (x6_1 : List (S35)) (x7_1 : Int), v3 = .int .i64 x3_1 ∧ v7 = .int .i64 x7_1 ∧ Aside0 (locklessref17_Valid.l0 kq l0 x3_1 x4_1 x5_1 x6_1 x7_1 = some r) ∧ Aside0 (kq ≤ k) ∧ Aside0 (Kd.R Kd.bool 4 w' w.heap.size (fun _ => True) v134 x4_1) ∧ Aside0 (Kd.R (Kd.int .i64) 3 w' w.heap.size (fun _ => True) v137 x5_1) ∧ Aside0 (Kd.R k35 35 w' w.heap.size (fun _ => True) v140 x6_1) ∧ Aside0 (Below w.heap.size w w'))
        case atStart => exact ⟨(0), (y133), (y136), (y139), (0), (by first | rfl | (simp; done) | (simp [*]; done)), (by first | rfl | (simp; done) | (simp [*]; done)), H', ⟨Nat.le_refl _⟩, ⟨by (with_reducible repeat (first | apply Kd.R_alloc | apply Kd.R_drewN | apply Kd.R_drew)); exact HO135.out⟩, ⟨by (with_reducible repeat (first | apply Kd.R_alloc | apply Kd.R_drewN | apply Kd.R_drew)); exact HO138.out⟩, ⟨by (with_reducible repeat (first | apply Kd.R_alloc | apply Kd.R_drewN | apply Kd.R_drew)); exact HO141.out⟩, ⟨by repeat (first | (with_reducible first | exact HB.out | apply below_alloc | apply pw_below_drewN | apply below_drew1) | exact HB.out)⟩⟩
        case round =>
          clear H'
          try clear c2
          try clear c2b0
          try clear c2b1
          try clear p2
          try clear c3
          try clear c3b0
          try clear c3b1
          try clear c4
          try clear c4b0
          try clear c4b1
          obtain ⟨x3_1, x4_1, x5_1, x6_1, x7_1, rfl, rfl, HA, HK1, HO_4, HO_5, HO_6, HB⟩ := hrel
          cases gk with
          | zero => exact absurd HA.out (by simp [locklessref17_Valid.l0])
          | succ k1 =>
            have H := HA.out
            clear HA
            simp only [locklessref17_Valid.l0] at H
            by_cases c11 : x7_1 < (l0.length : Int)
            · rw [if_pos c11] at H
              have c11b0 : decide (x7_1 < (l0.length : Int)) = true := decide_eq_true c11
              clear c11
              by_cases c12 : 0 ≤ x7_1
              · rw [if_pos c12] at H
                have c12b0 : decide (0 ≤ x7_1) = true := decide_eq_true c12
                clear c12
                have HC13 := Aside0.mk H
                clear H
                have p142 : 0 ≤ (x7_1 : Int) := of_decide_eq_true (by first | (with_reducible assumption) | assumption)
                have q142 : x7_1 < (l0.length : Int) := of_decide_eq_true (by first | (with_reducible assumption) | assumption)
                obtain ⟨ad142, e142, hx142_0, hx142_1, hx142_2, hx142_3, hx142_4, hx142_5, hx142_6⟩ := at_T37 HR0.out x7_1 p142 q142
                cases e142
                replace hx142_0 := (HB.out.cell (World.block_lt_of_cell? w _ hx142_0)).trans hx142_0
                replace hx142_1 := (HB.out.cell (World.block_lt_of_cell? w _ hx142_1)).trans hx142_1
                replace hx142_2 := (HB.out.cell (World.block_lt_of_cell? w _ hx142_2)).trans hx142_2
                replace hx142_3 := (HB.out.cell (World.block_lt_of_cell? w _ hx142_3)).trans hx142_3
                replace hx142_4 := (HB.out.cell (World.block_lt_of_cell? w _ hx142_4)).trans hx142_4
                replace hx142_5 := (HB.out.cell (World.block_lt_of_cell? w _ hx142_5)).trans hx142_5
                replace hx142_6 := (HB.out.cell (World.block_lt_of_cell? w _ hx142_6)).trans hx142_6
                replace p142 := eq_true p142
                replace q142 := eq_true q142
                go_upto_region 9 with (first | ((with_reducible refine gate_dst (N := 8) rfl ?_); refine box_event ?hg (N := 8) ?hd (cs := #[.int .i64 0, .int .i64 0, .bool false, .string (⟨#[]⟩ : ByteArray), .int .i64 0, .int .i64 0, .int .i64 0]) (t := 37) ?hr ?_; (case hd => rfl); (case hg => rfl); (case hr => first | (go_simp; done) | (go_simp; rfl)); intro gb143 hg w14 hbox hb; have n0_ := Aside0.mk (Kd.R_below (by (with_reducible repeat (first | apply Kd.R_alloc | apply Kd.R_drewN | apply Kd.R_drew)); exact HO_4.out) hb); have n1_ := Aside0.mk (Kd.R_below (by (with_reducible repeat (first | apply Kd.R_alloc | apply Kd.R_drewN | apply Kd.R_drew)); exact HO_5.out) hb); have n2_ := Aside0.mk (Kd.R_below (by (with_reducible repeat (first | apply Kd.R_alloc | apply Kd.R_drewN | apply Kd.R_drew)); exact HO_6.out) hb); have n3_ := Aside0.mk (below_step (by repeat (first | (with_reducible first | exact HB.out | apply below_alloc | apply pw_below_drewN | apply below_drew1) | exact HB.out)) hb); have n4_ := Aside0.mk (hbox); have n5_ := Aside0.mk ((by rw [hg]; exact (below_size (by repeat (first | (with_reducible first | exact HB.out | apply below_alloc | apply pw_below_drewN | apply below_drew1) | exact HB.out))) : w.heap.size ≤ gb143)); have n6_ := Aside0.mk ((by rw [hg]; exact (below_size (by repeat (first | (with_reducible first | exact HB.out | apply below_alloc | apply pw_below_drewN | apply below_drew1) | exact HB.out))) : w.heap.size ≤ gb143)); clear HO_4; clear HO_5; clear HO_6; clear HB; have HO_4 := n0_; have HO_5 := n1_; have HO_6 := n2_; have HB := n3_; have BK143 := n4_; have GW143 := n5_; have GE143 := n6_; clear n0_ n1_ n2_ n3_ n4_ n5_ n6_; clear hb hbox hg; have hcz15_0 : w14.cell? ⟨gb143, 0, none⟩ = some (.int .i64 0) := (blk_cell BK143.out 0).trans rfl; have hcz15_1 : w14.cell? ⟨gb143, 1, none⟩ = some (.int .i64 0) := (blk_cell BK143.out 1).trans rfl; have hcz15_2 : w14.cell? ⟨gb143, 2, none⟩ = some (.bool false) := (blk_cell BK143.out 2).trans rfl; have hcz15_3 : w14.cell? ⟨gb143, 3, none⟩ = some (.string (⟨#[]⟩ : ByteArray)) := (blk_cell BK143.out 3).trans rfl; have hcz15_4 : w14.cell? ⟨gb143, 4, none⟩ = some (.int .i64 0) := (blk_cell BK143.out 4).trans rfl; have hcz15_5 : w14.cell? ⟨gb143, 5, none⟩ = some (.int .i64 0) := (blk_cell BK143.out 5).trans rfl; have hcz15_6 : w14.cell? ⟨gb143, 6, none⟩ = some (.int .i64 0) := (blk_cell BK143.out 6).trans rfl; have hfz15_0 := blk_frozen BK143.out 0; have hfz15_1 := blk_frozen BK143.out 1; have hfz15_2 := blk_frozen BK143.out 2; have hfz15_3 := blk_frozen BK143.out 3; have hfz15_4 := blk_frozen BK143.out 4; have hfz15_5 := blk_frozen BK143.out 5; have hfz15_6 := blk_frozen BK143.out 6))
                repeat (go_quiet (first | ((with_reducible refine gate_dst (N := 8) rfl ?_); refine box_event ?hg (N := 8) ?hd (cs := #[.int .i64 0, .int .i64 0, .bool false, .string (⟨#[]⟩ : ByteArray), .int .i64 0, .int .i64 0, .int .i64 0]) (t := 37) ?hr ?_; (case hd => rfl); (case hg => rfl); (case hr => first | (go_simp; done) | (go_simp; rfl)); intro gb143 hg w14 hbox hb; have n0_ := Aside0.mk (Kd.R_below (by (with_reducible repeat (first | apply Kd.R_alloc | apply Kd.R_drewN | apply Kd.R_drew)); exact HO_4.out) hb); have n1_ := Aside0.mk (Kd.R_below (by (with_reducible repeat (first | apply Kd.R_alloc | apply Kd.R_drewN | apply Kd.R_drew)); exact HO_5.out) hb); have n2_ := Aside0.mk (Kd.R_below (by (with_reducible repeat (first | apply Kd.R_alloc | apply Kd.R_drewN | apply Kd.R_drew)); exact HO_6.out) hb); have n3_ := Aside0.mk (below_step (by repeat (first | (with_reducible first | exact HB.out | apply below_alloc | apply pw_below_drewN | apply below_drew1) | exact HB.out)) hb); have n4_ := Aside0.mk (hbox); have n5_ := Aside0.mk ((by rw [hg]; exact (below_size (by repeat (first | (with_reducible first | exact HB.out | apply below_alloc | apply pw_below_drewN | apply below_drew1) | exact HB.out))) : w.heap.size ≤ gb143)); have n6_ := Aside0.mk ((by rw [hg]; exact (below_size (by repeat (first | (with_reducible first | exact HB.out | apply below_alloc | apply pw_below_drewN | apply below_drew1) | exact HB.out))) : w.heap.size ≤ gb143)); clear HO_4; clear HO_5; clear HO_6; clear HB; have HO_4 := n0_; have HO_5 := n1_; have HO_6 := n2_; have HB := n3_; have BK143 := n4_; have GW143 := n5_; have GE143 := n6_; clear n0_ n1_ n2_ n3_ n4_ n5_ n6_; clear hb hbox hg; have hcz15_0 : w14.cell? ⟨gb143, 0, none⟩ = some (.int .i64 0) := (blk_cell BK143.out 0).trans rfl; have hcz15_1 : w14.cell? ⟨gb143, 1, none⟩ = some (.int .i64 0) := (blk_cell BK143.out 1).trans rfl; have hcz15_2 : w14.cell? ⟨gb143, 2, none⟩ = some (.bool false) := (blk_cell BK143.out 2).trans rfl; have hcz15_3 : w14.cell? ⟨gb143, 3, none⟩ = some (.string (⟨#[]⟩ : ByteArray)) := (blk_cell BK143.out 3).trans rfl; have hcz15_4 : w14.cell? ⟨gb143, 4, none⟩ = some (.int .i64 0) := (blk_cell BK143.out 4).trans rfl; have hcz15_5 : w14.cell? ⟨gb143, 5, none⟩ = some (.int .i64 0) := (blk_cell BK143.out 5).trans rfl; have hcz15_6 : w14.cell? ⟨gb143, 6, none⟩ = some (.int .i64 0) := (blk_cell BK143.out 6).trans rfl; have hfz15_0 := blk_frozen BK143.out 0; have hfz15_1 := blk_frozen BK143.out 1; have hfz15_2 := blk_frozen BK143.out 2; have hfz15_3 := blk_frozen BK143.out 3; have hfz15_4 := blk_frozen BK143.out 4; have hfz15_5 := blk_frozen BK143.out 5; have hfz15_6 := blk_frozen BK143.out 6)); go_upto_region 9 with (first | ((with_reducible refine gate_dst (N := 8) rfl ?_); refine box_event ?hg (N := 8) ?hd (cs := #[.int .i64 0, .int .i64 0, .bool false, .string (⟨#[]⟩ : ByteArray), .int .i64 0, .int .i64 0, .int .i64 0]) (t := 37) ?hr ?_; (case hd => rfl); (case hg => rfl); (case hr => first | (go_simp; done) | (go_simp; rfl)); intro gb143 hg w14 hbox hb; have n0_ := Aside0.mk (Kd.R_below (by (with_reducible repeat (first | apply Kd.R_alloc | apply Kd.R_drewN | apply Kd.R_drew)); exact HO_4.out) hb); have n1_ := Aside0.mk (Kd.R_below (by (with_reducible repeat (first | apply Kd.R_alloc | apply Kd.R_drewN | apply Kd.R_drew)); exact HO_5.out) hb); have n2_ := Aside0.mk (Kd.R_below (by (with_reducible repeat (first | apply Kd.R_alloc | apply Kd.R_drewN | apply Kd.R_drew)); exact HO_6.out) hb); have n3_ := Aside0.mk (below_step (by repeat (first | (with_reducible first | exact HB.out | apply below_alloc | apply pw_below_drewN | apply below_drew1) | exact HB.out)) hb); have n4_ := Aside0.mk (hbox); have n5_ := Aside0.mk ((by rw [hg]; exact (below_size (by repeat (first | (with_reducible first | exact HB.out | apply below_alloc | apply pw_below_drewN | apply below_drew1) | exact HB.out))) : w.heap.size ≤ gb143)); have n6_ := Aside0.mk ((by rw [hg]; exact (below_size (by repeat (first | (with_reducible first | exact HB.out | apply below_alloc | apply pw_below_drewN | apply below_drew1) | exact HB.out))) : w.heap.size ≤ gb143)); clear HO_4; clear HO_5; clear HO_6; clear HB; have HO_4 := n0_; have HO_5 := n1_; have HO_6 := n2_; have HB := n3_; have BK143 := n4_; have GW143 := n5_; have GE143 := n6_; clear n0_ n1_ n2_ n3_ n4_ n5_ n6_; clear hb hbox hg; have hcz15_0 : w14.cell? ⟨gb143, 0, none⟩ = some (.int .i64 0) := (blk_cell BK143.out 0).trans rfl; have hcz15_1 : w14.cell? ⟨gb143, 1, none⟩ = some (.int .i64 0) := (blk_cell BK143.out 1).trans rfl; have hcz15_2 : w14.cell? ⟨gb143, 2, none⟩ = some (.bool false) := (blk_cell BK143.out 2).trans rfl; have hcz15_3 : w14.cell? ⟨gb143, 3, none⟩ = some (.string (⟨#[]⟩ : ByteArray)) := (blk_cell BK143.out 3).trans rfl; have hcz15_4 : w14.cell? ⟨gb143, 4, none⟩ = some (.int .i64 0) := (blk_cell BK143.out 4).trans rfl; have hcz15_5 : w14.cell? ⟨gb143, 5, none⟩ = some (.int .i64 0) := (blk_cell BK143.out 5).trans rfl; have hcz15_6 : w14.cell? ⟨gb143, 6, none⟩ = some (.int .i64 0) := (blk_cell BK143.out 6).trans rfl; have hfz15_0 := blk_frozen BK143.out 0; have hfz15_1 := blk_frozen BK143.out 1; have hfz15_2 := blk_frozen BK143.out 2; have hfz15_3 := blk_frozen BK143.out 3; have hfz15_4 := blk_frozen BK143.out 4; have hfz15_5 := blk_frozen BK143.out 5; have hfz15_6 := blk_frozen BK143.out 6)))
                (try simp only [Act.put, List.setIfInBounds_toArray, List.set_cons_zero, List.set_cons_succ])
                go_cut [57] (fun v57 wc => ∃ (kq : Nat) (x57_12 : Bool), v57 = .bool x57_12 ∧ Aside0 (locklessref17_Valid.j1 kq l0 x3_1 x4_1 x5_1 x6_1 x7_1 x57_12 ((rd_T37 l0 x7_1).f0) ((rd_T37 l0 x7_1).f1) ((rd_T37 l0 x7_1).f2) ((rd_T37 l0 x7_1).f3.f0) ((rd_T37 l0 x7_1).f3.f1) ((rd_T37 l0 x7_1).f3.f2) ((rd_T37 l0 x7_1).f4) = some r) ∧ Aside0 (kq ≤ k1) ∧ Aside0 (Kd.R Kd.bool 4 wc w.heap.size (fun _ => True) v134 x4_1) ∧ Aside0 (Kd.R (Kd.int .i64) 3 wc w.heap.size (fun _ => True) v137 x5_1) ∧ Aside0 (Kd.R k35 35 wc w.heap.size (fun _ => True) v140 x6_1) ∧ Aside0 (wc.heap[gb143]? = some (.cells #[.int .i64 ((rd_T37 l0 x7_1).f0), .int .i64 ((rd_T37 l0 x7_1).f1), .bool ((rd_T37 l0 x7_1).f2), .string ((rd_T37 l0 x7_1).f3.f0), .int .i64 ((rd_T37 l0 x7_1).f3.f1), .int .i64 ((rd_T37 l0 x7_1).f3.f2), .int .i64 ((rd_T37 l0 x7_1).f4)] 37 (0, 0))) ∧ Aside0 (Below w.heap.size w wc))
                case first =>
                  have H := HC13.out
                  clear HC13
                  by_cases c16 : ((rd_T37 l0 x7_1).f0) < 0
                  · rw [if_pos c16] at H
                    have c16b0 : decide (((rd_T37 l0 x7_1).f0) < 0) = true := decide_eq_true c16
                    clear c16
                    (first | rw [c16b0] | (simp only [i64_w, i32_w]; rw [c16b0]) | skip)
                    have H' := Aside0.mk H
                    clear H
                    have hcz17_0 : w14.cell? ⟨gb143, 0, none⟩ = some (.int .i64 0) := (blk_cell BK143.out 0).trans rfl
                    have hcz17_1 : w14.cell? ⟨gb143, 1, none⟩ = some (.int .i64 0) := (blk_cell BK143.out 1).trans rfl
                    have hcz17_2 : w14.cell? ⟨gb143, 2, none⟩ = some (.bool false) := (blk_cell BK143.out 2).trans rfl
                    have hcz17_3 : w14.cell? ⟨gb143, 3, none⟩ = some (.string (⟨#[]⟩ : ByteArray)) := (blk_cell BK143.out 3).trans rfl
                    have hcz17_4 : w14.cell? ⟨gb143, 4, none⟩ = some (.int .i64 0) := (blk_cell BK143.out 4).trans rfl
                    have hcz17_5 : w14.cell? ⟨gb143, 5, none⟩ = some (.int .i64 0) := (blk_cell BK143.out 5).trans rfl
                    have hcz17_6 : w14.cell? ⟨gb143, 6, none⟩ = some (.int .i64 0) := (blk_cell BK143.out 6).trans rfl
                    have hfz17_0 := blk_frozen BK143.out 0
                    have hfz17_1 := blk_frozen BK143.out 1
                    have hfz17_2 := blk_frozen BK143.out 2
                    have hfz17_3 := blk_frozen BK143.out 3
                    have hfz17_4 := blk_frozen BK143.out 4
                    have hfz17_5 := blk_frozen BK143.out 5
                    have hfz17_6 := blk_frozen BK143.out 6
                    go_wp2
                    repeat (go_quiet (fail); try go_wp2)
                    go_meet
                    case rel => exact ⟨_, (true), (by first | rfl | (simp; done) | (simp [*]; done)), H', ⟨by have := HK1.out; first | omega | exact Nat.le_refl _⟩, ⟨by (with_reducible repeat (first | apply Kd.R_alloc | apply Kd.R_drewN | apply Kd.R_drew)); exact Kd.R_mono (Kd.R_far (p := ⟨gb143, 6, none⟩) (Kd.R_far (p := ⟨gb143, 5, none⟩) (Kd.R_far (p := ⟨gb143, 4, none⟩) (Kd.R_far (p := ⟨gb143, 3, none⟩) (Kd.R_far (p := ⟨gb143, 2, none⟩) (Kd.R_far (p := ⟨gb143, 1, none⟩) (Kd.R_far (p := ⟨gb143, 0, none⟩) (Kd.R_types HO_4.out BK143.out (by decide)) (fun _ hk => hk.2) (.int .i64 ((rd_T37 l0 x7_1).f0))) (fun _ hk => hk.2) (.int .i64 ((rd_T37 l0 x7_1).f1))) (fun _ hk => hk.2) (.bool ((rd_T37 l0 x7_1).f2))) (fun _ hk => hk.2) (.string ((rd_T37 l0 x7_1).f3.f0))) (fun _ hk => hk.2) (.int .i64 ((rd_T37 l0 x7_1).f3.f1))) (fun _ hk => hk.2) (.int .i64 ((rd_T37 l0 x7_1).f3.f2))) (fun _ hk => hk.2) (.int .i64 ((rd_T37 l0 x7_1).f4))) (fun _ hk => trivial)⟩, ⟨by (with_reducible repeat (first | apply Kd.R_alloc | apply Kd.R_drewN | apply Kd.R_drew)); exact Kd.R_mono (Kd.R_far (p := ⟨gb143, 6, none⟩) (Kd.R_far (p := ⟨gb143, 5, none⟩) (Kd.R_far (p := ⟨gb143, 4, none⟩) (Kd.R_far (p := ⟨gb143, 3, none⟩) (Kd.R_far (p := ⟨gb143, 2, none⟩) (Kd.R_far (p := ⟨gb143, 1, none⟩) (Kd.R_far (p := ⟨gb143, 0, none⟩) (Kd.R_types HO_5.out BK143.out (by decide)) (fun _ hk => hk.2) (.int .i64 ((rd_T37 l0 x7_1).f0))) (fun _ hk => hk.2) (.int .i64 ((rd_T37 l0 x7_1).f1))) (fun _ hk => hk.2) (.bool ((rd_T37 l0 x7_1).f2))) (fun _ hk => hk.2) (.string ((rd_T37 l0 x7_1).f3.f0))) (fun _ hk => hk.2) (.int .i64 ((rd_T37 l0 x7_1).f3.f1))) (fun _ hk => hk.2) (.int .i64 ((rd_T37 l0 x7_1).f3.f2))) (fun _ hk => hk.2) (.int .i64 ((rd_T37 l0 x7_1).f4))) (fun _ hk => trivial)⟩, ⟨by (with_reducible repeat (first | apply Kd.R_alloc | apply Kd.R_drewN | apply Kd.R_drew)); exact Kd.R_mono (Kd.R_far (p := ⟨gb143, 6, none⟩) (Kd.R_far (p := ⟨gb143, 5, none⟩) (Kd.R_far (p := ⟨gb143, 4, none⟩) (Kd.R_far (p := ⟨gb143, 3, none⟩) (Kd.R_far (p := ⟨gb143, 2, none⟩) (Kd.R_far (p := ⟨gb143, 1, none⟩) (Kd.R_far (p := ⟨gb143, 0, none⟩) (Kd.R_types HO_6.out BK143.out (by decide)) (fun _ hk => hk.2) (.int .i64 ((rd_T37 l0 x7_1).f0))) (fun _ hk => hk.2) (.int .i64 ((rd_T37 l0 x7_1).f1))) (fun _ hk => hk.2) (.bool ((rd_T37 l0 x7_1).f2))) (fun _ hk => hk.2) (.string ((rd_T37 l0 x7_1).f3.f0))) (fun _ hk => hk.2) (.int .i64 ((rd_T37 l0 x7_1).f3.f1))) (fun _ hk => hk.2) (.int .i64 ((rd_T37 l0 x7_1).f3.f2))) (fun _ hk => hk.2) (.int .i64 ((rd_T37 l0 x7_1).f4))) (fun _ hk => trivial)⟩, ⟨by (with_reducible repeat (first | refine blk_drewN ?_ _ | refine blk_drew ?_ | refine blk_alloc ?_ _)); refine blk_put (cs := #[.int .i64 ((rd_T37 l0 x7_1).f0), .int .i64 ((rd_T37 l0 x7_1).f1), .bool ((rd_T37 l0 x7_1).f2), .string ((rd_T37 l0 x7_1).f3.f0), .int .i64 ((rd_T37 l0 x7_1).f3.f1), .int .i64 ((rd_T37 l0 x7_1).f3.f2), .int .i64 0]) ?_ 6 _ rfl; (with_reducible repeat (first | refine blk_drewN ?_ _ | refine blk_drew ?_ | refine blk_alloc ?_ _)); refine blk_put (cs := #[.int .i64 ((rd_T37 l0 x7_1).f0), .int .i64 ((rd_T37 l0 x7_1).f1), .bool ((rd_T37 l0 x7_1).f2), .string ((rd_T37 l0 x7_1).f3.f0), .int .i64 ((rd_T37 l0 x7_1).f3.f1), .int .i64 0, .int .i64 0]) ?_ 5 _ rfl; (with_reducible repeat (first | refine blk_drewN ?_ _ | refine blk_drew ?_ | refine blk_alloc ?_ _)); refine blk_put (cs := #[.int .i64 ((rd_T37 l0 x7_1).f0), .int .i64 ((rd_T37 l0 x7_1).f1), .bool ((rd_T37 l0 x7_1).f2), .string ((rd_T37 l0 x7_1).f3.f0), .int .i64 0, .int .i64 0, .int .i64 0]) ?_ 4 _ rfl; (with_reducible repeat (first | refine blk_drewN ?_ _ | refine blk_drew ?_ | refine blk_alloc ?_ _)); refine blk_put (cs := #[.int .i64 ((rd_T37 l0 x7_1).f0), .int .i64 ((rd_T37 l0 x7_1).f1), .bool ((rd_T37 l0 x7_1).f2), .string (⟨#[]⟩ : ByteArray), .int .i64 0, .int .i64 0, .int .i64 0]) ?_ 3 _ rfl; (with_reducible repeat (first | refine blk_drewN ?_ _ | refine blk_drew ?_ | refine blk_alloc ?_ _)); refine blk_put (cs := #[.int .i64 ((rd_T37 l0 x7_1).f0), .int .i64 ((rd_T37 l0 x7_1).f1), .bool false, .string (⟨#[]⟩ : ByteArray), .int .i64 0, .int .i64 0, .int .i64 0]) ?_ 2 _ rfl; (with_reducible repeat (first | refine blk_drewN ?_ _ | refine blk_drew ?_ | refine blk_alloc ?_ _)); refine blk_put (cs := #[.int .i64 ((rd_T37 l0 x7_1).f0), .int .i64 0, .bool false, .string (⟨#[]⟩ : ByteArray), .int .i64 0, .int .i64 0, .int .i64 0]) ?_ 1 _ rfl; (with_reducible repeat (first | refine blk_drewN ?_ _ | refine blk_drew ?_ | refine blk_alloc ?_ _)); refine blk_put (cs := #[.int .i64 0, .int .i64 0, .bool false, .string (⟨#[]⟩ : ByteArray), .int .i64 0, .int .i64 0, .int .i64 0]) ?_ 0 _ rfl; (with_reducible repeat (first | refine blk_drewN ?_ _ | refine blk_drew ?_ | refine blk_alloc ?_ _)); exact BK143.out⟩, ⟨by repeat (first | (with_reducible first | exact HB.out | apply below_alloc | apply pw_below_drewN | apply below_drew1 | refine below_set ?_ GE143.out) | exact HB.out)⟩⟩
                  · rw [if_neg c16] at H
                    have c16b0 : decide (((rd_T37 l0 x7_1).f0) < 0) = false := decide_eq_false c16
                    clear c16
                    (first | rw [c16b0] | (simp only [i64_w, i32_w]; rw [c16b0]) | skip)
                    by_cases c18 : ((rd_T37 l0 x7_1).f0) ≥ 4
                    · rw [if_pos c18] at H
                      have c18b0 : decide (4 ≤ ((rd_T37 l0 x7_1).f0)) = true := decide_eq_true c18
                      clear c18
                      have H' := Aside0.mk H
                      clear H
                      have hcz19_0 : w14.cell? ⟨gb143, 0, none⟩ = some (.int .i64 0) := (blk_cell BK143.out 0).trans rfl
                      have hcz19_1 : w14.cell? ⟨gb143, 1, none⟩ = some (.int .i64 0) := (blk_cell BK143.out 1).trans rfl
                      have hcz19_2 : w14.cell? ⟨gb143, 2, none⟩ = some (.bool false) := (blk_cell BK143.out 2).trans rfl
                      have hcz19_3 : w14.cell? ⟨gb143, 3, none⟩ = some (.string (⟨#[]⟩ : ByteArray)) := (blk_cell BK143.out 3).trans rfl
                      have hcz19_4 : w14.cell? ⟨gb143, 4, none⟩ = some (.int .i64 0) := (blk_cell BK143.out 4).trans rfl
                      have hcz19_5 : w14.cell? ⟨gb143, 5, none⟩ = some (.int .i64 0) := (blk_cell BK143.out 5).trans rfl
                      have hcz19_6 : w14.cell? ⟨gb143, 6, none⟩ = some (.int .i64 0) := (blk_cell BK143.out 6).trans rfl
                      have hfz19_0 := blk_frozen BK143.out 0
                      have hfz19_1 := blk_frozen BK143.out 1
                      have hfz19_2 := blk_frozen BK143.out 2
                      have hfz19_3 := blk_frozen BK143.out 3
                      have hfz19_4 := blk_frozen BK143.out 4
                      have hfz19_5 := blk_frozen BK143.out 5
                      have hfz19_6 := blk_frozen BK143.out 6
                      go_wp2
                      repeat (go_quiet (fail); try go_wp2)
                      go_meet
                      case rel => exact ⟨_, (true), (by first | rfl | (simp; done) | (simp [*]; done)), H', ⟨by have := HK1.out; first | omega | exact Nat.le_refl _⟩, ⟨by (with_reducible repeat (first | apply Kd.R_alloc | apply Kd.R_drewN | apply Kd.R_drew)); exact Kd.R_mono (Kd.R_far (p := ⟨gb143, 6, none⟩) (Kd.R_far (p := ⟨gb143, 5, none⟩) (Kd.R_far (p := ⟨gb143, 4, none⟩) (Kd.R_far (p := ⟨gb143, 3, none⟩) (Kd.R_far (p := ⟨gb143, 2, none⟩) (Kd.R_far (p := ⟨gb143, 1, none⟩) (Kd.R_far (p := ⟨gb143, 0, none⟩) (Kd.R_types HO_4.out BK143.out (by decide)) (fun _ hk => hk.2) (.int .i64 ((rd_T37 l0 x7_1).f0))) (fun _ hk => hk.2) (.int .i64 ((rd_T37 l0 x7_1).f1))) (fun _ hk => hk.2) (.bool ((rd_T37 l0 x7_1).f2))) (fun _ hk => hk.2) (.string ((rd_T37 l0 x7_1).f3.f0))) (fun _ hk => hk.2) (.int .i64 ((rd_T37 l0 x7_1).f3.f1))) (fun _ hk => hk.2) (.int .i64 ((rd_T37 l0 x7_1).f3.f2))) (fun _ hk => hk.2) (.int .i64 ((rd_T37 l0 x7_1).f4))) (fun _ hk => trivial)⟩, ⟨by (with_reducible repeat (first | apply Kd.R_alloc | apply Kd.R_drewN | apply Kd.R_drew)); exact Kd.R_mono (Kd.R_far (p := ⟨gb143, 6, none⟩) (Kd.R_far (p := ⟨gb143, 5, none⟩) (Kd.R_far (p := ⟨gb143, 4, none⟩) (Kd.R_far (p := ⟨gb143, 3, none⟩) (Kd.R_far (p := ⟨gb143, 2, none⟩) (Kd.R_far (p := ⟨gb143, 1, none⟩) (Kd.R_far (p := ⟨gb143, 0, none⟩) (Kd.R_types HO_5.out BK143.out (by decide)) (fun _ hk => hk.2) (.int .i64 ((rd_T37 l0 x7_1).f0))) (fun _ hk => hk.2) (.int .i64 ((rd_T37 l0 x7_1).f1))) (fun _ hk => hk.2) (.bool ((rd_T37 l0 x7_1).f2))) (fun _ hk => hk.2) (.string ((rd_T37 l0 x7_1).f3.f0))) (fun _ hk => hk.2) (.int .i64 ((rd_T37 l0 x7_1).f3.f1))) (fun _ hk => hk.2) (.int .i64 ((rd_T37 l0 x7_1).f3.f2))) (fun _ hk => hk.2) (.int .i64 ((rd_T37 l0 x7_1).f4))) (fun _ hk => trivial)⟩, ⟨by (with_reducible repeat (first | apply Kd.R_alloc | apply Kd.R_drewN | apply Kd.R_drew)); exact Kd.R_mono (Kd.R_far (p := ⟨gb143, 6, none⟩) (Kd.R_far (p := ⟨gb143, 5, none⟩) (Kd.R_far (p := ⟨gb143, 4, none⟩) (Kd.R_far (p := ⟨gb143, 3, none⟩) (Kd.R_far (p := ⟨gb143, 2, none⟩) (Kd.R_far (p := ⟨gb143, 1, none⟩) (Kd.R_far (p := ⟨gb143, 0, none⟩) (Kd.R_types HO_6.out BK143.out (by decide)) (fun _ hk => hk.2) (.int .i64 ((rd_T37 l0 x7_1).f0))) (fun _ hk => hk.2) (.int .i64 ((rd_T37 l0 x7_1).f1))) (fun _ hk => hk.2) (.bool ((rd_T37 l0 x7_1).f2))) (fun _ hk => hk.2) (.string ((rd_T37 l0 x7_1).f3.f0))) (fun _ hk => hk.2) (.int .i64 ((rd_T37 l0 x7_1).f3.f1))) (fun _ hk => hk.2) (.int .i64 ((rd_T37 l0 x7_1).f3.f2))) (fun _ hk => hk.2) (.int .i64 ((rd_T37 l0 x7_1).f4))) (fun _ hk => trivial)⟩, ⟨by (with_reducible repeat (first | refine blk_drewN ?_ _ | refine blk_drew ?_ | refine blk_alloc ?_ _)); refine blk_put (cs := #[.int .i64 ((rd_T37 l0 x7_1).f0), .int .i64 ((rd_T37 l0 x7_1).f1), .bool ((rd_T37 l0 x7_1).f2), .string ((rd_T37 l0 x7_1).f3.f0), .int .i64 ((rd_T37 l0 x7_1).f3.f1), .int .i64 ((rd_T37 l0 x7_1).f3.f2), .int .i64 0]) ?_ 6 _ rfl; (with_reducible repeat (first | refine blk_drewN ?_ _ | refine blk_drew ?_ | refine blk_alloc ?_ _)); refine blk_put (cs := #[.int .i64 ((rd_T37 l0 x7_1).f0), .int .i64 ((rd_T37 l0 x7_1).f1), .bool ((rd_T37 l0 x7_1).f2), .string ((rd_T37 l0 x7_1).f3.f0), .int .i64 ((rd_T37 l0 x7_1).f3.f1), .int .i64 0, .int .i64 0]) ?_ 5 _ rfl; (with_reducible repeat (first | refine blk_drewN ?_ _ | refine blk_drew ?_ | refine blk_alloc ?_ _)); refine blk_put (cs := #[.int .i64 ((rd_T37 l0 x7_1).f0), .int .i64 ((rd_T37 l0 x7_1).f1), .bool ((rd_T37 l0 x7_1).f2), .string ((rd_T37 l0 x7_1).f3.f0), .int .i64 0, .int .i64 0, .int .i64 0]) ?_ 4 _ rfl; (with_reducible repeat (first | refine blk_drewN ?_ _ | refine blk_drew ?_ | refine blk_alloc ?_ _)); refine blk_put (cs := #[.int .i64 ((rd_T37 l0 x7_1).f0), .int .i64 ((rd_T37 l0 x7_1).f1), .bool ((rd_T37 l0 x7_1).f2), .string (⟨#[]⟩ : ByteArray), .int .i64 0, .int .i64 0, .int .i64 0]) ?_ 3 _ rfl; (with_reducible repeat (first | refine blk_drewN ?_ _ | refine blk_drew ?_ | refine blk_alloc ?_ _)); refine blk_put (cs := #[.int .i64 ((rd_T37 l0 x7_1).f0), .int .i64 ((rd_T37 l0 x7_1).f1), .bool false, .string (⟨#[]⟩ : ByteArray), .int .i64 0, .int .i64 0, .int .i64 0]) ?_ 2 _ rfl; (with_reducible repeat (first | refine blk_drewN ?_ _ | refine blk_drew ?_ | refine blk_alloc ?_ _)); refine blk_put (cs := #[.int .i64 ((rd_T37 l0 x7_1).f0), .int .i64 0, .bool false, .string (⟨#[]⟩ : ByteArray), .int .i64 0, .int .i64 0, .int .i64 0]) ?_ 1 _ rfl; (with_reducible repeat (first | refine blk_drewN ?_ _ | refine blk_drew ?_ | refine blk_alloc ?_ _)); refine blk_put (cs := #[.int .i64 0, .int .i64 0, .bool false, .string (⟨#[]⟩ : ByteArray), .int .i64 0, .int .i64 0, .int .i64 0]) ?_ 0 _ rfl; (with_reducible repeat (first | refine blk_drewN ?_ _ | refine blk_drew ?_ | refine blk_alloc ?_ _)); exact BK143.out⟩, ⟨by repeat (first | (with_reducible first | exact HB.out | apply below_alloc | apply pw_below_drewN | apply below_drew1 | refine below_set ?_ GE143.out) | exact HB.out)⟩⟩
                    · rw [if_neg c18] at H
                      have c18b0 : decide (4 ≤ ((rd_T37 l0 x7_1).f0)) = false := decide_eq_false c18
                      clear c18
                      replace H := Option.bind_eq_some_iff.mp H
                      obtain ⟨t144, A200, H⟩ := H
                      replace H : (if t144 = true then ((locklessref17_isWord.f ((rd_T37 l0 x7_1).f3.f2)).bind fun t145 => (if t145 = true then ((locklessref17_isWord.f ((rd_T37 l0 x7_1).f4)).bind fun t146 => (if t146 = true then ((locklessref17_isName.f k1 ((rd_T37 l0 x7_1).f3.f0)).bind fun t147 => (locklessref17_Valid.j1 k1 l0 x3_1 x4_1 x5_1 x6_1 x7_1 (!t147) ((rd_T37 l0 x7_1).f0) ((rd_T37 l0 x7_1).f1) ((rd_T37 l0 x7_1).f2) ((rd_T37 l0 x7_1).f3.f0) ((rd_T37 l0 x7_1).f3.f1) ((rd_T37 l0 x7_1).f3.f2) ((rd_T37 l0 x7_1).f4))) else (locklessref17_Valid.j1 k1 l0 x3_1 x4_1 x5_1 x6_1 x7_1 true ((rd_T37 l0 x7_1).f0) ((rd_T37 l0 x7_1).f1) ((rd_T37 l0 x7_1).f2) ((rd_T37 l0 x7_1).f3.f0) ((rd_T37 l0 x7_1).f3.f1) ((rd_T37 l0 x7_1).f3.f2) ((rd_T37 l0 x7_1).f4)))) else (locklessref17_Valid.j1 k1 l0 x3_1 x4_1 x5_1 x6_1 x7_1 true ((rd_T37 l0 x7_1).f0) ((rd_T37 l0 x7_1).f1) ((rd_T37 l0 x7_1).f2) ((rd_T37 l0 x7_1).f3.f0) ((rd_T37 l0 x7_1).f3.f1) ((rd_T37 l0 x7_1).f3.f2) ((rd_T37 l0 x7_1).f4)))) else (locklessref17_Valid.j1 k1 l0 x3_1 x4_1 x5_1 x6_1 x7_1 true ((rd_T37 l0 x7_1).f0) ((rd_T37 l0 x7_1).f1) ((rd_T37 l0 x7_1).f2) ((rd_T37 l0 x7_1).f3.f0) ((rd_T37 l0 x7_1).f3.f1) ((rd_T37 l0 x7_1).f3.f2) ((rd_T37 l0 x7_1).f4))) = some r := H
                      have A20 := Aside0.mk A200
                      clear A200
                      by_cases c21 : t144 = true
                      · subst c21
                        have H1 : ((locklessref17_isWord.f ((rd_T37 l0 x7_1).f3.f2)).bind fun t145 => (if t145 = true then ((locklessref17_isWord.f ((rd_T37 l0 x7_1).f4)).bind fun t146 => (if t146 = true then ((locklessref17_isName.f k1 ((rd_T37 l0 x7_1).f3.f0)).bind fun t147 => (locklessref17_Valid.j1 k1 l0 x3_1 x4_1 x5_1 x6_1 x7_1 (!t147) ((rd_T37 l0 x7_1).f0) ((rd_T37 l0 x7_1).f1) ((rd_T37 l0 x7_1).f2) ((rd_T37 l0 x7_1).f3.f0) ((rd_T37 l0 x7_1).f3.f1) ((rd_T37 l0 x7_1).f3.f2) ((rd_T37 l0 x7_1).f4))) else (locklessref17_Valid.j1 k1 l0 x3_1 x4_1 x5_1 x6_1 x7_1 true ((rd_T37 l0 x7_1).f0) ((rd_T37 l0 x7_1).f1) ((rd_T37 l0 x7_1).f2) ((rd_T37 l0 x7_1).f3.f0) ((rd_T37 l0 x7_1).f3.f1) ((rd_T37 l0 x7_1).f3.f2) ((rd_T37 l0 x7_1).f4)))) else (locklessref17_Valid.j1 k1 l0 x3_1 x4_1 x5_1 x6_1 x7_1 true ((rd_T37 l0 x7_1).f0) ((rd_T37 l0 x7_1).f1) ((rd_T37 l0 x7_1).f2) ((rd_T37 l0 x7_1).f3.f0) ((rd_T37 l0 x7_1).f3.f1) ((rd_T37 l0 x7_1).f3.f2) ((rd_T37 l0 x7_1).f4)))) = some r := by rw [if_pos rfl] at H; exact H
                        clear H
                        have H := H1
                        clear H1
                        replace H := Option.bind_eq_some_iff.mp H
                        obtain ⟨t145, A220, H⟩ := H
                        replace H : (if t145 = true then ((locklessref17_isWord.f ((rd_T37 l0 x7_1).f4)).bind fun t146 => (if t146 = true then ((locklessref17_isName.f k1 ((rd_T37 l0 x7_1).f3.f0)).bind fun t147 => (locklessref17_Valid.j1 k1 l0 x3_1 x4_1 x5_1 x6_1 x7_1 (!t147) ((rd_T37 l0 x7_1).f0) ((rd_T37 l0 x7_1).f1) ((rd_T37 l0 x7_1).f2) ((rd_T37 l0 x7_1).f3.f0) ((rd_T37 l0 x7_1).f3.f1) ((rd_T37 l0 x7_1).f3.f2) ((rd_T37 l0 x7_1).f4))) else (locklessref17_Valid.j1 k1 l0 x3_1 x4_1 x5_1 x6_1 x7_1 true ((rd_T37 l0 x7_1).f0) ((rd_T37 l0 x7_1).f1) ((rd_T37 l0 x7_1).f2) ((rd_T37 l0 x7_1).f3.f0) ((rd_T37 l0 x7_1).f3.f1) ((rd_T37 l0 x7_1).f3.f2) ((rd_T37 l0 x7_1).f4)))) else (locklessref17_Valid.j1 k1 l0 x3_1 x4_1 x5_1 x6_1 x7_1 true ((rd_T37 l0 x7_1).f0) ((rd_T37 l0 x7_1).f1) ((rd_T37 l0 x7_1).f2) ((rd_T37 l0 x7_1).f3.f0) ((rd_T37 l0 x7_1).f3.f1) ((rd_T37 l0 x7_1).f3.f2) ((rd_T37 l0 x7_1).f4))) = some r := H
                        have A22 := Aside0.mk A220
                        clear A220
                        by_cases c23 : t145 = true
                        · subst c23
                          have H1 : ((locklessref17_isWord.f ((rd_T37 l0 x7_1).f4)).bind fun t146 => (if t146 = true then ((locklessref17_isName.f k1 ((rd_T37 l0 x7_1).f3.f0)).bind fun t147 => (locklessref17_Valid.j1 k1 l0 x3_1 x4_1 x5_1 x6_1 x7_1 (!t147) ((rd_T37 l0 x7_1).f0) ((rd_T37 l0 x7_1).f1) ((rd_T37 l0 x7_1).f2) ((rd_T37 l0 x7_1).f3.f0) ((rd_T37 l0 x7_1).f3.f1) ((rd_T37 l0 x7_1).f3.f2) ((rd_T37 l0 x7_1).f4))) else (locklessref17_Valid.j1 k1 l0 x3_1 x4_1 x5_1 x6_1 x7_1 true ((rd_T37 l0 x7_1).f0) ((rd_T37 l0 x7_1).f1) ((rd_T37 l0 x7_1).f2) ((rd_T37 l0 x7_1).f3.f0) ((rd_T37 l0 x7_1).f3.f1) ((rd_T37 l0 x7_1).f3.f2) ((rd_T37 l0 x7_1).f4)))) = some r := by rw [if_pos rfl] at H; exact H
                          clear H
                          have H := H1
                          clear H1
                          replace H := Option.bind_eq_some_iff.mp H
                          obtain ⟨t146, A240, H⟩ := H
                          replace H : (if t146 = true then ((locklessref17_isName.f k1 ((rd_T37 l0 x7_1).f3.f0)).bind fun t147 => (locklessref17_Valid.j1 k1 l0 x3_1 x4_1 x5_1 x6_1 x7_1 (!t147) ((rd_T37 l0 x7_1).f0) ((rd_T37 l0 x7_1).f1) ((rd_T37 l0 x7_1).f2) ((rd_T37 l0 x7_1).f3.f0) ((rd_T37 l0 x7_1).f3.f1) ((rd_T37 l0 x7_1).f3.f2) ((rd_T37 l0 x7_1).f4))) else (locklessref17_Valid.j1 k1 l0 x3_1 x4_1 x5_1 x6_1 x7_1 true ((rd_T37 l0 x7_1).f0) ((rd_T37 l0 x7_1).f1) ((rd_T37 l0 x7_1).f2) ((rd_T37 l0 x7_1).f3.f0) ((rd_T37 l0 x7_1).f3.f1) ((rd_T37 l0 x7_1).f3.f2) ((rd_T37 l0 x7_1).f4))) = some r := H
                          have A24 := Aside0.mk A240
                          clear A240
                          by_cases c25 : t146 = true
                          · subst c25
                            have H1 : ((locklessref17_isName.f k1 ((rd_T37 l0 x7_1).f3.f0)).bind fun t147 => (locklessref17_Valid.j1 k1 l0 x3_1 x4_1 x5_1 x6_1 x7_1 (!t147) ((rd_T37 l0 x7_1).f0) ((rd_T37 l0 x7_1).f1) ((rd_T37 l0 x7_1).f2) ((rd_T37 l0 x7_1).f3.f0) ((rd_T37 l0 x7_1).f3.f1) ((rd_T37 l0 x7_1).f3.f2) ((rd_T37 l0 x7_1).f4))) = some r := by rw [if_pos rfl] at H; exact H
                            clear H
                            have H := H1
                            clear H1
                            replace H := Option.bind_eq_some_iff.mp H
                            obtain ⟨t147, A260, H⟩ := H
                            replace H : (locklessref17_Valid.j1 k1 l0 x3_1 x4_1 x5_1 x6_1 x7_1 (!t147) ((rd_T37 l0 x7_1).f0) ((rd_T37 l0 x7_1).f1) ((rd_T37 l0 x7_1).f2) ((rd_T37 l0 x7_1).f3.f0) ((rd_T37 l0 x7_1).f3.f1) ((rd_T37 l0 x7_1).f3.f2) ((rd_T37 l0 x7_1).f4)) = some r := H
                            have A26 := Aside0.mk A260
                            clear A260
                            have H' := Aside0.mk H
                            clear H
                            have hcz27_0 : w14.cell? ⟨gb143, 0, none⟩ = some (.int .i64 0) := (blk_cell BK143.out 0).trans rfl
                            have hcz27_1 : w14.cell? ⟨gb143, 1, none⟩ = some (.int .i64 0) := (blk_cell BK143.out 1).trans rfl
                            have hcz27_2 : w14.cell? ⟨gb143, 2, none⟩ = some (.bool false) := (blk_cell BK143.out 2).trans rfl
                            have hcz27_3 : w14.cell? ⟨gb143, 3, none⟩ = some (.string (⟨#[]⟩ : ByteArray)) := (blk_cell BK143.out 3).trans rfl
                            have hcz27_4 : w14.cell? ⟨gb143, 4, none⟩ = some (.int .i64 0) := (blk_cell BK143.out 4).trans rfl
                            have hcz27_5 : w14.cell? ⟨gb143, 5, none⟩ = some (.int .i64 0) := (blk_cell BK143.out 5).trans rfl
                            have hcz27_6 : w14.cell? ⟨gb143, 6, none⟩ = some (.int .i64 0) := (blk_cell BK143.out 6).trans rfl
                            have hfz27_0 := blk_frozen BK143.out 0
                            have hfz27_1 := blk_frozen BK143.out 1
                            have hfz27_2 := blk_frozen BK143.out 2
                            have hfz27_3 := blk_frozen BK143.out 3
                            have hfz27_4 := blk_frozen BK143.out 4
                            have hfz27_5 := blk_frozen BK143.out 5
                            have hfz27_6 := blk_frozen BK143.out 6
                            go_wp2_with (first | (go_at_call 51; (with_reducible refine (locklessref17_isWord.calls ((rd_T37 l0 x7_1).f3.f1) true _ A20.out).mono ?_); rintro e w' ⟨rfl, ⟨nd, rfl⟩⟩; (try first | exact ⟨rfl, _, World.drewN_drewN _ _ _⟩ | exact ⟨rfl, _, Eq.trans (World.drewN_drewN _ _ _) (congrArg (World.drewN _) (Nat.add_assoc _ _ _))⟩)) | (go_at_call 51; (with_reducible refine (locklessref17_isWord.calls ((rd_T37 l0 x7_1).f3.f2) true _ A22.out).mono ?_); rintro e w' ⟨rfl, ⟨nd, rfl⟩⟩; (try first | exact ⟨rfl, _, World.drewN_drewN _ _ _⟩ | exact ⟨rfl, _, Eq.trans (World.drewN_drewN _ _ _) (congrArg (World.drewN _) (Nat.add_assoc _ _ _))⟩)) | (go_at_call 51; (with_reducible refine (locklessref17_isWord.calls ((rd_T37 l0 x7_1).f4) true _ A24.out).mono ?_); rintro e w' ⟨rfl, ⟨nd, rfl⟩⟩; (try first | exact ⟨rfl, _, World.drewN_drewN _ _ _⟩ | exact ⟨rfl, _, Eq.trans (World.drewN_drewN _ _ _) (congrArg (World.drewN _) (Nat.add_assoc _ _ _))⟩)) | (go_at_call 52; (with_reducible refine (locklessref17_isName.calls k1 ((rd_T37 l0 x7_1).f3.f0) t147 _ A26.out).mono ?_); rintro e w' ⟨rfl, ⟨nd, rfl⟩⟩; (try first | exact ⟨rfl, _, World.drewN_drewN _ _ _⟩ | exact ⟨rfl, _, Eq.trans (World.drewN_drewN _ _ _) (congrArg (World.drewN _) (Nat.add_assoc _ _ _))⟩)))
                            repeat (go_quiet (first | (go_at_call 51; (with_reducible refine (locklessref17_isWord.calls ((rd_T37 l0 x7_1).f3.f1) true _ A20.out).mono ?_); rintro e w' ⟨rfl, ⟨nd, rfl⟩⟩; (try first | exact ⟨rfl, _, World.drewN_drewN _ _ _⟩ | exact ⟨rfl, _, Eq.trans (World.drewN_drewN _ _ _) (congrArg (World.drewN _) (Nat.add_assoc _ _ _))⟩)) | (go_at_call 51; (with_reducible refine (locklessref17_isWord.calls ((rd_T37 l0 x7_1).f3.f2) true _ A22.out).mono ?_); rintro e w' ⟨rfl, ⟨nd, rfl⟩⟩; (try first | exact ⟨rfl, _, World.drewN_drewN _ _ _⟩ | exact ⟨rfl, _, Eq.trans (World.drewN_drewN _ _ _) (congrArg (World.drewN _) (Nat.add_assoc _ _ _))⟩)) | (go_at_call 51; (with_reducible refine (locklessref17_isWord.calls ((rd_T37 l0 x7_1).f4) true _ A24.out).mono ?_); rintro e w' ⟨rfl, ⟨nd, rfl⟩⟩; (try first | exact ⟨rfl, _, World.drewN_drewN _ _ _⟩ | exact ⟨rfl, _, Eq.trans (World.drewN_drewN _ _ _) (congrArg (World.drewN _) (Nat.add_assoc _ _ _))⟩)) | (go_at_call 52; (with_reducible refine (locklessref17_isName.calls k1 ((rd_T37 l0 x7_1).f3.f0) t147 _ A26.out).mono ?_); rintro e w' ⟨rfl, ⟨nd, rfl⟩⟩; (try first | exact ⟨rfl, _, World.drewN_drewN _ _ _⟩ | exact ⟨rfl, _, Eq.trans (World.drewN_drewN _ _ _) (congrArg (World.drewN _) (Nat.add_assoc _ _ _))⟩))); try go_wp2_with (first | (go_at_call 51; (with_reducible refine (locklessref17_isWord.calls ((rd_T37 l0 x7_1).f3.f1) true _ A20.out).mono ?_); rintro e w' ⟨rfl, ⟨nd, rfl⟩⟩; (try first | exact ⟨rfl, _, World.drewN_drewN _ _ _⟩ | exact ⟨rfl, _, Eq.trans (World.drewN_drewN _ _ _) (congrArg (World.drewN _) (Nat.add_assoc _ _ _))⟩)) | (go_at_call 51; (with_reducible refine (locklessref17_isWord.calls ((rd_T37 l0 x7_1).f3.f2) true _ A22.out).mono ?_); rintro e w' ⟨rfl, ⟨nd, rfl⟩⟩; (try first | exact ⟨rfl, _, World.drewN_drewN _ _ _⟩ | exact ⟨rfl, _, Eq.trans (World.drewN_drewN _ _ _) (congrArg (World.drewN _) (Nat.add_assoc _ _ _))⟩)) | (go_at_call 51; (with_reducible refine (locklessref17_isWord.calls ((rd_T37 l0 x7_1).f4) true _ A24.out).mono ?_); rintro e w' ⟨rfl, ⟨nd, rfl⟩⟩; (try first | exact ⟨rfl, _, World.drewN_drewN _ _ _⟩ | exact ⟨rfl, _, Eq.trans (World.drewN_drewN _ _ _) (congrArg (World.drewN _) (Nat.add_assoc _ _ _))⟩)) | (go_at_call 52; (with_reducible refine (locklessref17_isName.calls k1 ((rd_T37 l0 x7_1).f3.f0) t147 _ A26.out).mono ?_); rintro e w' ⟨rfl, ⟨nd, rfl⟩⟩; (try first | exact ⟨rfl, _, World.drewN_drewN _ _ _⟩ | exact ⟨rfl, _, Eq.trans (World.drewN_drewN _ _ _) (congrArg (World.drewN _) (Nat.add_assoc _ _ _))⟩))))
                            go_meet
                            case rel => exact ⟨_, (!t147), (by first | rfl | (simp; done) | (simp [*]; done)), H', ⟨by have := HK1.out; first | omega | exact Nat.le_refl _⟩, ⟨by (with_reducible repeat (first | apply Kd.R_alloc | apply Kd.R_drewN | apply Kd.R_drew)); exact Kd.R_mono (Kd.R_far (p := ⟨gb143, 6, none⟩) (Kd.R_far (p := ⟨gb143, 5, none⟩) (Kd.R_far (p := ⟨gb143, 4, none⟩) (Kd.R_far (p := ⟨gb143, 3, none⟩) (Kd.R_far (p := ⟨gb143, 2, none⟩) (Kd.R_far (p := ⟨gb143, 1, none⟩) (Kd.R_far (p := ⟨gb143, 0, none⟩) (Kd.R_types HO_4.out BK143.out (by decide)) (fun _ hk => hk.2) (.int .i64 ((rd_T37 l0 x7_1).f0))) (fun _ hk => hk.2) (.int .i64 ((rd_T37 l0 x7_1).f1))) (fun _ hk => hk.2) (.bool ((rd_T37 l0 x7_1).f2))) (fun _ hk => hk.2) (.string ((rd_T37 l0 x7_1).f3.f0))) (fun _ hk => hk.2) (.int .i64 ((rd_T37 l0 x7_1).f3.f1))) (fun _ hk => hk.2) (.int .i64 ((rd_T37 l0 x7_1).f3.f2))) (fun _ hk => hk.2) (.int .i64 ((rd_T37 l0 x7_1).f4))) (fun _ hk => trivial)⟩, ⟨by (with_reducible repeat (first | apply Kd.R_alloc | apply Kd.R_drewN | apply Kd.R_drew)); exact Kd.R_mono (Kd.R_far (p := ⟨gb143, 6, none⟩) (Kd.R_far (p := ⟨gb143, 5, none⟩) (Kd.R_far (p := ⟨gb143, 4, none⟩) (Kd.R_far (p := ⟨gb143, 3, none⟩) (Kd.R_far (p := ⟨gb143, 2, none⟩) (Kd.R_far (p := ⟨gb143, 1, none⟩) (Kd.R_far (p := ⟨gb143, 0, none⟩) (Kd.R_types HO_5.out BK143.out (by decide)) (fun _ hk => hk.2) (.int .i64 ((rd_T37 l0 x7_1).f0))) (fun _ hk => hk.2) (.int .i64 ((rd_T37 l0 x7_1).f1))) (fun _ hk => hk.2) (.bool ((rd_T37 l0 x7_1).f2))) (fun _ hk => hk.2) (.string ((rd_T37 l0 x7_1).f3.f0))) (fun _ hk => hk.2) (.int .i64 ((rd_T37 l0 x7_1).f3.f1))) (fun _ hk => hk.2) (.int .i64 ((rd_T37 l0 x7_1).f3.f2))) (fun _ hk => hk.2) (.int .i64 ((rd_T37 l0 x7_1).f4))) (fun _ hk => trivial)⟩, ⟨by (with_reducible repeat (first | apply Kd.R_alloc | apply Kd.R_drewN | apply Kd.R_drew)); exact Kd.R_mono (Kd.R_far (p := ⟨gb143, 6, none⟩) (Kd.R_far (p := ⟨gb143, 5, none⟩) (Kd.R_far (p := ⟨gb143, 4, none⟩) (Kd.R_far (p := ⟨gb143, 3, none⟩) (Kd.R_far (p := ⟨gb143, 2, none⟩) (Kd.R_far (p := ⟨gb143, 1, none⟩) (Kd.R_far (p := ⟨gb143, 0, none⟩) (Kd.R_types HO_6.out BK143.out (by decide)) (fun _ hk => hk.2) (.int .i64 ((rd_T37 l0 x7_1).f0))) (fun _ hk => hk.2) (.int .i64 ((rd_T37 l0 x7_1).f1))) (fun _ hk => hk.2) (.bool ((rd_T37 l0 x7_1).f2))) (fun _ hk => hk.2) (.string ((rd_T37 l0 x7_1).f3.f0))) (fun _ hk => hk.2) (.int .i64 ((rd_T37 l0 x7_1).f3.f1))) (fun _ hk => hk.2) (.int .i64 ((rd_T37 l0 x7_1).f3.f2))) (fun _ hk => hk.2) (.int .i64 ((rd_T37 l0 x7_1).f4))) (fun _ hk => trivial)⟩, ⟨by (with_reducible repeat (first | refine blk_drewN ?_ _ | refine blk_drew ?_ | refine blk_alloc ?_ _)); refine blk_put (cs := #[.int .i64 ((rd_T37 l0 x7_1).f0), .int .i64 ((rd_T37 l0 x7_1).f1), .bool ((rd_T37 l0 x7_1).f2), .string ((rd_T37 l0 x7_1).f3.f0), .int .i64 ((rd_T37 l0 x7_1).f3.f1), .int .i64 ((rd_T37 l0 x7_1).f3.f2), .int .i64 0]) ?_ 6 _ rfl; (with_reducible repeat (first | refine blk_drewN ?_ _ | refine blk_drew ?_ | refine blk_alloc ?_ _)); refine blk_put (cs := #[.int .i64 ((rd_T37 l0 x7_1).f0), .int .i64 ((rd_T37 l0 x7_1).f1), .bool ((rd_T37 l0 x7_1).f2), .string ((rd_T37 l0 x7_1).f3.f0), .int .i64 ((rd_T37 l0 x7_1).f3.f1), .int .i64 0, .int .i64 0]) ?_ 5 _ rfl; (with_reducible repeat (first | refine blk_drewN ?_ _ | refine blk_drew ?_ | refine blk_alloc ?_ _)); refine blk_put (cs := #[.int .i64 ((rd_T37 l0 x7_1).f0), .int .i64 ((rd_T37 l0 x7_1).f1), .bool ((rd_T37 l0 x7_1).f2), .string ((rd_T37 l0 x7_1).f3.f0), .int .i64 0, .int .i64 0, .int .i64 0]) ?_ 4 _ rfl; (with_reducible repeat (first | refine blk_drewN ?_ _ | refine blk_drew ?_ | refine blk_alloc ?_ _)); refine blk_put (cs := #[.int .i64 ((rd_T37 l0 x7_1).f0), .int .i64 ((rd_T37 l0 x7_1).f1), .bool ((rd_T37 l0 x7_1).f2), .string (⟨#[]⟩ : ByteArray), .int .i64 0, .int .i64 0, .int .i64 0]) ?_ 3 _ rfl; (with_reducible repeat (first | refine blk_drewN ?_ _ | refine blk_drew ?_ | refine blk_alloc ?_ _)); refine blk_put (cs := #[.int .i64 ((rd_T37 l0 x7_1).f0), .int .i64 ((rd_T37 l0 x7_1).f1), .bool false, .string (⟨#[]⟩ : ByteArray), .int .i64 0, .int .i64 0, .int .i64 0]) ?_ 2 _ rfl; (with_reducible repeat (first | refine blk_drewN ?_ _ | refine blk_drew ?_ | refine blk_alloc ?_ _)); refine blk_put (cs := #[.int .i64 ((rd_T37 l0 x7_1).f0), .int .i64 0, .bool false, .string (⟨#[]⟩ : ByteArray), .int .i64 0, .int .i64 0, .int .i64 0]) ?_ 1 _ rfl; (with_reducible repeat (first | refine blk_drewN ?_ _ | refine blk_drew ?_ | refine blk_alloc ?_ _)); refine blk_put (cs := #[.int .i64 0, .int .i64 0, .bool false, .string (⟨#[]⟩ : ByteArray), .int .i64 0, .int .i64 0, .int .i64 0]) ?_ 0 _ rfl; (with_reducible repeat (first | refine blk_drewN ?_ _ | refine blk_drew ?_ | refine blk_alloc ?_ _)); exact BK143.out⟩, ⟨by repeat (first | (with_reducible first | exact HB.out | apply below_alloc | apply pw_below_drewN | apply below_drew1 | refine below_set ?_ GE143.out) | exact HB.out)⟩⟩
                          · replace c25 := Bool.eq_false_iff.mpr c25
                            subst c25
                            have H1 : (locklessref17_Valid.j1 k1 l0 x3_1 x4_1 x5_1 x6_1 x7_1 true ((rd_T37 l0 x7_1).f0) ((rd_T37 l0 x7_1).f1) ((rd_T37 l0 x7_1).f2) ((rd_T37 l0 x7_1).f3.f0) ((rd_T37 l0 x7_1).f3.f1) ((rd_T37 l0 x7_1).f3.f2) ((rd_T37 l0 x7_1).f4)) = some r := by rw [if_neg (show ¬ (false = true) by decide)] at H; exact H
                            clear H
                            have H := H1
                            clear H1
                            have H' := Aside0.mk H
                            clear H
                            have hcz28_0 : w14.cell? ⟨gb143, 0, none⟩ = some (.int .i64 0) := (blk_cell BK143.out 0).trans rfl
                            have hcz28_1 : w14.cell? ⟨gb143, 1, none⟩ = some (.int .i64 0) := (blk_cell BK143.out 1).trans rfl
                            have hcz28_2 : w14.cell? ⟨gb143, 2, none⟩ = some (.bool false) := (blk_cell BK143.out 2).trans rfl
                            have hcz28_3 : w14.cell? ⟨gb143, 3, none⟩ = some (.string (⟨#[]⟩ : ByteArray)) := (blk_cell BK143.out 3).trans rfl
                            have hcz28_4 : w14.cell? ⟨gb143, 4, none⟩ = some (.int .i64 0) := (blk_cell BK143.out 4).trans rfl
                            have hcz28_5 : w14.cell? ⟨gb143, 5, none⟩ = some (.int .i64 0) := (blk_cell BK143.out 5).trans rfl
                            have hcz28_6 : w14.cell? ⟨gb143, 6, none⟩ = some (.int .i64 0) := (blk_cell BK143.out 6).trans rfl
                            have hfz28_0 := blk_frozen BK143.out 0
                            have hfz28_1 := blk_frozen BK143.out 1
                            have hfz28_2 := blk_frozen BK143.out 2
                            have hfz28_3 := blk_frozen BK143.out 3
                            have hfz28_4 := blk_frozen BK143.out 4
                            have hfz28_5 := blk_frozen BK143.out 5
                            have hfz28_6 := blk_frozen BK143.out 6
                            go_wp2_with (first | (go_at_call 51; (with_reducible refine (locklessref17_isWord.calls ((rd_T37 l0 x7_1).f3.f1) true _ A20.out).mono ?_); rintro e w' ⟨rfl, ⟨nd, rfl⟩⟩; (try first | exact ⟨rfl, _, World.drewN_drewN _ _ _⟩ | exact ⟨rfl, _, Eq.trans (World.drewN_drewN _ _ _) (congrArg (World.drewN _) (Nat.add_assoc _ _ _))⟩)) | (go_at_call 51; (with_reducible refine (locklessref17_isWord.calls ((rd_T37 l0 x7_1).f3.f2) true _ A22.out).mono ?_); rintro e w' ⟨rfl, ⟨nd, rfl⟩⟩; (try first | exact ⟨rfl, _, World.drewN_drewN _ _ _⟩ | exact ⟨rfl, _, Eq.trans (World.drewN_drewN _ _ _) (congrArg (World.drewN _) (Nat.add_assoc _ _ _))⟩)) | (go_at_call 51; (with_reducible refine (locklessref17_isWord.calls ((rd_T37 l0 x7_1).f4) false _ A24.out).mono ?_); rintro e w' ⟨rfl, ⟨nd, rfl⟩⟩; (try first | exact ⟨rfl, _, World.drewN_drewN _ _ _⟩ | exact ⟨rfl, _, Eq.trans (World.drewN_drewN _ _ _) (congrArg (World.drewN _) (Nat.add_assoc _ _ _))⟩)))
                            repeat (go_quiet (first | (go_at_call 51; (with_reducible refine (locklessref17_isWord.calls ((rd_T37 l0 x7_1).f3.f1) true _ A20.out).mono ?_); rintro e w' ⟨rfl, ⟨nd, rfl⟩⟩; (try first | exact ⟨rfl, _, World.drewN_drewN _ _ _⟩ | exact ⟨rfl, _, Eq.trans (World.drewN_drewN _ _ _) (congrArg (World.drewN _) (Nat.add_assoc _ _ _))⟩)) | (go_at_call 51; (with_reducible refine (locklessref17_isWord.calls ((rd_T37 l0 x7_1).f3.f2) true _ A22.out).mono ?_); rintro e w' ⟨rfl, ⟨nd, rfl⟩⟩; (try first | exact ⟨rfl, _, World.drewN_drewN _ _ _⟩ | exact ⟨rfl, _, Eq.trans (World.drewN_drewN _ _ _) (congrArg (World.drewN _) (Nat.add_assoc _ _ _))⟩)) | (go_at_call 51; (with_reducible refine (locklessref17_isWord.calls ((rd_T37 l0 x7_1).f4) false _ A24.out).mono ?_); rintro e w' ⟨rfl, ⟨nd, rfl⟩⟩; (try first | exact ⟨rfl, _, World.drewN_drewN _ _ _⟩ | exact ⟨rfl, _, Eq.trans (World.drewN_drewN _ _ _) (congrArg (World.drewN _) (Nat.add_assoc _ _ _))⟩))); try go_wp2_with (first | (go_at_call 51; (with_reducible refine (locklessref17_isWord.calls ((rd_T37 l0 x7_1).f3.f1) true _ A20.out).mono ?_); rintro e w' ⟨rfl, ⟨nd, rfl⟩⟩; (try first | exact ⟨rfl, _, World.drewN_drewN _ _ _⟩ | exact ⟨rfl, _, Eq.trans (World.drewN_drewN _ _ _) (congrArg (World.drewN _) (Nat.add_assoc _ _ _))⟩)) | (go_at_call 51; (with_reducible refine (locklessref17_isWord.calls ((rd_T37 l0 x7_1).f3.f2) true _ A22.out).mono ?_); rintro e w' ⟨rfl, ⟨nd, rfl⟩⟩; (try first | exact ⟨rfl, _, World.drewN_drewN _ _ _⟩ | exact ⟨rfl, _, Eq.trans (World.drewN_drewN _ _ _) (congrArg (World.drewN _) (Nat.add_assoc _ _ _))⟩)) | (go_at_call 51; (with_reducible refine (locklessref17_isWord.calls ((rd_T37 l0 x7_1).f4) false _ A24.out).mono ?_); rintro e w' ⟨rfl, ⟨nd, rfl⟩⟩; (try first | exact ⟨rfl, _, World.drewN_drewN _ _ _⟩ | exact ⟨rfl, _, Eq.trans (World.drewN_drewN _ _ _) (congrArg (World.drewN _) (Nat.add_assoc _ _ _))⟩))))
                            go_meet
                            case rel => exact ⟨_, (true), (by first | rfl | (simp; done) | (simp [*]; done)), H', ⟨by have := HK1.out; first | omega | exact Nat.le_refl _⟩, ⟨by (with_reducible repeat (first | apply Kd.R_alloc | apply Kd.R_drewN | apply Kd.R_drew)); exact Kd.R_mono (Kd.R_far (p := ⟨gb143, 6, none⟩) (Kd.R_far (p := ⟨gb143, 5, none⟩) (Kd.R_far (p := ⟨gb143, 4, none⟩) (Kd.R_far (p := ⟨gb143, 3, none⟩) (Kd.R_far (p := ⟨gb143, 2, none⟩) (Kd.R_far (p := ⟨gb143, 1, none⟩) (Kd.R_far (p := ⟨gb143, 0, none⟩) (Kd.R_types HO_4.out BK143.out (by decide)) (fun _ hk => hk.2) (.int .i64 ((rd_T37 l0 x7_1).f0))) (fun _ hk => hk.2) (.int .i64 ((rd_T37 l0 x7_1).f1))) (fun _ hk => hk.2) (.bool ((rd_T37 l0 x7_1).f2))) (fun _ hk => hk.2) (.string ((rd_T37 l0 x7_1).f3.f0))) (fun _ hk => hk.2) (.int .i64 ((rd_T37 l0 x7_1).f3.f1))) (fun _ hk => hk.2) (.int .i64 ((rd_T37 l0 x7_1).f3.f2))) (fun _ hk => hk.2) (.int .i64 ((rd_T37 l0 x7_1).f4))) (fun _ hk => trivial)⟩, ⟨by (with_reducible repeat (first | apply Kd.R_alloc | apply Kd.R_drewN | apply Kd.R_drew)); exact Kd.R_mono (Kd.R_far (p := ⟨gb143, 6, none⟩) (Kd.R_far (p := ⟨gb143, 5, none⟩) (Kd.R_far (p := ⟨gb143, 4, none⟩) (Kd.R_far (p := ⟨gb143, 3, none⟩) (Kd.R_far (p := ⟨gb143, 2, none⟩) (Kd.R_far (p := ⟨gb143, 1, none⟩) (Kd.R_far (p := ⟨gb143, 0, none⟩) (Kd.R_types HO_5.out BK143.out (by decide)) (fun _ hk => hk.2) (.int .i64 ((rd_T37 l0 x7_1).f0))) (fun _ hk => hk.2) (.int .i64 ((rd_T37 l0 x7_1).f1))) (fun _ hk => hk.2) (.bool ((rd_T37 l0 x7_1).f2))) (fun _ hk => hk.2) (.string ((rd_T37 l0 x7_1).f3.f0))) (fun _ hk => hk.2) (.int .i64 ((rd_T37 l0 x7_1).f3.f1))) (fun _ hk => hk.2) (.int .i64 ((rd_T37 l0 x7_1).f3.f2))) (fun _ hk => hk.2) (.int .i64 ((rd_T37 l0 x7_1).f4))) (fun _ hk => trivial)⟩, ⟨by (with_reducible repeat (first | apply Kd.R_alloc | apply Kd.R_drewN | apply Kd.R_drew)); exact Kd.R_mono (Kd.R_far (p := ⟨gb143, 6, none⟩) (Kd.R_far (p := ⟨gb143, 5, none⟩) (Kd.R_far (p := ⟨gb143, 4, none⟩) (Kd.R_far (p := ⟨gb143, 3, none⟩) (Kd.R_far (p := ⟨gb143, 2, none⟩) (Kd.R_far (p := ⟨gb143, 1, none⟩) (Kd.R_far (p := ⟨gb143, 0, none⟩) (Kd.R_types HO_6.out BK143.out (by decide)) (fun _ hk => hk.2) (.int .i64 ((rd_T37 l0 x7_1).f0))) (fun _ hk => hk.2) (.int .i64 ((rd_T37 l0 x7_1).f1))) (fun _ hk => hk.2) (.bool ((rd_T37 l0 x7_1).f2))) (fun _ hk => hk.2) (.string ((rd_T37 l0 x7_1).f3.f0))) (fun _ hk => hk.2) (.int .i64 ((rd_T37 l0 x7_1).f3.f1))) (fun _ hk => hk.2) (.int .i64 ((rd_T37 l0 x7_1).f3.f2))) (fun _ hk => hk.2) (.int .i64 ((rd_T37 l0 x7_1).f4))) (fun _ hk => trivial)⟩, ⟨by (with_reducible repeat (first | refine blk_drewN ?_ _ | refine blk_drew ?_ | refine blk_alloc ?_ _)); refine blk_put (cs := #[.int .i64 ((rd_T37 l0 x7_1).f0), .int .i64 ((rd_T37 l0 x7_1).f1), .bool ((rd_T37 l0 x7_1).f2), .string ((rd_T37 l0 x7_1).f3.f0), .int .i64 ((rd_T37 l0 x7_1).f3.f1), .int .i64 ((rd_T37 l0 x7_1).f3.f2), .int .i64 0]) ?_ 6 _ rfl; (with_reducible repeat (first | refine blk_drewN ?_ _ | refine blk_drew ?_ | refine blk_alloc ?_ _)); refine blk_put (cs := #[.int .i64 ((rd_T37 l0 x7_1).f0), .int .i64 ((rd_T37 l0 x7_1).f1), .bool ((rd_T37 l0 x7_1).f2), .string ((rd_T37 l0 x7_1).f3.f0), .int .i64 ((rd_T37 l0 x7_1).f3.f1), .int .i64 0, .int .i64 0]) ?_ 5 _ rfl; (with_reducible repeat (first | refine blk_drewN ?_ _ | refine blk_drew ?_ | refine blk_alloc ?_ _)); refine blk_put (cs := #[.int .i64 ((rd_T37 l0 x7_1).f0), .int .i64 ((rd_T37 l0 x7_1).f1), .bool ((rd_T37 l0 x7_1).f2), .string ((rd_T37 l0 x7_1).f3.f0), .int .i64 0, .int .i64 0, .int .i64 0]) ?_ 4 _ rfl; (with_reducible repeat (first | refine blk_drewN ?_ _ | refine blk_drew ?_ | refine blk_alloc ?_ _)); refine blk_put (cs := #[.int .i64 ((rd_T37 l0 x7_1).f0), .int .i64 ((rd_T37 l0 x7_1).f1), .bool ((rd_T37 l0 x7_1).f2), .string (⟨#[]⟩ : ByteArray), .int .i64 0, .int .i64 0, .int .i64 0]) ?_ 3 _ rfl; (with_reducible repeat (first | refine blk_drewN ?_ _ | refine blk_drew ?_ | refine blk_alloc ?_ _)); refine blk_put (cs := #[.int .i64 ((rd_T37 l0 x7_1).f0), .int .i64 ((rd_T37 l0 x7_1).f1), .bool false, .string (⟨#[]⟩ : ByteArray), .int .i64 0, .int .i64 0, .int .i64 0]) ?_ 2 _ rfl; (with_reducible repeat (first | refine blk_drewN ?_ _ | refine blk_drew ?_ | refine blk_alloc ?_ _)); refine blk_put (cs := #[.int .i64 ((rd_T37 l0 x7_1).f0), .int .i64 0, .bool false, .string (⟨#[]⟩ : ByteArray), .int .i64 0, .int .i64 0, .int .i64 0]) ?_ 1 _ rfl; (with_reducible repeat (first | refine blk_drewN ?_ _ | refine blk_drew ?_ | refine blk_alloc ?_ _)); refine blk_put (cs := #[.int .i64 0, .int .i64 0, .bool false, .string (⟨#[]⟩ : ByteArray), .int .i64 0, .int .i64 0, .int .i64 0]) ?_ 0 _ rfl; (with_reducible repeat (first | refine blk_drewN ?_ _ | refine blk_drew ?_ | refine blk_alloc ?_ _)); exact BK143.out⟩, ⟨by repeat (first | (with_reducible first | exact HB.out | apply below_alloc | apply pw_below_drewN | apply below_drew1 | refine below_set ?_ GE143.out) | exact HB.out)⟩⟩
                        · replace c23 := Bool.eq_false_iff.mpr c23
                          subst c23
                          have H1 : (locklessref17_Valid.j1 k1 l0 x3_1 x4_1 x5_1 x6_1 x7_1 true ((rd_T37 l0 x7_1).f0) ((rd_T37 l0 x7_1).f1) ((rd_T37 l0 x7_1).f2) ((rd_T37 l0 x7_1).f3.f0) ((rd_T37 l0 x7_1).f3.f1) ((rd_T37 l0 x7_1).f3.f2) ((rd_T37 l0 x7_1).f4)) = some r := by rw [if_neg (show ¬ (false = true) by decide)] at H; exact H
                          clear H
                          have H := H1
                          clear H1
                          have H' := Aside0.mk H
                          clear H
                          have hcz29_0 : w14.cell? ⟨gb143, 0, none⟩ = some (.int .i64 0) := (blk_cell BK143.out 0).trans rfl
                          have hcz29_1 : w14.cell? ⟨gb143, 1, none⟩ = some (.int .i64 0) := (blk_cell BK143.out 1).trans rfl
                          have hcz29_2 : w14.cell? ⟨gb143, 2, none⟩ = some (.bool false) := (blk_cell BK143.out 2).trans rfl
                          have hcz29_3 : w14.cell? ⟨gb143, 3, none⟩ = some (.string (⟨#[]⟩ : ByteArray)) := (blk_cell BK143.out 3).trans rfl
                          have hcz29_4 : w14.cell? ⟨gb143, 4, none⟩ = some (.int .i64 0) := (blk_cell BK143.out 4).trans rfl
                          have hcz29_5 : w14.cell? ⟨gb143, 5, none⟩ = some (.int .i64 0) := (blk_cell BK143.out 5).trans rfl
                          have hcz29_6 : w14.cell? ⟨gb143, 6, none⟩ = some (.int .i64 0) := (blk_cell BK143.out 6).trans rfl
                          have hfz29_0 := blk_frozen BK143.out 0
                          have hfz29_1 := blk_frozen BK143.out 1
                          have hfz29_2 := blk_frozen BK143.out 2
                          have hfz29_3 := blk_frozen BK143.out 3
                          have hfz29_4 := blk_frozen BK143.out 4
                          have hfz29_5 := blk_frozen BK143.out 5
                          have hfz29_6 := blk_frozen BK143.out 6
                          go_wp2_with (first | (go_at_call 51; (with_reducible refine (locklessref17_isWord.calls ((rd_T37 l0 x7_1).f3.f1) true _ A20.out).mono ?_); rintro e w' ⟨rfl, ⟨nd, rfl⟩⟩; (try first | exact ⟨rfl, _, World.drewN_drewN _ _ _⟩ | exact ⟨rfl, _, Eq.trans (World.drewN_drewN _ _ _) (congrArg (World.drewN _) (Nat.add_assoc _ _ _))⟩)) | (go_at_call 51; (with_reducible refine (locklessref17_isWord.calls ((rd_T37 l0 x7_1).f3.f2) false _ A22.out).mono ?_); rintro e w' ⟨rfl, ⟨nd, rfl⟩⟩; (try first | exact ⟨rfl, _, World.drewN_drewN _ _ _⟩ | exact ⟨rfl, _, Eq.trans (World.drewN_drewN _ _ _) (congrArg (World.drewN _) (Nat.add_assoc _ _ _))⟩)))
                          repeat (go_quiet (first | (go_at_call 51; (with_reducible refine (locklessref17_isWord.calls ((rd_T37 l0 x7_1).f3.f1) true _ A20.out).mono ?_); rintro e w' ⟨rfl, ⟨nd, rfl⟩⟩; (try first | exact ⟨rfl, _, World.drewN_drewN _ _ _⟩ | exact ⟨rfl, _, Eq.trans (World.drewN_drewN _ _ _) (congrArg (World.drewN _) (Nat.add_assoc _ _ _))⟩)) | (go_at_call 51; (with_reducible refine (locklessref17_isWord.calls ((rd_T37 l0 x7_1).f3.f2) false _ A22.out).mono ?_); rintro e w' ⟨rfl, ⟨nd, rfl⟩⟩; (try first | exact ⟨rfl, _, World.drewN_drewN _ _ _⟩ | exact ⟨rfl, _, Eq.trans (World.drewN_drewN _ _ _) (congrArg (World.drewN _) (Nat.add_assoc _ _ _))⟩))); try go_wp2_with (first | (go_at_call 51; (with_reducible refine (locklessref17_isWord.calls ((rd_T37 l0 x7_1).f3.f1) true _ A20.out).mono ?_); rintro e w' ⟨rfl, ⟨nd, rfl⟩⟩; (try first | exact ⟨rfl, _, World.drewN_drewN _ _ _⟩ | exact ⟨rfl, _, Eq.trans (World.drewN_drewN _ _ _) (congrArg (World.drewN _) (Nat.add_assoc _ _ _))⟩)) | (go_at_call 51; (with_reducible refine (locklessref17_isWord.calls ((rd_T37 l0 x7_1).f3.f2) false _ A22.out).mono ?_); rintro e w' ⟨rfl, ⟨nd, rfl⟩⟩; (try first | exact ⟨rfl, _, World.drewN_drewN _ _ _⟩ | exact ⟨rfl, _, Eq.trans (World.drewN_drewN _ _ _) (congrArg (World.drewN _) (Nat.add_assoc _ _ _))⟩))))
                          go_meet
                          case rel => exact ⟨_, (true), (by first | rfl | (simp; done) | (simp [*]; done)), H', ⟨by have := HK1.out; first | omega | exact Nat.le_refl _⟩, ⟨by (with_reducible repeat (first | apply Kd.R_alloc | apply Kd.R_drewN | apply Kd.R_drew)); exact Kd.R_mono (Kd.R_far (p := ⟨gb143, 6, none⟩) (Kd.R_far (p := ⟨gb143, 5, none⟩) (Kd.R_far (p := ⟨gb143, 4, none⟩) (Kd.R_far (p := ⟨gb143, 3, none⟩) (Kd.R_far (p := ⟨gb143, 2, none⟩) (Kd.R_far (p := ⟨gb143, 1, none⟩) (Kd.R_far (p := ⟨gb143, 0, none⟩) (Kd.R_types HO_4.out BK143.out (by decide)) (fun _ hk => hk.2) (.int .i64 ((rd_T37 l0 x7_1).f0))) (fun _ hk => hk.2) (.int .i64 ((rd_T37 l0 x7_1).f1))) (fun _ hk => hk.2) (.bool ((rd_T37 l0 x7_1).f2))) (fun _ hk => hk.2) (.string ((rd_T37 l0 x7_1).f3.f0))) (fun _ hk => hk.2) (.int .i64 ((rd_T37 l0 x7_1).f3.f1))) (fun _ hk => hk.2) (.int .i64 ((rd_T37 l0 x7_1).f3.f2))) (fun _ hk => hk.2) (.int .i64 ((rd_T37 l0 x7_1).f4))) (fun _ hk => trivial)⟩, ⟨by (with_reducible repeat (first | apply Kd.R_alloc | apply Kd.R_drewN | apply Kd.R_drew)); exact Kd.R_mono (Kd.R_far (p := ⟨gb143, 6, none⟩) (Kd.R_far (p := ⟨gb143, 5, none⟩) (Kd.R_far (p := ⟨gb143, 4, none⟩) (Kd.R_far (p := ⟨gb143, 3, none⟩) (Kd.R_far (p := ⟨gb143, 2, none⟩) (Kd.R_far (p := ⟨gb143, 1, none⟩) (Kd.R_far (p := ⟨gb143, 0, none⟩) (Kd.R_types HO_5.out BK143.out (by decide)) (fun _ hk => hk.2) (.int .i64 ((rd_T37 l0 x7_1).f0))) (fun _ hk => hk.2) (.int .i64 ((rd_T37 l0 x7_1).f1))) (fun _ hk => hk.2) (.bool ((rd_T37 l0 x7_1).f2))) (fun _ hk => hk.2) (.string ((rd_T37 l0 x7_1).f3.f0))) (fun _ hk => hk.2) (.int .i64 ((rd_T37 l0 x7_1).f3.f1))) (fun _ hk => hk.2) (.int .i64 ((rd_T37 l0 x7_1).f3.f2))) (fun _ hk => hk.2) (.int .i64 ((rd_T37 l0 x7_1).f4))) (fun _ hk => trivial)⟩, ⟨by (with_reducible repeat (first | apply Kd.R_alloc | apply Kd.R_drewN | apply Kd.R_drew)); exact Kd.R_mono (Kd.R_far (p := ⟨gb143, 6, none⟩) (Kd.R_far (p := ⟨gb143, 5, none⟩) (Kd.R_far (p := ⟨gb143, 4, none⟩) (Kd.R_far (p := ⟨gb143, 3, none⟩) (Kd.R_far (p := ⟨gb143, 2, none⟩) (Kd.R_far (p := ⟨gb143, 1, none⟩) (Kd.R_far (p := ⟨gb143, 0, none⟩) (Kd.R_types HO_6.out BK143.out (by decide)) (fun _ hk => hk.2) (.int .i64 ((rd_T37 l0 x7_1).f0))) (fun _ hk => hk.2) (.int .i64 ((rd_T37 l0 x7_1).f1))) (fun _ hk => hk.2) (.bool ((rd_T37 l0 x7_1).f2))) (fun _ hk => hk.2) (.string ((rd_T37 l0 x7_1).f3.f0))) (fun _ hk => hk.2) (.int .i64 ((rd_T37 l0 x7_1).f3.f1))) (fun _ hk => hk.2) (.int .i64 ((rd_T37 l0 x7_1).f3.f2))) (fun _ hk => hk.2) (.int .i64 ((rd_T37 l0 x7_1).f4))) (fun _ hk => trivial)⟩, ⟨by (with_reducible repeat (first | refine blk_drewN ?_ _ | refine blk_drew ?_ | refine blk_alloc ?_ _)); refine blk_put (cs := #[.int .i64 ((rd_T37 l0 x7_1).f0), .int .i64 ((rd_T37 l0 x7_1).f1), .bool ((rd_T37 l0 x7_1).f2), .string ((rd_T37 l0 x7_1).f3.f0), .int .i64 ((rd_T37 l0 x7_1).f3.f1), .int .i64 ((rd_T37 l0 x7_1).f3.f2), .int .i64 0]) ?_ 6 _ rfl; (with_reducible repeat (first | refine blk_drewN ?_ _ | refine blk_drew ?_ | refine blk_alloc ?_ _)); refine blk_put (cs := #[.int .i64 ((rd_T37 l0 x7_1).f0), .int .i64 ((rd_T37 l0 x7_1).f1), .bool ((rd_T37 l0 x7_1).f2), .string ((rd_T37 l0 x7_1).f3.f0), .int .i64 ((rd_T37 l0 x7_1).f3.f1), .int .i64 0, .int .i64 0]) ?_ 5 _ rfl; (with_reducible repeat (first | refine blk_drewN ?_ _ | refine blk_drew ?_ | refine blk_alloc ?_ _)); refine blk_put (cs := #[.int .i64 ((rd_T37 l0 x7_1).f0), .int .i64 ((rd_T37 l0 x7_1).f1), .bool ((rd_T37 l0 x7_1).f2), .string ((rd_T37 l0 x7_1).f3.f0), .int .i64 0, .int .i64 0, .int .i64 0]) ?_ 4 _ rfl; (with_reducible repeat (first | refine blk_drewN ?_ _ | refine blk_drew ?_ | refine blk_alloc ?_ _)); refine blk_put (cs := #[.int .i64 ((rd_T37 l0 x7_1).f0), .int .i64 ((rd_T37 l0 x7_1).f1), .bool ((rd_T37 l0 x7_1).f2), .string (⟨#[]⟩ : ByteArray), .int .i64 0, .int .i64 0, .int .i64 0]) ?_ 3 _ rfl; (with_reducible repeat (first | refine blk_drewN ?_ _ | refine blk_drew ?_ | refine blk_alloc ?_ _)); refine blk_put (cs := #[.int .i64 ((rd_T37 l0 x7_1).f0), .int .i64 ((rd_T37 l0 x7_1).f1), .bool false, .string (⟨#[]⟩ : ByteArray), .int .i64 0, .int .i64 0, .int .i64 0]) ?_ 2 _ rfl; (with_reducible repeat (first | refine blk_drewN ?_ _ | refine blk_drew ?_ | refine blk_alloc ?_ _)); refine blk_put (cs := #[.int .i64 ((rd_T37 l0 x7_1).f0), .int .i64 0, .bool false, .string (⟨#[]⟩ : ByteArray), .int .i64 0, .int .i64 0, .int .i64 0]) ?_ 1 _ rfl; (with_reducible repeat (first | refine blk_drewN ?_ _ | refine blk_drew ?_ | refine blk_alloc ?_ _)); refine blk_put (cs := #[.int .i64 0, .int .i64 0, .bool false, .string (⟨#[]⟩ : ByteArray), .int .i64 0, .int .i64 0, .int .i64 0]) ?_ 0 _ rfl; (with_reducible repeat (first | refine blk_drewN ?_ _ | refine blk_drew ?_ | refine blk_alloc ?_ _)); exact BK143.out⟩, ⟨by repeat (first | (with_reducible first | exact HB.out | apply below_alloc | apply pw_below_drewN | apply below_drew1 | refine below_set ?_ GE143.out) | exact HB.out)⟩⟩
                      · replace c21 := Bool.eq_false_iff.mpr c21
                        subst c21
                        have H1 : (locklessref17_Valid.j1 k1 l0 x3_1 x4_1 x5_1 x6_1 x7_1 true ((rd_T37 l0 x7_1).f0) ((rd_T37 l0 x7_1).f1) ((rd_T37 l0 x7_1).f2) ((rd_T37 l0 x7_1).f3.f0) ((rd_T37 l0 x7_1).f3.f1) ((rd_T37 l0 x7_1).f3.f2) ((rd_T37 l0 x7_1).f4)) = some r := by rw [if_neg (show ¬ (false = true) by decide)] at H; exact H
                        clear H
                        have H := H1
                        clear H1
                        have H' := Aside0.mk H
                        clear H
                        have hcz30_0 : w14.cell? ⟨gb143, 0, none⟩ = some (.int .i64 0) := (blk_cell BK143.out 0).trans rfl
                        have hcz30_1 : w14.cell? ⟨gb143, 1, none⟩ = some (.int .i64 0) := (blk_cell BK143.out 1).trans rfl
                        have hcz30_2 : w14.cell? ⟨gb143, 2, none⟩ = some (.bool false) := (blk_cell BK143.out 2).trans rfl
                        have hcz30_3 : w14.cell? ⟨gb143, 3, none⟩ = some (.string (⟨#[]⟩ : ByteArray)) := (blk_cell BK143.out 3).trans rfl
                        have hcz30_4 : w14.cell? ⟨gb143, 4, none⟩ = some (.int .i64 0) := (blk_cell BK143.out 4).trans rfl
                        have hcz30_5 : w14.cell? ⟨gb143, 5, none⟩ = some (.int .i64 0) := (blk_cell BK143.out 5).trans rfl
                        have hcz30_6 : w14.cell? ⟨gb143, 6, none⟩ = some (.int .i64 0) := (blk_cell BK143.out 6).trans rfl
                        have hfz30_0 := blk_frozen BK143.out 0
                        have hfz30_1 := blk_frozen BK143.out 1
                        have hfz30_2 := blk_frozen BK143.out 2
                        have hfz30_3 := blk_frozen BK143.out 3
                        have hfz30_4 := blk_frozen BK143.out 4
                        have hfz30_5 := blk_frozen BK143.out 5
                        have hfz30_6 := blk_frozen BK143.out 6
                        go_wp2_with (first | (go_at_call 51; (with_reducible refine (locklessref17_isWord.calls ((rd_T37 l0 x7_1).f3.f1) false _ A20.out).mono ?_); rintro e w' ⟨rfl, ⟨nd, rfl⟩⟩; (try first | exact ⟨rfl, _, World.drewN_drewN _ _ _⟩ | exact ⟨rfl, _, Eq.trans (World.drewN_drewN _ _ _) (congrArg (World.drewN _) (Nat.add_assoc _ _ _))⟩)))
                        repeat (go_quiet (first | (go_at_call 51; (with_reducible refine (locklessref17_isWord.calls ((rd_T37 l0 x7_1).f3.f1) false _ A20.out).mono ?_); rintro e w' ⟨rfl, ⟨nd, rfl⟩⟩; (try first | exact ⟨rfl, _, World.drewN_drewN _ _ _⟩ | exact ⟨rfl, _, Eq.trans (World.drewN_drewN _ _ _) (congrArg (World.drewN _) (Nat.add_assoc _ _ _))⟩))); try go_wp2_with (first | (go_at_call 51; (with_reducible refine (locklessref17_isWord.calls ((rd_T37 l0 x7_1).f3.f1) false _ A20.out).mono ?_); rintro e w' ⟨rfl, ⟨nd, rfl⟩⟩; (try first | exact ⟨rfl, _, World.drewN_drewN _ _ _⟩ | exact ⟨rfl, _, Eq.trans (World.drewN_drewN _ _ _) (congrArg (World.drewN _) (Nat.add_assoc _ _ _))⟩))))
                        go_meet
                        case rel => exact ⟨_, (true), (by first | rfl | (simp; done) | (simp [*]; done)), H', ⟨by have := HK1.out; first | omega | exact Nat.le_refl _⟩, ⟨by (with_reducible repeat (first | apply Kd.R_alloc | apply Kd.R_drewN | apply Kd.R_drew)); exact Kd.R_mono (Kd.R_far (p := ⟨gb143, 6, none⟩) (Kd.R_far (p := ⟨gb143, 5, none⟩) (Kd.R_far (p := ⟨gb143, 4, none⟩) (Kd.R_far (p := ⟨gb143, 3, none⟩) (Kd.R_far (p := ⟨gb143, 2, none⟩) (Kd.R_far (p := ⟨gb143, 1, none⟩) (Kd.R_far (p := ⟨gb143, 0, none⟩) (Kd.R_types HO_4.out BK143.out (by decide)) (fun _ hk => hk.2) (.int .i64 ((rd_T37 l0 x7_1).f0))) (fun _ hk => hk.2) (.int .i64 ((rd_T37 l0 x7_1).f1))) (fun _ hk => hk.2) (.bool ((rd_T37 l0 x7_1).f2))) (fun _ hk => hk.2) (.string ((rd_T37 l0 x7_1).f3.f0))) (fun _ hk => hk.2) (.int .i64 ((rd_T37 l0 x7_1).f3.f1))) (fun _ hk => hk.2) (.int .i64 ((rd_T37 l0 x7_1).f3.f2))) (fun _ hk => hk.2) (.int .i64 ((rd_T37 l0 x7_1).f4))) (fun _ hk => trivial)⟩, ⟨by (with_reducible repeat (first | apply Kd.R_alloc | apply Kd.R_drewN | apply Kd.R_drew)); exact Kd.R_mono (Kd.R_far (p := ⟨gb143, 6, none⟩) (Kd.R_far (p := ⟨gb143, 5, none⟩) (Kd.R_far (p := ⟨gb143, 4, none⟩) (Kd.R_far (p := ⟨gb143, 3, none⟩) (Kd.R_far (p := ⟨gb143, 2, none⟩) (Kd.R_far (p := ⟨gb143, 1, none⟩) (Kd.R_far (p := ⟨gb143, 0, none⟩) (Kd.R_types HO_5.out BK143.out (by decide)) (fun _ hk => hk.2) (.int .i64 ((rd_T37 l0 x7_1).f0))) (fun _ hk => hk.2) (.int .i64 ((rd_T37 l0 x7_1).f1))) (fun _ hk => hk.2) (.bool ((rd_T37 l0 x7_1).f2))) (fun _ hk => hk.2) (.string ((rd_T37 l0 x7_1).f3.f0))) (fun _ hk => hk.2) (.int .i64 ((rd_T37 l0 x7_1).f3.f1))) (fun _ hk => hk.2) (.int .i64 ((rd_T37 l0 x7_1).f3.f2))) (fun _ hk => hk.2) (.int .i64 ((rd_T37 l0 x7_1).f4))) (fun _ hk => trivial)⟩, ⟨by (with_reducible repeat (first | apply Kd.R_alloc | apply Kd.R_drewN | apply Kd.R_drew)); exact Kd.R_mono (Kd.R_far (p := ⟨gb143, 6, none⟩) (Kd.R_far (p := ⟨gb143, 5, none⟩) (Kd.R_far (p := ⟨gb143, 4, none⟩) (Kd.R_far (p := ⟨gb143, 3, none⟩) (Kd.R_far (p := ⟨gb143, 2, none⟩) (Kd.R_far (p := ⟨gb143, 1, none⟩) (Kd.R_far (p := ⟨gb143, 0, none⟩) (Kd.R_types HO_6.out BK143.out (by decide)) (fun _ hk => hk.2) (.int .i64 ((rd_T37 l0 x7_1).f0))) (fun _ hk => hk.2) (.int .i64 ((rd_T37 l0 x7_1).f1))) (fun _ hk => hk.2) (.bool ((rd_T37 l0 x7_1).f2))) (fun _ hk => hk.2) (.string ((rd_T37 l0 x7_1).f3.f0))) (fun _ hk => hk.2) (.int .i64 ((rd_T37 l0 x7_1).f3.f1))) (fun _ hk => hk.2) (.int .i64 ((rd_T37 l0 x7_1).f3.f2))) (fun _ hk => hk.2) (.int .i64 ((rd_T37 l0 x7_1).f4))) (fun _ hk => trivial)⟩, ⟨by (with_reducible repeat (first | refine blk_drewN ?_ _ | refine blk_drew ?_ | refine blk_alloc ?_ _)); refine blk_put (cs := #[.int .i64 ((rd_T37 l0 x7_1).f0), .int .i64 ((rd_T37 l0 x7_1).f1), .bool ((rd_T37 l0 x7_1).f2), .string ((rd_T37 l0 x7_1).f3.f0), .int .i64 ((rd_T37 l0 x7_1).f3.f1), .int .i64 ((rd_T37 l0 x7_1).f3.f2), .int .i64 0]) ?_ 6 _ rfl; (with_reducible repeat (first | refine blk_drewN ?_ _ | refine blk_drew ?_ | refine blk_alloc ?_ _)); refine blk_put (cs := #[.int .i64 ((rd_T37 l0 x7_1).f0), .int .i64 ((rd_T37 l0 x7_1).f1), .bool ((rd_T37 l0 x7_1).f2), .string ((rd_T37 l0 x7_1).f3.f0), .int .i64 ((rd_T37 l0 x7_1).f3.f1), .int .i64 0, .int .i64 0]) ?_ 5 _ rfl; (with_reducible repeat (first | refine blk_drewN ?_ _ | refine blk_drew ?_ | refine blk_alloc ?_ _)); refine blk_put (cs := #[.int .i64 ((rd_T37 l0 x7_1).f0), .int .i64 ((rd_T37 l0 x7_1).f1), .bool ((rd_T37 l0 x7_1).f2), .string ((rd_T37 l0 x7_1).f3.f0), .int .i64 0, .int .i64 0, .int .i64 0]) ?_ 4 _ rfl; (with_reducible repeat (first | refine blk_drewN ?_ _ | refine blk_drew ?_ | refine blk_alloc ?_ _)); refine blk_put (cs := #[.int .i64 ((rd_T37 l0 x7_1).f0), .int .i64 ((rd_T37 l0 x7_1).f1), .bool ((rd_T37 l0 x7_1).f2), .string (⟨#[]⟩ : ByteArray), .int .i64 0, .int .i64 0, .int .i64 0]) ?_ 3 _ rfl; (with_reducible repeat (first | refine blk_drewN ?_ _ | refine blk_drew ?_ | refine blk_alloc ?_ _)); refine blk_put (cs := #[.int .i64 ((rd_T37 l0 x7_1).f0), .int .i64 ((rd_T37 l0 x7_1).f1), .bool false, .string (⟨#[]⟩ : ByteArray), .int .i64 0, .int .i64 0, .int .i64 0]) ?_ 2 _ rfl; (with_reducible repeat (first | refine blk_drewN ?_ _ | refine blk_drew ?_ | refine blk_alloc ?_ _)); refine blk_put (cs := #[.int .i64 ((rd_T37 l0 x7_1).f0), .int .i64 0, .bool false, .string (⟨#[]⟩ : ByteArray), .int .i64 0, .int .i64 0, .int .i64 0]) ?_ 1 _ rfl; (with_reducible repeat (first | refine blk_drewN ?_ _ | refine blk_drew ?_ | refine blk_alloc ?_ _)); refine blk_put (cs := #[.int .i64 0, .int .i64 0, .bool false, .string (⟨#[]⟩ : ByteArray), .int .i64 0, .int .i64 0, .int .i64 0]) ?_ 0 _ rfl; (with_reducible repeat (first | refine blk_drewN ?_ _ | refine blk_drew ?_ | refine blk_alloc ?_ _)); exact BK143.out⟩, ⟨by repeat (first | (with_reducible first | exact HB.out | apply below_alloc | apply pw_below_drewN | apply below_drew1 | refine below_set ?_ GE143.out) | exact HB.out)⟩⟩
                case rest =>
                  clear HC13
                  try clear c1
                  try clear p1
                  try clear q1
                  try clear hx1
                  try clear c2
                  try clear c2b0
                  try clear c2b1
                  try clear p2
                  try clear c3
                  try clear c3b0
                  try clear c3b1
                  try clear c4
                  try clear c4b0
                  try clear c4b1
                  try clear c11
                  try clear c11b0
                  try clear c12
                  try clear c12b0
                  try clear p14
                  try clear q14
                  try clear hx14
                  try clear c16
                  try clear c16b0
                  try clear c18
                  try clear c18b0
                  try clear c21
                  try clear c23
                  try clear c25
                  try clear c29
                  try clear hcz15_0
                  try clear hcz15_1
                  try clear hcz15_2
                  try clear hcz15_3
                  try clear hcz15_4
                  try clear hcz15_5
                  try clear hcz15_6
                  try clear hcz17_0
                  try clear hcz17_1
                  try clear hcz17_2
                  try clear hcz17_3
                  try clear hcz17_4
                  try clear hcz17_5
                  try clear hcz17_6
                  try clear hcz19_0
                  try clear hcz19_1
                  try clear hcz19_2
                  try clear hcz19_3
                  try clear hcz19_4
                  try clear hcz19_5
                  try clear hcz19_6
                  try clear hcz27_0
                  try clear hcz27_1
                  try clear hcz27_2
                  try clear hcz27_3
                  try clear hcz27_4
                  try clear hcz27_5
                  try clear hcz27_6
                  try clear hcz28_0
                  try clear hcz28_1
                  try clear hcz28_2
                  try clear hcz28_3
                  try clear hcz28_4
                  try clear hcz28_5
                  try clear hcz28_6
                  try clear hcz29_0
                  try clear hcz29_1
                  try clear hcz29_2
                  try clear hcz29_3
                  try clear hcz29_4
                  try clear hcz29_5
                  try clear hcz29_6
                  try clear hcz30_0
                  try clear hcz30_1
                  try clear hcz30_2
                  try clear hcz30_3
                  try clear hcz30_4
                  try clear hcz30_5
                  try clear hcz30_6
                  try clear hfz15_0
                  try clear hfz15_1
                  try clear hfz15_2
                  try clear hfz15_3
                  try clear hfz15_4
                  try clear hfz15_5
                  try clear hfz15_6
                  try clear hfz17_0
                  try clear hfz17_1
                  try clear hfz17_2
                  try clear hfz17_3
                  try clear hfz17_4
                  try clear hfz17_5
                  try clear hfz17_6
                  try clear hfz19_0
                  try clear hfz19_1
                  try clear hfz19_2
                  try clear hfz19_3
                  try clear hfz19_4
                  try clear hfz19_5
                  try clear hfz19_6
                  try clear hfz27_0
                  try clear hfz27_1
                  try clear hfz27_2
                  try clear hfz27_3
                  try clear hfz27_4
                  try clear hfz27_5
                  try clear hfz27_6
                  try clear hfz28_0
                  try clear hfz28_1
                  try clear hfz28_2
                  try clear hfz28_3
                  try clear hfz28_4
                  try clear hfz28_5
                  try clear hfz28_6
                  try clear hfz29_0
                  try clear hfz29_1
                  try clear hfz29_2
                  try clear hfz29_3
                  try clear hfz29_4
                  try clear hfz29_5
                  try clear hfz29_6
                  try clear hfz30_0
                  try clear hfz30_1
                  try clear hfz30_2
                  try clear hfz30_3
                  try clear hfz30_4
                  try clear hfz30_5
                  try clear hfz30_6
                  try clear hx142_0
                  try clear hx142_1
                  try clear hx142_2
                  try clear hx142_3
                  try clear hx142_4
                  try clear hx142_5
                  try clear hx142_6
                  try clear p142
                  try clear p2
                  try clear q142
                  obtain ⟨kq, x57_12, rfl, HA, HJ12, HO_4, HO_5, HO_6, BK143, HB⟩ := hcut
                  cases kq with
                  | zero => exact absurd HA.out (by simp [locklessref17_Valid.j1])
                  | succ kj12 =>
                    have H := HA.out
                    clear HA
                    simp only [locklessref17_Valid.j1] at H
                    by_cases c31 : x57_12 = true
                    · subst c31
                      have H1 : (some false) = some r := by rw [if_pos rfl] at H; exact H
                      clear H
                      have H := H1
                      clear H1
                      obtain rfl := Option.some.inj H
                      go_wp2
                      repeat (go_quiet (fail); try go_wp2)
                      go_ret
                      exact ⟨by first | rfl | (simp [errW_none, errW_some] <;> rfl) | (simp [*, errW_none, errW_some] <;> rfl), by repeat (first | (with_reducible first | exact HB.out | apply below_alloc | apply pw_below_drewN | apply below_drew1 | refine below_set ?_ GE143.out) | exact HB.out)⟩
                    · replace c31 := Bool.eq_false_iff.mpr c31
                      subst c31
                      have H1 : (if 0 ≤ ((rd_T37 l0 x7_1).f0) then (if ((rd_T37 l0 x7_1).f0) < (x4_1.length : Int) then (if (((rd_T37 l0 x7_1).f2) != (rdOf false x4_1 ((rd_T37 l0 x7_1).f0))) = true then (locklessref17_Valid.j2 kj12 l0 x3_1 x4_1 x5_1 x6_1 x7_1 ((rd_T37 l0 x7_1).f0) true ((rd_T37 l0 x7_1).f0) ((rd_T37 l0 x7_1).f1) ((rd_T37 l0 x7_1).f2) ((rd_T37 l0 x7_1).f3.f0) ((rd_T37 l0 x7_1).f3.f1) ((rd_T37 l0 x7_1).f3.f2) ((rd_T37 l0 x7_1).f4)) else (if ((rd_T37 l0 x7_1).f0) < (x5_1.length : Int) then (locklessref17_Valid.j2 kj12 l0 x3_1 x4_1 x5_1 x6_1 x7_1 ((rd_T37 l0 x7_1).f0) (((rd_T37 l0 x7_1).f1) != (rd x5_1 ((rd_T37 l0 x7_1).f0))) ((rd_T37 l0 x7_1).f0) ((rd_T37 l0 x7_1).f1) ((rd_T37 l0 x7_1).f2) ((rd_T37 l0 x7_1).f3.f0) ((rd_T37 l0 x7_1).f3.f1) ((rd_T37 l0 x7_1).f3.f2) ((rd_T37 l0 x7_1).f4)) else (none))) else (none)) else (none)) = some r := by rw [if_neg (show ¬ (false = true) by decide)] at H; exact H
                      clear H
                      have H := H1
                      clear H1
                      have HC32 := Aside0.mk H
                      clear H
                      have hcz33_0 : wc.cell? ⟨gb143, 0, none⟩ = some (.int .i64 ((rd_T37 l0 x7_1).f0)) := (blk_cell BK143.out 0).trans rfl
                      have hcz33_1 : wc.cell? ⟨gb143, 1, none⟩ = some (.int .i64 ((rd_T37 l0 x7_1).f1)) := (blk_cell BK143.out 1).trans rfl
                      have hcz33_2 : wc.cell? ⟨gb143, 2, none⟩ = some (.bool ((rd_T37 l0 x7_1).f2)) := (blk_cell BK143.out 2).trans rfl
                      have hcz33_3 : wc.cell? ⟨gb143, 3, none⟩ = some (.string ((rd_T37 l0 x7_1).f3.f0)) := (blk_cell BK143.out 3).trans rfl
                      have hcz33_4 : wc.cell? ⟨gb143, 4, none⟩ = some (.int .i64 ((rd_T37 l0 x7_1).f3.f1)) := (blk_cell BK143.out 4).trans rfl
                      have hcz33_5 : wc.cell? ⟨gb143, 5, none⟩ = some (.int .i64 ((rd_T37 l0 x7_1).f3.f2)) := (blk_cell BK143.out 5).trans rfl
                      have hcz33_6 : wc.cell? ⟨gb143, 6, none⟩ = some (.int .i64 ((rd_T37 l0 x7_1).f4)) := (blk_cell BK143.out 6).trans rfl
                      have hfz33_0 := blk_frozen BK143.out 0
                      have hfz33_1 := blk_frozen BK143.out 1
                      have hfz33_2 := blk_frozen BK143.out 2
                      have hfz33_3 := blk_frozen BK143.out 3
                      have hfz33_4 := blk_frozen BK143.out 4
                      have hfz33_5 := blk_frozen BK143.out 5
                      have hfz33_6 := blk_frozen BK143.out 6
                      go_upto_region 12 with (fail)
                      repeat (go_quiet (fail); go_upto_region 12 with (fail))
                      go_cut [75] (fun v75 wc => ∃ (kq : Nat) (x75_31 : Bool), v75 = .bool x75_31 ∧ Aside0 (locklessref17_Valid.j2 kq l0 x3_1 x4_1 x5_1 x6_1 x7_1 ((rd_T37 l0 x7_1).f0) x75_31 ((rd_T37 l0 x7_1).f0) ((rd_T37 l0 x7_1).f1) ((rd_T37 l0 x7_1).f2) ((rd_T37 l0 x7_1).f3.f0) ((rd_T37 l0 x7_1).f3.f1) ((rd_T37 l0 x7_1).f3.f2) ((rd_T37 l0 x7_1).f4) = some r) ∧ Aside0 (kq ≤ kj12) ∧ Aside0 (Kd.R Kd.bool 4 wc w.heap.size (fun _ => True) v134 x4_1) ∧ Aside0 (Kd.R (Kd.int .i64) 3 wc w.heap.size (fun _ => True) v137 x5_1) ∧ Aside0 (Kd.R k35 35 wc w.heap.size (fun _ => True) v140 x6_1) ∧ Aside0 (wc.heap[gb143]? = some (.cells #[.int .i64 ((rd_T37 l0 x7_1).f0), .int .i64 ((rd_T37 l0 x7_1).f1), .bool ((rd_T37 l0 x7_1).f2), .string ((rd_T37 l0 x7_1).f3.f0), .int .i64 ((rd_T37 l0 x7_1).f3.f1), .int .i64 ((rd_T37 l0 x7_1).f3.f2), .int .i64 ((rd_T37 l0 x7_1).f4)] 37 (0, 0))) ∧ Aside0 (Below w.heap.size w wc))
                      case first =>
                        have H := HC32.out
                        clear HC32
                        by_cases c34 : 0 ≤ ((rd_T37 l0 x7_1).f0)
                        · rw [if_pos c34] at H
                          have c34b0 : decide (0 ≤ ((rd_T37 l0 x7_1).f0)) = true := decide_eq_true c34
                          clear c34
                          (first | rw [c34b0] | (simp only [i64_w, i32_w]; rw [c34b0]) | skip)
                          by_cases c35 : ((rd_T37 l0 x7_1).f0) < (x4_1.length : Int)
                          · rw [if_pos c35] at H
                            have c35b0 : decide (((rd_T37 l0 x7_1).f0) < (x4_1.length : Int)) = true := decide_eq_true c35
                            clear c35
                            by_cases c36 : (((rd_T37 l0 x7_1).f2) != (rdOf false x4_1 ((rd_T37 l0 x7_1).f0))) = true
                            · rw [if_pos c36] at H
                              have c36b0 : (((rd_T37 l0 x7_1).f2) != (rdOf false x4_1 ((rd_T37 l0 x7_1).f0))) = true := c36
                              (try (have c36b1 : decide (((rd_T37 l0 x7_1).f2) = (rdOf false x4_1 ((rd_T37 l0 x7_1).f0))) = false := by simpa using c36))
                              (try (have c36b2 : (((rd_T37 l0 x7_1).f2) == (rdOf false x4_1 ((rd_T37 l0 x7_1).f0))) = false := by simpa using c36))
                              (try (have c36b3 : ¬ (((rd_T37 l0 x7_1).f2) = (rdOf false x4_1 ((rd_T37 l0 x7_1).f0))) := by simpa using c36))
                              clear c36
                              have H' := Aside0.mk H
                              clear H
                              have hcz37_0 : wc.cell? ⟨gb143, 0, none⟩ = some (.int .i64 ((rd_T37 l0 x7_1).f0)) := (blk_cell BK143.out 0).trans rfl
                              have hcz37_1 : wc.cell? ⟨gb143, 1, none⟩ = some (.int .i64 ((rd_T37 l0 x7_1).f1)) := (blk_cell BK143.out 1).trans rfl
                              have hcz37_2 : wc.cell? ⟨gb143, 2, none⟩ = some (.bool ((rd_T37 l0 x7_1).f2)) := (blk_cell BK143.out 2).trans rfl
                              have hcz37_3 : wc.cell? ⟨gb143, 3, none⟩ = some (.string ((rd_T37 l0 x7_1).f3.f0)) := (blk_cell BK143.out 3).trans rfl
                              have hcz37_4 : wc.cell? ⟨gb143, 4, none⟩ = some (.int .i64 ((rd_T37 l0 x7_1).f3.f1)) := (blk_cell BK143.out 4).trans rfl
                              have hcz37_5 : wc.cell? ⟨gb143, 5, none⟩ = some (.int .i64 ((rd_T37 l0 x7_1).f3.f2)) := (blk_cell BK143.out 5).trans rfl
                              have hcz37_6 : wc.cell? ⟨gb143, 6, none⟩ = some (.int .i64 ((rd_T37 l0 x7_1).f4)) := (blk_cell BK143.out 6).trans rfl
                              have hfz37_0 := blk_frozen BK143.out 0
                              have hfz37_1 := blk_frozen BK143.out 1
                              have hfz37_2 := blk_frozen BK143.out 2
                              have hfz37_3 := blk_frozen BK143.out 3
                              have hfz37_4 := blk_frozen BK143.out 4
                              have hfz37_5 := blk_frozen BK143.out 5
                              have hfz37_6 := blk_frozen BK143.out 6
                              obtain ⟨Ao38, co38, eo38⟩ := Kd.R_slice HO_4.out
                              subst eo38
                              have p148 : 0 ≤ (((rd_T37 l0 x7_1).f0) : Int) := of_decide_eq_true (by first | (with_reducible assumption) | assumption)
                              have q148 : ((rd_T37 l0 x7_1).f0) < (x4_1.length : Int) := of_decide_eq_true (by first | (with_reducible assumption) | assumption)
                              obtain ⟨ad148, e148, hx148_0⟩ := Kd.at_bool (Kd.R_reads' HO_4.out).2.2 ((rd_T37 l0 x7_1).f0) p148 q148
                              cases e148
                              replace p148 := eq_true p148
                              replace q148 := eq_true q148
                              go_wp2
                              repeat (go_quiet (fail); try go_wp2)
                              go_meet
                              case rel => exact ⟨_, (true), (by first | rfl | (simp; done) | (simp [*]; done)), H', ⟨by have := HK1.out; have := HJ12.out; first | omega | exact Nat.le_refl _⟩, ⟨by (with_reducible repeat (first | apply Kd.R_alloc | apply Kd.R_drewN | apply Kd.R_drew)); exact HO_4.out⟩, ⟨by (with_reducible repeat (first | apply Kd.R_alloc | apply Kd.R_drewN | apply Kd.R_drew)); exact HO_5.out⟩, ⟨by (with_reducible repeat (first | apply Kd.R_alloc | apply Kd.R_drewN | apply Kd.R_drew)); exact HO_6.out⟩, ⟨by (with_reducible repeat (first | refine blk_drewN ?_ _ | refine blk_drew ?_ | refine blk_alloc ?_ _)); exact BK143.out⟩, ⟨by repeat (first | (with_reducible first | exact HB.out | apply below_alloc | apply pw_below_drewN | apply below_drew1 | refine below_set ?_ GE143.out) | exact HB.out)⟩⟩
                            · rw [if_neg c36] at H
                              have c36b0 : (((rd_T37 l0 x7_1).f2) != (rdOf false x4_1 ((rd_T37 l0 x7_1).f0))) = false := by simpa using c36
                              (try (have c36b1 : decide (((rd_T37 l0 x7_1).f2) = (rdOf false x4_1 ((rd_T37 l0 x7_1).f0))) = true := by simpa using c36))
                              (try (have c36b2 : (((rd_T37 l0 x7_1).f2) == (rdOf false x4_1 ((rd_T37 l0 x7_1).f0))) = true := by simpa using c36))
                              clear c36
                              by_cases c39 : ((rd_T37 l0 x7_1).f0) < (x5_1.length : Int)
                              · rw [if_pos c39] at H
                                have c39b0 : decide (((rd_T37 l0 x7_1).f0) < (x5_1.length : Int)) = true := decide_eq_true c39
                                clear c39
                                have H' := Aside0.mk H
                                clear H
                                have hcz40_0 : wc.cell? ⟨gb143, 0, none⟩ = some (.int .i64 ((rd_T37 l0 x7_1).f0)) := (blk_cell BK143.out 0).trans rfl
                                have hcz40_1 : wc.cell? ⟨gb143, 1, none⟩ = some (.int .i64 ((rd_T37 l0 x7_1).f1)) := (blk_cell BK143.out 1).trans rfl
                                have hcz40_2 : wc.cell? ⟨gb143, 2, none⟩ = some (.bool ((rd_T37 l0 x7_1).f2)) := (blk_cell BK143.out 2).trans rfl
                                have hcz40_3 : wc.cell? ⟨gb143, 3, none⟩ = some (.string ((rd_T37 l0 x7_1).f3.f0)) := (blk_cell BK143.out 3).trans rfl
                                have hcz40_4 : wc.cell? ⟨gb143, 4, none⟩ = some (.int .i64 ((rd_T37 l0 x7_1).f3.f1)) := (blk_cell BK143.out 4).trans rfl
                                have hcz40_5 : wc.cell? ⟨gb143, 5, none⟩ = some (.int .i64 ((rd_T37 l0 x7_1).f3.f2)) := (blk_cell BK143.out 5).trans rfl
                                have hcz40_6 : wc.cell? ⟨gb143, 6, none⟩ = some (.int .i64 ((rd_T37 l0 x7_1).f4)) := (blk_cell BK143.out 6).trans rfl
                                have hfz40_0 := blk_frozen BK143.out 0
                                have hfz40_1 := blk_frozen BK143.out 1
                                have hfz40_2 := blk_frozen BK143.out 2
                                have hfz40_3 := blk_frozen BK143.out 3
                                have hfz40_4 := blk_frozen BK143.out 4
                                have hfz40_5 := blk_frozen BK143.out 5
                                have hfz40_6 := blk_frozen BK143.out 6
                                obtain ⟨Ao41, co41, eo41⟩ := Kd.R_slice HO_4.out
                                subst eo41
                                have p148 : 0 ≤ (((rd_T37 l0 x7_1).f0) : Int) := of_decide_eq_true (by first | (with_reducible assumption) | assumption)
                                have q148 : ((rd_T37 l0 x7_1).f0) < (x4_1.length : Int) := of_decide_eq_true (by first | (with_reducible assumption) | assumption)
                                obtain ⟨ad148, e148, hx148_0⟩ := Kd.at_bool (Kd.R_reads' HO_4.out).2.2 ((rd_T37 l0 x7_1).f0) p148 q148
                                cases e148
                                replace p148 := eq_true p148
                                replace q148 := eq_true q148
                                obtain ⟨Ao42, co42, eo42⟩ := Kd.R_slice HO_5.out
                                subst eo42
                                have p149 : 0 ≤ (((rd_T37 l0 x7_1).f0) : Int) := of_decide_eq_true (by first | (with_reducible assumption) | assumption)
                                have q149 : ((rd_T37 l0 x7_1).f0) < (x5_1.length : Int) := of_decide_eq_true (by first | (with_reducible assumption) | assumption)
                                obtain ⟨ad149, e149, hx149_0⟩ := Kd.at_int (Kd.R_reads' HO_5.out).2.2 ((rd_T37 l0 x7_1).f0) p149 q149
                                cases e149
                                replace p149 := eq_true p149
                                replace q149 := eq_true q149
                                go_wp2
                                repeat (go_quiet (fail); try go_wp2)
                                go_meet
                                case rel => exact ⟨_, ((((rd_T37 l0 x7_1).f1) != (rd x5_1 ((rd_T37 l0 x7_1).f0)))), (by first | rfl | (simp; done) | (simp [*]; done)), H', ⟨by have := HK1.out; have := HJ12.out; first | omega | exact Nat.le_refl _⟩, ⟨by (with_reducible repeat (first | apply Kd.R_alloc | apply Kd.R_drewN | apply Kd.R_drew)); exact HO_4.out⟩, ⟨by (with_reducible repeat (first | apply Kd.R_alloc | apply Kd.R_drewN | apply Kd.R_drew)); exact HO_5.out⟩, ⟨by (with_reducible repeat (first | apply Kd.R_alloc | apply Kd.R_drewN | apply Kd.R_drew)); exact HO_6.out⟩, ⟨by (with_reducible repeat (first | refine blk_drewN ?_ _ | refine blk_drew ?_ | refine blk_alloc ?_ _)); exact BK143.out⟩, ⟨by repeat (first | (with_reducible first | exact HB.out | apply below_alloc | apply pw_below_drewN | apply below_drew1 | refine below_set ?_ GE143.out) | exact HB.out)⟩⟩
                              · rw [if_neg c39] at H
                                exact absurd H (by simp)
                          · rw [if_neg c35] at H
                            exact absurd H (by simp)
                        · rw [if_neg c34] at H
                          exact absurd H (by simp)
                      case rest =>
                        clear HC32
                        try clear c1
                        try clear p1
                        try clear q1
                        try clear hx1
                        try clear c2
                        try clear c2b0
                        try clear c2b1
                        try clear p2
                        try clear c3
                        try clear c3b0
                        try clear c3b1
                        try clear c4
                        try clear c4b0
                        try clear c4b1
                        try clear c11
                        try clear c11b0
                        try clear c12
                        try clear c12b0
                        try clear p14
                        try clear q14
                        try clear hx14
                        try clear c16
                        try clear c16b0
                        try clear c18
                        try clear c18b0
                        try clear c21
                        try clear c23
                        try clear c25
                        try clear c29
                        try clear c31
                        try clear c34
                        try clear c34b0
                        try clear c35
                        try clear c35b0
                        try clear c36
                        try clear c36b0
                        try clear c36b1
                        try clear c36b2
                        try clear c39
                        try clear c39b0
                        try clear hcz15_0
                        try clear hcz15_1
                        try clear hcz15_2
                        try clear hcz15_3
                        try clear hcz15_4
                        try clear hcz15_5
                        try clear hcz15_6
                        try clear hcz17_0
                        try clear hcz17_1
                        try clear hcz17_2
                        try clear hcz17_3
                        try clear hcz17_4
                        try clear hcz17_5
                        try clear hcz17_6
                        try clear hcz19_0
                        try clear hcz19_1
                        try clear hcz19_2
                        try clear hcz19_3
                        try clear hcz19_4
                        try clear hcz19_5
                        try clear hcz19_6
                        try clear hcz27_0
                        try clear hcz27_1
                        try clear hcz27_2
                        try clear hcz27_3
                        try clear hcz27_4
                        try clear hcz27_5
                        try clear hcz27_6
                        try clear hcz28_0
                        try clear hcz28_1
                        try clear hcz28_2
                        try clear hcz28_3
                        try clear hcz28_4
                        try clear hcz28_5
                        try clear hcz28_6
                        try clear hcz29_0
                        try clear hcz29_1
                        try clear hcz29_2
                        try clear hcz29_3
                        try clear hcz29_4
                        try clear hcz29_5
                        try clear hcz29_6
                        try clear hcz30_0
                        try clear hcz30_1
                        try clear hcz30_2
                        try clear hcz30_3
                        try clear hcz30_4
                        try clear hcz30_5
                        try clear hcz30_6
                        try clear hcz33_0
                        try clear hcz33_1
                        try clear hcz33_2
                        try clear hcz33_3
                        try clear hcz33_4
                        try clear hcz33_5
                        try clear hcz33_6
                        try clear hcz37_0
                        try clear hcz37_1
                        try clear hcz37_2
                        try clear hcz37_3
                        try clear hcz37_4
                        try clear hcz37_5
                        try clear hcz37_6
                        try clear hcz40_0
                        try clear hcz40_1
                        try clear hcz40_2
                        try clear hcz40_3
                        try clear hcz40_4
                        try clear hcz40_5
                        try clear hcz40_6
                        try clear hfz15_0
                        try clear hfz15_1
                        try clear hfz15_2
                        try clear hfz15_3
                        try clear hfz15_4
                        try clear hfz15_5
                        try clear hfz15_6
                        try clear hfz17_0
                        try clear hfz17_1
                        try clear hfz17_2
                        try clear hfz17_3
                        try clear hfz17_4
                        try clear hfz17_5
                        try clear hfz17_6
                        try clear hfz19_0
                        try clear hfz19_1
                        try clear hfz19_2
                        try clear hfz19_3
                        try clear hfz19_4
                        try clear hfz19_5
                        try clear hfz19_6
                        try clear hfz27_0
                        try clear hfz27_1
                        try clear hfz27_2
                        try clear hfz27_3
                        try clear hfz27_4
                        try clear hfz27_5
                        try clear hfz27_6
                        try clear hfz28_0
                        try clear hfz28_1
                        try clear hfz28_2
                        try clear hfz28_3
                        try clear hfz28_4
                        try clear hfz28_5
                        try clear hfz28_6
                        try clear hfz29_0
                        try clear hfz29_1
                        try clear hfz29_2
                        try clear hfz29_3
                        try clear hfz29_4
                        try clear hfz29_5
                        try clear hfz29_6
                        try clear hfz30_0
                        try clear hfz30_1
                        try clear hfz30_2
                        try clear hfz30_3
                        try clear hfz30_4
                        try clear hfz30_5
                        try clear hfz30_6
                        try clear hfz33_0
                        try clear hfz33_1
                        try clear hfz33_2
                        try clear hfz33_3
                        try clear hfz33_4
                        try clear hfz33_5
                        try clear hfz33_6
                        try clear hfz37_0
                        try clear hfz37_1
                        try clear hfz37_2
                        try clear hfz37_3
                        try clear hfz37_4
                        try clear hfz37_5
                        try clear hfz37_6
                        try clear hfz40_0
                        try clear hfz40_1
                        try clear hfz40_2
                        try clear hfz40_3
                        try clear hfz40_4
                        try clear hfz40_5
                        try clear hfz40_6
                        try clear hx142_0
                        try clear hx142_1
                        try clear hx142_2
                        try clear hx142_3
                        try clear hx142_4
                        try clear hx142_5
                        try clear hx142_6
                        try clear hx148_0
                        try clear hx149_0
                        try clear p1
                        try clear p14
                        try clear p142
                        try clear p148
                        try clear p149
                        try clear p2
                        try clear q1
                        try clear q14
                        try clear q142
                        try clear q148
                        try clear q149
                        obtain ⟨kq, x75_31, rfl, HA, HJ31, HO_4, HO_5, HO_6, BK143, HB⟩ := hcut
                        cases kq with
                        | zero => exact absurd HA.out (by simp [locklessref17_Valid.j2])
                        | succ kj31 =>
                          have H := HA.out
                          clear HA
                          simp only [locklessref17_Valid.j2] at H
                          by_cases c43 : x75_31 = true
                          · subst c43
                            have H1 : (some false) = some r := by rw [if_pos rfl] at H; exact H
                            clear H
                            have H := H1
                            clear H1
                            obtain rfl := Option.some.inj H
                            go_wp2
                            repeat (go_quiet (fail); try go_wp2)
                            go_ret
                            exact ⟨by first | rfl | (simp [errW_none, errW_some] <;> rfl) | (simp [*, errW_none, errW_some] <;> rfl), by repeat (first | (with_reducible first | exact HB.out | apply below_alloc | apply pw_below_drewN | apply below_drew1 | refine below_set ?_ GE143.out) | exact HB.out)⟩
                          · replace c43 := Bool.eq_false_iff.mpr c43
                            subst c43
                            have H1 : (if ((rd_T37 l0 x7_1).f2) = true then (if 0 ≤ ((rd_T37 l0 x7_1).f0) then (if ((rd_T37 l0 x7_1).f0) < (x6_1.length : Int) then (if (!(((rd_T37 l0 x7_1).f3.f0).toList == (((rd_T35 x6_1 ((rd_T37 l0 x7_1).f0)).f0).toList)) || (!(((rd_T37 l0 x7_1).f3.f1) == ((rd_T35 x6_1 ((rd_T37 l0 x7_1).f0)).f1)) || (!(((rd_T37 l0 x7_1).f3.f2) == ((rd_T35 x6_1 ((rd_T37 l0 x7_1).f0)).f2))))) = true then (some false) else (if ((rd_T37 l0 x7_1).f0) < (x5_1.length : Int) then (if ((rd_T37 l0 x7_1).f0) < (x4_1.length : Int) then (locklessref17_Valid.l0 kj31 l0 x3_1 (x4_1.set (((rd_T37 l0 x7_1).f0) : Int).toNat false) (x5_1.set (((rd_T37 l0 x7_1).f0) : Int).toNat (wrap64 ((rd x5_1 ((rd_T37 l0 x7_1).f0)) + 1))) x6_1 (wrap64 (x7_1 + 1))) else (none)) else (none))) else (none)) else (none)) else (if ((rd_T37 l0 x7_1).f4) = 0 then (if (wrap64 (x3_1 + 1)) > 12 then (some false) else (if 0 ≤ ((rd_T37 l0 x7_1).f0) then (if ((rd_T37 l0 x7_1).f0) < (x4_1.length : Int) then (if ((rd_T37 l0 x7_1).f0) < (x6_1.length : Int) then (locklessref17_Valid.l0 kj31 l0 (wrap64 (x3_1 + 1)) (x4_1.set (((rd_T37 l0 x7_1).f0) : Int).toNat true) x5_1 (x6_1.set (((rd_T37 l0 x7_1).f0) : Int).toNat (⟨((rd_T37 l0 x7_1).f3.f0), ((rd_T37 l0 x7_1).f3.f1), ((rd_T37 l0 x7_1).f3.f2)⟩ : S35)) (wrap64 (x7_1 + 1))) else (none)) else (none)) else (none))) else (some false))) = some r := by rw [if_neg (show ¬ (false = true) by decide)] at H; exact H
                            clear H
                            have H := H1
                            clear H1
                            by_cases c44 : ((rd_T37 l0 x7_1).f2) = true
                            · rw [if_pos c44] at H
                              have c44b0 : ((rd_T37 l0 x7_1).f2) = true := c44
                              clear c44
                              by_cases c45 : 0 ≤ ((rd_T37 l0 x7_1).f0)
                              · rw [if_pos c45] at H
                                have c45b0 : decide (0 ≤ ((rd_T37 l0 x7_1).f0)) = true := decide_eq_true c45
                                clear c45
                                by_cases c46 : ((rd_T37 l0 x7_1).f0) < (x6_1.length : Int)
                                · rw [if_pos c46] at H
                                  have c46b0 : decide (((rd_T37 l0 x7_1).f0) < (x6_1.length : Int)) = true := decide_eq_true c46
                                  clear c46
                                  by_cases c47 : (!(((rd_T37 l0 x7_1).f3.f0).toList == (((rd_T35 x6_1 ((rd_T37 l0 x7_1).f0)).f0).toList)) || (!(((rd_T37 l0 x7_1).f3.f1) == ((rd_T35 x6_1 ((rd_T37 l0 x7_1).f0)).f1)) || (!(((rd_T37 l0 x7_1).f3.f2) == ((rd_T35 x6_1 ((rd_T37 l0 x7_1).f0)).f2))))) = true
                                  · rw [if_pos c47] at H
                                    have c47b0 : (!(((rd_T37 l0 x7_1).f3.f0).toList == (((rd_T35 x6_1 ((rd_T37 l0 x7_1).f0)).f0).toList)) || (!(((rd_T37 l0 x7_1).f3.f1) == ((rd_T35 x6_1 ((rd_T37 l0 x7_1).f0)).f1)) || (!(((rd_T37 l0 x7_1).f3.f2) == ((rd_T35 x6_1 ((rd_T37 l0 x7_1).f0)).f2))))) = true := c47
                                    clear c47
                                    obtain rfl := Option.some.inj H
                                    have hcz48_0 : wc.cell? ⟨gb143, 0, none⟩ = some (.int .i64 ((rd_T37 l0 x7_1).f0)) := (blk_cell BK143.out 0).trans rfl
                                    have hcz48_1 : wc.cell? ⟨gb143, 1, none⟩ = some (.int .i64 ((rd_T37 l0 x7_1).f1)) := (blk_cell BK143.out 1).trans rfl
                                    have hcz48_2 : wc.cell? ⟨gb143, 2, none⟩ = some (.bool ((rd_T37 l0 x7_1).f2)) := (blk_cell BK143.out 2).trans rfl
                                    have hcz48_3 : wc.cell? ⟨gb143, 3, none⟩ = some (.string ((rd_T37 l0 x7_1).f3.f0)) := (blk_cell BK143.out 3).trans rfl
                                    have hcz48_4 : wc.cell? ⟨gb143, 4, none⟩ = some (.int .i64 ((rd_T37 l0 x7_1).f3.f1)) := (blk_cell BK143.out 4).trans rfl
                                    have hcz48_5 : wc.cell? ⟨gb143, 5, none⟩ = some (.int .i64 ((rd_T37 l0 x7_1).f3.f2)) := (blk_cell BK143.out 5).trans rfl
                                    have hcz48_6 : wc.cell? ⟨gb143, 6, none⟩ = some (.int .i64 ((rd_T37 l0 x7_1).f4)) := (blk_cell BK143.out 6).trans rfl
                                    have hfz48_0 := blk_frozen BK143.out 0
                                    have hfz48_1 := blk_frozen BK143.out 1
                                    have hfz48_2 := blk_frozen BK143.out 2
                                    have hfz48_3 := blk_frozen BK143.out 3
                                    have hfz48_4 := blk_frozen BK143.out 4
                                    have hfz48_5 := blk_frozen BK143.out 5
                                    have hfz48_6 := blk_frozen BK143.out 6
                                    obtain ⟨Ao49, co49, eo49⟩ := Kd.R_slice HO_6.out
                                    subst eo49
                                    have p150 : 0 ≤ (((rd_T37 l0 x7_1).f0) : Int) := of_decide_eq_true (by first | (with_reducible assumption) | assumption)
                                    have q150 : ((rd_T37 l0 x7_1).f0) < (x6_1.length : Int) := of_decide_eq_true (by first | (with_reducible assumption) | assumption)
                                    obtain ⟨ad150, e150, hx150_0, hx150_1, hx150_2⟩ := at_T35 (Kd.R_reads' HO_6.out).2.2 ((rd_T37 l0 x7_1).f0) p150 q150
                                    cases e150
                                    replace p150 := eq_true p150
                                    replace q150 := eq_true q150
                                    go_wp2
                                    repeat (go_quiet (fail); try go_wp2)
                                    go_ret
                                    exact ⟨by first | rfl | (simp [errW_none, errW_some] <;> rfl) | (simp [*, errW_none, errW_some] <;> rfl), by repeat (first | (with_reducible first | exact HB.out | apply below_alloc | apply pw_below_drewN | apply below_drew1 | refine below_set ?_ GE143.out) | exact HB.out)⟩
                                  · rw [if_neg c47] at H
                                    have c47b0 : (!(((rd_T37 l0 x7_1).f3.f0).toList == (((rd_T35 x6_1 ((rd_T37 l0 x7_1).f0)).f0).toList)) || (!(((rd_T37 l0 x7_1).f3.f1) == ((rd_T35 x6_1 ((rd_T37 l0 x7_1).f0)).f1)) || (!(((rd_T37 l0 x7_1).f3.f2) == ((rd_T35 x6_1 ((rd_T37 l0 x7_1).f0)).f2))))) = false := by simpa using c47
                                    clear c47
                                    by_cases c50 : ((rd_T37 l0 x7_1).f0) < (x5_1.length : Int)
                                    · rw [if_pos c50] at H
                                      have c50b0 : decide (((rd_T37 l0 x7_1).f0) < (x5_1.length : Int)) = true := decide_eq_true c50
                                      clear c50
                                      obtain ⟨y152, hy152⟩ : ∃ y_ : List Int, y_ = (x5_1.set (((rd_T37 l0 x7_1).f0) : Int).toNat (wrap64 ((rd x5_1 ((rd_T37 l0 x7_1).f0)) + 1))) := ⟨_, rfl⟩
                                      replace H : (if ((rd_T37 l0 x7_1).f0) < (x4_1.length : Int) then (locklessref17_Valid.l0 kj31 l0 x3_1 (x4_1.set (((rd_T37 l0 x7_1).f0) : Int).toNat false) y152 x6_1 (wrap64 (x7_1 + 1))) else (none)) = some r := by first | (rw [hy152]; with_reducible exact H) | (have H2_ := (Option.bind_some _ _).symm.trans H; rw [hy152]; with_reducible exact H2_) | (have H2_ := (Option.bind_some _ _).symm.trans H; with_reducible exact H2_) | with_reducible exact H | (rw [hy152]; exact H) | exact H
                                      have Ny152 := Aside0.mk hy152
                                      clear hy152
                                      by_cases c52 : ((rd_T37 l0 x7_1).f0) < (x4_1.length : Int)
                                      · rw [if_pos c52] at H
                                        have c52b0 : decide (((rd_T37 l0 x7_1).f0) < (x4_1.length : Int)) = true := decide_eq_true c52
                                        clear c52
                                        obtain ⟨y153, hy153⟩ : ∃ y_ : List Bool, y_ = (x4_1.set (((rd_T37 l0 x7_1).f0) : Int).toNat false) := ⟨_, rfl⟩
                                        replace H : (locklessref17_Valid.l0 kj31 l0 x3_1 y153 y152 x6_1 (wrap64 (x7_1 + 1))) = some r := by first | (rw [hy153]; with_reducible exact H) | (have H2_ := (Option.bind_some _ _).symm.trans H; rw [hy153]; with_reducible exact H2_) | (have H2_ := (Option.bind_some _ _).symm.trans H; with_reducible exact H2_) | with_reducible exact H | (rw [hy153]; exact H) | exact H
                                        have Ny153 := Aside0.mk hy153
                                        clear hy153
                                        have H' := Aside0.mk H
                                        clear H
                                        have hcz54_0 : wc.cell? ⟨gb143, 0, none⟩ = some (.int .i64 ((rd_T37 l0 x7_1).f0)) := (blk_cell BK143.out 0).trans rfl
                                        have hcz54_1 : wc.cell? ⟨gb143, 1, none⟩ = some (.int .i64 ((rd_T37 l0 x7_1).f1)) := (blk_cell BK143.out 1).trans rfl
                                        have hcz54_2 : wc.cell? ⟨gb143, 2, none⟩ = some (.bool ((rd_T37 l0 x7_1).f2)) := (blk_cell BK143.out 2).trans rfl
                                        have hcz54_3 : wc.cell? ⟨gb143, 3, none⟩ = some (.string ((rd_T37 l0 x7_1).f3.f0)) := (blk_cell BK143.out 3).trans rfl
                                        have hcz54_4 : wc.cell? ⟨gb143, 4, none⟩ = some (.int .i64 ((rd_T37 l0 x7_1).f3.f1)) := (blk_cell BK143.out 4).trans rfl
                                        have hcz54_5 : wc.cell? ⟨gb143, 5, none⟩ = some (.int .i64 ((rd_T37 l0 x7_1).f3.f2)) := (blk_cell BK143.out 5).trans rfl
                                        have hcz54_6 : wc.cell? ⟨gb143, 6, none⟩ = some (.int .i64 ((rd_T37 l0 x7_1).f4)) := (blk_cell BK143.out 6).trans rfl
                                        have hfz54_0 := blk_frozen BK143.out 0
                                        have hfz54_1 := blk_frozen BK143.out 1
                                        have hfz54_2 := blk_frozen BK143.out 2
                                        have hfz54_3 := blk_frozen BK143.out 3
                                        have hfz54_4 := blk_frozen BK143.out 4
                                        have hfz54_5 := blk_frozen BK143.out 5
                                        have hfz54_6 := blk_frozen BK143.out 6
                                        obtain ⟨Ao55, co55, eo55⟩ := Kd.R_slice HO_6.out
                                        subst eo55
                                        have p150 : 0 ≤ (((rd_T37 l0 x7_1).f0) : Int) := of_decide_eq_true (by first | (with_reducible assumption) | assumption)
                                        have q150 : ((rd_T37 l0 x7_1).f0) < (x6_1.length : Int) := of_decide_eq_true (by first | (with_reducible assumption) | assumption)
                                        obtain ⟨ad150, e150, hx150_0, hx150_1, hx150_2⟩ := at_T35 (Kd.R_reads' HO_6.out).2.2 ((rd_T37 l0 x7_1).f0) p150 q150
                                        cases e150
                                        replace p150 := eq_true p150
                                        replace q150 := eq_true q150
                                        obtain ⟨Ao56, co56, eo56⟩ := Kd.R_slice HO_5.out
                                        subst eo56
                                        have p151 : 0 ≤ (((rd_T37 l0 x7_1).f0) : Int) := of_decide_eq_true (by first | (with_reducible assumption) | assumption)
                                        have q151 : ((rd_T37 l0 x7_1).f0) < (x5_1.length : Int) := of_decide_eq_true (by first | (with_reducible assumption) | assumption)
                                        obtain ⟨ad151, e151, hx151_0⟩ := Kd.at_int (Kd.R_reads' HO_5.out).2.2 ((rd_T37 l0 x7_1).f0) p151 q151
                                        cases e151
                                        replace p151 := eq_true p151
                                        replace q151 := eq_true q151
                                        have p51 : 0 ≤ (((rd_T37 l0 x7_1).f0) : Int) := of_decide_eq_true (by first | (with_reducible assumption) | assumption)
                                        have q51 : (((rd_T37 l0 x7_1).f0) : Int) < ((x5_1.length : Int) : Int) := of_decide_eq_true (by first | (with_reducible assumption) | assumption)
                                        obtain ⟨go51, co51, eo51, gb51, gl51, cl51, HG51⟩ := Kd.R_form HO_5.out (by omega)
                                        (first | cases eo51 | (injection eo51 with ea_ en_ ec_; (first | subst ea_ | (injection ea_ with ea_; subst ea_)); subst ec_; clear en_))
                                        have GB51 := Aside0.mk gb51
                                        have GG51 := Aside0.mk HG51
                                        clear gb51 gl51 HG51
                                        (first | simp only [add_plain] at hx151_0 | skip)
                                        obtain ⟨hx51_0, hf51_0⟩ := Kd.R_celln 0 HO_5.out (((rd_T37 l0 x7_1).f0) : Int) p51 q51
                                        replace p51 := eq_true p51
                                        replace q51 := eq_true q51
                                        obtain ⟨hy57_, hz57_⟩ := Kd.R_celln 0 HO_5.out (((rd_T37 l0 x7_1).f0) : Int) (of_decide_eq_true (by first | (with_reducible assumption) | assumption)) (of_decide_eq_true (by first | (with_reducible assumption) | assumption))
                                        have HP57 := Kd.R_putg HO_5.out (((rd_T37 l0 x7_1).f0) : Int) (wrap64 ((rd x5_1 ((rd_T37 l0 x7_1).f0)) + 1))
                                        go_wp2_with (first | ((with_reducible refine gate_store (t := 3) (p := 92) rfl ?_); (try (rw [drewN_self wc]; generalize hq_ : World.drewN wc _ = wc; have n0_ := Aside0.mk (Kd.R_at hq_ HO_4.out); have n1_ := Aside0.mk (Kd.R_at hq_ HO_5.out); have n2_ := Aside0.mk (Kd.R_at hq_ HO_6.out); have n3_ := Aside0.mk (blk_at hq_ BK143.out); have n4_ := Aside0.mk (below_at hq_ HB.out); clear hq_ HO_4 HO_5 HO_6 BK143 HB; have HO_4 := n0_; have HO_5 := n1_; have HO_6 := n2_; have BK143 := n3_; have HB := n4_; clear n0_ n1_ n2_ n3_ n4_; (try (obtain ⟨hy57_, hz57_⟩ := Kd.R_celln 0 HO_5.out (((rd_T37 l0 x7_1).f0) : Int) (of_decide_eq_true (by first | (with_reducible assumption) | assumption)) (of_decide_eq_true (by first | (with_reducible assumption) | assumption)))); (try (have HP57 := Kd.R_putg HO_5.out (((rd_T37 l0 x7_1).f0) : Int) (wrap64 ((rd x5_1 ((rd_T37 l0 x7_1).f0)) + 1)))))); refine store_event (t := 3) (p := 92) (v := ?vo_w58) (w1 := (wc.setCell ⟨go51, (((rd_T37 l0 x7_1).f0) : Int).toNat, none⟩ (.int .i64 (wrap64 ((rd x5_1 ((rd_T37 l0 x7_1).f0)) + 1))))) ?hg ?ho ?hn ?hr ?_; (case ho => rfl); (case hg => rfl); (case hn => rfl); (case hr => first | (go_simp; done) | (go_simp; rfl)); intro w58 hw; have hg : wc.grownBy w58 (some go51) := (by rw [hw]; exact HP57.2); have hp_ : Kd.R (Kd.int .i64) 3 w58 w.heap.size (fun _ => True) (.slice (some ⟨go51, 0, none⟩) x5_1.length co56) y152 := (by rw [hw, Ny152.out]; exact HP57.1); clear HP57; have n0_ := Aside0.mk (Kd.R_over' (v := (.slice (some ⟨go51, 0, none⟩) x5_1.length co56)) (by (with_reducible repeat (first | apply Kd.R_alloc | apply Kd.R_drewN | apply Kd.R_drew)); exact HO_4.out) (Kd.R_typed HO_5.out) (by decide) hg); have n1_ := Aside0.mk (hp_); have n2_ := Aside0.mk (Kd.R_over' (v := (.slice (some ⟨go51, 0, none⟩) x5_1.length co56)) (by (with_reducible repeat (first | apply Kd.R_alloc | apply Kd.R_drewN | apply Kd.R_drew)); exact HO_6.out) (Kd.R_typed HO_5.out) (by decide) hg); have n3_ := Aside0.mk (blk_grown (g := gb143) (o := .cells #[.int .i64 ((rd_T37 l0 x7_1).f0), .int .i64 ((rd_T37 l0 x7_1).f1), .bool ((rd_T37 l0 x7_1).f2), .string ((rd_T37 l0 x7_1).f3.f0), .int .i64 ((rd_T37 l0 x7_1).f3.f1), .int .i64 ((rd_T37 l0 x7_1).f3.f2), .int .i64 ((rd_T37 l0 x7_1).f4)] 37 (0, 0)) (by (with_reducible repeat (first | refine blk_drewN ?_ _ | refine blk_drew ?_ | refine blk_alloc ?_ _)); exact BK143.out) hg (Kd.R_ne HO_5.out BK143.out (by decide))); have n4_ := Aside0.mk ((by rw [hw]; exact below_set (HB.out) GB51.out : Below w.heap.size w w58)); clear HO_4; clear HO_5; clear HO_6; clear BK143; clear HB; have HO_4 := n0_; have HO_5 := n1_; have HO_6 := n2_; have BK143 := n3_; have HB := n4_; clear n0_ n1_ n2_ n3_ n4_; clear hg hw hp_; have p53 : 0 ≤ (((rd_T37 l0 x7_1).f0) : Int) := of_decide_eq_true (by first | (with_reducible assumption) | assumption); have q53 : (((rd_T37 l0 x7_1).f0) : Int) < ((x4_1.length : Int) : Int) := of_decide_eq_true (by first | (with_reducible assumption) | assumption); obtain ⟨go53, co53, eo53, gb53, gl53, cl53, HG53⟩ := Kd.R_form HO_4.out (by omega); (first | cases eo53 | (injection eo53 with ea_ en_ ec_; (first | subst ea_ | (injection ea_ with ea_; subst ea_)); subst ec_; clear en_)); have GB53 := Aside0.mk gb53; have GG53 := Aside0.mk HG53; clear gb53 gl53 HG53; obtain ⟨hx53_0, hf53_0⟩ := Kd.R_celln false HO_4.out (((rd_T37 l0 x7_1).f0) : Int) p53 q53; replace p53 := eq_true p53; replace q53 := eq_true q53; obtain ⟨hy59_, hz59_⟩ := Kd.R_celln false HO_4.out (((rd_T37 l0 x7_1).f0) : Int) (of_decide_eq_true (by first | (with_reducible assumption) | assumption)) (of_decide_eq_true (by first | (with_reducible assumption) | assumption)); have HP59 := Kd.R_putg HO_4.out (((rd_T37 l0 x7_1).f0) : Int) false) | ((with_reducible refine gate_store (t := 4) (p := 95) rfl ?_); (try (rw [drewN_self w58]; generalize hq_ : World.drewN w58 _ = w58; have n0_ := Aside0.mk (Kd.R_at hq_ HO_4.out); have n1_ := Aside0.mk (Kd.R_at hq_ HO_5.out); have n2_ := Aside0.mk (Kd.R_at hq_ HO_6.out); have n3_ := Aside0.mk (blk_at hq_ BK143.out); have n4_ := Aside0.mk (below_at hq_ HB.out); clear hq_ HO_4 HO_5 HO_6 BK143 HB; have HO_4 := n0_; have HO_5 := n1_; have HO_6 := n2_; have BK143 := n3_; have HB := n4_; clear n0_ n1_ n2_ n3_ n4_; (try (obtain ⟨hy59_, hz59_⟩ := Kd.R_celln false HO_4.out (((rd_T37 l0 x7_1).f0) : Int) (of_decide_eq_true (by first | (with_reducible assumption) | assumption)) (of_decide_eq_true (by first | (with_reducible assumption) | assumption)))); (try (have HP59 := Kd.R_putg HO_4.out (((rd_T37 l0 x7_1).f0) : Int) false)))); refine store_event (t := 4) (p := 95) (v := ?vo_w60) (w1 := (w58.setCell ⟨go53, (((rd_T37 l0 x7_1).f0) : Int).toNat, none⟩ (.bool false))) ?hg ?ho ?hn ?hr ?_; (case ho => rfl); (case hg => rfl); (case hn => rfl); (case hr => first | (go_simp; done) | (go_simp; rfl)); intro w60 hw; have hg : w58.grownBy w60 (some go53) := (by rw [hw]; exact HP59.2); have hp_ : Kd.R Kd.bool 4 w60 w.heap.size (fun _ => True) (.slice (some ⟨go53, 0, none⟩) x4_1.length co53) y153 := (by rw [hw, Ny153.out]; exact HP59.1); clear HP59; have n0_ := Aside0.mk (hp_); have n1_ := Aside0.mk (Kd.R_over' (v := (.slice (some ⟨go53, 0, none⟩) x4_1.length co53)) (by (with_reducible repeat (first | apply Kd.R_alloc | apply Kd.R_drewN | apply Kd.R_drew)); exact HO_5.out) (Kd.R_typed HO_4.out) (by decide) hg); have n2_ := Aside0.mk (Kd.R_over' (v := (.slice (some ⟨go53, 0, none⟩) x4_1.length co53)) (by (with_reducible repeat (first | apply Kd.R_alloc | apply Kd.R_drewN | apply Kd.R_drew)); exact HO_6.out) (Kd.R_typed HO_4.out) (by decide) hg); have n3_ := Aside0.mk (blk_grown (g := gb143) (o := .cells #[.int .i64 ((rd_T37 l0 x7_1).f0), .int .i64 ((rd_T37 l0 x7_1).f1), .bool ((rd_T37 l0 x7_1).f2), .string ((rd_T37 l0 x7_1).f3.f0), .int .i64 ((rd_T37 l0 x7_1).f3.f1), .int .i64 ((rd_T37 l0 x7_1).f3.f2), .int .i64 ((rd_T37 l0 x7_1).f4)] 37 (0, 0)) (by (with_reducible repeat (first | refine blk_drewN ?_ _ | refine blk_drew ?_ | refine blk_alloc ?_ _)); exact BK143.out) hg (Kd.R_ne HO_4.out BK143.out (by decide))); have n4_ := Aside0.mk ((by rw [hw]; exact below_set (HB.out) GB53.out : Below w.heap.size w w60)); clear HO_4; clear HO_5; clear HO_6; clear BK143; clear HB; have HO_4 := n0_; have HO_5 := n1_; have HO_6 := n2_; have BK143 := n3_; have HB := n4_; clear n0_ n1_ n2_ n3_ n4_; clear hg hw hp_))
                                        repeat (go_quiet (first | ((with_reducible refine gate_store (t := 3) (p := 92) rfl ?_); (try (rw [drewN_self wc]; generalize hq_ : World.drewN wc _ = wc; have n0_ := Aside0.mk (Kd.R_at hq_ HO_4.out); have n1_ := Aside0.mk (Kd.R_at hq_ HO_5.out); have n2_ := Aside0.mk (Kd.R_at hq_ HO_6.out); have n3_ := Aside0.mk (blk_at hq_ BK143.out); have n4_ := Aside0.mk (below_at hq_ HB.out); clear hq_ HO_4 HO_5 HO_6 BK143 HB; have HO_4 := n0_; have HO_5 := n1_; have HO_6 := n2_; have BK143 := n3_; have HB := n4_; clear n0_ n1_ n2_ n3_ n4_; (try (obtain ⟨hy57_, hz57_⟩ := Kd.R_celln 0 HO_5.out (((rd_T37 l0 x7_1).f0) : Int) (of_decide_eq_true (by first | (with_reducible assumption) | assumption)) (of_decide_eq_true (by first | (with_reducible assumption) | assumption)))); (try (have HP57 := Kd.R_putg HO_5.out (((rd_T37 l0 x7_1).f0) : Int) (wrap64 ((rd x5_1 ((rd_T37 l0 x7_1).f0)) + 1)))))); refine store_event (t := 3) (p := 92) (v := ?vo_w58) (w1 := (wc.setCell ⟨go51, (((rd_T37 l0 x7_1).f0) : Int).toNat, none⟩ (.int .i64 (wrap64 ((rd x5_1 ((rd_T37 l0 x7_1).f0)) + 1))))) ?hg ?ho ?hn ?hr ?_; (case ho => rfl); (case hg => rfl); (case hn => rfl); (case hr => first | (go_simp; done) | (go_simp; rfl)); intro w58 hw; have hg : wc.grownBy w58 (some go51) := (by rw [hw]; exact HP57.2); have hp_ : Kd.R (Kd.int .i64) 3 w58 w.heap.size (fun _ => True) (.slice (some ⟨go51, 0, none⟩) x5_1.length co56) y152 := (by rw [hw, Ny152.out]; exact HP57.1); clear HP57; have n0_ := Aside0.mk (Kd.R_over' (v := (.slice (some ⟨go51, 0, none⟩) x5_1.length co56)) (by (with_reducible repeat (first | apply Kd.R_alloc | apply Kd.R_drewN | apply Kd.R_drew)); exact HO_4.out) (Kd.R_typed HO_5.out) (by decide) hg); have n1_ := Aside0.mk (hp_); have n2_ := Aside0.mk (Kd.R_over' (v := (.slice (some ⟨go51, 0, none⟩) x5_1.length co56)) (by (with_reducible repeat (first | apply Kd.R_alloc | apply Kd.R_drewN | apply Kd.R_drew)); exact HO_6.out) (Kd.R_typed HO_5.out) (by decide) hg); have n3_ := Aside0.mk (blk_grown (g := gb143) (o := .cells #[.int .i64 ((rd_T37 l0 x7_1).f0), .int .i64 ((rd_T37 l0 x7_1).f1), .bool ((rd_T37 l0 x7_1).f2), .string ((rd_T37 l0 x7_1).f3.f0), .int .i64 ((rd_T37 l0 x7_1).f3.f1), .int .i64 ((rd_T37 l0 x7_1).f3.f2), .int .i64 ((rd_T37 l0 x7_1).f4)] 37 (0, 0)) (by (with_reducible repeat (first | refine blk_drewN ?_ _ | refine blk_drew ?_ | refine blk_alloc ?_ _)); exact BK143.out) hg (Kd.R_ne HO_5.out BK143.out (by decide))); have n4_ := Aside0.mk ((by rw [hw]; exact below_set (HB.out) GB51.out : Below w.heap.size w w58)); clear HO_4; clear HO_5; clear HO_6; clear BK143; clear HB; have HO_4 := n0_; have HO_5 := n1_; have HO_6 := n2_; have BK143 := n3_; have HB := n4_; clear n0_ n1_ n2_ n3_ n4_; clear hg hw hp_; have p53 : 0 ≤ (((rd_T37 l0 x7_1).f0) : Int) := of_decide_eq_true (by first | (with_reducible assumption) | assumption); have q53 : (((rd_T37 l0 x7_1).f0) : Int) < ((x4_1.length : Int) : Int) := of_decide_eq_true (by first | (with_reducible assumption) | assumption); obtain ⟨go53, co53, eo53, gb53, gl53, cl53, HG53⟩ := Kd.R_form HO_4.out (by omega); (first | cases eo53 | (injection eo53 with ea_ en_ ec_; (first | subst ea_ | (injection ea_ with ea_; subst ea_)); subst ec_; clear en_)); have GB53 := Aside0.mk gb53; have GG53 := Aside0.mk HG53; clear gb53 gl53 HG53; obtain ⟨hx53_0, hf53_0⟩ := Kd.R_celln false HO_4.out (((rd_T37 l0 x7_1).f0) : Int) p53 q53; replace p53 := eq_true p53; replace q53 := eq_true q53; obtain ⟨hy59_, hz59_⟩ := Kd.R_celln false HO_4.out (((rd_T37 l0 x7_1).f0) : Int) (of_decide_eq_true (by first | (with_reducible assumption) | assumption)) (of_decide_eq_true (by first | (with_reducible assumption) | assumption)); have HP59 := Kd.R_putg HO_4.out (((rd_T37 l0 x7_1).f0) : Int) false) | ((with_reducible refine gate_store (t := 4) (p := 95) rfl ?_); (try (rw [drewN_self w58]; generalize hq_ : World.drewN w58 _ = w58; have n0_ := Aside0.mk (Kd.R_at hq_ HO_4.out); have n1_ := Aside0.mk (Kd.R_at hq_ HO_5.out); have n2_ := Aside0.mk (Kd.R_at hq_ HO_6.out); have n3_ := Aside0.mk (blk_at hq_ BK143.out); have n4_ := Aside0.mk (below_at hq_ HB.out); clear hq_ HO_4 HO_5 HO_6 BK143 HB; have HO_4 := n0_; have HO_5 := n1_; have HO_6 := n2_; have BK143 := n3_; have HB := n4_; clear n0_ n1_ n2_ n3_ n4_; (try (obtain ⟨hy59_, hz59_⟩ := Kd.R_celln false HO_4.out (((rd_T37 l0 x7_1).f0) : Int) (of_decide_eq_true (by first | (with_reducible assumption) | assumption)) (of_decide_eq_true (by first | (with_reducible assumption) | assumption)))); (try (have HP59 := Kd.R_putg HO_4.out (((rd_T37 l0 x7_1).f0) : Int) false)))); refine store_event (t := 4) (p := 95) (v := ?vo_w60) (w1 := (w58.setCell ⟨go53, (((rd_T37 l0 x7_1).f0) : Int).toNat, none⟩ (.bool false))) ?hg ?ho ?hn ?hr ?_; (case ho => rfl); (case hg => rfl); (case hn => rfl); (case hr => first | (go_simp; done) | (go_simp; rfl)); intro w60 hw; have hg : w58.grownBy w60 (some go53) := (by rw [hw]; exact HP59.2); have hp_ : Kd.R Kd.bool 4 w60 w.heap.size (fun _ => True) (.slice (some ⟨go53, 0, none⟩) x4_1.length co53) y153 := (by rw [hw, Ny153.out]; exact HP59.1); clear HP59; have n0_ := Aside0.mk (hp_); have n1_ := Aside0.mk (Kd.R_over' (v := (.slice (some ⟨go53, 0, none⟩) x4_1.length co53)) (by (with_reducible repeat (first | apply Kd.R_alloc | apply Kd.R_drewN | apply Kd.R_drew)); exact HO_5.out) (Kd.R_typed HO_4.out) (by decide) hg); have n2_ := Aside0.mk (Kd.R_over' (v := (.slice (some ⟨go53, 0, none⟩) x4_1.length co53)) (by (with_reducible repeat (first | apply Kd.R_alloc | apply Kd.R_drewN | apply Kd.R_drew)); exact HO_6.out) (Kd.R_typed HO_4.out) (by decide) hg); have n3_ := Aside0.mk (blk_grown (g := gb143) (o := .cells #[.int .i64 ((rd_T37 l0 x7_1).f0), .int .i64 ((rd_T37 l0 x7_1).f1), .bool ((rd_T37 l0 x7_1).f2), .string ((rd_T37 l0 x7_1).f3.f0), .int .i64 ((rd_T37 l0 x7_1).f3.f1), .int .i64 ((rd_T37 l0 x7_1).f3.f2), .int .i64 ((rd_T37 l0 x7_1).f4)] 37 (0, 0)) (by (with_reducible repeat (first | refine blk_drewN ?_ _ | refine blk_drew ?_ | refine blk_alloc ?_ _)); exact BK143.out) hg (Kd.R_ne HO_4.out BK143.out (by decide))); have n4_ := Aside0.mk ((by rw [hw]; exact below_set (HB.out) GB53.out : Below w.heap.size w w60)); clear HO_4; clear HO_5; clear HO_6; clear BK143; clear HB; have HO_4 := n0_; have HO_5 := n1_; have HO_6 := n2_; have BK143 := n3_; have HB := n4_; clear n0_ n1_ n2_ n3_ n4_; clear hg hw hp_)); try go_wp2_with (first | ((with_reducible refine gate_store (t := 3) (p := 92) rfl ?_); (try (rw [drewN_self wc]; generalize hq_ : World.drewN wc _ = wc; have n0_ := Aside0.mk (Kd.R_at hq_ HO_4.out); have n1_ := Aside0.mk (Kd.R_at hq_ HO_5.out); have n2_ := Aside0.mk (Kd.R_at hq_ HO_6.out); have n3_ := Aside0.mk (blk_at hq_ BK143.out); have n4_ := Aside0.mk (below_at hq_ HB.out); clear hq_ HO_4 HO_5 HO_6 BK143 HB; have HO_4 := n0_; have HO_5 := n1_; have HO_6 := n2_; have BK143 := n3_; have HB := n4_; clear n0_ n1_ n2_ n3_ n4_; (try (obtain ⟨hy57_, hz57_⟩ := Kd.R_celln 0 HO_5.out (((rd_T37 l0 x7_1).f0) : Int) (of_decide_eq_true (by first | (with_reducible assumption) | assumption)) (of_decide_eq_true (by first | (with_reducible assumption) | assumption)))); (try (have HP57 := Kd.R_putg HO_5.out (((rd_T37 l0 x7_1).f0) : Int) (wrap64 ((rd x5_1 ((rd_T37 l0 x7_1).f0)) + 1)))))); refine store_event (t := 3) (p := 92) (v := ?vo_w58) (w1 := (wc.setCell ⟨go51, (((rd_T37 l0 x7_1).f0) : Int).toNat, none⟩ (.int .i64 (wrap64 ((rd x5_1 ((rd_T37 l0 x7_1).f0)) + 1))))) ?hg ?ho ?hn ?hr ?_; (case ho => rfl); (case hg => rfl); (case hn => rfl); (case hr => first | (go_simp; done) | (go_simp; rfl)); intro w58 hw; have hg : wc.grownBy w58 (some go51) := (by rw [hw]; exact HP57.2); have hp_ : Kd.R (Kd.int .i64) 3 w58 w.heap.size (fun _ => True) (.slice (some ⟨go51, 0, none⟩) x5_1.length co56) y152 := (by rw [hw, Ny152.out]; exact HP57.1); clear HP57; have n0_ := Aside0.mk (Kd.R_over' (v := (.slice (some ⟨go51, 0, none⟩) x5_1.length co56)) (by (with_reducible repeat (first | apply Kd.R_alloc | apply Kd.R_drewN | apply Kd.R_drew)); exact HO_4.out) (Kd.R_typed HO_5.out) (by decide) hg); have n1_ := Aside0.mk (hp_); have n2_ := Aside0.mk (Kd.R_over' (v := (.slice (some ⟨go51, 0, none⟩) x5_1.length co56)) (by (with_reducible repeat (first | apply Kd.R_alloc | apply Kd.R_drewN | apply Kd.R_drew)); exact HO_6.out) (Kd.R_typed HO_5.out) (by decide) hg); have n3_ := Aside0.mk (blk_grown (g := gb143) (o := .cells #[.int .i64 ((rd_T37 l0 x7_1).f0), .int .i64 ((rd_T37 l0 x7_1).f1), .bool ((rd_T37 l0 x7_1).f2), .string ((rd_T37 l0 x7_1).f3.f0), .int .i64 ((rd_T37 l0 x7_1).f3.f1), .int .i64 ((rd_T37 l0 x7_1).f3.f2), .int .i64 ((rd_T37 l0 x7_1).f4)] 37 (0, 0)) (by (with_reducible repeat (first | refine blk_drewN ?_ _ | refine blk_drew ?_ | refine blk_alloc ?_ _)); exact BK143.out) hg (Kd.R_ne HO_5.out BK143.out (by decide))); have n4_ := Aside0.mk ((by rw [hw]; exact below_set (HB.out) GB51.out : Below w.heap.size w w58)); clear HO_4; clear HO_5; clear HO_6; clear BK143; clear HB; have HO_4 := n0_; have HO_5 := n1_; have HO_6 := n2_; have BK143 := n3_; have HB := n4_; clear n0_ n1_ n2_ n3_ n4_; clear hg hw hp_; have p53 : 0 ≤ (((rd_T37 l0 x7_1).f0) : Int) := of_decide_eq_true (by first | (with_reducible assumption) | assumption); have q53 : (((rd_T37 l0 x7_1).f0) : Int) < ((x4_1.length : Int) : Int) := of_decide_eq_true (by first | (with_reducible assumption) | assumption); obtain ⟨go53, co53, eo53, gb53, gl53, cl53, HG53⟩ := Kd.R_form HO_4.out (by omega); (first | cases eo53 | (injection eo53 with ea_ en_ ec_; (first | subst ea_ | (injection ea_ with ea_; subst ea_)); subst ec_; clear en_)); have GB53 := Aside0.mk gb53; have GG53 := Aside0.mk HG53; clear gb53 gl53 HG53; obtain ⟨hx53_0, hf53_0⟩ := Kd.R_celln false HO_4.out (((rd_T37 l0 x7_1).f0) : Int) p53 q53; replace p53 := eq_true p53; replace q53 := eq_true q53; obtain ⟨hy59_, hz59_⟩ := Kd.R_celln false HO_4.out (((rd_T37 l0 x7_1).f0) : Int) (of_decide_eq_true (by first | (with_reducible assumption) | assumption)) (of_decide_eq_true (by first | (with_reducible assumption) | assumption)); have HP59 := Kd.R_putg HO_4.out (((rd_T37 l0 x7_1).f0) : Int) false) | ((with_reducible refine gate_store (t := 4) (p := 95) rfl ?_); (try (rw [drewN_self w58]; generalize hq_ : World.drewN w58 _ = w58; have n0_ := Aside0.mk (Kd.R_at hq_ HO_4.out); have n1_ := Aside0.mk (Kd.R_at hq_ HO_5.out); have n2_ := Aside0.mk (Kd.R_at hq_ HO_6.out); have n3_ := Aside0.mk (blk_at hq_ BK143.out); have n4_ := Aside0.mk (below_at hq_ HB.out); clear hq_ HO_4 HO_5 HO_6 BK143 HB; have HO_4 := n0_; have HO_5 := n1_; have HO_6 := n2_; have BK143 := n3_; have HB := n4_; clear n0_ n1_ n2_ n3_ n4_; (try (obtain ⟨hy59_, hz59_⟩ := Kd.R_celln false HO_4.out (((rd_T37 l0 x7_1).f0) : Int) (of_decide_eq_true (by first | (with_reducible assumption) | assumption)) (of_decide_eq_true (by first | (with_reducible assumption) | assumption)))); (try (have HP59 := Kd.R_putg HO_4.out (((rd_T37 l0 x7_1).f0) : Int) false)))); refine store_event (t := 4) (p := 95) (v := ?vo_w60) (w1 := (w58.setCell ⟨go53, (((rd_T37 l0 x7_1).f0) : Int).toNat, none⟩ (.bool false))) ?hg ?ho ?hn ?hr ?_; (case ho => rfl); (case hg => rfl); (case hn => rfl); (case hr => first | (go_simp; done) | (go_simp; rfl)); intro w60 hw; have hg : w58.grownBy w60 (some go53) := (by rw [hw]; exact HP59.2); have hp_ : Kd.R Kd.bool 4 w60 w.heap.size (fun _ => True) (.slice (some ⟨go53, 0, none⟩) x4_1.length co53) y153 := (by rw [hw, Ny153.out]; exact HP59.1); clear HP59; have n0_ := Aside0.mk (hp_); have n1_ := Aside0.mk (Kd.R_over' (v := (.slice (some ⟨go53, 0, none⟩) x4_1.length co53)) (by (with_reducible repeat (first | apply Kd.R_alloc | apply Kd.R_drewN | apply Kd.R_drew)); exact HO_5.out) (Kd.R_typed HO_4.out) (by decide) hg); have n2_ := Aside0.mk (Kd.R_over' (v := (.slice (some ⟨go53, 0, none⟩) x4_1.length co53)) (by (with_reducible repeat (first | apply Kd.R_alloc | apply Kd.R_drewN | apply Kd.R_drew)); exact HO_6.out) (Kd.R_typed HO_4.out) (by decide) hg); have n3_ := Aside0.mk (blk_grown (g := gb143) (o := .cells #[.int .i64 ((rd_T37 l0 x7_1).f0), .int .i64 ((rd_T37 l0 x7_1).f1), .bool ((rd_T37 l0 x7_1).f2), .string ((rd_T37 l0 x7_1).f3.f0), .int .i64 ((rd_T37 l0 x7_1).f3.f1), .int .i64 ((rd_T37 l0 x7_1).f3.f2), .int .i64 ((rd_T37 l0 x7_1).f4)] 37 (0, 0)) (by (with_reducible repeat (first | refine blk_drewN ?_ _ | refine blk_drew ?_ | refine blk_alloc ?_ _)); exact BK143.out) hg (Kd.R_ne HO_4.out BK143.out (by decide))); have n4_ := Aside0.mk ((by rw [hw]; exact below_set (HB.out) GB53.out : Below w.heap.size w w60)); clear HO_4; clear HO_5; clear HO_6; clear BK143; clear HB; have HO_4 := n0_; have HO_5 := n1_; have HO_6 := n2_; have BK143 := n3_; have HB := n4_; clear n0_ n1_ n2_ n3_ n4_; clear hg hw hp_)))
                                        go_roundg kj31
                                        case measure => have := HK1.out; have := HJ12.out; have := HJ31.out; omega
                                        case rel => exact ⟨(x3_1), (y153), (y152), (x6_1), (wrap64 (x7_1 + 1)), (by first | rfl | (simp; done) | (simp [*]; done)), (by first | rfl | (simp; done) | (simp [*]; done)), H', ⟨by have := HK1.out; have := HJ12.out; have := HJ31.out; omega⟩, ⟨by (with_reducible repeat (first | apply Kd.R_alloc | apply Kd.R_drewN | apply Kd.R_drew)); exact HO_4.out⟩, ⟨by (with_reducible repeat (first | apply Kd.R_alloc | apply Kd.R_drewN | apply Kd.R_drew)); exact HO_5.out⟩, ⟨by (with_reducible repeat (first | apply Kd.R_alloc | apply Kd.R_drewN | apply Kd.R_drew)); exact HO_6.out⟩, ⟨by repeat (first | (with_reducible first | exact HB.out | apply below_alloc | apply pw_below_drewN | apply below_drew1 | refine below_set ?_ GE143.out) | exact HB.out)⟩⟩
                                      · rw [if_neg c52] at H
                                        exact absurd H (by simp)
                                    · rw [if_neg c50] at H
                                      exact absurd H (by simp)
                                · rw [if_neg c46] at H
                                  exact absurd H (by simp)
                              · rw [if_neg c45] at H
                                exact absurd H (by simp)
                            · rw [if_neg c44] at H
                              have c44b0 : ((rd_T37 l0 x7_1).f2) = false := by simpa using c44
                              clear c44
                              by_cases c61 : ((rd_T37 l0 x7_1).f4) = 0
                              · rw [if_pos c61] at H
                                have c61b0 : (((rd_T37 l0 x7_1).f4) == 0) = true := beq_iff_eq.mpr c61
                                have c61b1 : (((rd_T37 l0 x7_1).f4) != 0) = false := bne_eq_false_iff_eq.mpr c61
                                clear c61
                                by_cases c62 : (wrap64 (x3_1 + 1)) > 12
                                · rw [if_pos c62] at H
                                  have c62b0 : decide (12 < (wrap64 (x3_1 + 1))) = true := decide_eq_true c62
                                  clear c62
                                  obtain rfl := Option.some.inj H
                                  have hcz63_0 : wc.cell? ⟨gb143, 0, none⟩ = some (.int .i64 ((rd_T37 l0 x7_1).f0)) := (blk_cell BK143.out 0).trans rfl
                                  have hcz63_1 : wc.cell? ⟨gb143, 1, none⟩ = some (.int .i64 ((rd_T37 l0 x7_1).f1)) := (blk_cell BK143.out 1).trans rfl
                                  have hcz63_2 : wc.cell? ⟨gb143, 2, none⟩ = some (.bool ((rd_T37 l0 x7_1).f2)) := (blk_cell BK143.out 2).trans rfl
                                  have hcz63_3 : wc.cell? ⟨gb143, 3, none⟩ = some (.string ((rd_T37 l0 x7_1).f3.f0)) := (blk_cell BK143.out 3).trans rfl
                                  have hcz63_4 : wc.cell? ⟨gb143, 4, none⟩ = some (.int .i64 ((rd_T37 l0 x7_1).f3.f1)) := (blk_cell BK143.out 4).trans rfl
                                  have hcz63_5 : wc.cell? ⟨gb143, 5, none⟩ = some (.int .i64 ((rd_T37 l0 x7_1).f3.f2)) := (blk_cell BK143.out 5).trans rfl
                                  have hcz63_6 : wc.cell? ⟨gb143, 6, none⟩ = some (.int .i64 ((rd_T37 l0 x7_1).f4)) := (blk_cell BK143.out 6).trans rfl
                                  have hfz63_0 := blk_frozen BK143.out 0
                                  have hfz63_1 := blk_frozen BK143.out 1
                                  have hfz63_2 := blk_frozen BK143.out 2
                                  have hfz63_3 := blk_frozen BK143.out 3
                                  have hfz63_4 := blk_frozen BK143.out 4
                                  have hfz63_5 := blk_frozen BK143.out 5
                                  have hfz63_6 := blk_frozen BK143.out 6
                                  go_wp2
                                  repeat (go_quiet (fail); try go_wp2)
                                  go_ret
                                  exact ⟨by first | rfl | (simp [errW_none, errW_some] <;> rfl) | (simp [*, errW_none, errW_some] <;> rfl), by repeat (first | (with_reducible first | exact HB.out | apply below_alloc | apply pw_below_drewN | apply below_drew1 | refine below_set ?_ GE143.out) | exact HB.out)⟩
                                · rw [if_neg c62] at H
                                  have c62b0 : decide (12 < (wrap64 (x3_1 + 1))) = false := decide_eq_false c62
                                  clear c62
                                  by_cases c64 : 0 ≤ ((rd_T37 l0 x7_1).f0)
                                  · rw [if_pos c64] at H
                                    have c64b0 : decide (0 ≤ ((rd_T37 l0 x7_1).f0)) = true := decide_eq_true c64
                                    clear c64
                                    by_cases c65 : ((rd_T37 l0 x7_1).f0) < (x4_1.length : Int)
                                    · rw [if_pos c65] at H
                                      have c65b0 : decide (((rd_T37 l0 x7_1).f0) < (x4_1.length : Int)) = true := decide_eq_true c65
                                      clear c65
                                      obtain ⟨y154, hy154⟩ : ∃ y_ : List Bool, y_ = (x4_1.set (((rd_T37 l0 x7_1).f0) : Int).toNat true) := ⟨_, rfl⟩
                                      replace H : (if ((rd_T37 l0 x7_1).f0) < (x6_1.length : Int) then (locklessref17_Valid.l0 kj31 l0 (wrap64 (x3_1 + 1)) y154 x5_1 (x6_1.set (((rd_T37 l0 x7_1).f0) : Int).toNat (⟨((rd_T37 l0 x7_1).f3.f0), ((rd_T37 l0 x7_1).f3.f1), ((rd_T37 l0 x7_1).f3.f2)⟩ : S35)) (wrap64 (x7_1 + 1))) else (none)) = some r := by first | (rw [hy154]; with_reducible exact H) | (have H2_ := (Option.bind_some _ _).symm.trans H; rw [hy154]; with_reducible exact H2_) | (have H2_ := (Option.bind_some _ _).symm.trans H; with_reducible exact H2_) | with_reducible exact H | (rw [hy154]; exact H) | exact H
                                      have Ny154 := Aside0.mk hy154
                                      clear hy154
                                      by_cases c67 : ((rd_T37 l0 x7_1).f0) < (x6_1.length : Int)
                                      · rw [if_pos c67] at H
                                        have c67b0 : decide (((rd_T37 l0 x7_1).f0) < (x6_1.length : Int)) = true := decide_eq_true c67
                                        clear c67
                                        obtain ⟨y155, hy155⟩ : ∃ y_ : List (S35), y_ = (x6_1.set (((rd_T37 l0 x7_1).f0) : Int).toNat (⟨((rd_T37 l0 x7_1).f3.f0), ((rd_T37 l0 x7_1).f3.f1), ((rd_T37 l0 x7_1).f3.f2)⟩ : S35)) := ⟨_, rfl⟩
                                        replace H : (locklessref17_Valid.l0 kj31 l0 (wrap64 (x3_1 + 1)) y154 x5_1 y155 (wrap64 (x7_1 + 1))) = some r := by first | (rw [hy155]; with_reducible exact H) | (have H2_ := (Option.bind_some _ _).symm.trans H; rw [hy155]; with_reducible exact H2_) | (have H2_ := (Option.bind_some _ _).symm.trans H; with_reducible exact H2_) | with_reducible exact H | (rw [hy155]; exact H) | exact H
                                        have Ny155 := Aside0.mk hy155
                                        clear hy155
                                        have H' := Aside0.mk H
                                        clear H
                                        have hcz69_0 : wc.cell? ⟨gb143, 0, none⟩ = some (.int .i64 ((rd_T37 l0 x7_1).f0)) := (blk_cell BK143.out 0).trans rfl
                                        have hcz69_1 : wc.cell? ⟨gb143, 1, none⟩ = some (.int .i64 ((rd_T37 l0 x7_1).f1)) := (blk_cell BK143.out 1).trans rfl
                                        have hcz69_2 : wc.cell? ⟨gb143, 2, none⟩ = some (.bool ((rd_T37 l0 x7_1).f2)) := (blk_cell BK143.out 2).trans rfl
                                        have hcz69_3 : wc.cell? ⟨gb143, 3, none⟩ = some (.string ((rd_T37 l0 x7_1).f3.f0)) := (blk_cell BK143.out 3).trans rfl
                                        have hcz69_4 : wc.cell? ⟨gb143, 4, none⟩ = some (.int .i64 ((rd_T37 l0 x7_1).f3.f1)) := (blk_cell BK143.out 4).trans rfl
                                        have hcz69_5 : wc.cell? ⟨gb143, 5, none⟩ = some (.int .i64 ((rd_T37 l0 x7_1).f3.f2)) := (blk_cell BK143.out 5).trans rfl
                                        have hcz69_6 : wc.cell? ⟨gb143, 6, none⟩ = some (.int .i64 ((rd_T37 l0 x7_1).f4)) := (blk_cell BK143.out 6).trans rfl
                                        have hfz69_0 := blk_frozen BK143.out 0
                                        have hfz69_1 := blk_frozen BK143.out 1
                                        have hfz69_2 := blk_frozen BK143.out 2
                                        have hfz69_3 := blk_frozen BK143.out 3
                                        have hfz69_4 := blk_frozen BK143.out 4
                                        have hfz69_5 := blk_frozen BK143.out 5
                                        have hfz69_6 := blk_frozen BK143.out 6
                                        have p66 : 0 ≤ (((rd_T37 l0 x7_1).f0) : Int) := of_decide_eq_true (by first | (with_reducible assumption) | assumption)
                                        have q66 : (((rd_T37 l0 x7_1).f0) : Int) < ((x4_1.length : Int) : Int) := of_decide_eq_true (by first | (with_reducible assumption) | assumption)
                                        obtain ⟨go66, co66, eo66, gb66, gl66, cl66, HG66⟩ := Kd.R_form HO_4.out (by omega)
                                        (first | cases eo66 | (injection eo66 with ea_ en_ ec_; (first | subst ea_ | (injection ea_ with ea_; subst ea_)); subst ec_; clear en_))
                                        have GB66 := Aside0.mk gb66
                                        have GG66 := Aside0.mk HG66
                                        clear gb66 gl66 HG66
                                        obtain ⟨hx66_0, hf66_0⟩ := Kd.R_celln false HO_4.out (((rd_T37 l0 x7_1).f0) : Int) p66 q66
                                        replace p66 := eq_true p66
                                        replace q66 := eq_true q66
                                        obtain ⟨hy70_, hz70_⟩ := Kd.R_celln false HO_4.out (((rd_T37 l0 x7_1).f0) : Int) (of_decide_eq_true (by first | (with_reducible assumption) | assumption)) (of_decide_eq_true (by first | (with_reducible assumption) | assumption))
                                        have HP70 := Kd.R_putg HO_4.out (((rd_T37 l0 x7_1).f0) : Int) true
                                        go_wp2_with (first | ((with_reducible refine gate_store (t := 4) (p := 107) rfl ?_); (try (rw [drewN_self wc]; generalize hq_ : World.drewN wc _ = wc; have n0_ := Aside0.mk (Kd.R_at hq_ HO_4.out); have n1_ := Aside0.mk (Kd.R_at hq_ HO_5.out); have n2_ := Aside0.mk (Kd.R_at hq_ HO_6.out); have n3_ := Aside0.mk (blk_at hq_ BK143.out); have n4_ := Aside0.mk (below_at hq_ HB.out); clear hq_ HO_4 HO_5 HO_6 BK143 HB; have HO_4 := n0_; have HO_5 := n1_; have HO_6 := n2_; have BK143 := n3_; have HB := n4_; clear n0_ n1_ n2_ n3_ n4_; (try (obtain ⟨hy70_, hz70_⟩ := Kd.R_celln false HO_4.out (((rd_T37 l0 x7_1).f0) : Int) (of_decide_eq_true (by first | (with_reducible assumption) | assumption)) (of_decide_eq_true (by first | (with_reducible assumption) | assumption)))); (try (have HP70 := Kd.R_putg HO_4.out (((rd_T37 l0 x7_1).f0) : Int) true)))); refine store_event (t := 4) (p := 107) (v := ?vo_w71) (w1 := (wc.setCell ⟨go66, (((rd_T37 l0 x7_1).f0) : Int).toNat, none⟩ (.bool true))) ?hg ?ho ?hn ?hr ?_; (case ho => rfl); (case hg => rfl); (case hn => rfl); (case hr => first | (go_simp; done) | (go_simp; rfl)); intro w71 hw; have hg : wc.grownBy w71 (some go66) := (by rw [hw]; exact HP70.2); have hp_ : Kd.R Kd.bool 4 w71 w.heap.size (fun _ => True) (.slice (some ⟨go66, 0, none⟩) x4_1.length co66) y154 := (by rw [hw, Ny154.out]; exact HP70.1); clear HP70; have n0_ := Aside0.mk (hp_); have n1_ := Aside0.mk (Kd.R_over' (v := (.slice (some ⟨go66, 0, none⟩) x4_1.length co66)) (by (with_reducible repeat (first | apply Kd.R_alloc | apply Kd.R_drewN | apply Kd.R_drew)); exact HO_5.out) (Kd.R_typed HO_4.out) (by decide) hg); have n2_ := Aside0.mk (Kd.R_over' (v := (.slice (some ⟨go66, 0, none⟩) x4_1.length co66)) (by (with_reducible repeat (first | apply Kd.R_alloc | apply Kd.R_drewN | apply Kd.R_drew)); exact HO_6.out) (Kd.R_typed HO_4.out) (by decide) hg); have n3_ := Aside0.mk (blk_grown (g := gb143) (o := .cells #[.int .i64 ((rd_T37 l0 x7_1).f0), .int .i64 ((rd_T37 l0 x7_1).f1), .bool ((rd_T37 l0 x7_1).f2), .string ((rd_T37 l0 x7_1).f3.f0), .int .i64 ((rd_T37 l0 x7_1).f3.f1), .int .i64 ((rd_T37 l0 x7_1).f3.f2), .int .i64 ((rd_T37 l0 x7_1).f4)] 37 (0, 0)) (by (with_reducible repeat (first | refine blk_drewN ?_ _ | refine blk_drew ?_ | refine blk_alloc ?_ _)); exact BK143.out) hg (Kd.R_ne HO_4.out BK143.out (by decide))); have n4_ := Aside0.mk ((by rw [hw]; exact below_set (HB.out) GB66.out : Below w.heap.size w w71)); clear HO_4; clear HO_5; clear HO_6; clear BK143; clear HB; have HO_4 := n0_; have HO_5 := n1_; have HO_6 := n2_; have BK143 := n3_; have HB := n4_; clear n0_ n1_ n2_ n3_ n4_; clear hg hw hp_; have hcz72_0 : w71.cell? ⟨gb143, 0, none⟩ = some (.int .i64 ((rd_T37 l0 x7_1).f0)) := (blk_cell BK143.out 0).trans rfl; have hcz72_1 : w71.cell? ⟨gb143, 1, none⟩ = some (.int .i64 ((rd_T37 l0 x7_1).f1)) := (blk_cell BK143.out 1).trans rfl; have hcz72_2 : w71.cell? ⟨gb143, 2, none⟩ = some (.bool ((rd_T37 l0 x7_1).f2)) := (blk_cell BK143.out 2).trans rfl; have hcz72_3 : w71.cell? ⟨gb143, 3, none⟩ = some (.string ((rd_T37 l0 x7_1).f3.f0)) := (blk_cell BK143.out 3).trans rfl; have hcz72_4 : w71.cell? ⟨gb143, 4, none⟩ = some (.int .i64 ((rd_T37 l0 x7_1).f3.f1)) := (blk_cell BK143.out 4).trans rfl; have hcz72_5 : w71.cell? ⟨gb143, 5, none⟩ = some (.int .i64 ((rd_T37 l0 x7_1).f3.f2)) := (blk_cell BK143.out 5).trans rfl; have hcz72_6 : w71.cell? ⟨gb143, 6, none⟩ = some (.int .i64 ((rd_T37 l0 x7_1).f4)) := (blk_cell BK143.out 6).trans rfl; have hfz72_0 := blk_frozen BK143.out 0; have hfz72_1 := blk_frozen BK143.out 1; have hfz72_2 := blk_frozen BK143.out 2; have hfz72_3 := blk_frozen BK143.out 3; have hfz72_4 := blk_frozen BK143.out 4; have hfz72_5 := blk_frozen BK143.out 5; have hfz72_6 := blk_frozen BK143.out 6; have p68 : 0 ≤ (((rd_T37 l0 x7_1).f0) : Int) := of_decide_eq_true (by first | (with_reducible assumption) | assumption); have q68 : (((rd_T37 l0 x7_1).f0) : Int) < ((x6_1.length : Int) : Int) := of_decide_eq_true (by first | (with_reducible assumption) | assumption); obtain ⟨go68, co68, eo68, gb68, gl68, cl68, HG68⟩ := Kd.R_form HO_6.out (by omega); (first | cases eo68 | (injection eo68 with ea_ en_ ec_; (first | subst ea_ | (injection ea_ with ea_; subst ea_)); subst ec_; clear en_)); have GB68 := Aside0.mk gb68; have GG68 := Aside0.mk HG68; clear gb68 gl68 HG68; obtain ⟨ce68, hcl68, hM68, hcc68, hfr68⟩ := Kd.R_elem HO_6.out z35 (((rd_T37 l0 x7_1).f0) : Int) p68 q68; obtain rfl := k35_openM hM68; have hx68_0 : w71.cell? ⟨go68, (((rd_T37 l0 x7_1).f0) : Int).toNat * 3, none⟩ = some (.string ((rd_T35 x6_1 ((rd_T37 l0 x7_1).f0)).f0)) := hcc68 0 _ rfl; have hx68_1 : w71.cell? ⟨go68, (((rd_T37 l0 x7_1).f0) : Int).toNat * 3 + 1, none⟩ = some (.int .i64 ((rd_T35 x6_1 ((rd_T37 l0 x7_1).f0)).f1)) := hcc68 1 _ rfl; have hx68_2 : w71.cell? ⟨go68, (((rd_T37 l0 x7_1).f0) : Int).toNat * 3 + 2, none⟩ = some (.int .i64 ((rd_T35 x6_1 ((rd_T37 l0 x7_1).f0)).f2)) := hcc68 2 _ rfl; have hf68_0 : w71.frozen? ⟨go68, (((rd_T37 l0 x7_1).f0) : Int).toNat * 3, none⟩ = false := hfr68 0; have hf68_1 : w71.frozen? ⟨go68, (((rd_T37 l0 x7_1).f0) : Int).toNat * 3 + 1, none⟩ = false := hfr68 1; have hf68_2 : w71.frozen? ⟨go68, (((rd_T37 l0 x7_1).f0) : Int).toNat * 3 + 2, none⟩ = false := hfr68 2; clear hcl68 hcc68 hfr68 hM68; replace p68 := eq_true p68; replace q68 := eq_true q68; have HX73 := Aside0.mk (show Kd.R k35 35 w71 w.heap.size (fun _ => True) (.slice (some ⟨go68, 0, none⟩) x6_1.length co68) x6_1 from (by (with_reducible repeat (first | apply Kd.R_alloc | apply Kd.R_drewN | apply Kd.R_drew)); exact HO_6.out)); obtain ⟨ce73, hcl73, hM73, hcc73, hfr73⟩ := Kd.R_elem HX73.out z35 (((rd_T37 l0 x7_1).f0) : Int) (of_decide_eq_true (by first | (with_reducible assumption) | assumption)) (by have h_ : (((rd_T37 l0 x7_1).f0) : Int) < ((x6_1.length : Int) : Int) := of_decide_eq_true (by first | (with_reducible assumption) | assumption); first | exact h_ | (have e_ := (Kd.R_reads' HO_6.out).1; omega) | simpa using h_); obtain rfl := k35_openM hM73; have HP73 := Kd.R_seg HX73.out (((rd_T37 l0 x7_1).f0) : Int) (of_decide_eq_true (by first | (with_reducible assumption) | assumption)) (by have h_ : (((rd_T37 l0 x7_1).f0) : Int) < ((x6_1.length : Int) : Int) := of_decide_eq_true (by first | (with_reducible assumption) | assumption); first | exact h_ | (have e_ := (Kd.R_reads' HO_6.out).1; omega) | simpa using h_) (seg := [.string ((rd_T37 l0 x7_1).f3.f0), .int .i64 ((rd_T37 l0 x7_1).f3.f1), .int .i64 ((rd_T37 l0 x7_1).f3.f2)]) (j := 0) hcl73 hcc73 (show 3 ≤ 3 from by decide) (x' := (⟨((rd_T37 l0 x7_1).f3.f0), ((rd_T37 l0 x7_1).f3.f1), ((rd_T37 l0 x7_1).f3.f2)⟩ : S35)) (k35_mkM _ _ _ (⟨((rd_T37 l0 x7_1).f3.f0), ((rd_T37 l0 x7_1).f3.f1), ((rd_T37 l0 x7_1).f3.f2)⟩ : S35) ) (fun _ hk => hk); have hx73_0 := hcc73 0 _ rfl; (try simp only [show (k35).sz = 3 from rfl, Nat.mul_one, Nat.add_zero] at hx73_0); have hf73_0 := hfr73 0; (try simp only [show (k35).sz = 3 from rfl, Nat.mul_one, Nat.add_zero] at hf73_0); have hx73_1 := hcc73 1 _ rfl; (try simp only [show (k35).sz = 3 from rfl, Nat.mul_one, Nat.add_zero] at hx73_1); have hf73_1 := hfr73 1; (try simp only [show (k35).sz = 3 from rfl, Nat.mul_one, Nat.add_zero] at hf73_1); have hx73_2 := hcc73 2 _ rfl; (try simp only [show (k35).sz = 3 from rfl, Nat.mul_one, Nat.add_zero] at hx73_2); have hf73_2 := hfr73 2; (try simp only [show (k35).sz = 3 from rfl, Nat.mul_one, Nat.add_zero] at hf73_2); clear hcl73 hcc73 hfr73 hM73) | ((with_reducible refine gate_store (t := 35) (p := 112) rfl ?_); (try (rw [drewN_self w71]; generalize hq_ : World.drewN w71 _ = w71; have n0_ := Aside0.mk (Kd.R_at hq_ HO_4.out); have n1_ := Aside0.mk (Kd.R_at hq_ HO_5.out); have n2_ := Aside0.mk (Kd.R_at hq_ HO_6.out); have n3_ := Aside0.mk (blk_at hq_ BK143.out); have n4_ := Aside0.mk (below_at hq_ HB.out); clear hq_ HO_4 HO_5 HO_6 BK143 HB; have HO_4 := n0_; have HO_5 := n1_; have HO_6 := n2_; have BK143 := n3_; have HB := n4_; clear n0_ n1_ n2_ n3_ n4_; (try (have HX73 := Aside0.mk (show Kd.R k35 35 w71 w.heap.size (fun _ => True) (.slice (some ⟨go68, 0, none⟩) x6_1.length co68) x6_1 from (by (with_reducible repeat (first | apply Kd.R_alloc | apply Kd.R_drewN | apply Kd.R_drew)); exact HO_6.out)))); (try (obtain ⟨ce73, hcl73, hM73, hcc73, hfr73⟩ := Kd.R_elem HX73.out z35 (((rd_T37 l0 x7_1).f0) : Int) (of_decide_eq_true (by first | (with_reducible assumption) | assumption)) (by have h_ : (((rd_T37 l0 x7_1).f0) : Int) < ((x6_1.length : Int) : Int) := of_decide_eq_true (by first | (with_reducible assumption) | assumption); first | exact h_ | (have e_ := (Kd.R_reads' HO_6.out).1; omega) | simpa using h_))); (try (obtain rfl := k35_openM hM73)); (try (have HP73 := Kd.R_seg HX73.out (((rd_T37 l0 x7_1).f0) : Int) (of_decide_eq_true (by first | (with_reducible assumption) | assumption)) (by have h_ : (((rd_T37 l0 x7_1).f0) : Int) < ((x6_1.length : Int) : Int) := of_decide_eq_true (by first | (with_reducible assumption) | assumption); first | exact h_ | (have e_ := (Kd.R_reads' HO_6.out).1; omega) | simpa using h_) (seg := [.string ((rd_T37 l0 x7_1).f3.f0), .int .i64 ((rd_T37 l0 x7_1).f3.f1), .int .i64 ((rd_T37 l0 x7_1).f3.f2)]) (j := 0) hcl73 hcc73 (show 3 ≤ 3 from by decide) (x' := (⟨((rd_T37 l0 x7_1).f3.f0), ((rd_T37 l0 x7_1).f3.f1), ((rd_T37 l0 x7_1).f3.f2)⟩ : S35)) (k35_mkM _ _ _ (⟨((rd_T37 l0 x7_1).f3.f0), ((rd_T37 l0 x7_1).f3.f1), ((rd_T37 l0 x7_1).f3.f2)⟩ : S35) ) (fun _ hk => hk))); (try (have hx73_0 := hcc73 0 _ rfl)); (try (try simp only [show (k35).sz = 3 from rfl, Nat.mul_one, Nat.add_zero] at hx73_0)); (try (have hf73_0 := hfr73 0)); (try (try simp only [show (k35).sz = 3 from rfl, Nat.mul_one, Nat.add_zero] at hf73_0)); (try (have hx73_1 := hcc73 1 _ rfl)); (try (try simp only [show (k35).sz = 3 from rfl, Nat.mul_one, Nat.add_zero] at hx73_1)); (try (have hf73_1 := hfr73 1)); (try (try simp only [show (k35).sz = 3 from rfl, Nat.mul_one, Nat.add_zero] at hf73_1)); (try (have hx73_2 := hcc73 2 _ rfl)); (try (try simp only [show (k35).sz = 3 from rfl, Nat.mul_one, Nat.add_zero] at hx73_2)); (try (have hf73_2 := hfr73 2)); (try (try simp only [show (k35).sz = 3 from rfl, Nat.mul_one, Nat.add_zero] at hf73_2)); (try (clear hcl73 hcc73 hfr73 hM73)))); refine store_event (t := 35) (p := 112) (v := ?vo_w74) (w1 := (((w71.setCell ⟨go68, (((rd_T37 l0 x7_1).f0) : Int).toNat * 3, none⟩ (.string ((rd_T37 l0 x7_1).f3.f0))).setCell ⟨go68, (((rd_T37 l0 x7_1).f0) : Int).toNat * 3 + 1, none⟩ (.int .i64 ((rd_T37 l0 x7_1).f3.f1))).setCell ⟨go68, (((rd_T37 l0 x7_1).f0) : Int).toNat * 3 + 2, none⟩ (.int .i64 ((rd_T37 l0 x7_1).f3.f2)))) ?hg ?ho ?hn ?hr ?_; (case ho => rfl); (case hg => rfl); (case hn => rfl); (case hr => first | (go_simp; done) | (go_simp; rfl)); intro w74 hw; have hg : w71.grownBy w74 (some go68) := (by rw [hw]; exact HP73.2); have hp_ : Kd.R k35 35 w74 w.heap.size (fun _ => True) (.slice (some ⟨go68, 0, none⟩) x6_1.length co68) y155 := (by rw [hw, Ny155.out]; exact HP73.1); clear HP73; have n0_ := Aside0.mk (Kd.R_over' (v := (.slice (some ⟨go68, 0, none⟩) x6_1.length co68)) (by (with_reducible repeat (first | apply Kd.R_alloc | apply Kd.R_drewN | apply Kd.R_drew)); exact HO_4.out) (Kd.R_typed HO_6.out) (by decide) hg); have n1_ := Aside0.mk (Kd.R_over' (v := (.slice (some ⟨go68, 0, none⟩) x6_1.length co68)) (by (with_reducible repeat (first | apply Kd.R_alloc | apply Kd.R_drewN | apply Kd.R_drew)); exact HO_5.out) (Kd.R_typed HO_6.out) (by decide) hg); have n2_ := Aside0.mk (hp_); have n3_ := Aside0.mk (blk_grown (g := gb143) (o := .cells #[.int .i64 ((rd_T37 l0 x7_1).f0), .int .i64 ((rd_T37 l0 x7_1).f1), .bool ((rd_T37 l0 x7_1).f2), .string ((rd_T37 l0 x7_1).f3.f0), .int .i64 ((rd_T37 l0 x7_1).f3.f1), .int .i64 ((rd_T37 l0 x7_1).f3.f2), .int .i64 ((rd_T37 l0 x7_1).f4)] 37 (0, 0)) (by (with_reducible repeat (first | refine blk_drewN ?_ _ | refine blk_drew ?_ | refine blk_alloc ?_ _)); exact BK143.out) hg (Kd.R_ne HO_6.out BK143.out (by decide))); have n4_ := Aside0.mk ((by rw [hw]; exact below_set (below_set (below_set (HB.out) GB68.out) GB68.out) GB68.out : Below w.heap.size w w74)); clear HO_4; clear HO_5; clear HO_6; clear BK143; clear HB; have HO_4 := n0_; have HO_5 := n1_; have HO_6 := n2_; have BK143 := n3_; have HB := n4_; clear n0_ n1_ n2_ n3_ n4_; clear hg hw hp_))
                                        repeat (go_quiet (first | ((with_reducible refine gate_store (t := 4) (p := 107) rfl ?_); (try (rw [drewN_self wc]; generalize hq_ : World.drewN wc _ = wc; have n0_ := Aside0.mk (Kd.R_at hq_ HO_4.out); have n1_ := Aside0.mk (Kd.R_at hq_ HO_5.out); have n2_ := Aside0.mk (Kd.R_at hq_ HO_6.out); have n3_ := Aside0.mk (blk_at hq_ BK143.out); have n4_ := Aside0.mk (below_at hq_ HB.out); clear hq_ HO_4 HO_5 HO_6 BK143 HB; have HO_4 := n0_; have HO_5 := n1_; have HO_6 := n2_; have BK143 := n3_; have HB := n4_; clear n0_ n1_ n2_ n3_ n4_; (try (obtain ⟨hy70_, hz70_⟩ := Kd.R_celln false HO_4.out (((rd_T37 l0 x7_1).f0) : Int) (of_decide_eq_true (by first | (with_reducible assumption) | assumption)) (of_decide_eq_true (by first | (with_reducible assumption) | assumption)))); (try (have HP70 := Kd.R_putg HO_4.out (((rd_T37 l0 x7_1).f0) : Int) true)))); refine store_event (t := 4) (p := 107) (v := ?vo_w71) (w1 := (wc.setCell ⟨go66, (((rd_T37 l0 x7_1).f0) : Int).toNat, none⟩ (.bool true))) ?hg ?ho ?hn ?hr ?_; (case ho => rfl); (case hg => rfl); (case hn => rfl); (case hr => first | (go_simp; done) | (go_simp; rfl)); intro w71 hw; have hg : wc.grownBy w71 (some go66) := (by rw [hw]; exact HP70.2); have hp_ : Kd.R Kd.bool 4 w71 w.heap.size (fun _ => True) (.slice (some ⟨go66, 0, none⟩) x4_1.length co66) y154 := (by rw [hw, Ny154.out]; exact HP70.1); clear HP70; have n0_ := Aside0.mk (hp_); have n1_ := Aside0.mk (Kd.R_over' (v := (.slice (some ⟨go66, 0, none⟩) x4_1.length co66)) (by (with_reducible repeat (first | apply Kd.R_alloc | apply Kd.R_drewN | apply Kd.R_drew)); exact HO_5.out) (Kd.R_typed HO_4.out) (by decide) hg); have n2_ := Aside0.mk (Kd.R_over' (v := (.slice (some ⟨go66, 0, none⟩) x4_1.length co66)) (by (with_reducible repeat (first | apply Kd.R_alloc | apply Kd.R_drewN | apply Kd.R_drew)); exact HO_6.out) (Kd.R_typed HO_4.out) (by decide) hg); have n3_ := Aside0.mk (blk_grown (g := gb143) (o := .cells #[.int .i64 ((rd_T37 l0 x7_1).f0), .int .i64 ((rd_T37 l0 x7_1).f1), .bool ((rd_T37 l0 x7_1).f2), .string ((rd_T37 l0 x7_1).f3.f0), .int .i64 ((rd_T37 l0 x7_1).f3.f1), .int .i64 ((rd_T37 l0 x7_1).f3.f2), .int .i64 ((rd_T37 l0 x7_1).f4)] 37 (0, 0)) (by (with_reducible repeat (first | refine blk_drewN ?_ _ | refine blk_drew ?_ | refine blk_alloc ?_ _)); exact BK143.out) hg (Kd.R_ne HO_4.out BK143.out (by decide))); have n4_ := Aside0.mk ((by rw [hw]; exact below_set (HB.out) GB66.out : Below w.heap.size w w71)); clear HO_4; clear HO_5; clear HO_6; clear BK143; clear HB; have HO_4 := n0_; have HO_5 := n1_; have HO_6 := n2_; have BK143 := n3_; have HB := n4_; clear n0_ n1_ n2_ n3_ n4_; clear hg hw hp_; have hcz72_0 : w71.cell? ⟨gb143, 0, none⟩ = some (.int .i64 ((rd_T37 l0 x7_1).f0)) := (blk_cell BK143.out 0).trans rfl; have hcz72_1 : w71.cell? ⟨gb143, 1, none⟩ = some (.int .i64 ((rd_T37 l0 x7_1).f1)) := (blk_cell BK143.out 1).trans rfl; have hcz72_2 : w71.cell? ⟨gb143, 2, none⟩ = some (.bool ((rd_T37 l0 x7_1).f2)) := (blk_cell BK143.out 2).trans rfl; have hcz72_3 : w71.cell? ⟨gb143, 3, none⟩ = some (.string ((rd_T37 l0 x7_1).f3.f0)) := (blk_cell BK143.out 3).trans rfl; have hcz72_4 : w71.cell? ⟨gb143, 4, none⟩ = some (.int .i64 ((rd_T37 l0 x7_1).f3.f1)) := (blk_cell BK143.out 4).trans rfl; have hcz72_5 : w71.cell? ⟨gb143, 5, none⟩ = some (.int .i64 ((rd_T37 l0 x7_1).f3.f2)) := (blk_cell BK143.out 5).trans rfl; have hcz72_6 : w71.cell? ⟨gb143, 6, none⟩ = some (.int .i64 ((rd_T37 l0 x7_1).f4)) := (blk_cell BK143.out 6).trans rfl; have hfz72_0 := blk_frozen BK143.out 0; have hfz72_1 := blk_frozen BK143.out 1; have hfz72_2 := blk_frozen BK143.out 2; have hfz72_3 := blk_frozen BK143.out 3; have hfz72_4 := blk_frozen BK143.out 4; have hfz72_5 := blk_frozen BK143.out 5; have hfz72_6 := blk_frozen BK143.out 6; have p68 : 0 ≤ (((rd_T37 l0 x7_1).f0) : Int) := of_decide_eq_true (by first | (with_reducible assumption) | assumption); have q68 : (((rd_T37 l0 x7_1).f0) : Int) < ((x6_1.length : Int) : Int) := of_decide_eq_true (by first | (with_reducible assumption) | assumption); obtain ⟨go68, co68, eo68, gb68, gl68, cl68, HG68⟩ := Kd.R_form HO_6.out (by omega); (first | cases eo68 | (injection eo68 with ea_ en_ ec_; (first | subst ea_ | (injection ea_ with ea_; subst ea_)); subst ec_; clear en_)); have GB68 := Aside0.mk gb68; have GG68 := Aside0.mk HG68; clear gb68 gl68 HG68; obtain ⟨ce68, hcl68, hM68, hcc68, hfr68⟩ := Kd.R_elem HO_6.out z35 (((rd_T37 l0 x7_1).f0) : Int) p68 q68; obtain rfl := k35_openM hM68; have hx68_0 : w71.cell? ⟨go68, (((rd_T37 l0 x7_1).f0) : Int).toNat * 3, none⟩ = some (.string ((rd_T35 x6_1 ((rd_T37 l0 x7_1).f0)).f0)) := hcc68 0 _ rfl; have hx68_1 : w71.cell? ⟨go68, (((rd_T37 l0 x7_1).f0) : Int).toNat * 3 + 1, none⟩ = some (.int .i64 ((rd_T35 x6_1 ((rd_T37 l0 x7_1).f0)).f1)) := hcc68 1 _ rfl; have hx68_2 : w71.cell? ⟨go68, (((rd_T37 l0 x7_1).f0) : Int).toNat * 3 + 2, none⟩ = some (.int .i64 ((rd_T35 x6_1 ((rd_T37 l0 x7_1).f0)).f2)) := hcc68 2 _ rfl; have hf68_0 : w71.frozen? ⟨go68, (((rd_T37 l0 x7_1).f0) : Int).toNat * 3, none⟩ = false := hfr68 0; have hf68_1 : w71.frozen? ⟨go68, (((rd_T37 l0 x7_1).f0) : Int).toNat * 3 + 1, none⟩ = false := hfr68 1; have hf68_2 : w71.frozen? ⟨go68, (((rd_T37 l0 x7_1).f0) : Int).toNat * 3 + 2, none⟩ = false := hfr68 2; clear hcl68 hcc68 hfr68 hM68; replace p68 := eq_true p68; replace q68 := eq_true q68; have HX73 := Aside0.mk (show Kd.R k35 35 w71 w.heap.size (fun _ => True) (.slice (some ⟨go68, 0, none⟩) x6_1.length co68) x6_1 from (by (with_reducible repeat (first | apply Kd.R_alloc | apply Kd.R_drewN | apply Kd.R_drew)); exact HO_6.out)); obtain ⟨ce73, hcl73, hM73, hcc73, hfr73⟩ := Kd.R_elem HX73.out z35 (((rd_T37 l0 x7_1).f0) : Int) (of_decide_eq_true (by first | (with_reducible assumption) | assumption)) (by have h_ : (((rd_T37 l0 x7_1).f0) : Int) < ((x6_1.length : Int) : Int) := of_decide_eq_true (by first | (with_reducible assumption) | assumption); first | exact h_ | (have e_ := (Kd.R_reads' HO_6.out).1; omega) | simpa using h_); obtain rfl := k35_openM hM73; have HP73 := Kd.R_seg HX73.out (((rd_T37 l0 x7_1).f0) : Int) (of_decide_eq_true (by first | (with_reducible assumption) | assumption)) (by have h_ : (((rd_T37 l0 x7_1).f0) : Int) < ((x6_1.length : Int) : Int) := of_decide_eq_true (by first | (with_reducible assumption) | assumption); first | exact h_ | (have e_ := (Kd.R_reads' HO_6.out).1; omega) | simpa using h_) (seg := [.string ((rd_T37 l0 x7_1).f3.f0), .int .i64 ((rd_T37 l0 x7_1).f3.f1), .int .i64 ((rd_T37 l0 x7_1).f3.f2)]) (j := 0) hcl73 hcc73 (show 3 ≤ 3 from by decide) (x' := (⟨((rd_T37 l0 x7_1).f3.f0), ((rd_T37 l0 x7_1).f3.f1), ((rd_T37 l0 x7_1).f3.f2)⟩ : S35)) (k35_mkM _ _ _ (⟨((rd_T37 l0 x7_1).f3.f0), ((rd_T37 l0 x7_1).f3.f1), ((rd_T37 l0 x7_1).f3.f2)⟩ : S35) ) (fun _ hk => hk); have hx73_0 := hcc73 0 _ rfl; (try simp only [show (k35).sz = 3 from rfl, Nat.mul_one, Nat.add_zero] at hx73_0); have hf73_0 := hfr73 0; (try simp only [show (k35).sz = 3 from rfl, Nat.mul_one, Nat.add_zero] at hf73_0); have hx73_1 := hcc73 1 _ rfl; (try simp only [show (k35).sz = 3 from rfl, Nat.mul_one, Nat.add_zero] at hx73_1); have hf73_1 := hfr73 1; (try simp only [show (k35).sz = 3 from rfl, Nat.mul_one, Nat.add_zero] at hf73_1); have hx73_2 := hcc73 2 _ rfl; (try simp only [show (k35).sz = 3 from rfl, Nat.mul_one, Nat.add_zero] at hx73_2); have hf73_2 := hfr73 2; (try simp only [show (k35).sz = 3 from rfl, Nat.mul_one, Nat.add_zero] at hf73_2); clear hcl73 hcc73 hfr73 hM73) | ((with_reducible refine gate_store (t := 35) (p := 112) rfl ?_); (try (rw [drewN_self w71]; generalize hq_ : World.drewN w71 _ = w71; have n0_ := Aside0.mk (Kd.R_at hq_ HO_4.out); have n1_ := Aside0.mk (Kd.R_at hq_ HO_5.out); have n2_ := Aside0.mk (Kd.R_at hq_ HO_6.out); have n3_ := Aside0.mk (blk_at hq_ BK143.out); have n4_ := Aside0.mk (below_at hq_ HB.out); clear hq_ HO_4 HO_5 HO_6 BK143 HB; have HO_4 := n0_; have HO_5 := n1_; have HO_6 := n2_; have BK143 := n3_; have HB := n4_; clear n0_ n1_ n2_ n3_ n4_; (try (have HX73 := Aside0.mk (show Kd.R k35 35 w71 w.heap.size (fun _ => True) (.slice (some ⟨go68, 0, none⟩) x6_1.length co68) x6_1 from (by (with_reducible repeat (first | apply Kd.R_alloc | apply Kd.R_drewN | apply Kd.R_drew)); exact HO_6.out)))); (try (obtain ⟨ce73, hcl73, hM73, hcc73, hfr73⟩ := Kd.R_elem HX73.out z35 (((rd_T37 l0 x7_1).f0) : Int) (of_decide_eq_true (by first | (with_reducible assumption) | assumption)) (by have h_ : (((rd_T37 l0 x7_1).f0) : Int) < ((x6_1.length : Int) : Int) := of_decide_eq_true (by first | (with_reducible assumption) | assumption); first | exact h_ | (have e_ := (Kd.R_reads' HO_6.out).1; omega) | simpa using h_))); (try (obtain rfl := k35_openM hM73)); (try (have HP73 := Kd.R_seg HX73.out (((rd_T37 l0 x7_1).f0) : Int) (of_decide_eq_true (by first | (with_reducible assumption) | assumption)) (by have h_ : (((rd_T37 l0 x7_1).f0) : Int) < ((x6_1.length : Int) : Int) := of_decide_eq_true (by first | (with_reducible assumption) | assumption); first | exact h_ | (have e_ := (Kd.R_reads' HO_6.out).1; omega) | simpa using h_) (seg := [.string ((rd_T37 l0 x7_1).f3.f0), .int .i64 ((rd_T37 l0 x7_1).f3.f1), .int .i64 ((rd_T37 l0 x7_1).f3.f2)]) (j := 0) hcl73 hcc73 (show 3 ≤ 3 from by decide) (x' := (⟨((rd_T37 l0 x7_1).f3.f0), ((rd_T37 l0 x7_1).f3.f1), ((rd_T37 l0 x7_1).f3.f2)⟩ : S35)) (k35_mkM _ _ _ (⟨((rd_T37 l0 x7_1).f3.f0), ((rd_T37 l0 x7_1).f3.f1), ((rd_T37 l0 x7_1).f3.f2)⟩ : S35) ) (fun _ hk => hk))); (try (have hx73_0 := hcc73 0 _ rfl)); (try (try simp only [show (k35).sz = 3 from rfl, Nat.mul_one, Nat.add_zero] at hx73_0)); (try (have hf73_0 := hfr73 0)); (try (try simp only [show (k35).sz = 3 from rfl, Nat.mul_one, Nat.add_zero] at hf73_0)); (try (have hx73_1 := hcc73 1 _ rfl)); (try (try simp only [show (k35).sz = 3 from rfl, Nat.mul_one, Nat.add_zero] at hx73_1)); (try (have hf73_1 := hfr73 1)); (try (try simp only [show (k35).sz = 3 from rfl, Nat.mul_one, Nat.add_zero] at hf73_1)); (try (have hx73_2 := hcc73 2 _ rfl)); (try (try simp only [show (k35).sz = 3 from rfl, Nat.mul_one, Nat.add_zero] at hx73_2)); (try (have hf73_2 := hfr73 2)); (try (try simp only [show (k35).sz = 3 from rfl, Nat.mul_one, Nat.add_zero] at hf73_2)); (try (clear hcl73 hcc73 hfr73 hM73)))); refine store_event (t := 35) (p := 112) (v := ?vo_w74) (w1 := (((w71.setCell ⟨go68, (((rd_T37 l0 x7_1).f0) : Int).toNat * 3, none⟩ (.string ((rd_T37 l0 x7_1).f3.f0))).setCell ⟨go68, (((rd_T37 l0 x7_1).f0) : Int).toNat * 3 + 1, none⟩ (.int .i64 ((rd_T37 l0 x7_1).f3.f1))).setCell ⟨go68, (((rd_T37 l0 x7_1).f0) : Int).toNat * 3 + 2, none⟩ (.int .i64 ((rd_T37 l0 x7_1).f3.f2)))) ?hg ?ho ?hn ?hr ?_; (case ho => rfl); (case hg => rfl); (case hn => rfl); (case hr => first | (go_simp; done) | (go_simp; rfl)); intro w74 hw; have hg : w71.grownBy w74 (some go68) := (by rw [hw]; exact HP73.2); have hp_ : Kd.R k35 35 w74 w.heap.size (fun _ => True) (.slice (some ⟨go68, 0, none⟩) x6_1.length co68) y155 := (by rw [hw, Ny155.out]; exact HP73.1); clear HP73; have n0_ := Aside0.mk (Kd.R_over' (v := (.slice (some ⟨go68, 0, none⟩) x6_1.length co68)) (by (with_reducible repeat (first | apply Kd.R_alloc | apply Kd.R_drewN | apply Kd.R_drew)); exact HO_4.out) (Kd.R_typed HO_6.out) (by decide) hg); have n1_ := Aside0.mk (Kd.R_over' (v := (.slice (some ⟨go68, 0, none⟩) x6_1.length co68)) (by (with_reducible repeat (first | apply Kd.R_alloc | apply Kd.R_drewN | apply Kd.R_drew)); exact HO_5.out) (Kd.R_typed HO_6.out) (by decide) hg); have n2_ := Aside0.mk (hp_); have n3_ := Aside0.mk (blk_grown (g := gb143) (o := .cells #[.int .i64 ((rd_T37 l0 x7_1).f0), .int .i64 ((rd_T37 l0 x7_1).f1), .bool ((rd_T37 l0 x7_1).f2), .string ((rd_T37 l0 x7_1).f3.f0), .int .i64 ((rd_T37 l0 x7_1).f3.f1), .int .i64 ((rd_T37 l0 x7_1).f3.f2), .int .i64 ((rd_T37 l0 x7_1).f4)] 37 (0, 0)) (by (with_reducible repeat (first | refine blk_drewN ?_ _ | refine blk_drew ?_ | refine blk_alloc ?_ _)); exact BK143.out) hg (Kd.R_ne HO_6.out BK143.out (by decide))); have n4_ := Aside0.mk ((by rw [hw]; exact below_set (below_set (below_set (HB.out) GB68.out) GB68.out) GB68.out : Below w.heap.size w w74)); clear HO_4; clear HO_5; clear HO_6; clear BK143; clear HB; have HO_4 := n0_; have HO_5 := n1_; have HO_6 := n2_; have BK143 := n3_; have HB := n4_; clear n0_ n1_ n2_ n3_ n4_; clear hg hw hp_)); try go_wp2_with (first | ((with_reducible refine gate_store (t := 4) (p := 107) rfl ?_); (try (rw [drewN_self wc]; generalize hq_ : World.drewN wc _ = wc; have n0_ := Aside0.mk (Kd.R_at hq_ HO_4.out); have n1_ := Aside0.mk (Kd.R_at hq_ HO_5.out); have n2_ := Aside0.mk (Kd.R_at hq_ HO_6.out); have n3_ := Aside0.mk (blk_at hq_ BK143.out); have n4_ := Aside0.mk (below_at hq_ HB.out); clear hq_ HO_4 HO_5 HO_6 BK143 HB; have HO_4 := n0_; have HO_5 := n1_; have HO_6 := n2_; have BK143 := n3_; have HB := n4_; clear n0_ n1_ n2_ n3_ n4_; (try (obtain ⟨hy70_, hz70_⟩ := Kd.R_celln false HO_4.out (((rd_T37 l0 x7_1).f0) : Int) (of_decide_eq_true (by first | (with_reducible assumption) | assumption)) (of_decide_eq_true (by first | (with_reducible assumption) | assumption)))); (try (have HP70 := Kd.R_putg HO_4.out (((rd_T37 l0 x7_1).f0) : Int) true)))); refine store_event (t := 4) (p := 107) (v := ?vo_w71) (w1 := (wc.setCell ⟨go66, (((rd_T37 l0 x7_1).f0) : Int).toNat, none⟩ (.bool true))) ?hg ?ho ?hn ?hr ?_; (case ho => rfl); (case hg => rfl); (case hn => rfl); (case hr => first | (go_simp; done) | (go_simp; rfl)); intro w71 hw; have hg : wc.grownBy w71 (some go66) := (by rw [hw]; exact HP70.2); have hp_ : Kd.R Kd.bool 4 w71 w.heap.size (fun _ => True) (.slice (some ⟨go66, 0, none⟩) x4_1.length co66) y154 := (by rw [hw, Ny154.out]; exact HP70.1); clear HP70; have n0_ := Aside0.mk (hp_); have n1_ := Aside0.mk (Kd.R_over' (v := (.slice (some ⟨go66, 0, none⟩) x4_1.length co66)) (by (with_reducible repeat (first | apply Kd.R_alloc | apply Kd.R_drewN | apply Kd.R_drew)); exact HO_5.out) (Kd.R_typed HO_4.out) (by decide) hg); have n2_ := Aside0.mk (Kd.R_over' (v := (.slice (some ⟨go66, 0, none⟩) x4_1.length co66)) (by (with_reducible repeat (first | apply Kd.R_alloc | apply Kd.R_drewN | apply Kd.R_drew)); exact HO_6.out) (Kd.R_typed HO_4.out) (by decide) hg); have n3_ := Aside0.mk (blk_grown (g := gb143) (o := .cells #[.int .i64 ((rd_T37 l0 x7_1).f0), .int .i64 ((rd_T37 l0 x7_1).f1), .bool ((rd_T37 l0 x7_1).f2), .string ((rd_T37 l0 x7_1).f3.f0), .int .i64 ((rd_T37 l0 x7_1).f3.f1), .int .i64 ((rd_T37 l0 x7_1).f3.f2), .int .i64 ((rd_T37 l0 x7_1).f4)] 37 (0, 0)) (by (with_reducible repeat (first | refine blk_drewN ?_ _ | refine blk_drew ?_ | refine blk_alloc ?_ _)); exact BK143.out) hg (Kd.R_ne HO_4.out BK143.out (by decide))); have n4_ := Aside0.mk ((by rw [hw]; exact below_set (HB.out) GB66.out : Below w.heap.size w w71)); clear HO_4; clear HO_5; clear HO_6; clear BK143; clear HB; have HO_4 := n0_; have HO_5 := n1_; have HO_6 := n2_; have BK143 := n3_; have HB := n4_; clear n0_ n1_ n2_ n3_ n4_; clear hg hw hp_; have hcz72_0 : w71.cell? ⟨gb143, 0, none⟩ = some (.int .i64 ((rd_T37 l0 x7_1).f0)) := (blk_cell BK143.out 0).trans rfl; have hcz72_1 : w71.cell? ⟨gb143, 1, none⟩ = some (.int .i64 ((rd_T37 l0 x7_1).f1)) := (blk_cell BK143.out 1).trans rfl; have hcz72_2 : w71.cell? ⟨gb143, 2, none⟩ = some (.bool ((rd_T37 l0 x7_1).f2)) := (blk_cell BK143.out 2).trans rfl; have hcz72_3 : w71.cell? ⟨gb143, 3, none⟩ = some (.string ((rd_T37 l0 x7_1).f3.f0)) := (blk_cell BK143.out 3).trans rfl; have hcz72_4 : w71.cell? ⟨gb143, 4, none⟩ = some (.int .i64 ((rd_T37 l0 x7_1).f3.f1)) := (blk_cell BK143.out 4).trans rfl; have hcz72_5 : w71.cell? ⟨gb143, 5, none⟩ = some (.int .i64 ((rd_T37 l0 x7_1).f3.f2)) := (blk_cell BK143.out 5).trans rfl; have hcz72_6 : w71.cell? ⟨gb143, 6, none⟩ = some (.int .i64 ((rd_T37 l0 x7_1).f4)) := (blk_cell BK143.out 6).trans rfl; have hfz72_0 := blk_frozen BK143.out 0; have hfz72_1 := blk_frozen BK143.out 1; have hfz72_2 := blk_frozen BK143.out 2; have hfz72_3 := blk_frozen BK143.out 3; have hfz72_4 := blk_frozen BK143.out 4; have hfz72_5 := blk_frozen BK143.out 5; have hfz72_6 := blk_frozen BK143.out 6; have p68 : 0 ≤ (((rd_T37 l0 x7_1).f0) : Int) := of_decide_eq_true (by first | (with_reducible assumption) | assumption); have q68 : (((rd_T37 l0 x7_1).f0) : Int) < ((x6_1.length : Int) : Int) := of_decide_eq_true (by first | (with_reducible assumption) | assumption); obtain ⟨go68, co68, eo68, gb68, gl68, cl68, HG68⟩ := Kd.R_form HO_6.out (by omega); (first | cases eo68 | (injection eo68 with ea_ en_ ec_; (first | subst ea_ | (injection ea_ with ea_; subst ea_)); subst ec_; clear en_)); have GB68 := Aside0.mk gb68; have GG68 := Aside0.mk HG68; clear gb68 gl68 HG68; obtain ⟨ce68, hcl68, hM68, hcc68, hfr68⟩ := Kd.R_elem HO_6.out z35 (((rd_T37 l0 x7_1).f0) : Int) p68 q68; obtain rfl := k35_openM hM68; have hx68_0 : w71.cell? ⟨go68, (((rd_T37 l0 x7_1).f0) : Int).toNat * 3, none⟩ = some (.string ((rd_T35 x6_1 ((rd_T37 l0 x7_1).f0)).f0)) := hcc68 0 _ rfl; have hx68_1 : w71.cell? ⟨go68, (((rd_T37 l0 x7_1).f0) : Int).toNat * 3 + 1, none⟩ = some (.int .i64 ((rd_T35 x6_1 ((rd_T37 l0 x7_1).f0)).f1)) := hcc68 1 _ rfl; have hx68_2 : w71.cell? ⟨go68, (((rd_T37 l0 x7_1).f0) : Int).toNat * 3 + 2, none⟩ = some (.int .i64 ((rd_T35 x6_1 ((rd_T37 l0 x7_1).f0)).f2)) := hcc68 2 _ rfl; have hf68_0 : w71.frozen? ⟨go68, (((rd_T37 l0 x7_1).f0) : Int).toNat * 3, none⟩ = false := hfr68 0; have hf68_1 : w71.frozen? ⟨go68, (((rd_T37 l0 x7_1).f0) : Int).toNat * 3 + 1, none⟩ = false := hfr68 1; have hf68_2 : w71.frozen? ⟨go68, (((rd_T37 l0 x7_1).f0) : Int).toNat * 3 + 2, none⟩ = false := hfr68 2; clear hcl68 hcc68 hfr68 hM68; replace p68 := eq_true p68; replace q68 := eq_true q68; have HX73 := Aside0.mk (show Kd.R k35 35 w71 w.heap.size (fun _ => True) (.slice (some ⟨go68, 0, none⟩) x6_1.length co68) x6_1 from (by (with_reducible repeat (first | apply Kd.R_alloc | apply Kd.R_drewN | apply Kd.R_drew)); exact HO_6.out)); obtain ⟨ce73, hcl73, hM73, hcc73, hfr73⟩ := Kd.R_elem HX73.out z35 (((rd_T37 l0 x7_1).f0) : Int) (of_decide_eq_true (by first | (with_reducible assumption) | assumption)) (by have h_ : (((rd_T37 l0 x7_1).f0) : Int) < ((x6_1.length : Int) : Int) := of_decide_eq_true (by first | (with_reducible assumption) | assumption); first | exact h_ | (have e_ := (Kd.R_reads' HO_6.out).1; omega) | simpa using h_); obtain rfl := k35_openM hM73; have HP73 := Kd.R_seg HX73.out (((rd_T37 l0 x7_1).f0) : Int) (of_decide_eq_true (by first | (with_reducible assumption) | assumption)) (by have h_ : (((rd_T37 l0 x7_1).f0) : Int) < ((x6_1.length : Int) : Int) := of_decide_eq_true (by first | (with_reducible assumption) | assumption); first | exact h_ | (have e_ := (Kd.R_reads' HO_6.out).1; omega) | simpa using h_) (seg := [.string ((rd_T37 l0 x7_1).f3.f0), .int .i64 ((rd_T37 l0 x7_1).f3.f1), .int .i64 ((rd_T37 l0 x7_1).f3.f2)]) (j := 0) hcl73 hcc73 (show 3 ≤ 3 from by decide) (x' := (⟨((rd_T37 l0 x7_1).f3.f0), ((rd_T37 l0 x7_1).f3.f1), ((rd_T37 l0 x7_1).f3.f2)⟩ : S35)) (k35_mkM _ _ _ (⟨((rd_T37 l0 x7_1).f3.f0), ((rd_T37 l0 x7_1).f3.f1), ((rd_T37 l0 x7_1).f3.f2)⟩ : S35) ) (fun _ hk => hk); have hx73_0 := hcc73 0 _ rfl; (try simp only [show (k35).sz = 3 from rfl, Nat.mul_one, Nat.add_zero] at hx73_0); have hf73_0 := hfr73 0; (try simp only [show (k35).sz = 3 from rfl, Nat.mul_one, Nat.add_zero] at hf73_0); have hx73_1 := hcc73 1 _ rfl; (try simp only [show (k35).sz = 3 from rfl, Nat.mul_one, Nat.add_zero] at hx73_1); have hf73_1 := hfr73 1; (try simp only [show (k35).sz = 3 from rfl, Nat.mul_one, Nat.add_zero] at hf73_1); have hx73_2 := hcc73 2 _ rfl; (try simp only [show (k35).sz = 3 from rfl, Nat.mul_one, Nat.add_zero] at hx73_2); have hf73_2 := hfr73 2; (try simp only [show (k35).sz = 3 from rfl, Nat.mul_one, Nat.add_zero] at hf73_2); clear hcl73 hcc73 hfr73 hM73) | ((with_reducible refine gate_store (t := 35) (p := 112) rfl ?_); (try (rw [drewN_self w71]; generalize hq_ : World.drewN w71 _ = w71; have n0_ := Aside0.mk (Kd.R_at hq_ HO_4.out); have n1_ := Aside0.mk (Kd.R_at hq_ HO_5.out); have n2_ := Aside0.mk (Kd.R_at hq_ HO_6.out); have n3_ := Aside0.mk (blk_at hq_ BK143.out); have n4_ := Aside0.mk (below_at hq_ HB.out); clear hq_ HO_4 HO_5 HO_6 BK143 HB; have HO_4 := n0_; have HO_5 := n1_; have HO_6 := n2_; have BK143 := n3_; have HB := n4_; clear n0_ n1_ n2_ n3_ n4_; (try (have HX73 := Aside0.mk (show Kd.R k35 35 w71 w.heap.size (fun _ => True) (.slice (some ⟨go68, 0, none⟩) x6_1.length co68) x6_1 from (by (with_reducible repeat (first | apply Kd.R_alloc | apply Kd.R_drewN | apply Kd.R_drew)); exact HO_6.out)))); (try (obtain ⟨ce73, hcl73, hM73, hcc73, hfr73⟩ := Kd.R_elem HX73.out z35 (((rd_T37 l0 x7_1).f0) : Int) (of_decide_eq_true (by first | (with_reducible assumption) | assumption)) (by have h_ : (((rd_T37 l0 x7_1).f0) : Int) < ((x6_1.length : Int) : Int) := of_decide_eq_true (by first | (with_reducible assumption) | assumption); first | exact h_ | (have e_ := (Kd.R_reads' HO_6.out).1; omega) | simpa using h_))); (try (obtain rfl := k35_openM hM73)); (try (have HP73 := Kd.R_seg HX73.out (((rd_T37 l0 x7_1).f0) : Int) (of_decide_eq_true (by first | (with_reducible assumption) | assumption)) (by have h_ : (((rd_T37 l0 x7_1).f0) : Int) < ((x6_1.length : Int) : Int) := of_decide_eq_true (by first | (with_reducible assumption) | assumption); first | exact h_ | (have e_ := (Kd.R_reads' HO_6.out).1; omega) | simpa using h_) (seg := [.string ((rd_T37 l0 x7_1).f3.f0), .int .i64 ((rd_T37 l0 x7_1).f3.f1), .int .i64 ((rd_T37 l0 x7_1).f3.f2)]) (j := 0) hcl73 hcc73 (show 3 ≤ 3 from by decide) (x' := (⟨((rd_T37 l0 x7_1).f3.f0), ((rd_T37 l0 x7_1).f3.f1), ((rd_T37 l0 x7_1).f3.f2)⟩ : S35)) (k35_mkM _ _ _ (⟨((rd_T37 l0 x7_1).f3.f0), ((rd_T37 l0 x7_1).f3.f1), ((rd_T37 l0 x7_1).f3.f2)⟩ : S35) ) (fun _ hk => hk))); (try (have hx73_0 := hcc73 0 _ rfl)); (try (try simp only [show (k35).sz = 3 from rfl, Nat.mul_one, Nat.add_zero] at hx73_0)); (try (have hf73_0 := hfr73 0)); (try (try simp only [show (k35).sz = 3 from rfl, Nat.mul_one, Nat.add_zero] at hf73_0)); (try (have hx73_1 := hcc73 1 _ rfl)); (try (try simp only [show (k35).sz = 3 from rfl, Nat.mul_one, Nat.add_zero] at hx73_1)); (try (have hf73_1 := hfr73 1)); (try (try simp only [show (k35).sz = 3 from rfl, Nat.mul_one, Nat.add_zero] at hf73_1)); (try (have hx73_2 := hcc73 2 _ rfl)); (try (try simp only [show (k35).sz = 3 from rfl, Nat.mul_one, Nat.add_zero] at hx73_2)); (try (have hf73_2 := hfr73 2)); (try (try simp only [show (k35).sz = 3 from rfl, Nat.mul_one, Nat.add_zero] at hf73_2)); (try (clear hcl73 hcc73 hfr73 hM73)))); refine store_event (t := 35) (p := 112) (v := ?vo_w74) (w1 := (((w71.setCell ⟨go68, (((rd_T37 l0 x7_1).f0) : Int).toNat * 3, none⟩ (.string ((rd_T37 l0 x7_1).f3.f0))).setCell ⟨go68, (((rd_T37 l0 x7_1).f0) : Int).toNat * 3 + 1, none⟩ (.int .i64 ((rd_T37 l0 x7_1).f3.f1))).setCell ⟨go68, (((rd_T37 l0 x7_1).f0) : Int).toNat * 3 + 2, none⟩ (.int .i64 ((rd_T37 l0 x7_1).f3.f2)))) ?hg ?ho ?hn ?hr ?_; (case ho => rfl); (case hg => rfl); (case hn => rfl); (case hr => first | (go_simp; done) | (go_simp; rfl)); intro w74 hw; have hg : w71.grownBy w74 (some go68) := (by rw [hw]; exact HP73.2); have hp_ : Kd.R k35 35 w74 w.heap.size (fun _ => True) (.slice (some ⟨go68, 0, none⟩) x6_1.length co68) y155 := (by rw [hw, Ny155.out]; exact HP73.1); clear HP73; have n0_ := Aside0.mk (Kd.R_over' (v := (.slice (some ⟨go68, 0, none⟩) x6_1.length co68)) (by (with_reducible repeat (first | apply Kd.R_alloc | apply Kd.R_drewN | apply Kd.R_drew)); exact HO_4.out) (Kd.R_typed HO_6.out) (by decide) hg); have n1_ := Aside0.mk (Kd.R_over' (v := (.slice (some ⟨go68, 0, none⟩) x6_1.length co68)) (by (with_reducible repeat (first | apply Kd.R_alloc | apply Kd.R_drewN | apply Kd.R_drew)); exact HO_5.out) (Kd.R_typed HO_6.out) (by decide) hg); have n2_ := Aside0.mk (hp_); have n3_ := Aside0.mk (blk_grown (g := gb143) (o := .cells #[.int .i64 ((rd_T37 l0 x7_1).f0), .int .i64 ((rd_T37 l0 x7_1).f1), .bool ((rd_T37 l0 x7_1).f2), .string ((rd_T37 l0 x7_1).f3.f0), .int .i64 ((rd_T37 l0 x7_1).f3.f1), .int .i64 ((rd_T37 l0 x7_1).f3.f2), .int .i64 ((rd_T37 l0 x7_1).f4)] 37 (0, 0)) (by (with_reducible repeat (first | refine blk_drewN ?_ _ | refine blk_drew ?_ | refine blk_alloc ?_ _)); exact BK143.out) hg (Kd.R_ne HO_6.out BK143.out (by decide))); have n4_ := Aside0.mk ((by rw [hw]; exact below_set (below_set (below_set (HB.out) GB68.out) GB68.out) GB68.out : Below w.heap.size w w74)); clear HO_4; clear HO_5; clear HO_6; clear BK143; clear HB; have HO_4 := n0_; have HO_5 := n1_; have HO_6 := n2_; have BK143 := n3_; have HB := n4_; clear n0_ n1_ n2_ n3_ n4_; clear hg hw hp_)))
                                        go_roundg kj31
                                        case measure => have := HK1.out; have := HJ12.out; have := HJ31.out; omega
                                        case rel => exact ⟨(wrap64 (x3_1 + 1)), (y154), (x5_1), (y155), (wrap64 (x7_1 + 1)), (by first | rfl | (simp; done) | (simp [*]; done)), (by first | rfl | (simp; done) | (simp [*]; done)), H', ⟨by have := HK1.out; have := HJ12.out; have := HJ31.out; omega⟩, ⟨by (with_reducible repeat (first | apply Kd.R_alloc | apply Kd.R_drewN | apply Kd.R_drew)); exact HO_4.out⟩, ⟨by (with_reducible repeat (first | apply Kd.R_alloc | apply Kd.R_drewN | apply Kd.R_drew)); exact HO_5.out⟩, ⟨by (with_reducible repeat (first | apply Kd.R_alloc | apply Kd.R_drewN | apply Kd.R_drew)); exact HO_6.out⟩, ⟨by repeat (first | (with_reducible first | exact HB.out | apply below_alloc | apply pw_below_drewN | apply below_drew1 | refine below_set ?_ GE143.out) | exact HB.out)⟩⟩
                                      · rw [if_neg c67] at H
                                        exact absurd H (by simp)
                                    · rw [if_neg c65] at H
                                      exact absurd H (by simp)
                                  · rw [if_neg c64] at H
                                    exact absurd H (by simp)
                              · rw [if_neg c61] at H
                                have c61b0 : (((rd_T37 l0 x7_1).f4) == 0) = false := beq_eq_false_iff_ne.mpr c61
                                have c61b1 : (((rd_T37 l0 x7_1).f4) != 0) = true := bne_iff_ne.mpr c61
                                obtain rfl := Option.some.inj H
                                have hcz75_0 : wc.cell? ⟨gb143, 0, none⟩ = some (.int .i64 ((rd_T37 l0 x7_1).f0)) := (blk_cell BK143.out 0).trans rfl
                                have hcz75_1 : wc.cell? ⟨gb143, 1, none⟩ = some (.int .i64 ((rd_T37 l0 x7_1).f1)) := (blk_cell BK143.out 1).trans rfl
                                have hcz75_2 : wc.cell? ⟨gb143, 2, none⟩ = some (.bool ((rd_T37 l0 x7_1).f2)) := (blk_cell BK143.out 2).trans rfl
                                have hcz75_3 : wc.cell? ⟨gb143, 3, none⟩ = some (.string ((rd_T37 l0 x7_1).f3.f0)) := (blk_cell BK143.out 3).trans rfl
                                have hcz75_4 : wc.cell? ⟨gb143, 4, none⟩ = some (.int .i64 ((rd_T37 l0 x7_1).f3.f1)) := (blk_cell BK143.out 4).trans rfl
                                have hcz75_5 : wc.cell? ⟨gb143, 5, none⟩ = some (.int .i64 ((rd_T37 l0 x7_1).f3.f2)) := (blk_cell BK143.out 5).trans rfl
                                have hcz75_6 : wc.cell? ⟨gb143, 6, none⟩ = some (.int .i64 ((rd_T37 l0 x7_1).f4)) := (blk_cell BK143.out 6).trans rfl
                                have hfz75_0 := blk_frozen BK143.out 0
                                have hfz75_1 := blk_frozen BK143.out 1
                                have hfz75_2 := blk_frozen BK143.out 2
                                have hfz75_3 := blk_frozen BK143.out 3
                                have hfz75_4 := blk_frozen BK143.out 4
                                have hfz75_5 := blk_frozen BK143.out 5
                                have hfz75_6 := blk_frozen BK143.out 6
                                go_wp2
                                repeat (go_quiet (fail); try go_wp2)
                                go_ret
                                exact ⟨by first | rfl | (simp [errW_none, errW_some] <;> rfl) | (simp [*, errW_none, errW_some] <;> rfl), by repeat (first | (with_reducible first | exact HB.out | apply below_alloc | apply pw_below_drewN | apply below_drew1 | refine below_set ?_ GE143.out) | exact HB.out)⟩
              · rw [if_neg c12] at H
                exact absurd H (by simp)
            · rw [if_neg c11] at H
              have c11b0 : decide (x7_1 < (l0.length : Int)) = false := decide_eq_false c11
              clear c11
              obtain rfl := Option.some.inj H
              go_wp2
              repeat (go_quiet (fail); try go_wp2)
              go_ret
              exact ⟨by first | rfl | (simp [errW_none, errW_some] <;> rfl) | (simp [*, errW_none, errW_some] <;> rfl), by repeat (first | (with_reducible first | exact HB.out | apply below_alloc | apply pw_below_drewN | apply below_drew1) | exact HB.out)⟩
      · rw [if_neg c4] at H
        exact absurd H (by simp)
    · rw [if_neg c3] at H
      exact absurd H (by simp)
  · rw [if_neg c2] at H
    exact absurd H (by simp)

end Go.Proofs.YtfokmfnafbladaaDoor.Q
