-- Written by a program of this session out of the translation (a printer's text): HistWider. Not trusted: Lean checks it.
import Derived.Test.YtfokmfnafbladaaDoorQx0
import Derived.Test.YtfokmfnafbladaaDoorQx3
import Derived.Test.YtfokmfnafbladaaDoorSx7
import Derived.Test.YtfokmfnafbladaaDoorHWider
namespace Go.Proofs.YtfokmfnafbladaaDoor.Q
open Go.RowKit Go.Proofs.YtfokmfnafbladaaDoorW.PrintWords Go.Proofs.YtfokmfnafbladaaDoorW.PrintLast Go.Proofs.YtfokmfnafbladaaDoorW.PrintMore
attribute [local go_sem] max2_int min2_int max_two min_two max_three min_three max_four min_four   -- for this text's walks alone
set_option linter.unusedVariables false
set_option linter.unusedSimpArgs false

/-! ### locklesslaw17_HistWider: function 4 -/
mutual
def locklesslaw17_HistWider.j0 : Nat → List (S37) → Int → Bool → Option (Bool)
  | 0, _, _, _ => none
  | k + 1, x0, x1, x25 => if x25 = true then ((locklesslaw17_sane.f k).bind fun t226 => (some t226)) else (if 0 ≤ x1 then (if x1 < (x0.length : Int) then (if ((rd_T37 x0 x1).f2 = true) then (if 0 ≤ (wrap64 (x1 + 1)) then (if (wrap64 (x1 + 1)) < (x0.length : Int) then (if (rd_T37 x0 (wrap64 (x1 + 1))).f2 = true then (locklesslaw17_HistWider.j1 k x0 x1 true) else (locklesslaw17_HistWider.j1 k x0 x1 (((rd_T37 x0 x1).f0) == ((rd_T37 x0 (wrap64 (x1 + 1))).f0)))) else (none)) else (none)) else (locklesslaw17_HistWider.j1 k x0 x1 true)) else (none)) else (none))
def locklesslaw17_HistWider.j1 : Nat → List (S37) → Int → Bool → Option (Bool)
  | 0, _, _, _ => none
  | k + 1, x0, x1, x54 => if x54 = true then ((locklesslaw17_sane.f k).bind fun t231 => (some t231)) else ((locklesslaw17_own.f x0).bind fun t232 => (if 0 ≤ (wrap64 (x1 + 1)) then (if (wrap64 (x1 + 1)) < (x0.length : Int) then (if 0 ≤ x1 then (if x1 < (t232.length : Int) then (if x1 < (x0.length : Int) then (if (wrap64 (x1 + 1)) < (t232.length : Int) then ((some ((t232.set (x1 : Int).toNat (⟨(rd_T37 x0 (wrap64 (x1 + 1))).f0, (rd_T37 x0 (wrap64 (x1 + 1))).f1, (rd_T37 x0 (wrap64 (x1 + 1))).f2, (⟨(rd_T37 x0 (wrap64 (x1 + 1))).f3.f0, (rd_T37 x0 (wrap64 (x1 + 1))).f3.f1, (rd_T37 x0 (wrap64 (x1 + 1))).f3.f2⟩ : S35), (rd_T37 x0 (wrap64 (x1 + 1))).f4⟩ : S37)).set ((wrap64 (x1 + 1)) : Int).toNat (⟨(rd_T37 x0 x1).f0, (rd_T37 x0 x1).f1, (rd_T37 x0 x1).f2, (⟨(rd_T37 x0 x1).f3.f0, (rd_T37 x0 x1).f3.f1, (rd_T37 x0 x1).f3.f2⟩ : S35), (rd_T37 x0 x1).f4⟩ : S37) : List (S37))).bind fun y238 => ((hist_Wider.f y238 x0).bind fun bt239 => ((hist_Valid.f y238).bind fun t241 => (if t241 = true then (if bt239.1 = true then (if bt239.2 = 0 then ((locklesslaw17_sane.f k).bind fun t242 => (locklesslaw17_HistWider.j2 k t242)) else (locklesslaw17_HistWider.j2 k false)) else (locklesslaw17_HistWider.j2 k false)) else (locklesslaw17_HistWider.j2 k false))))) else (none)) else (none)) else (none)) else (none)) else (none)) else (none)))
def locklesslaw17_HistWider.j2 : Nat → Bool → Option (Bool)
  | 0, _ => none
  | k + 1, x4 => some x4
end
def locklesslaw17_HistWider.f (k : Nat) (l0 : List (S37)) (a1 : Int) : Option (Bool) := (locklesslaw17_large.f k l0).bind fun t224 => (if t224 = true then (locklesslaw17_HistWider.j0 k l0 a1 true) else ((hist_Valid.f l0).bind fun t225 => (if t225 = true then (if a1 < 0 then (locklesslaw17_HistWider.j0 k l0 a1 true) else (locklesslaw17_HistWider.j0 k l0 a1 (decide (a1 ≥ (wrap64 ((l0.length : Int) - 1)))))) else (locklesslaw17_HistWider.j0 k l0 a1 true))))
theorem locklesslaw17_HistWider.mono_l : ∀ k, (∀ y0 y1 y2, LeO (locklesslaw17_HistWider.j0 k y0 y1 y2) (locklesslaw17_HistWider.j0 (k + 1) y0 y1 y2)) ∧ (∀ y0 y1 y2, LeO (locklesslaw17_HistWider.j1 k y0 y1 y2) (locklesslaw17_HistWider.j1 (k + 1) y0 y1 y2)) ∧ (∀ y0, LeO (locklesslaw17_HistWider.j2 k y0) (locklesslaw17_HistWider.j2 (k + 1) y0))
  | 0 => ⟨fun _ _ _ r h => by simp [locklesslaw17_HistWider.j0] at h, fun _ _ _ r h => by simp [locklesslaw17_HistWider.j1] at h, fun _ r h => by simp [locklesslaw17_HistWider.j2] at h⟩
  | k + 1 => by
    obtain ⟨ih0, ih1, ih2⟩ := locklesslaw17_HistWider.mono_l k
    refine ⟨?_, ?_, ?_⟩
    · intro y0 y1 y2
      unfold locklesslaw17_HistWider.j0
      repeat' first
      | (with_reducible exact ih0 _ _ _)
      | (with_reducible exact ih1 _ _ _)
      | (with_reducible exact ih2 _)
      | (with_reducible exact locklesslaw17_large.mono _ _)
      | (with_reducible exact locklesslaw17_sane.mono _)
      | (with_reducible exact LeO.refl _)
      | (with_reducible exact LeO.none _)
      | (with_reducible refine LeO.ite ?_ ?_)
      | (with_reducible refine LeO.bind ?_ (fun _ => ?_))
      | exact ih0 _ _ _
      | exact ih1 _ _ _
      | exact ih2 _
      | exact locklesslaw17_large.mono _ _
      | exact locklesslaw17_sane.mono _
      | exact LeO.none _
      | refine LeO.ite ?_ ?_
      | refine LeO.bind ?_ (fun _ => ?_)
    · intro y0 y1 y2
      unfold locklesslaw17_HistWider.j1
      repeat' first
      | (with_reducible exact ih0 _ _ _)
      | (with_reducible exact ih1 _ _ _)
      | (with_reducible exact ih2 _)
      | (with_reducible exact locklesslaw17_large.mono _ _)
      | (with_reducible exact locklesslaw17_sane.mono _)
      | (with_reducible exact LeO.refl _)
      | (with_reducible exact LeO.none _)
      | (with_reducible refine LeO.ite ?_ ?_)
      | (with_reducible refine LeO.bind ?_ (fun _ => ?_))
      | exact ih0 _ _ _
      | exact ih1 _ _ _
      | exact ih2 _
      | exact locklesslaw17_large.mono _ _
      | exact locklesslaw17_sane.mono _
      | exact LeO.none _
      | refine LeO.ite ?_ ?_
      | refine LeO.bind ?_ (fun _ => ?_)
    · intro y0
      unfold locklesslaw17_HistWider.j2
      repeat' first
      | (with_reducible exact ih0 _ _ _)
      | (with_reducible exact ih1 _ _ _)
      | (with_reducible exact ih2 _)
      | (with_reducible exact locklesslaw17_large.mono _ _)
      | (with_reducible exact locklesslaw17_sane.mono _)
      | (with_reducible exact LeO.refl _)
      | (with_reducible exact LeO.none _)
      | (with_reducible refine LeO.ite ?_ ?_)
      | (with_reducible refine LeO.bind ?_ (fun _ => ?_))
      | exact ih0 _ _ _
      | exact ih1 _ _ _
      | exact ih2 _
      | exact locklesslaw17_large.mono _ _
      | exact locklesslaw17_sane.mono _
      | exact LeO.none _
      | refine LeO.ite ?_ ?_
      | refine LeO.bind ?_ (fun _ => ?_)
theorem locklesslaw17_HistWider.mono : ∀ a0 a1 k, LeO (locklesslaw17_HistWider.f k a0 a1) (locklesslaw17_HistWider.f (k + 1) a0 a1) := by
  intro a0 a1 k
  obtain ⟨ih0, ih1, ih2⟩ := locklesslaw17_HistWider.mono_l k
  unfold locklesslaw17_HistWider.f
  repeat' first
      | (with_reducible exact ih0 _ _ _)
      | (with_reducible exact ih1 _ _ _)
      | (with_reducible exact ih2 _)
      | (with_reducible exact locklesslaw17_large.mono _ _)
      | (with_reducible exact locklesslaw17_sane.mono _)
      | (with_reducible exact LeO.refl _)
      | (with_reducible exact LeO.none _)
      | (with_reducible refine LeO.ite ?_ ?_)
      | (with_reducible refine LeO.bind ?_ (fun _ => ?_))
      | exact ih0 _ _ _
      | exact ih1 _ _ _
      | exact ih2 _
      | exact locklesslaw17_large.mono _ _
      | exact locklesslaw17_sane.mono _
      | exact LeO.none _
      | refine LeO.ite ?_ ?_
      | refine LeO.bind ?_ (fun _ => ?_)
set_option maxHeartbeats 8000000 in
set_option maxRecDepth 100000 in
theorem locklesslaw17_HistWider.calls (k : Nat) (A0 : Option Addr) (c0 : Nat) (l0 : List (S37)) (a1 : Int) (r : Bool) (w : World) (hr0 : Kd.C k37 w A0 l0.length l0) (hc0 : l0.length ≤ c0) (h : locklesslaw17_HistWider.f k l0 a1 = some r) :
    Calls Tryd.prog 4 #[.slice A0 l0.length c0, .int .i64 a1] w fun e w' => e = .returned (.bool r) ∧ Below w.heap.size w w' := by
  have hu37 := Tryd.underlying37
  have HR0 := Aside0.mk hr0
  have HC0 := Aside0.mk hc0
  clear hr0 hc0
  have HB := Aside0.mk (Below.refl w.heap.size w)
  have H : ((locklesslaw17_large.f k l0).bind fun t224 => (if t224 = true then (locklesslaw17_HistWider.j0 k l0 a1 true) else ((hist_Valid.f l0).bind fun t225 => (if t225 = true then (if a1 < 0 then (locklesslaw17_HistWider.j0 k l0 a1 true) else (locklesslaw17_HistWider.j0 k l0 a1 (decide (a1 ≥ (wrap64 ((l0.length : Int) - 1)))))) else (locklesslaw17_HistWider.j0 k l0 a1 true))))) = some r := h
  clear h
  have HC3 := Aside0.mk H
  clear H
  go_enter Tryd.func4, Tryd.ntmps4
  go_upto_region 1 with (fail)
  repeat (go_quiet (fail); go_upto_region 1 with (fail))
  go_cut [25] (fun v25 wc => ∃ (kq : Nat) (x25_2 : Bool), v25 = .bool x25_2 ∧ Aside0 (locklesslaw17_HistWider.j0 kq l0 a1 x25_2 = some r) ∧ Aside0 (kq ≤ k) ∧ Aside0 (Below w.heap.size w wc))
  case first =>
    have H := HC3.out
    clear HC3
    replace H := Option.bind_eq_some_iff.mp H
    obtain ⟨t224, A40, H⟩ := H
    replace H : (if t224 = true then (locklesslaw17_HistWider.j0 k l0 a1 true) else ((hist_Valid.f l0).bind fun t225 => (if t225 = true then (if a1 < 0 then (locklesslaw17_HistWider.j0 k l0 a1 true) else (locklesslaw17_HistWider.j0 k l0 a1 (decide (a1 ≥ (wrap64 ((l0.length : Int) - 1)))))) else (locklesslaw17_HistWider.j0 k l0 a1 true)))) = some r := H
    have A4 := Aside0.mk A40
    clear A40
    by_cases c5 : t224 = true
    · subst c5
      have H1 : (locklesslaw17_HistWider.j0 k l0 a1 true) = some r := by rw [if_pos rfl] at H; exact H
      clear H
      have H := H1
      clear H1
      have H' := Aside0.mk H
      clear H
      go_wp2_with (first | (go_at_call 8; (with_reducible refine (locklesslaw17_large.calls k _ _ l0 true _ ?side1 ?side2 A4.out).mono ?_); (case side1 => repeat (first | exact (Kd.C_below HR0.out HB.out) | (with_reducible refine Kd.C_alloc ?_ _) | (with_reducible refine Kd.C_drewN ?_ _) | (with_reducible refine Kd.C_drew ?_))); (case side2 => exact HC0.out); rintro e w' ⟨rfl, ⟨nd, rfl⟩⟩; (try first | exact ⟨rfl, _, World.drewN_drewN _ _ _⟩ | exact ⟨rfl, _, Eq.trans (World.drewN_drewN _ _ _) (congrArg (World.drewN _) (Nat.add_assoc _ _ _))⟩)))
      repeat (go_quiet (first | (go_at_call 8; (with_reducible refine (locklesslaw17_large.calls k _ _ l0 true _ ?side1 ?side2 A4.out).mono ?_); (case side1 => repeat (first | exact (Kd.C_below HR0.out HB.out) | (with_reducible refine Kd.C_alloc ?_ _) | (with_reducible refine Kd.C_drewN ?_ _) | (with_reducible refine Kd.C_drew ?_))); (case side2 => exact HC0.out); rintro e w' ⟨rfl, ⟨nd, rfl⟩⟩; (try first | exact ⟨rfl, _, World.drewN_drewN _ _ _⟩ | exact ⟨rfl, _, Eq.trans (World.drewN_drewN _ _ _) (congrArg (World.drewN _) (Nat.add_assoc _ _ _))⟩))); try go_wp2_with (first | (go_at_call 8; (with_reducible refine (locklesslaw17_large.calls k _ _ l0 true _ ?side1 ?side2 A4.out).mono ?_); (case side1 => repeat (first | exact (Kd.C_below HR0.out HB.out) | (with_reducible refine Kd.C_alloc ?_ _) | (with_reducible refine Kd.C_drewN ?_ _) | (with_reducible refine Kd.C_drew ?_))); (case side2 => exact HC0.out); rintro e w' ⟨rfl, ⟨nd, rfl⟩⟩; (try first | exact ⟨rfl, _, World.drewN_drewN _ _ _⟩ | exact ⟨rfl, _, Eq.trans (World.drewN_drewN _ _ _) (congrArg (World.drewN _) (Nat.add_assoc _ _ _))⟩))))
      go_meet
      case rel => exact ⟨_, (true), (by first | rfl | (simp; done) | (simp [*]; done)), H', ⟨by first | omega | exact Nat.le_refl _⟩, ⟨by repeat (first | (with_reducible first | exact HB.out | apply below_alloc | apply pw_below_drewN | apply below_drew1) | exact HB.out)⟩⟩
    · replace c5 := Bool.eq_false_iff.mpr c5
      subst c5
      have H1 : ((hist_Valid.f l0).bind fun t225 => (if t225 = true then (if a1 < 0 then (locklesslaw17_HistWider.j0 k l0 a1 true) else (locklesslaw17_HistWider.j0 k l0 a1 (decide (a1 ≥ (wrap64 ((l0.length : Int) - 1)))))) else (locklesslaw17_HistWider.j0 k l0 a1 true))) = some r := by rw [if_neg (show ¬ (false = true) by decide)] at H; exact H
      clear H
      have H := H1
      clear H1
      replace H := Option.bind_eq_some_iff.mp H
      obtain ⟨t225, A60, H⟩ := H
      replace H : (if t225 = true then (if a1 < 0 then (locklesslaw17_HistWider.j0 k l0 a1 true) else (locklesslaw17_HistWider.j0 k l0 a1 (decide (a1 ≥ (wrap64 ((l0.length : Int) - 1)))))) else (locklesslaw17_HistWider.j0 k l0 a1 true)) = some r := H
      have A6 := Aside0.mk A60
      clear A60
      by_cases c7 : t225 = true
      · subst c7
        have H1 : (if a1 < 0 then (locklesslaw17_HistWider.j0 k l0 a1 true) else (locklesslaw17_HistWider.j0 k l0 a1 (decide (a1 ≥ (wrap64 ((l0.length : Int) - 1)))))) = some r := by rw [if_pos rfl] at H; exact H
        clear H
        have H := H1
        clear H1
        by_cases c8 : a1 < 0
        · rw [if_pos c8] at H
          have c8b0 : decide (a1 < 0) = true := decide_eq_true c8
          clear c8
          (first | rw [c8b0] | (simp only [i64_w, i32_w]; rw [c8b0]) | skip)
          have H' := Aside0.mk H
          clear H
          go_wp2_with (first | (go_at_call 8; (with_reducible refine (locklesslaw17_large.calls k _ _ l0 false _ ?side1 ?side2 A4.out).mono ?_); (case side1 => repeat (first | exact (Kd.C_below HR0.out HB.out) | (with_reducible refine Kd.C_alloc ?_ _) | (with_reducible refine Kd.C_drewN ?_ _) | (with_reducible refine Kd.C_drew ?_))); (case side2 => exact HC0.out); rintro e w' ⟨rfl, ⟨nd, rfl⟩⟩; (try first | exact ⟨rfl, _, World.drewN_drewN _ _ _⟩ | exact ⟨rfl, _, Eq.trans (World.drewN_drewN _ _ _) (congrArg (World.drewN _) (Nat.add_assoc _ _ _))⟩)) | (go_at_call 16; (with_reducible refine (hist_Valid.calls _ _ l0 true _ ?side1 ?side2 A6.out).mono ?_); (case side1 => repeat (first | exact (Kd.C_below HR0.out (by repeat (first | (with_reducible first | exact HB.out | apply below_alloc | apply pw_below_drewN | apply below_drew1) | exact HB.out))) | (with_reducible refine Kd.C_alloc ?_ _) | (with_reducible refine Kd.C_drewN ?_ _) | (with_reducible refine Kd.C_drew ?_))); (case side2 => exact HC0.out); rintro e w9 ⟨rfl, hb⟩; have n0_ := Aside0.mk (below_step (by repeat (first | (with_reducible first | exact HB.out | apply below_alloc | apply pw_below_drewN | apply below_drew1) | exact HB.out)) hb); clear HB; have HB := n0_; clear n0_; (try clear hb); (try clear hb2); (try clear hk); (try clear hi)))
          repeat (go_quiet (first | (go_at_call 8; (with_reducible refine (locklesslaw17_large.calls k _ _ l0 false _ ?side1 ?side2 A4.out).mono ?_); (case side1 => repeat (first | exact (Kd.C_below HR0.out HB.out) | (with_reducible refine Kd.C_alloc ?_ _) | (with_reducible refine Kd.C_drewN ?_ _) | (with_reducible refine Kd.C_drew ?_))); (case side2 => exact HC0.out); rintro e w' ⟨rfl, ⟨nd, rfl⟩⟩; (try first | exact ⟨rfl, _, World.drewN_drewN _ _ _⟩ | exact ⟨rfl, _, Eq.trans (World.drewN_drewN _ _ _) (congrArg (World.drewN _) (Nat.add_assoc _ _ _))⟩)) | (go_at_call 16; (with_reducible refine (hist_Valid.calls _ _ l0 true _ ?side1 ?side2 A6.out).mono ?_); (case side1 => repeat (first | exact (Kd.C_below HR0.out (by repeat (first | (with_reducible first | exact HB.out | apply below_alloc | apply pw_below_drewN | apply below_drew1) | exact HB.out))) | (with_reducible refine Kd.C_alloc ?_ _) | (with_reducible refine Kd.C_drewN ?_ _) | (with_reducible refine Kd.C_drew ?_))); (case side2 => exact HC0.out); rintro e w9 ⟨rfl, hb⟩; have n0_ := Aside0.mk (below_step (by repeat (first | (with_reducible first | exact HB.out | apply below_alloc | apply pw_below_drewN | apply below_drew1) | exact HB.out)) hb); clear HB; have HB := n0_; clear n0_; (try clear hb); (try clear hb2); (try clear hk); (try clear hi))); try go_wp2_with (first | (go_at_call 8; (with_reducible refine (locklesslaw17_large.calls k _ _ l0 false _ ?side1 ?side2 A4.out).mono ?_); (case side1 => repeat (first | exact (Kd.C_below HR0.out HB.out) | (with_reducible refine Kd.C_alloc ?_ _) | (with_reducible refine Kd.C_drewN ?_ _) | (with_reducible refine Kd.C_drew ?_))); (case side2 => exact HC0.out); rintro e w' ⟨rfl, ⟨nd, rfl⟩⟩; (try first | exact ⟨rfl, _, World.drewN_drewN _ _ _⟩ | exact ⟨rfl, _, Eq.trans (World.drewN_drewN _ _ _) (congrArg (World.drewN _) (Nat.add_assoc _ _ _))⟩)) | (go_at_call 16; (with_reducible refine (hist_Valid.calls _ _ l0 true _ ?side1 ?side2 A6.out).mono ?_); (case side1 => repeat (first | exact (Kd.C_below HR0.out (by repeat (first | (with_reducible first | exact HB.out | apply below_alloc | apply pw_below_drewN | apply below_drew1) | exact HB.out))) | (with_reducible refine Kd.C_alloc ?_ _) | (with_reducible refine Kd.C_drewN ?_ _) | (with_reducible refine Kd.C_drew ?_))); (case side2 => exact HC0.out); rintro e w9 ⟨rfl, hb⟩; have n0_ := Aside0.mk (below_step (by repeat (first | (with_reducible first | exact HB.out | apply below_alloc | apply pw_below_drewN | apply below_drew1) | exact HB.out)) hb); clear HB; have HB := n0_; clear n0_; (try clear hb); (try clear hb2); (try clear hk); (try clear hi))))
          go_meet
          case rel => exact ⟨_, (true), (by first | rfl | (simp; done) | (simp [*]; done)), H', ⟨by first | omega | exact Nat.le_refl _⟩, ⟨by repeat (first | (with_reducible first | exact HB.out | apply below_alloc | apply pw_below_drewN | apply below_drew1) | exact HB.out)⟩⟩
        · rw [if_neg c8] at H
          have c8b0 : decide (a1 < 0) = false := decide_eq_false c8
          clear c8
          (first | rw [c8b0] | (simp only [i64_w, i32_w]; rw [c8b0]) | skip)
          have H' := Aside0.mk H
          clear H
          go_wp2_with (first | (go_at_call 8; (with_reducible refine (locklesslaw17_large.calls k _ _ l0 false _ ?side1 ?side2 A4.out).mono ?_); (case side1 => repeat (first | exact (Kd.C_below HR0.out HB.out) | (with_reducible refine Kd.C_alloc ?_ _) | (with_reducible refine Kd.C_drewN ?_ _) | (with_reducible refine Kd.C_drew ?_))); (case side2 => exact HC0.out); rintro e w' ⟨rfl, ⟨nd, rfl⟩⟩; (try first | exact ⟨rfl, _, World.drewN_drewN _ _ _⟩ | exact ⟨rfl, _, Eq.trans (World.drewN_drewN _ _ _) (congrArg (World.drewN _) (Nat.add_assoc _ _ _))⟩)) | (go_at_call 16; (with_reducible refine (hist_Valid.calls _ _ l0 true _ ?side1 ?side2 A6.out).mono ?_); (case side1 => repeat (first | exact (Kd.C_below HR0.out (by repeat (first | (with_reducible first | exact HB.out | apply below_alloc | apply pw_below_drewN | apply below_drew1) | exact HB.out))) | (with_reducible refine Kd.C_alloc ?_ _) | (with_reducible refine Kd.C_drewN ?_ _) | (with_reducible refine Kd.C_drew ?_))); (case side2 => exact HC0.out); rintro e w10 ⟨rfl, hb⟩; have n0_ := Aside0.mk (below_step (by repeat (first | (with_reducible first | exact HB.out | apply below_alloc | apply pw_below_drewN | apply below_drew1) | exact HB.out)) hb); clear HB; have HB := n0_; clear n0_; (try clear hb); (try clear hb2); (try clear hk); (try clear hi)))
          repeat (go_quiet (first | (go_at_call 8; (with_reducible refine (locklesslaw17_large.calls k _ _ l0 false _ ?side1 ?side2 A4.out).mono ?_); (case side1 => repeat (first | exact (Kd.C_below HR0.out HB.out) | (with_reducible refine Kd.C_alloc ?_ _) | (with_reducible refine Kd.C_drewN ?_ _) | (with_reducible refine Kd.C_drew ?_))); (case side2 => exact HC0.out); rintro e w' ⟨rfl, ⟨nd, rfl⟩⟩; (try first | exact ⟨rfl, _, World.drewN_drewN _ _ _⟩ | exact ⟨rfl, _, Eq.trans (World.drewN_drewN _ _ _) (congrArg (World.drewN _) (Nat.add_assoc _ _ _))⟩)) | (go_at_call 16; (with_reducible refine (hist_Valid.calls _ _ l0 true _ ?side1 ?side2 A6.out).mono ?_); (case side1 => repeat (first | exact (Kd.C_below HR0.out (by repeat (first | (with_reducible first | exact HB.out | apply below_alloc | apply pw_below_drewN | apply below_drew1) | exact HB.out))) | (with_reducible refine Kd.C_alloc ?_ _) | (with_reducible refine Kd.C_drewN ?_ _) | (with_reducible refine Kd.C_drew ?_))); (case side2 => exact HC0.out); rintro e w10 ⟨rfl, hb⟩; have n0_ := Aside0.mk (below_step (by repeat (first | (with_reducible first | exact HB.out | apply below_alloc | apply pw_below_drewN | apply below_drew1) | exact HB.out)) hb); clear HB; have HB := n0_; clear n0_; (try clear hb); (try clear hb2); (try clear hk); (try clear hi))); try go_wp2_with (first | (go_at_call 8; (with_reducible refine (locklesslaw17_large.calls k _ _ l0 false _ ?side1 ?side2 A4.out).mono ?_); (case side1 => repeat (first | exact (Kd.C_below HR0.out HB.out) | (with_reducible refine Kd.C_alloc ?_ _) | (with_reducible refine Kd.C_drewN ?_ _) | (with_reducible refine Kd.C_drew ?_))); (case side2 => exact HC0.out); rintro e w' ⟨rfl, ⟨nd, rfl⟩⟩; (try first | exact ⟨rfl, _, World.drewN_drewN _ _ _⟩ | exact ⟨rfl, _, Eq.trans (World.drewN_drewN _ _ _) (congrArg (World.drewN _) (Nat.add_assoc _ _ _))⟩)) | (go_at_call 16; (with_reducible refine (hist_Valid.calls _ _ l0 true _ ?side1 ?side2 A6.out).mono ?_); (case side1 => repeat (first | exact (Kd.C_below HR0.out (by repeat (first | (with_reducible first | exact HB.out | apply below_alloc | apply pw_below_drewN | apply below_drew1) | exact HB.out))) | (with_reducible refine Kd.C_alloc ?_ _) | (with_reducible refine Kd.C_drewN ?_ _) | (with_reducible refine Kd.C_drew ?_))); (case side2 => exact HC0.out); rintro e w10 ⟨rfl, hb⟩; have n0_ := Aside0.mk (below_step (by repeat (first | (with_reducible first | exact HB.out | apply below_alloc | apply pw_below_drewN | apply below_drew1) | exact HB.out)) hb); clear HB; have HB := n0_; clear n0_; (try clear hb); (try clear hb2); (try clear hk); (try clear hi))))
          go_meet
          case rel => exact ⟨_, (decide (a1 ≥ (wrap64 ((l0.length : Int) - 1)))), (by first | rfl | (simp; done) | (simp [*]; done)), H', ⟨by first | omega | exact Nat.le_refl _⟩, ⟨by repeat (first | (with_reducible first | exact HB.out | apply below_alloc | apply pw_below_drewN | apply below_drew1) | exact HB.out)⟩⟩
      · replace c7 := Bool.eq_false_iff.mpr c7
        subst c7
        have H1 : (locklesslaw17_HistWider.j0 k l0 a1 true) = some r := by rw [if_neg (show ¬ (false = true) by decide)] at H; exact H
        clear H
        have H := H1
        clear H1
        have H' := Aside0.mk H
        clear H
        go_wp2_with (first | (go_at_call 8; (with_reducible refine (locklesslaw17_large.calls k _ _ l0 false _ ?side1 ?side2 A4.out).mono ?_); (case side1 => repeat (first | exact (Kd.C_below HR0.out HB.out) | (with_reducible refine Kd.C_alloc ?_ _) | (with_reducible refine Kd.C_drewN ?_ _) | (with_reducible refine Kd.C_drew ?_))); (case side2 => exact HC0.out); rintro e w' ⟨rfl, ⟨nd, rfl⟩⟩; (try first | exact ⟨rfl, _, World.drewN_drewN _ _ _⟩ | exact ⟨rfl, _, Eq.trans (World.drewN_drewN _ _ _) (congrArg (World.drewN _) (Nat.add_assoc _ _ _))⟩)) | (go_at_call 16; (with_reducible refine (hist_Valid.calls _ _ l0 false _ ?side1 ?side2 A6.out).mono ?_); (case side1 => repeat (first | exact (Kd.C_below HR0.out (by repeat (first | (with_reducible first | exact HB.out | apply below_alloc | apply pw_below_drewN | apply below_drew1) | exact HB.out))) | (with_reducible refine Kd.C_alloc ?_ _) | (with_reducible refine Kd.C_drewN ?_ _) | (with_reducible refine Kd.C_drew ?_))); (case side2 => exact HC0.out); rintro e w11 ⟨rfl, hb⟩; have n0_ := Aside0.mk (below_step (by repeat (first | (with_reducible first | exact HB.out | apply below_alloc | apply pw_below_drewN | apply below_drew1) | exact HB.out)) hb); clear HB; have HB := n0_; clear n0_; (try clear hb); (try clear hb2); (try clear hk); (try clear hi)))
        repeat (go_quiet (first | (go_at_call 8; (with_reducible refine (locklesslaw17_large.calls k _ _ l0 false _ ?side1 ?side2 A4.out).mono ?_); (case side1 => repeat (first | exact (Kd.C_below HR0.out HB.out) | (with_reducible refine Kd.C_alloc ?_ _) | (with_reducible refine Kd.C_drewN ?_ _) | (with_reducible refine Kd.C_drew ?_))); (case side2 => exact HC0.out); rintro e w' ⟨rfl, ⟨nd, rfl⟩⟩; (try first | exact ⟨rfl, _, World.drewN_drewN _ _ _⟩ | exact ⟨rfl, _, Eq.trans (World.drewN_drewN _ _ _) (congrArg (World.drewN _) (Nat.add_assoc _ _ _))⟩)) | (go_at_call 16; (with_reducible refine (hist_Valid.calls _ _ l0 false _ ?side1 ?side2 A6.out).mono ?_); (case side1 => repeat (first | exact (Kd.C_below HR0.out (by repeat (first | (with_reducible first | exact HB.out | apply below_alloc | apply pw_below_drewN | apply below_drew1) | exact HB.out))) | (with_reducible refine Kd.C_alloc ?_ _) | (with_reducible refine Kd.C_drewN ?_ _) | (with_reducible refine Kd.C_drew ?_))); (case side2 => exact HC0.out); rintro e w11 ⟨rfl, hb⟩; have n0_ := Aside0.mk (below_step (by repeat (first | (with_reducible first | exact HB.out | apply below_alloc | apply pw_below_drewN | apply below_drew1) | exact HB.out)) hb); clear HB; have HB := n0_; clear n0_; (try clear hb); (try clear hb2); (try clear hk); (try clear hi))); try go_wp2_with (first | (go_at_call 8; (with_reducible refine (locklesslaw17_large.calls k _ _ l0 false _ ?side1 ?side2 A4.out).mono ?_); (case side1 => repeat (first | exact (Kd.C_below HR0.out HB.out) | (with_reducible refine Kd.C_alloc ?_ _) | (with_reducible refine Kd.C_drewN ?_ _) | (with_reducible refine Kd.C_drew ?_))); (case side2 => exact HC0.out); rintro e w' ⟨rfl, ⟨nd, rfl⟩⟩; (try first | exact ⟨rfl, _, World.drewN_drewN _ _ _⟩ | exact ⟨rfl, _, Eq.trans (World.drewN_drewN _ _ _) (congrArg (World.drewN _) (Nat.add_assoc _ _ _))⟩)) | (go_at_call 16; (with_reducible refine (hist_Valid.calls _ _ l0 false _ ?side1 ?side2 A6.out).mono ?_); (case side1 => repeat (first | exact (Kd.C_below HR0.out (by repeat (first | (with_reducible first | exact HB.out | apply below_alloc | apply pw_below_drewN | apply below_drew1) | exact HB.out))) | (with_reducible refine Kd.C_alloc ?_ _) | (with_reducible refine Kd.C_drewN ?_ _) | (with_reducible refine Kd.C_drew ?_))); (case side2 => exact HC0.out); rintro e w11 ⟨rfl, hb⟩; have n0_ := Aside0.mk (below_step (by repeat (first | (with_reducible first | exact HB.out | apply below_alloc | apply pw_below_drewN | apply below_drew1) | exact HB.out)) hb); clear HB; have HB := n0_; clear n0_; (try clear hb); (try clear hb2); (try clear hk); (try clear hi))))
        go_meet
        case rel => exact ⟨_, (true), (by first | rfl | (simp; done) | (simp [*]; done)), H', ⟨by first | omega | exact Nat.le_refl _⟩, ⟨by repeat (first | (with_reducible first | exact HB.out | apply below_alloc | apply pw_below_drewN | apply below_drew1) | exact HB.out)⟩⟩
  case rest =>
    clear HC3
    try clear p2
    try clear c4
    try clear c5
    try clear p6
    try clear c7
    try clear c8
    try clear c8b0
    obtain ⟨kq, x25_2, rfl, HA, HJ2, HB⟩ := hcut
    cases kq with
    | zero => exact absurd HA.out (by simp [locklesslaw17_HistWider.j0])
    | succ kj2 =>
      have H := HA.out
      clear HA
      simp only [locklesslaw17_HistWider.j0] at H
      by_cases c12 : x25_2 = true
      · subst c12
        have H1 : ((locklesslaw17_sane.f kj2).bind fun t226 => (some t226)) = some r := by rw [if_pos rfl] at H; exact H
        clear H
        have H := H1
        clear H1
        replace H := Option.bind_eq_some_iff.mp H
        obtain ⟨t226, A130, H⟩ := H
        replace H : (some t226) = some r := H
        have A13 := Aside0.mk A130
        clear A130
        obtain rfl := Option.some.inj H
        go_wp2_with (first | (go_at_call 9; (with_reducible refine (locklesslaw17_sane.calls kj2  t226 _ A13.out).mono ?_); rintro e w14 ⟨rfl, hb⟩; have n0_ := Aside0.mk (below_step (by repeat (first | (with_reducible first | exact HB.out | apply below_alloc | apply pw_below_drewN | apply below_drew1) | exact HB.out)) hb); clear HB; have HB := n0_; clear n0_; (try clear hb); (try clear hb2); (try clear hk); (try clear hi)))
        repeat (go_quiet (first | (go_at_call 9; (with_reducible refine (locklesslaw17_sane.calls kj2  t226 _ A13.out).mono ?_); rintro e w14 ⟨rfl, hb⟩; have n0_ := Aside0.mk (below_step (by repeat (first | (with_reducible first | exact HB.out | apply below_alloc | apply pw_below_drewN | apply below_drew1) | exact HB.out)) hb); clear HB; have HB := n0_; clear n0_; (try clear hb); (try clear hb2); (try clear hk); (try clear hi))); try go_wp2_with (first | (go_at_call 9; (with_reducible refine (locklesslaw17_sane.calls kj2  t226 _ A13.out).mono ?_); rintro e w14 ⟨rfl, hb⟩; have n0_ := Aside0.mk (below_step (by repeat (first | (with_reducible first | exact HB.out | apply below_alloc | apply pw_below_drewN | apply below_drew1) | exact HB.out)) hb); clear HB; have HB := n0_; clear n0_; (try clear hb); (try clear hb2); (try clear hk); (try clear hi))))
        go_ret
        exact ⟨by first | rfl | (simp [errW_none, errW_some] <;> rfl) | (simp [*, errW_none, errW_some] <;> rfl), by repeat (first | (with_reducible first | exact HB.out | apply below_alloc | apply pw_below_drewN | apply below_drew1) | exact HB.out)⟩
      · replace c12 := Bool.eq_false_iff.mpr c12
        subst c12
        have H1 : (if 0 ≤ a1 then (if a1 < (l0.length : Int) then (if ((rd_T37 l0 a1).f2 = true) then (if 0 ≤ (wrap64 (a1 + 1)) then (if (wrap64 (a1 + 1)) < (l0.length : Int) then (if (rd_T37 l0 (wrap64 (a1 + 1))).f2 = true then (locklesslaw17_HistWider.j1 kj2 l0 a1 true) else (locklesslaw17_HistWider.j1 kj2 l0 a1 (((rd_T37 l0 a1).f0) == ((rd_T37 l0 (wrap64 (a1 + 1))).f0)))) else (none)) else (none)) else (locklesslaw17_HistWider.j1 kj2 l0 a1 true)) else (none)) else (none)) = some r := by rw [if_neg (show ¬ (false = true) by decide)] at H; exact H
        clear H
        have H := H1
        clear H1
        have HC15 := Aside0.mk H
        clear H
        go_upto_region 3 with (fail)
        repeat (go_quiet (fail); go_upto_region 3 with (fail))
        go_cut [54] (fun v54 wc => ∃ (kq : Nat) (x54_14 : Bool), v54 = .bool x54_14 ∧ Aside0 (locklesslaw17_HistWider.j1 kq l0 a1 x54_14 = some r) ∧ Aside0 (kq ≤ kj2) ∧ Aside0 (Below w.heap.size w wc))
        case first =>
          have H := HC15.out
          clear HC15
          by_cases c16 : 0 ≤ a1
          · rw [if_pos c16] at H
            have c16b0 : decide (0 ≤ a1) = true := decide_eq_true c16
            clear c16
            (first | rw [c16b0] | (simp only [i64_w, i32_w]; rw [c16b0]) | skip)
            by_cases c17 : a1 < (l0.length : Int)
            · rw [if_pos c17] at H
              have c17b0 : decide (a1 < (l0.length : Int)) = true := decide_eq_true c17
              clear c17
              obtain ⟨bq18, hbq18⟩ : ∃ b_ : Bool, b_ = ((rd_T37 l0 a1).f2) := ⟨_, rfl⟩
              replace H : (if (bq18 = true) then (if 0 ≤ (wrap64 (a1 + 1)) then (if (wrap64 (a1 + 1)) < (l0.length : Int) then (if (rd_T37 l0 (wrap64 (a1 + 1))).f2 = true then (locklesslaw17_HistWider.j1 kj2 l0 a1 true) else (locklesslaw17_HistWider.j1 kj2 l0 a1 (((rd_T37 l0 a1).f0) == ((rd_T37 l0 (wrap64 (a1 + 1))).f0)))) else (none)) else (none)) else (locklesslaw17_HistWider.j1 kj2 l0 a1 true)) = some r := by rw [← hbq18] at H; exact H
              have Nbq18 := Aside0.mk hbq18
              clear hbq18
              by_cases c19 : (bq18 = true)
              · subst c19
                have H1 : (if 0 ≤ (wrap64 (a1 + 1)) then (if (wrap64 (a1 + 1)) < (l0.length : Int) then (if (rd_T37 l0 (wrap64 (a1 + 1))).f2 = true then (locklesslaw17_HistWider.j1 kj2 l0 a1 true) else (locklesslaw17_HistWider.j1 kj2 l0 a1 (((rd_T37 l0 a1).f0) == ((rd_T37 l0 (wrap64 (a1 + 1))).f0)))) else (none)) else (none)) = some r := by rw [if_pos rfl] at H; exact H
                clear H
                have H := H1
                clear H1
                obtain ⟨ji20, hji20⟩ : ∃ j_ : Int, (wrap64 (a1 + 1)) = j_ := ⟨_, rfl⟩
                replace H : (if 0 ≤ (ji20) then (if (ji20) < (l0.length : Int) then (if (rd_T37 l0 (ji20)).f2 = true then (locklesslaw17_HistWider.j1 kj2 l0 a1 true) else (locklesslaw17_HistWider.j1 kj2 l0 a1 (((rd_T37 l0 a1).f0) == ((rd_T37 l0 (ji20)).f0)))) else (none)) else (none)) = some r := by first | (rw [hji20] at H; exact H) | (simp only [hji20] at H ⊢; exact H)
                have hji20w : (IntKind.i64.wrap (a1 + 1)) = ji20 := (i64_w _).trans hji20
                by_cases c21 : 0 ≤ (ji20)
                · rw [if_pos c21] at H
                  have c21b0 : decide (0 ≤ (ji20)) = true := decide_eq_true c21
                  clear c21
                  by_cases c22 : (ji20) < (l0.length : Int)
                  · rw [if_pos c22] at H
                    have c22b0 : decide ((ji20) < (l0.length : Int)) = true := decide_eq_true c22
                    clear c22
                    obtain ⟨bq23, hbq23⟩ : ∃ b_ : Bool, b_ = ((rd_T37 l0 (ji20)).f2) := ⟨_, rfl⟩
                    replace H : (if bq23 = true then (locklesslaw17_HistWider.j1 kj2 l0 a1 true) else (locklesslaw17_HistWider.j1 kj2 l0 a1 (((rd_T37 l0 a1).f0) == ((rd_T37 l0 (ji20)).f0)))) = some r := by rw [← hbq23] at H; exact H
                    have Nbq23 := Aside0.mk hbq23
                    clear hbq23
                    by_cases c24 : bq23 = true
                    · subst c24
                      have H1 : (locklesslaw17_HistWider.j1 kj2 l0 a1 true) = some r := by rw [if_pos rfl] at H; exact H
                      clear H
                      have H := H1
                      clear H1
                      have H' := Aside0.mk H
                      clear H
                      have p227 : 0 ≤ (a1 : Int) := of_decide_eq_true (by first | (with_reducible assumption) | assumption)
                      have q227 : a1 < (l0.length : Int) := of_decide_eq_true (by first | (with_reducible assumption) | assumption)
                      obtain ⟨ad227, e227, hx227_0, hx227_1, hx227_2, hx227_3, hx227_4, hx227_5, hx227_6⟩ := at_T37 HR0.out a1 p227 q227
                      (try rw [← Nbq18.out] at hx227_2)
                      (try rw [← Nbq23.out] at hx227_2)
                      cases e227
                      replace hx227_0 := (HB.out.cell (World.block_lt_of_cell? w _ hx227_0)).trans hx227_0
                      replace hx227_1 := (HB.out.cell (World.block_lt_of_cell? w _ hx227_1)).trans hx227_1
                      replace hx227_2 := (HB.out.cell (World.block_lt_of_cell? w _ hx227_2)).trans hx227_2
                      replace hx227_3 := (HB.out.cell (World.block_lt_of_cell? w _ hx227_3)).trans hx227_3
                      replace hx227_4 := (HB.out.cell (World.block_lt_of_cell? w _ hx227_4)).trans hx227_4
                      replace hx227_5 := (HB.out.cell (World.block_lt_of_cell? w _ hx227_5)).trans hx227_5
                      replace hx227_6 := (HB.out.cell (World.block_lt_of_cell? w _ hx227_6)).trans hx227_6
                      replace p227 := eq_true p227
                      replace q227 := eq_true q227
                      have p228 : 0 ≤ ((ji20) : Int) := of_decide_eq_true (by first | (with_reducible assumption) | assumption)
                      have q228 : (ji20) < (l0.length : Int) := of_decide_eq_true (by first | (with_reducible assumption) | assumption)
                      obtain ⟨ad228, e228, hx228_0, hx228_1, hx228_2, hx228_3, hx228_4, hx228_5, hx228_6⟩ := at_T37 HR0.out (ji20) p228 q228
                      (try rw [← Nbq18.out] at hx228_2)
                      (try rw [← Nbq23.out] at hx228_2)
                      obtain rfl : ad227 = ad228 := (by injection e228)
                      replace hx228_0 := (HB.out.cell (World.block_lt_of_cell? w _ hx228_0)).trans hx228_0
                      replace hx228_1 := (HB.out.cell (World.block_lt_of_cell? w _ hx228_1)).trans hx228_1
                      replace hx228_2 := (HB.out.cell (World.block_lt_of_cell? w _ hx228_2)).trans hx228_2
                      replace hx228_3 := (HB.out.cell (World.block_lt_of_cell? w _ hx228_3)).trans hx228_3
                      replace hx228_4 := (HB.out.cell (World.block_lt_of_cell? w _ hx228_4)).trans hx228_4
                      replace hx228_5 := (HB.out.cell (World.block_lt_of_cell? w _ hx228_5)).trans hx228_5
                      replace hx228_6 := (HB.out.cell (World.block_lt_of_cell? w _ hx228_6)).trans hx228_6
                      replace p228 := eq_true p228
                      replace q228 := eq_true q228
                      go_wp2
                      repeat (go_quiet (fail); try go_wp2)
                      go_meet
                      case rel => exact ⟨_, (true), (by first | rfl | (simp; done) | (simp [*]; done)), H', ⟨by have := HJ2.out; first | omega | exact Nat.le_refl _⟩, ⟨by repeat (first | (with_reducible first | exact HB.out | apply below_alloc | apply pw_below_drewN | apply below_drew1) | exact HB.out)⟩⟩
                    · replace c24 := Bool.eq_false_iff.mpr c24
                      subst c24
                      have H1 : (locklesslaw17_HistWider.j1 kj2 l0 a1 (((rd_T37 l0 a1).f0) == ((rd_T37 l0 (ji20)).f0))) = some r := by rw [if_neg (show ¬ (false = true) by decide)] at H; exact H
                      clear H
                      have H := H1
                      clear H1
                      have H' := Aside0.mk H
                      clear H
                      have p227 : 0 ≤ (a1 : Int) := of_decide_eq_true (by first | (with_reducible assumption) | assumption)
                      have q227 : a1 < (l0.length : Int) := of_decide_eq_true (by first | (with_reducible assumption) | assumption)
                      obtain ⟨ad227, e227, hx227_0, hx227_1, hx227_2, hx227_3, hx227_4, hx227_5, hx227_6⟩ := at_T37 HR0.out a1 p227 q227
                      (try rw [← Nbq18.out] at hx227_2)
                      (try rw [← Nbq23.out] at hx227_2)
                      cases e227
                      replace hx227_0 := (HB.out.cell (World.block_lt_of_cell? w _ hx227_0)).trans hx227_0
                      replace hx227_1 := (HB.out.cell (World.block_lt_of_cell? w _ hx227_1)).trans hx227_1
                      replace hx227_2 := (HB.out.cell (World.block_lt_of_cell? w _ hx227_2)).trans hx227_2
                      replace hx227_3 := (HB.out.cell (World.block_lt_of_cell? w _ hx227_3)).trans hx227_3
                      replace hx227_4 := (HB.out.cell (World.block_lt_of_cell? w _ hx227_4)).trans hx227_4
                      replace hx227_5 := (HB.out.cell (World.block_lt_of_cell? w _ hx227_5)).trans hx227_5
                      replace hx227_6 := (HB.out.cell (World.block_lt_of_cell? w _ hx227_6)).trans hx227_6
                      replace p227 := eq_true p227
                      replace q227 := eq_true q227
                      have p228 : 0 ≤ ((ji20) : Int) := of_decide_eq_true (by first | (with_reducible assumption) | assumption)
                      have q228 : (ji20) < (l0.length : Int) := of_decide_eq_true (by first | (with_reducible assumption) | assumption)
                      obtain ⟨ad228, e228, hx228_0, hx228_1, hx228_2, hx228_3, hx228_4, hx228_5, hx228_6⟩ := at_T37 HR0.out (ji20) p228 q228
                      (try rw [← Nbq18.out] at hx228_2)
                      (try rw [← Nbq23.out] at hx228_2)
                      obtain rfl : ad227 = ad228 := (by injection e228)
                      replace hx228_0 := (HB.out.cell (World.block_lt_of_cell? w _ hx228_0)).trans hx228_0
                      replace hx228_1 := (HB.out.cell (World.block_lt_of_cell? w _ hx228_1)).trans hx228_1
                      replace hx228_2 := (HB.out.cell (World.block_lt_of_cell? w _ hx228_2)).trans hx228_2
                      replace hx228_3 := (HB.out.cell (World.block_lt_of_cell? w _ hx228_3)).trans hx228_3
                      replace hx228_4 := (HB.out.cell (World.block_lt_of_cell? w _ hx228_4)).trans hx228_4
                      replace hx228_5 := (HB.out.cell (World.block_lt_of_cell? w _ hx228_5)).trans hx228_5
                      replace hx228_6 := (HB.out.cell (World.block_lt_of_cell? w _ hx228_6)).trans hx228_6
                      replace p228 := eq_true p228
                      replace q228 := eq_true q228
                      have p229 : 0 ≤ (a1 : Int) := of_decide_eq_true (by first | (with_reducible assumption) | assumption)
                      have q229 : a1 < (l0.length : Int) := of_decide_eq_true (by first | (with_reducible assumption) | assumption)
                      obtain ⟨ad229, e229, hx229_0, hx229_1, hx229_2, hx229_3, hx229_4, hx229_5, hx229_6⟩ := at_T37 HR0.out a1 p229 q229
                      (try rw [← Nbq18.out] at hx229_2)
                      (try rw [← Nbq23.out] at hx229_2)
                      obtain rfl : ad227 = ad229 := (by injection e229)
                      replace hx229_0 := (HB.out.cell (World.block_lt_of_cell? w _ hx229_0)).trans hx229_0
                      replace hx229_1 := (HB.out.cell (World.block_lt_of_cell? w _ hx229_1)).trans hx229_1
                      replace hx229_2 := (HB.out.cell (World.block_lt_of_cell? w _ hx229_2)).trans hx229_2
                      replace hx229_3 := (HB.out.cell (World.block_lt_of_cell? w _ hx229_3)).trans hx229_3
                      replace hx229_4 := (HB.out.cell (World.block_lt_of_cell? w _ hx229_4)).trans hx229_4
                      replace hx229_5 := (HB.out.cell (World.block_lt_of_cell? w _ hx229_5)).trans hx229_5
                      replace hx229_6 := (HB.out.cell (World.block_lt_of_cell? w _ hx229_6)).trans hx229_6
                      replace p229 := eq_true p229
                      replace q229 := eq_true q229
                      have p230 : 0 ≤ ((ji20) : Int) := of_decide_eq_true (by first | (with_reducible assumption) | assumption)
                      have q230 : (ji20) < (l0.length : Int) := of_decide_eq_true (by first | (with_reducible assumption) | assumption)
                      obtain ⟨ad230, e230, hx230_0, hx230_1, hx230_2, hx230_3, hx230_4, hx230_5, hx230_6⟩ := at_T37 HR0.out (ji20) p230 q230
                      (try rw [← Nbq18.out] at hx230_2)
                      (try rw [← Nbq23.out] at hx230_2)
                      obtain rfl : ad227 = ad230 := (by injection e230)
                      replace hx230_0 := (HB.out.cell (World.block_lt_of_cell? w _ hx230_0)).trans hx230_0
                      replace hx230_1 := (HB.out.cell (World.block_lt_of_cell? w _ hx230_1)).trans hx230_1
                      replace hx230_2 := (HB.out.cell (World.block_lt_of_cell? w _ hx230_2)).trans hx230_2
                      replace hx230_3 := (HB.out.cell (World.block_lt_of_cell? w _ hx230_3)).trans hx230_3
                      replace hx230_4 := (HB.out.cell (World.block_lt_of_cell? w _ hx230_4)).trans hx230_4
                      replace hx230_5 := (HB.out.cell (World.block_lt_of_cell? w _ hx230_5)).trans hx230_5
                      replace hx230_6 := (HB.out.cell (World.block_lt_of_cell? w _ hx230_6)).trans hx230_6
                      replace p230 := eq_true p230
                      replace q230 := eq_true q230
                      go_wp2
                      repeat (go_quiet (fail); try go_wp2)
                      go_meet
                      case rel => exact ⟨_, ((((rd_T37 l0 a1).f0) == ((rd_T37 l0 (ji20)).f0))), (by first | rfl | (simp; done) | (simp only [← hji20] <;> (first | rfl | simp)) | (simp [*]; done)), H', ⟨by have := HJ2.out; first | omega | exact Nat.le_refl _⟩, ⟨by repeat (first | (with_reducible first | exact HB.out | apply below_alloc | apply pw_below_drewN | apply below_drew1) | exact HB.out)⟩⟩
                  · rw [if_neg c22] at H
                    exact absurd H (by simp)
                · rw [if_neg c21] at H
                  exact absurd H (by simp)
              · replace c19 := Bool.eq_false_iff.mpr c19
                subst c19
                have H1 : (locklesslaw17_HistWider.j1 kj2 l0 a1 true) = some r := by rw [if_neg (show ¬ (false = true) by decide)] at H; exact H
                clear H
                have H := H1
                clear H1
                have H' := Aside0.mk H
                clear H
                have p227 : 0 ≤ (a1 : Int) := of_decide_eq_true (by first | (with_reducible assumption) | assumption)
                have q227 : a1 < (l0.length : Int) := of_decide_eq_true (by first | (with_reducible assumption) | assumption)
                obtain ⟨ad227, e227, hx227_0, hx227_1, hx227_2, hx227_3, hx227_4, hx227_5, hx227_6⟩ := at_T37 HR0.out a1 p227 q227
                (try rw [← Nbq18.out] at hx227_2)
                cases e227
                replace hx227_0 := (HB.out.cell (World.block_lt_of_cell? w _ hx227_0)).trans hx227_0
                replace hx227_1 := (HB.out.cell (World.block_lt_of_cell? w _ hx227_1)).trans hx227_1
                replace hx227_2 := (HB.out.cell (World.block_lt_of_cell? w _ hx227_2)).trans hx227_2
                replace hx227_3 := (HB.out.cell (World.block_lt_of_cell? w _ hx227_3)).trans hx227_3
                replace hx227_4 := (HB.out.cell (World.block_lt_of_cell? w _ hx227_4)).trans hx227_4
                replace hx227_5 := (HB.out.cell (World.block_lt_of_cell? w _ hx227_5)).trans hx227_5
                replace hx227_6 := (HB.out.cell (World.block_lt_of_cell? w _ hx227_6)).trans hx227_6
                replace p227 := eq_true p227
                replace q227 := eq_true q227
                go_wp2
                repeat (go_quiet (fail); try go_wp2)
                go_meet
                case rel => exact ⟨_, (true), (by first | rfl | (simp; done) | (simp [*]; done)), H', ⟨by have := HJ2.out; first | omega | exact Nat.le_refl _⟩, ⟨by repeat (first | (with_reducible first | exact HB.out | apply below_alloc | apply pw_below_drewN | apply below_drew1) | exact HB.out)⟩⟩
            · rw [if_neg c17] at H
              exact absurd H (by simp)
          · rw [if_neg c16] at H
            exact absurd H (by simp)
        case rest =>
          clear HC15
          try clear c1
          try clear q1
          try clear c2
          try clear p2
          try clear q2
          try clear hx2
          try clear c4
          try clear c5
          try clear p6
          try clear c7
          try clear c8
          try clear c8b0
          try clear c12
          try clear c16
          try clear c16b0
          try clear c17
          try clear c17b0
          try clear q18
          try clear c19
          try clear c21
          try clear c21b0
          try clear c22
          try clear c22b0
          try clear p22
          try clear q22
          try clear hx22
          try clear p23
          try clear q23
          try clear hx23
          try clear c24
          try clear hx227_0
          try clear hx227_1
          try clear hx227_2
          try clear hx227_3
          try clear hx227_4
          try clear hx227_5
          try clear hx227_6
          try clear hx228_0
          try clear hx228_1
          try clear hx228_2
          try clear hx228_3
          try clear hx228_4
          try clear hx228_5
          try clear hx228_6
          try clear hx229_0
          try clear hx229_1
          try clear hx229_2
          try clear hx229_3
          try clear hx229_4
          try clear hx229_5
          try clear hx229_6
          try clear hx230_0
          try clear hx230_1
          try clear hx230_2
          try clear hx230_3
          try clear hx230_4
          try clear hx230_5
          try clear hx230_6
          try clear p2
          try clear p227
          try clear p228
          try clear p229
          try clear p230
          try clear p6
          try clear q227
          try clear q228
          try clear q229
          try clear q230
          obtain ⟨kq, x54_14, rfl, HA, HJ14, HB⟩ := hcut
          cases kq with
          | zero => exact absurd HA.out (by simp [locklesslaw17_HistWider.j1])
          | succ kj14 =>
            have H := HA.out
            clear HA
            simp only [locklesslaw17_HistWider.j1] at H
            by_cases c25 : x54_14 = true
            · subst c25
              have H1 : ((locklesslaw17_sane.f kj14).bind fun t231 => (some t231)) = some r := by rw [if_pos rfl] at H; exact H
              clear H
              have H := H1
              clear H1
              replace H := Option.bind_eq_some_iff.mp H
              obtain ⟨t231, A260, H⟩ := H
              replace H : (some t231) = some r := H
              have A26 := Aside0.mk A260
              clear A260
              obtain rfl := Option.some.inj H
              go_wp2_with (first | (go_at_call 9; (with_reducible refine (locklesslaw17_sane.calls kj14  t231 _ A26.out).mono ?_); rintro e w27 ⟨rfl, hb⟩; have n0_ := Aside0.mk (below_step (by repeat (first | (with_reducible first | exact HB.out | apply below_alloc | apply pw_below_drewN | apply below_drew1) | exact HB.out)) hb); clear HB; have HB := n0_; clear n0_; (try clear hb); (try clear hb2); (try clear hk); (try clear hi)))
              repeat (go_quiet (first | (go_at_call 9; (with_reducible refine (locklesslaw17_sane.calls kj14  t231 _ A26.out).mono ?_); rintro e w27 ⟨rfl, hb⟩; have n0_ := Aside0.mk (below_step (by repeat (first | (with_reducible first | exact HB.out | apply below_alloc | apply pw_below_drewN | apply below_drew1) | exact HB.out)) hb); clear HB; have HB := n0_; clear n0_; (try clear hb); (try clear hb2); (try clear hk); (try clear hi))); try go_wp2_with (first | (go_at_call 9; (with_reducible refine (locklesslaw17_sane.calls kj14  t231 _ A26.out).mono ?_); rintro e w27 ⟨rfl, hb⟩; have n0_ := Aside0.mk (below_step (by repeat (first | (with_reducible first | exact HB.out | apply below_alloc | apply pw_below_drewN | apply below_drew1) | exact HB.out)) hb); clear HB; have HB := n0_; clear n0_; (try clear hb); (try clear hb2); (try clear hk); (try clear hi))))
              go_ret
              exact ⟨by first | rfl | (simp [errW_none, errW_some] <;> rfl) | (simp [*, errW_none, errW_some] <;> rfl), by repeat (first | (with_reducible first | exact HB.out | apply below_alloc | apply pw_below_drewN | apply below_drew1) | exact HB.out)⟩
            · replace c25 := Bool.eq_false_iff.mpr c25
              subst c25
              have H1 : ((locklesslaw17_own.f l0).bind fun t232 => (if 0 ≤ (wrap64 (a1 + 1)) then (if (wrap64 (a1 + 1)) < (l0.length : Int) then (if 0 ≤ a1 then (if a1 < (t232.length : Int) then (if a1 < (l0.length : Int) then (if (wrap64 (a1 + 1)) < (t232.length : Int) then ((some ((t232.set (a1 : Int).toNat (⟨(rd_T37 l0 (wrap64 (a1 + 1))).f0, (rd_T37 l0 (wrap64 (a1 + 1))).f1, (rd_T37 l0 (wrap64 (a1 + 1))).f2, (⟨(rd_T37 l0 (wrap64 (a1 + 1))).f3.f0, (rd_T37 l0 (wrap64 (a1 + 1))).f3.f1, (rd_T37 l0 (wrap64 (a1 + 1))).f3.f2⟩ : S35), (rd_T37 l0 (wrap64 (a1 + 1))).f4⟩ : S37)).set ((wrap64 (a1 + 1)) : Int).toNat (⟨(rd_T37 l0 a1).f0, (rd_T37 l0 a1).f1, (rd_T37 l0 a1).f2, (⟨(rd_T37 l0 a1).f3.f0, (rd_T37 l0 a1).f3.f1, (rd_T37 l0 a1).f3.f2⟩ : S35), (rd_T37 l0 a1).f4⟩ : S37) : List (S37))).bind fun y238 => ((hist_Wider.f y238 l0).bind fun bt239 => ((hist_Valid.f y238).bind fun t241 => (if t241 = true then (if bt239.1 = true then (if bt239.2 = 0 then ((locklesslaw17_sane.f kj14).bind fun t242 => (locklesslaw17_HistWider.j2 kj14 t242)) else (locklesslaw17_HistWider.j2 kj14 false)) else (locklesslaw17_HistWider.j2 kj14 false)) else (locklesslaw17_HistWider.j2 kj14 false))))) else (none)) else (none)) else (none)) else (none)) else (none)) else (none))) = some r := by rw [if_neg (show ¬ (false = true) by decide)] at H; exact H
              clear H
              have H := H1
              clear H1
              replace H := Option.bind_eq_some_iff.mp H
              obtain ⟨t232, A280, H⟩ := H
              replace H : (if 0 ≤ (wrap64 (a1 + 1)) then (if (wrap64 (a1 + 1)) < (l0.length : Int) then (if 0 ≤ a1 then (if a1 < (t232.length : Int) then (if a1 < (l0.length : Int) then (if (wrap64 (a1 + 1)) < (t232.length : Int) then ((some ((t232.set (a1 : Int).toNat (⟨(rd_T37 l0 (wrap64 (a1 + 1))).f0, (rd_T37 l0 (wrap64 (a1 + 1))).f1, (rd_T37 l0 (wrap64 (a1 + 1))).f2, (⟨(rd_T37 l0 (wrap64 (a1 + 1))).f3.f0, (rd_T37 l0 (wrap64 (a1 + 1))).f3.f1, (rd_T37 l0 (wrap64 (a1 + 1))).f3.f2⟩ : S35), (rd_T37 l0 (wrap64 (a1 + 1))).f4⟩ : S37)).set ((wrap64 (a1 + 1)) : Int).toNat (⟨(rd_T37 l0 a1).f0, (rd_T37 l0 a1).f1, (rd_T37 l0 a1).f2, (⟨(rd_T37 l0 a1).f3.f0, (rd_T37 l0 a1).f3.f1, (rd_T37 l0 a1).f3.f2⟩ : S35), (rd_T37 l0 a1).f4⟩ : S37) : List (S37))).bind fun y238 => ((hist_Wider.f y238 l0).bind fun bt239 => ((hist_Valid.f y238).bind fun t241 => (if t241 = true then (if bt239.1 = true then (if bt239.2 = 0 then ((locklesslaw17_sane.f kj14).bind fun t242 => (locklesslaw17_HistWider.j2 kj14 t242)) else (locklesslaw17_HistWider.j2 kj14 false)) else (locklesslaw17_HistWider.j2 kj14 false)) else (locklesslaw17_HistWider.j2 kj14 false))))) else (none)) else (none)) else (none)) else (none)) else (none)) else (none)) = some r := H
              have A28 := Aside0.mk A280
              clear A280
              obtain ⟨ji29, hji29⟩ : ∃ j_ : Int, (wrap64 (a1 + 1)) = j_ := ⟨_, rfl⟩
              replace H : (if 0 ≤ (ji29) then (if (ji29) < (l0.length : Int) then (if 0 ≤ a1 then (if a1 < (t232.length : Int) then (if a1 < (l0.length : Int) then (if (ji29) < (t232.length : Int) then ((some ((t232.set (a1 : Int).toNat (⟨(rd_T37 l0 (ji29)).f0, (rd_T37 l0 (ji29)).f1, (rd_T37 l0 (ji29)).f2, (⟨(rd_T37 l0 (ji29)).f3.f0, (rd_T37 l0 (ji29)).f3.f1, (rd_T37 l0 (ji29)).f3.f2⟩ : S35), (rd_T37 l0 (ji29)).f4⟩ : S37)).set ((ji29) : Int).toNat (⟨(rd_T37 l0 a1).f0, (rd_T37 l0 a1).f1, (rd_T37 l0 a1).f2, (⟨(rd_T37 l0 a1).f3.f0, (rd_T37 l0 a1).f3.f1, (rd_T37 l0 a1).f3.f2⟩ : S35), (rd_T37 l0 a1).f4⟩ : S37) : List (S37))).bind fun y238 => ((hist_Wider.f y238 l0).bind fun bt239 => ((hist_Valid.f y238).bind fun t241 => (if t241 = true then (if bt239.1 = true then (if bt239.2 = 0 then ((locklesslaw17_sane.f kj14).bind fun t242 => (locklesslaw17_HistWider.j2 kj14 t242)) else (locklesslaw17_HistWider.j2 kj14 false)) else (locklesslaw17_HistWider.j2 kj14 false)) else (locklesslaw17_HistWider.j2 kj14 false))))) else (none)) else (none)) else (none)) else (none)) else (none)) else (none)) = some r := by first | (rw [hji29] at H; exact H) | (simp only [hji29] at H ⊢; exact H)
              (try rw [hji29] at A28)
              have hji29w : (IntKind.i64.wrap (a1 + 1)) = ji29 := (i64_w _).trans hji29
              by_cases c30 : 0 ≤ (ji29)
              · rw [if_pos c30] at H
                have c30b0 : decide (0 ≤ (ji29)) = true := decide_eq_true c30
                clear c30
                by_cases c31 : (ji29) < (l0.length : Int)
                · rw [if_pos c31] at H
                  have c31b0 : decide ((ji29) < (l0.length : Int)) = true := decide_eq_true c31
                  clear c31
                  by_cases c32 : 0 ≤ a1
                  · rw [if_pos c32] at H
                    have c32b0 : decide (0 ≤ a1) = true := decide_eq_true c32
                    clear c32
                    by_cases c33 : a1 < (t232.length : Int)
                    · rw [if_pos c33] at H
                      have c33b0 : decide (a1 < (t232.length : Int)) = true := decide_eq_true c33
                      clear c33
                      obtain ⟨y236, hy236⟩ : ∃ y_ : List (S37), y_ = (t232.set (a1 : Int).toNat (⟨(rd_T37 l0 (ji29)).f0, (rd_T37 l0 (ji29)).f1, (rd_T37 l0 (ji29)).f2, (⟨(rd_T37 l0 (ji29)).f3.f0, (rd_T37 l0 (ji29)).f3.f1, (rd_T37 l0 (ji29)).f3.f2⟩ : S35), (rd_T37 l0 (ji29)).f4⟩ : S37)) := ⟨_, rfl⟩
                      replace H : (if a1 < (l0.length : Int) then (if (ji29) < (t232.length : Int) then ((some (y236.set ((ji29) : Int).toNat (⟨(rd_T37 l0 a1).f0, (rd_T37 l0 a1).f1, (rd_T37 l0 a1).f2, (⟨(rd_T37 l0 a1).f3.f0, (rd_T37 l0 a1).f3.f1, (rd_T37 l0 a1).f3.f2⟩ : S35), (rd_T37 l0 a1).f4⟩ : S37) : List (S37))).bind fun y238 => ((hist_Wider.f y238 l0).bind fun bt239 => ((hist_Valid.f y238).bind fun t241 => (if t241 = true then (if bt239.1 = true then (if bt239.2 = 0 then ((locklesslaw17_sane.f kj14).bind fun t242 => (locklesslaw17_HistWider.j2 kj14 t242)) else (locklesslaw17_HistWider.j2 kj14 false)) else (locklesslaw17_HistWider.j2 kj14 false)) else (locklesslaw17_HistWider.j2 kj14 false))))) else (none)) else (none)) = some r := by first | (rw [hy236]; with_reducible exact H) | (have H2_ := (Option.bind_some _ _).symm.trans H; rw [hy236]; with_reducible exact H2_) | (have H2_ := (Option.bind_some _ _).symm.trans H; with_reducible exact H2_) | with_reducible exact H | (rw [hy236]; exact H) | exact H
                      have Ny236 := Aside0.mk hy236
                      clear hy236
                      by_cases c35 : a1 < (l0.length : Int)
                      · rw [if_pos c35] at H
                        have c35b0 : decide (a1 < (l0.length : Int)) = true := decide_eq_true c35
                        clear c35
                        by_cases c36 : (ji29) < (t232.length : Int)
                        · rw [if_pos c36] at H
                          have c36b0 : decide ((ji29) < (t232.length : Int)) = true := decide_eq_true c36
                          clear c36
                          obtain ⟨y238, hy238⟩ : ∃ y_ : List (S37), y_ = (y236.set ((ji29) : Int).toNat (⟨(rd_T37 l0 a1).f0, (rd_T37 l0 a1).f1, (rd_T37 l0 a1).f2, (⟨(rd_T37 l0 a1).f3.f0, (rd_T37 l0 a1).f3.f1, (rd_T37 l0 a1).f3.f2⟩ : S35), (rd_T37 l0 a1).f4⟩ : S37)) := ⟨_, rfl⟩
                          replace H : ((hist_Wider.f y238 l0).bind fun bt239 => ((hist_Valid.f y238).bind fun t241 => (if t241 = true then (if bt239.1 = true then (if bt239.2 = 0 then ((locklesslaw17_sane.f kj14).bind fun t242 => (locklesslaw17_HistWider.j2 kj14 t242)) else (locklesslaw17_HistWider.j2 kj14 false)) else (locklesslaw17_HistWider.j2 kj14 false)) else (locklesslaw17_HistWider.j2 kj14 false)))) = some r := by first | (rw [hy238]; with_reducible exact H) | (have H2_ := (Option.bind_some _ _).symm.trans H; rw [hy238]; with_reducible exact H2_) | (have H2_ := (Option.bind_some _ _).symm.trans H; with_reducible exact H2_) | with_reducible exact H | (rw [hy238]; exact H) | exact H
                          have Ny238 := Aside0.mk hy238
                          clear hy238
                          replace H := Option.bind_eq_some_iff.mp H
                          obtain ⟨⟨t239, t240⟩, A380, H⟩ := H
                          replace H : ((hist_Valid.f y238).bind fun t241 => (if t241 = true then (if t239 = true then (if t240 = 0 then ((locklesslaw17_sane.f kj14).bind fun t242 => (locklesslaw17_HistWider.j2 kj14 t242)) else (locklesslaw17_HistWider.j2 kj14 false)) else (locklesslaw17_HistWider.j2 kj14 false)) else (locklesslaw17_HistWider.j2 kj14 false))) = some r := H
                          have A38 := Aside0.mk A380
                          clear A380
                          have HC39 := Aside0.mk H
                          clear H
                          go_upto_region 9 with (first | (go_at_call 17; (with_reducible refine (locklesslaw17_own.calls _ _ l0 t232 _ ?side1 ?side2 A28.out).mono ?_); (case side1 => repeat (first | exact (Kd.C_below HR0.out HB.out) | (with_reducible refine Kd.C_alloc ?_ _) | (with_reducible refine Kd.C_drewN ?_ _) | (with_reducible refine Kd.C_drew ?_))); (case side2 => exact HC0.out); rintro e w40 ⟨v233, rfl, ho0, hb⟩; have n0_ := Aside0.mk (Kd.R_lower ho0 (below_size (by repeat (first | (with_reducible first | exact HB.out | apply below_alloc | apply pw_below_drewN | apply below_drew1) | exact HB.out)))); have n1_ := Aside0.mk (below_step (by repeat (first | (with_reducible first | exact HB.out | apply below_alloc | apply pw_below_drewN | apply below_drew1) | exact HB.out)) hb); clear HB; have HO234 := n0_; have HB := n1_; clear n0_ n1_; (try clear hb); (try clear hb2); (try clear hk); (try clear hi); (try clear ho0); have p235 : 0 ≤ ((ji29) : Int) := of_decide_eq_true (by first | (with_reducible assumption) | assumption); have q235 : (ji29) < (l0.length : Int) := of_decide_eq_true (by first | (with_reducible assumption) | assumption); obtain ⟨ad235, e235, hx235_0, hx235_1, hx235_2, hx235_3, hx235_4, hx235_5, hx235_6⟩ := at_T37 HR0.out (ji29) p235 q235; cases e235; replace hx235_0 := (HB.out.cell (World.block_lt_of_cell? w _ hx235_0)).trans hx235_0; replace hx235_1 := (HB.out.cell (World.block_lt_of_cell? w _ hx235_1)).trans hx235_1; replace hx235_2 := (HB.out.cell (World.block_lt_of_cell? w _ hx235_2)).trans hx235_2; replace hx235_3 := (HB.out.cell (World.block_lt_of_cell? w _ hx235_3)).trans hx235_3; replace hx235_4 := (HB.out.cell (World.block_lt_of_cell? w _ hx235_4)).trans hx235_4; replace hx235_5 := (HB.out.cell (World.block_lt_of_cell? w _ hx235_5)).trans hx235_5; replace hx235_6 := (HB.out.cell (World.block_lt_of_cell? w _ hx235_6)).trans hx235_6; replace p235 := eq_true p235; replace q235 := eq_true q235; have p34 : 0 ≤ (a1 : Int) := of_decide_eq_true (by first | (with_reducible assumption) | assumption); have q34 : (a1 : Int) < ((t232.length : Int) : Int) := of_decide_eq_true (by first | (with_reducible assumption) | assumption); obtain ⟨go34, co34, eo34, gb34, gl34, cl34, HG34⟩ := Kd.R_form HO234.out (by omega); (first | cases eo34 | (injection eo34 with ea_ en_ ec_; (first | subst ea_ | (injection ea_ with ea_; subst ea_)); subst ec_; clear en_)); have GB34 := Aside0.mk gb34; have GG34 := Aside0.mk HG34; clear gb34 gl34 HG34; obtain ⟨ce34, hcl34, hM34, hcc34, hfr34⟩ := Kd.R_elem HO234.out z37 (a1 : Int) p34 q34; obtain rfl := k37_openM hM34; have hx34_0 : w40.cell? ⟨go34, (a1 : Int).toNat * 7, none⟩ = some (.int .i64 ((rd_T37 t232 a1).f0)) := hcc34 0 _ rfl; have hx34_1 : w40.cell? ⟨go34, (a1 : Int).toNat * 7 + 1, none⟩ = some (.int .i64 ((rd_T37 t232 a1).f1)) := hcc34 1 _ rfl; have hx34_2 : w40.cell? ⟨go34, (a1 : Int).toNat * 7 + 2, none⟩ = some (.bool ((rd_T37 t232 a1).f2)) := hcc34 2 _ rfl; have hx34_3 : w40.cell? ⟨go34, (a1 : Int).toNat * 7 + 3, none⟩ = some (.string ((rd_T37 t232 a1).f3.f0)) := hcc34 3 _ rfl; have hx34_4 : w40.cell? ⟨go34, (a1 : Int).toNat * 7 + 4, none⟩ = some (.int .i64 ((rd_T37 t232 a1).f3.f1)) := hcc34 4 _ rfl; have hx34_5 : w40.cell? ⟨go34, (a1 : Int).toNat * 7 + 5, none⟩ = some (.int .i64 ((rd_T37 t232 a1).f3.f2)) := hcc34 5 _ rfl; have hx34_6 : w40.cell? ⟨go34, (a1 : Int).toNat * 7 + 6, none⟩ = some (.int .i64 ((rd_T37 t232 a1).f4)) := hcc34 6 _ rfl; have hf34_0 : w40.frozen? ⟨go34, (a1 : Int).toNat * 7, none⟩ = false := hfr34 0; have hf34_1 : w40.frozen? ⟨go34, (a1 : Int).toNat * 7 + 1, none⟩ = false := hfr34 1; have hf34_2 : w40.frozen? ⟨go34, (a1 : Int).toNat * 7 + 2, none⟩ = false := hfr34 2; have hf34_3 : w40.frozen? ⟨go34, (a1 : Int).toNat * 7 + 3, none⟩ = false := hfr34 3; have hf34_4 : w40.frozen? ⟨go34, (a1 : Int).toNat * 7 + 4, none⟩ = false := hfr34 4; have hf34_5 : w40.frozen? ⟨go34, (a1 : Int).toNat * 7 + 5, none⟩ = false := hfr34 5; have hf34_6 : w40.frozen? ⟨go34, (a1 : Int).toNat * 7 + 6, none⟩ = false := hfr34 6; clear hcl34 hcc34 hfr34 hM34; replace p34 := eq_true p34; replace q34 := eq_true q34; have HX41 := Aside0.mk (show Kd.R k37 37 w40 w.heap.size (fun _ => True) (.slice (some ⟨go34, 0, none⟩) t232.length co34) t232 from (by (with_reducible repeat (first | apply Kd.R_alloc | apply Kd.R_drewN | apply Kd.R_drew)); exact HO234.out)); obtain ⟨ce41, hcl41, hM41, hcc41, hfr41⟩ := Kd.R_elem HX41.out z37 (a1 : Int) (of_decide_eq_true (by first | (with_reducible assumption) | assumption)) (by have h_ : (a1 : Int) < ((t232.length : Int) : Int) := of_decide_eq_true (by first | (with_reducible assumption) | assumption); first | exact h_ | (have e_ := (Kd.R_reads' HO234.out).1; omega) | simpa using h_); obtain rfl := k37_openM hM41; have HP41 := Kd.R_seg HX41.out (a1 : Int) (of_decide_eq_true (by first | (with_reducible assumption) | assumption)) (by have h_ : (a1 : Int) < ((t232.length : Int) : Int) := of_decide_eq_true (by first | (with_reducible assumption) | assumption); first | exact h_ | (have e_ := (Kd.R_reads' HO234.out).1; omega) | simpa using h_) (seg := [.int .i64 ((rd_T37 l0 (ji29)).f0), .int .i64 ((rd_T37 l0 (ji29)).f1), .bool ((rd_T37 l0 (ji29)).f2), .string ((rd_T37 l0 (ji29)).f3.f0), .int .i64 ((rd_T37 l0 (ji29)).f3.f1), .int .i64 ((rd_T37 l0 (ji29)).f3.f2), .int .i64 ((rd_T37 l0 (ji29)).f4)]) (j := 0) hcl41 hcc41 (show 7 ≤ 7 from by decide) (x' := (⟨(rd_T37 l0 (ji29)).f0, (rd_T37 l0 (ji29)).f1, (rd_T37 l0 (ji29)).f2, (⟨(rd_T37 l0 (ji29)).f3.f0, (rd_T37 l0 (ji29)).f3.f1, (rd_T37 l0 (ji29)).f3.f2⟩ : S35), (rd_T37 l0 (ji29)).f4⟩ : S37)) (k37_mkM _ _ _ (⟨(rd_T37 l0 (ji29)).f0, (rd_T37 l0 (ji29)).f1, (rd_T37 l0 (ji29)).f2, (⟨(rd_T37 l0 (ji29)).f3.f0, (rd_T37 l0 (ji29)).f3.f1, (rd_T37 l0 (ji29)).f3.f2⟩ : S35), (rd_T37 l0 (ji29)).f4⟩ : S37) ) (fun _ hk => hk); have hx41_0 := hcc41 0 _ rfl; (try simp only [show (k37).sz = 7 from rfl, Nat.mul_one, Nat.add_zero] at hx41_0); have hf41_0 := hfr41 0; (try simp only [show (k37).sz = 7 from rfl, Nat.mul_one, Nat.add_zero] at hf41_0); have hx41_1 := hcc41 1 _ rfl; (try simp only [show (k37).sz = 7 from rfl, Nat.mul_one, Nat.add_zero] at hx41_1); have hf41_1 := hfr41 1; (try simp only [show (k37).sz = 7 from rfl, Nat.mul_one, Nat.add_zero] at hf41_1); have hx41_2 := hcc41 2 _ rfl; (try simp only [show (k37).sz = 7 from rfl, Nat.mul_one, Nat.add_zero] at hx41_2); have hf41_2 := hfr41 2; (try simp only [show (k37).sz = 7 from rfl, Nat.mul_one, Nat.add_zero] at hf41_2); have hx41_3 := hcc41 3 _ rfl; (try simp only [show (k37).sz = 7 from rfl, Nat.mul_one, Nat.add_zero] at hx41_3); have hf41_3 := hfr41 3; (try simp only [show (k37).sz = 7 from rfl, Nat.mul_one, Nat.add_zero] at hf41_3); have hx41_4 := hcc41 4 _ rfl; (try simp only [show (k37).sz = 7 from rfl, Nat.mul_one, Nat.add_zero] at hx41_4); have hf41_4 := hfr41 4; (try simp only [show (k37).sz = 7 from rfl, Nat.mul_one, Nat.add_zero] at hf41_4); have hx41_5 := hcc41 5 _ rfl; (try simp only [show (k37).sz = 7 from rfl, Nat.mul_one, Nat.add_zero] at hx41_5); have hf41_5 := hfr41 5; (try simp only [show (k37).sz = 7 from rfl, Nat.mul_one, Nat.add_zero] at hf41_5); have hx41_6 := hcc41 6 _ rfl; (try simp only [show (k37).sz = 7 from rfl, Nat.mul_one, Nat.add_zero] at hx41_6); have hf41_6 := hfr41 6; (try simp only [show (k37).sz = 7 from rfl, Nat.mul_one, Nat.add_zero] at hf41_6); clear hcl41 hcc41 hfr41 hM41) | ((with_reducible refine gate_store (t := 37) (p := 65) rfl ?_); (try (rw [drewN_self w40]; generalize hq_ : World.drewN w40 _ = w40; have n0_ := Aside0.mk (Kd.R_at hq_ HO234.out); have n1_ := Aside0.mk (below_at hq_ HB.out); clear hq_ HO234 HB; have HO234 := n0_; have HB := n1_; clear n0_ n1_; (try (have HX41 := Aside0.mk (show Kd.R k37 37 w40 w.heap.size (fun _ => True) (.slice (some ⟨go34, 0, none⟩) t232.length co34) t232 from (by (with_reducible repeat (first | apply Kd.R_alloc | apply Kd.R_drewN | apply Kd.R_drew)); exact HO234.out)))); (try (obtain ⟨ce41, hcl41, hM41, hcc41, hfr41⟩ := Kd.R_elem HX41.out z37 (a1 : Int) (of_decide_eq_true (by first | (with_reducible assumption) | assumption)) (by have h_ : (a1 : Int) < ((t232.length : Int) : Int) := of_decide_eq_true (by first | (with_reducible assumption) | assumption); first | exact h_ | (have e_ := (Kd.R_reads' HO234.out).1; omega) | simpa using h_))); (try (obtain rfl := k37_openM hM41)); (try (have HP41 := Kd.R_seg HX41.out (a1 : Int) (of_decide_eq_true (by first | (with_reducible assumption) | assumption)) (by have h_ : (a1 : Int) < ((t232.length : Int) : Int) := of_decide_eq_true (by first | (with_reducible assumption) | assumption); first | exact h_ | (have e_ := (Kd.R_reads' HO234.out).1; omega) | simpa using h_) (seg := [.int .i64 ((rd_T37 l0 (ji29)).f0), .int .i64 ((rd_T37 l0 (ji29)).f1), .bool ((rd_T37 l0 (ji29)).f2), .string ((rd_T37 l0 (ji29)).f3.f0), .int .i64 ((rd_T37 l0 (ji29)).f3.f1), .int .i64 ((rd_T37 l0 (ji29)).f3.f2), .int .i64 ((rd_T37 l0 (ji29)).f4)]) (j := 0) hcl41 hcc41 (show 7 ≤ 7 from by decide) (x' := (⟨(rd_T37 l0 (ji29)).f0, (rd_T37 l0 (ji29)).f1, (rd_T37 l0 (ji29)).f2, (⟨(rd_T37 l0 (ji29)).f3.f0, (rd_T37 l0 (ji29)).f3.f1, (rd_T37 l0 (ji29)).f3.f2⟩ : S35), (rd_T37 l0 (ji29)).f4⟩ : S37)) (k37_mkM _ _ _ (⟨(rd_T37 l0 (ji29)).f0, (rd_T37 l0 (ji29)).f1, (rd_T37 l0 (ji29)).f2, (⟨(rd_T37 l0 (ji29)).f3.f0, (rd_T37 l0 (ji29)).f3.f1, (rd_T37 l0 (ji29)).f3.f2⟩ : S35), (rd_T37 l0 (ji29)).f4⟩ : S37) ) (fun _ hk => hk))); (try (have hx41_0 := hcc41 0 _ rfl)); (try (try simp only [show (k37).sz = 7 from rfl, Nat.mul_one, Nat.add_zero] at hx41_0)); (try (have hf41_0 := hfr41 0)); (try (try simp only [show (k37).sz = 7 from rfl, Nat.mul_one, Nat.add_zero] at hf41_0)); (try (have hx41_1 := hcc41 1 _ rfl)); (try (try simp only [show (k37).sz = 7 from rfl, Nat.mul_one, Nat.add_zero] at hx41_1)); (try (have hf41_1 := hfr41 1)); (try (try simp only [show (k37).sz = 7 from rfl, Nat.mul_one, Nat.add_zero] at hf41_1)); (try (have hx41_2 := hcc41 2 _ rfl)); (try (try simp only [show (k37).sz = 7 from rfl, Nat.mul_one, Nat.add_zero] at hx41_2)); (try (have hf41_2 := hfr41 2)); (try (try simp only [show (k37).sz = 7 from rfl, Nat.mul_one, Nat.add_zero] at hf41_2)); (try (have hx41_3 := hcc41 3 _ rfl)); (try (try simp only [show (k37).sz = 7 from rfl, Nat.mul_one, Nat.add_zero] at hx41_3)); (try (have hf41_3 := hfr41 3)); (try (try simp only [show (k37).sz = 7 from rfl, Nat.mul_one, Nat.add_zero] at hf41_3)); (try (have hx41_4 := hcc41 4 _ rfl)); (try (try simp only [show (k37).sz = 7 from rfl, Nat.mul_one, Nat.add_zero] at hx41_4)); (try (have hf41_4 := hfr41 4)); (try (try simp only [show (k37).sz = 7 from rfl, Nat.mul_one, Nat.add_zero] at hf41_4)); (try (have hx41_5 := hcc41 5 _ rfl)); (try (try simp only [show (k37).sz = 7 from rfl, Nat.mul_one, Nat.add_zero] at hx41_5)); (try (have hf41_5 := hfr41 5)); (try (try simp only [show (k37).sz = 7 from rfl, Nat.mul_one, Nat.add_zero] at hf41_5)); (try (have hx41_6 := hcc41 6 _ rfl)); (try (try simp only [show (k37).sz = 7 from rfl, Nat.mul_one, Nat.add_zero] at hx41_6)); (try (have hf41_6 := hfr41 6)); (try (try simp only [show (k37).sz = 7 from rfl, Nat.mul_one, Nat.add_zero] at hf41_6)); (try (clear hcl41 hcc41 hfr41 hM41)))); refine store_event (t := 37) (p := 65) (v := ?vo_w42) (w1 := (((((((w40.setCell ⟨go34, (a1 : Int).toNat * 7, none⟩ (.int .i64 ((rd_T37 l0 (ji29)).f0))).setCell ⟨go34, (a1 : Int).toNat * 7 + 1, none⟩ (.int .i64 ((rd_T37 l0 (ji29)).f1))).setCell ⟨go34, (a1 : Int).toNat * 7 + 2, none⟩ (.bool ((rd_T37 l0 (ji29)).f2))).setCell ⟨go34, (a1 : Int).toNat * 7 + 3, none⟩ (.string ((rd_T37 l0 (ji29)).f3.f0))).setCell ⟨go34, (a1 : Int).toNat * 7 + 4, none⟩ (.int .i64 ((rd_T37 l0 (ji29)).f3.f1))).setCell ⟨go34, (a1 : Int).toNat * 7 + 5, none⟩ (.int .i64 ((rd_T37 l0 (ji29)).f3.f2))).setCell ⟨go34, (a1 : Int).toNat * 7 + 6, none⟩ (.int .i64 ((rd_T37 l0 (ji29)).f4)))) ?hg ?ho ?hn ?hr ?_; (case ho => rfl); (case hg => rfl); (case hn => rfl); (case hr => first | (go_simp; done) | (go_simp; rfl)); intro w42 hw; have hg : w40.grownBy w42 (some go34) := (by rw [hw]; exact HP41.2); have hp_ : Kd.R k37 37 w42 w.heap.size (fun _ => True) (.slice (some ⟨go34, 0, none⟩) t232.length co34) y236 := (by rw [hw, Ny236.out]; exact HP41.1); clear HP41; have n0_ := Aside0.mk (hp_); have n1_ := Aside0.mk ((by rw [hw]; exact below_set (below_set (below_set (below_set (below_set (below_set (below_set (HB.out) GB34.out) GB34.out) GB34.out) GB34.out) GB34.out) GB34.out) GB34.out : Below w.heap.size w w42)); clear HO234; clear HB; have HO234 := n0_; have HB := n1_; clear n0_ n1_; clear hg hw hp_; have p237 : 0 ≤ (a1 : Int) := of_decide_eq_true (by first | (with_reducible assumption) | assumption); have q237 : a1 < (l0.length : Int) := of_decide_eq_true (by first | (with_reducible assumption) | assumption); obtain ⟨ad237, e237, hx237_0, hx237_1, hx237_2, hx237_3, hx237_4, hx237_5, hx237_6⟩ := at_T37 HR0.out a1 p237 q237; obtain rfl : ad235 = ad237 := (by injection e237); replace hx237_0 := (HB.out.cell (World.block_lt_of_cell? w _ hx237_0)).trans hx237_0; replace hx237_1 := (HB.out.cell (World.block_lt_of_cell? w _ hx237_1)).trans hx237_1; replace hx237_2 := (HB.out.cell (World.block_lt_of_cell? w _ hx237_2)).trans hx237_2; replace hx237_3 := (HB.out.cell (World.block_lt_of_cell? w _ hx237_3)).trans hx237_3; replace hx237_4 := (HB.out.cell (World.block_lt_of_cell? w _ hx237_4)).trans hx237_4; replace hx237_5 := (HB.out.cell (World.block_lt_of_cell? w _ hx237_5)).trans hx237_5; replace hx237_6 := (HB.out.cell (World.block_lt_of_cell? w _ hx237_6)).trans hx237_6; replace p237 := eq_true p237; replace q237 := eq_true q237; have p37 : 0 ≤ ((ji29) : Int) := of_decide_eq_true (by first | (with_reducible assumption) | assumption); have q37 : ((ji29) : Int) < ((t232.length : Int) : Int) := of_decide_eq_true (by first | (with_reducible assumption) | assumption); obtain ⟨ce37, hcl37, hM37, hcc37, hfr37⟩ := Kd.R_elem HO234.out z37 ((ji29) : Int) p37 q37; obtain rfl := k37_openM hM37; have hx37_0 : w42.cell? ⟨go34, ((ji29) : Int).toNat * 7, none⟩ = some (.int .i64 ((rd_T37 y236 (ji29)).f0)) := hcc37 0 _ rfl; have hx37_1 : w42.cell? ⟨go34, ((ji29) : Int).toNat * 7 + 1, none⟩ = some (.int .i64 ((rd_T37 y236 (ji29)).f1)) := hcc37 1 _ rfl; have hx37_2 : w42.cell? ⟨go34, ((ji29) : Int).toNat * 7 + 2, none⟩ = some (.bool ((rd_T37 y236 (ji29)).f2)) := hcc37 2 _ rfl; have hx37_3 : w42.cell? ⟨go34, ((ji29) : Int).toNat * 7 + 3, none⟩ = some (.string ((rd_T37 y236 (ji29)).f3.f0)) := hcc37 3 _ rfl; have hx37_4 : w42.cell? ⟨go34, ((ji29) : Int).toNat * 7 + 4, none⟩ = some (.int .i64 ((rd_T37 y236 (ji29)).f3.f1)) := hcc37 4 _ rfl; have hx37_5 : w42.cell? ⟨go34, ((ji29) : Int).toNat * 7 + 5, none⟩ = some (.int .i64 ((rd_T37 y236 (ji29)).f3.f2)) := hcc37 5 _ rfl; have hx37_6 : w42.cell? ⟨go34, ((ji29) : Int).toNat * 7 + 6, none⟩ = some (.int .i64 ((rd_T37 y236 (ji29)).f4)) := hcc37 6 _ rfl; have hf37_0 : w42.frozen? ⟨go34, ((ji29) : Int).toNat * 7, none⟩ = false := hfr37 0; have hf37_1 : w42.frozen? ⟨go34, ((ji29) : Int).toNat * 7 + 1, none⟩ = false := hfr37 1; have hf37_2 : w42.frozen? ⟨go34, ((ji29) : Int).toNat * 7 + 2, none⟩ = false := hfr37 2; have hf37_3 : w42.frozen? ⟨go34, ((ji29) : Int).toNat * 7 + 3, none⟩ = false := hfr37 3; have hf37_4 : w42.frozen? ⟨go34, ((ji29) : Int).toNat * 7 + 4, none⟩ = false := hfr37 4; have hf37_5 : w42.frozen? ⟨go34, ((ji29) : Int).toNat * 7 + 5, none⟩ = false := hfr37 5; have hf37_6 : w42.frozen? ⟨go34, ((ji29) : Int).toNat * 7 + 6, none⟩ = false := hfr37 6; clear hcl37 hcc37 hfr37 hM37; replace p37 := eq_true p37; replace q37 := eq_true q37; have HX43 := Aside0.mk (show Kd.R k37 37 w42 w.heap.size (fun _ => True) (.slice (some ⟨go34, 0, none⟩) t232.length co34) y236 from (by (with_reducible repeat (first | apply Kd.R_alloc | apply Kd.R_drewN | apply Kd.R_drew)); exact HO234.out)); obtain ⟨ce43, hcl43, hM43, hcc43, hfr43⟩ := Kd.R_elem HX43.out z37 ((ji29) : Int) (of_decide_eq_true (by first | (with_reducible assumption) | assumption)) (by have h_ : ((ji29) : Int) < ((t232.length : Int) : Int) := of_decide_eq_true (by first | (with_reducible assumption) | assumption); first | exact h_ | (have e_ := (Kd.R_reads' HO234.out).1; omega) | simpa using h_); obtain rfl := k37_openM hM43; have HP43 := Kd.R_seg HX43.out ((ji29) : Int) (of_decide_eq_true (by first | (with_reducible assumption) | assumption)) (by have h_ : ((ji29) : Int) < ((t232.length : Int) : Int) := of_decide_eq_true (by first | (with_reducible assumption) | assumption); first | exact h_ | (have e_ := (Kd.R_reads' HO234.out).1; omega) | simpa using h_) (seg := [.int .i64 ((rd_T37 l0 a1).f0), .int .i64 ((rd_T37 l0 a1).f1), .bool ((rd_T37 l0 a1).f2), .string ((rd_T37 l0 a1).f3.f0), .int .i64 ((rd_T37 l0 a1).f3.f1), .int .i64 ((rd_T37 l0 a1).f3.f2), .int .i64 ((rd_T37 l0 a1).f4)]) (j := 0) hcl43 hcc43 (show 7 ≤ 7 from by decide) (x' := (⟨(rd_T37 l0 a1).f0, (rd_T37 l0 a1).f1, (rd_T37 l0 a1).f2, (⟨(rd_T37 l0 a1).f3.f0, (rd_T37 l0 a1).f3.f1, (rd_T37 l0 a1).f3.f2⟩ : S35), (rd_T37 l0 a1).f4⟩ : S37)) (k37_mkM _ _ _ (⟨(rd_T37 l0 a1).f0, (rd_T37 l0 a1).f1, (rd_T37 l0 a1).f2, (⟨(rd_T37 l0 a1).f3.f0, (rd_T37 l0 a1).f3.f1, (rd_T37 l0 a1).f3.f2⟩ : S35), (rd_T37 l0 a1).f4⟩ : S37) ) (fun _ hk => hk); have hx43_0 := hcc43 0 _ rfl; (try simp only [show (k37).sz = 7 from rfl, Nat.mul_one, Nat.add_zero] at hx43_0); have hf43_0 := hfr43 0; (try simp only [show (k37).sz = 7 from rfl, Nat.mul_one, Nat.add_zero] at hf43_0); have hx43_1 := hcc43 1 _ rfl; (try simp only [show (k37).sz = 7 from rfl, Nat.mul_one, Nat.add_zero] at hx43_1); have hf43_1 := hfr43 1; (try simp only [show (k37).sz = 7 from rfl, Nat.mul_one, Nat.add_zero] at hf43_1); have hx43_2 := hcc43 2 _ rfl; (try simp only [show (k37).sz = 7 from rfl, Nat.mul_one, Nat.add_zero] at hx43_2); have hf43_2 := hfr43 2; (try simp only [show (k37).sz = 7 from rfl, Nat.mul_one, Nat.add_zero] at hf43_2); have hx43_3 := hcc43 3 _ rfl; (try simp only [show (k37).sz = 7 from rfl, Nat.mul_one, Nat.add_zero] at hx43_3); have hf43_3 := hfr43 3; (try simp only [show (k37).sz = 7 from rfl, Nat.mul_one, Nat.add_zero] at hf43_3); have hx43_4 := hcc43 4 _ rfl; (try simp only [show (k37).sz = 7 from rfl, Nat.mul_one, Nat.add_zero] at hx43_4); have hf43_4 := hfr43 4; (try simp only [show (k37).sz = 7 from rfl, Nat.mul_one, Nat.add_zero] at hf43_4); have hx43_5 := hcc43 5 _ rfl; (try simp only [show (k37).sz = 7 from rfl, Nat.mul_one, Nat.add_zero] at hx43_5); have hf43_5 := hfr43 5; (try simp only [show (k37).sz = 7 from rfl, Nat.mul_one, Nat.add_zero] at hf43_5); have hx43_6 := hcc43 6 _ rfl; (try simp only [show (k37).sz = 7 from rfl, Nat.mul_one, Nat.add_zero] at hx43_6); have hf43_6 := hfr43 6; (try simp only [show (k37).sz = 7 from rfl, Nat.mul_one, Nat.add_zero] at hf43_6); clear hcl43 hcc43 hfr43 hM43) | ((with_reducible refine gate_store (t := 37) (p := 73) rfl ?_); (try (rw [drewN_self w42]; generalize hq_ : World.drewN w42 _ = w42; have n0_ := Aside0.mk (Kd.R_at hq_ HO234.out); have n1_ := Aside0.mk (below_at hq_ HB.out); clear hq_ HO234 HB; have HO234 := n0_; have HB := n1_; clear n0_ n1_; (try (have HX43 := Aside0.mk (show Kd.R k37 37 w42 w.heap.size (fun _ => True) (.slice (some ⟨go34, 0, none⟩) t232.length co34) y236 from (by (with_reducible repeat (first | apply Kd.R_alloc | apply Kd.R_drewN | apply Kd.R_drew)); exact HO234.out)))); (try (obtain ⟨ce43, hcl43, hM43, hcc43, hfr43⟩ := Kd.R_elem HX43.out z37 ((ji29) : Int) (of_decide_eq_true (by first | (with_reducible assumption) | assumption)) (by have h_ : ((ji29) : Int) < ((t232.length : Int) : Int) := of_decide_eq_true (by first | (with_reducible assumption) | assumption); first | exact h_ | (have e_ := (Kd.R_reads' HO234.out).1; omega) | simpa using h_))); (try (obtain rfl := k37_openM hM43)); (try (have HP43 := Kd.R_seg HX43.out ((ji29) : Int) (of_decide_eq_true (by first | (with_reducible assumption) | assumption)) (by have h_ : ((ji29) : Int) < ((t232.length : Int) : Int) := of_decide_eq_true (by first | (with_reducible assumption) | assumption); first | exact h_ | (have e_ := (Kd.R_reads' HO234.out).1; omega) | simpa using h_) (seg := [.int .i64 ((rd_T37 l0 a1).f0), .int .i64 ((rd_T37 l0 a1).f1), .bool ((rd_T37 l0 a1).f2), .string ((rd_T37 l0 a1).f3.f0), .int .i64 ((rd_T37 l0 a1).f3.f1), .int .i64 ((rd_T37 l0 a1).f3.f2), .int .i64 ((rd_T37 l0 a1).f4)]) (j := 0) hcl43 hcc43 (show 7 ≤ 7 from by decide) (x' := (⟨(rd_T37 l0 a1).f0, (rd_T37 l0 a1).f1, (rd_T37 l0 a1).f2, (⟨(rd_T37 l0 a1).f3.f0, (rd_T37 l0 a1).f3.f1, (rd_T37 l0 a1).f3.f2⟩ : S35), (rd_T37 l0 a1).f4⟩ : S37)) (k37_mkM _ _ _ (⟨(rd_T37 l0 a1).f0, (rd_T37 l0 a1).f1, (rd_T37 l0 a1).f2, (⟨(rd_T37 l0 a1).f3.f0, (rd_T37 l0 a1).f3.f1, (rd_T37 l0 a1).f3.f2⟩ : S35), (rd_T37 l0 a1).f4⟩ : S37) ) (fun _ hk => hk))); (try (have hx43_0 := hcc43 0 _ rfl)); (try (try simp only [show (k37).sz = 7 from rfl, Nat.mul_one, Nat.add_zero] at hx43_0)); (try (have hf43_0 := hfr43 0)); (try (try simp only [show (k37).sz = 7 from rfl, Nat.mul_one, Nat.add_zero] at hf43_0)); (try (have hx43_1 := hcc43 1 _ rfl)); (try (try simp only [show (k37).sz = 7 from rfl, Nat.mul_one, Nat.add_zero] at hx43_1)); (try (have hf43_1 := hfr43 1)); (try (try simp only [show (k37).sz = 7 from rfl, Nat.mul_one, Nat.add_zero] at hf43_1)); (try (have hx43_2 := hcc43 2 _ rfl)); (try (try simp only [show (k37).sz = 7 from rfl, Nat.mul_one, Nat.add_zero] at hx43_2)); (try (have hf43_2 := hfr43 2)); (try (try simp only [show (k37).sz = 7 from rfl, Nat.mul_one, Nat.add_zero] at hf43_2)); (try (have hx43_3 := hcc43 3 _ rfl)); (try (try simp only [show (k37).sz = 7 from rfl, Nat.mul_one, Nat.add_zero] at hx43_3)); (try (have hf43_3 := hfr43 3)); (try (try simp only [show (k37).sz = 7 from rfl, Nat.mul_one, Nat.add_zero] at hf43_3)); (try (have hx43_4 := hcc43 4 _ rfl)); (try (try simp only [show (k37).sz = 7 from rfl, Nat.mul_one, Nat.add_zero] at hx43_4)); (try (have hf43_4 := hfr43 4)); (try (try simp only [show (k37).sz = 7 from rfl, Nat.mul_one, Nat.add_zero] at hf43_4)); (try (have hx43_5 := hcc43 5 _ rfl)); (try (try simp only [show (k37).sz = 7 from rfl, Nat.mul_one, Nat.add_zero] at hx43_5)); (try (have hf43_5 := hfr43 5)); (try (try simp only [show (k37).sz = 7 from rfl, Nat.mul_one, Nat.add_zero] at hf43_5)); (try (have hx43_6 := hcc43 6 _ rfl)); (try (try simp only [show (k37).sz = 7 from rfl, Nat.mul_one, Nat.add_zero] at hx43_6)); (try (have hf43_6 := hfr43 6)); (try (try simp only [show (k37).sz = 7 from rfl, Nat.mul_one, Nat.add_zero] at hf43_6)); (try (clear hcl43 hcc43 hfr43 hM43)))); refine store_event (t := 37) (p := 73) (v := ?vo_w44) (w1 := (((((((w42.setCell ⟨go34, ((ji29) : Int).toNat * 7, none⟩ (.int .i64 ((rd_T37 l0 a1).f0))).setCell ⟨go34, ((ji29) : Int).toNat * 7 + 1, none⟩ (.int .i64 ((rd_T37 l0 a1).f1))).setCell ⟨go34, ((ji29) : Int).toNat * 7 + 2, none⟩ (.bool ((rd_T37 l0 a1).f2))).setCell ⟨go34, ((ji29) : Int).toNat * 7 + 3, none⟩ (.string ((rd_T37 l0 a1).f3.f0))).setCell ⟨go34, ((ji29) : Int).toNat * 7 + 4, none⟩ (.int .i64 ((rd_T37 l0 a1).f3.f1))).setCell ⟨go34, ((ji29) : Int).toNat * 7 + 5, none⟩ (.int .i64 ((rd_T37 l0 a1).f3.f2))).setCell ⟨go34, ((ji29) : Int).toNat * 7 + 6, none⟩ (.int .i64 ((rd_T37 l0 a1).f4)))) ?hg ?ho ?hn ?hr ?_; (case ho => rfl); (case hg => rfl); (case hn => rfl); (case hr => first | (go_simp; done) | (go_simp; rfl)); intro w44 hw; have hg : w42.grownBy w44 (some go34) := (by rw [hw]; exact HP43.2); have hp_ : Kd.R k37 37 w44 w.heap.size (fun _ => True) (.slice (some ⟨go34, 0, none⟩) t232.length co34) y238 := (by rw [hw, Ny238.out]; exact HP43.1); clear HP43; have n0_ := Aside0.mk (hp_); have n1_ := Aside0.mk ((by rw [hw]; exact below_set (below_set (below_set (below_set (below_set (below_set (below_set (HB.out) GB34.out) GB34.out) GB34.out) GB34.out) GB34.out) GB34.out) GB34.out : Below w.heap.size w w44)); clear HO234; clear HB; have HO234 := n0_; have HB := n1_; clear n0_ n1_; clear hg hw hp_) | (go_at_call 18; refine calls_of_args (args' := #[.slice (some ⟨go34, 0, none⟩) y238.length co34, .slice (some ad235) l0.length c0]) (by first | (rw [show y238.length = t232.length from (Kd.R_reads' HO234.out).1.symm] <;> rfl) | rfl) ?_; (with_reducible refine (hist_Wider.calls _ _ y238 _ _ l0 t239 t240 _ ?side1 ?side2 ?side3 ?side4 A38.out).mono ?_); (case side1 => repeat (first | exact (Kd.R_reads' HO234.out).2.2 | (with_reducible refine Kd.C_alloc ?_ _) | (with_reducible refine Kd.C_drewN ?_ _) | (with_reducible refine Kd.C_drew ?_))); (case side2 => rw [show y238.length = t232.length from (Kd.R_reads' HO234.out).1.symm]; exact (Kd.R_reads' HO234.out).2.1); (case side3 => repeat (first | exact (Kd.C_below HR0.out HB.out) | (with_reducible refine Kd.C_alloc ?_ _) | (with_reducible refine Kd.C_drewN ?_ _) | (with_reducible refine Kd.C_drew ?_))); (case side4 => exact HC0.out); rintro e w45 ⟨rfl, hb⟩; have n0_ := Aside0.mk (Kd.R_below (by (with_reducible repeat (first | apply Kd.R_alloc | apply Kd.R_drewN | apply Kd.R_drew)); exact HO234.out) hb); have n1_ := Aside0.mk (below_step (by repeat (first | (with_reducible first | exact HB.out | apply below_alloc | apply pw_below_drewN | apply below_drew1) | exact HB.out)) hb); clear HO234; clear HB; have HO234 := n0_; have HB := n1_; clear n0_ n1_; (try clear hb); (try clear hb2); (try clear hk); (try clear hi)))
                          repeat (go_quiet (first | (go_at_call 17; (with_reducible refine (locklesslaw17_own.calls _ _ l0 t232 _ ?side1 ?side2 A28.out).mono ?_); (case side1 => repeat (first | exact (Kd.C_below HR0.out HB.out) | (with_reducible refine Kd.C_alloc ?_ _) | (with_reducible refine Kd.C_drewN ?_ _) | (with_reducible refine Kd.C_drew ?_))); (case side2 => exact HC0.out); rintro e w40 ⟨v233, rfl, ho0, hb⟩; have n0_ := Aside0.mk (Kd.R_lower ho0 (below_size (by repeat (first | (with_reducible first | exact HB.out | apply below_alloc | apply pw_below_drewN | apply below_drew1) | exact HB.out)))); have n1_ := Aside0.mk (below_step (by repeat (first | (with_reducible first | exact HB.out | apply below_alloc | apply pw_below_drewN | apply below_drew1) | exact HB.out)) hb); clear HB; have HO234 := n0_; have HB := n1_; clear n0_ n1_; (try clear hb); (try clear hb2); (try clear hk); (try clear hi); (try clear ho0); have p235 : 0 ≤ ((ji29) : Int) := of_decide_eq_true (by first | (with_reducible assumption) | assumption); have q235 : (ji29) < (l0.length : Int) := of_decide_eq_true (by first | (with_reducible assumption) | assumption); obtain ⟨ad235, e235, hx235_0, hx235_1, hx235_2, hx235_3, hx235_4, hx235_5, hx235_6⟩ := at_T37 HR0.out (ji29) p235 q235; cases e235; replace hx235_0 := (HB.out.cell (World.block_lt_of_cell? w _ hx235_0)).trans hx235_0; replace hx235_1 := (HB.out.cell (World.block_lt_of_cell? w _ hx235_1)).trans hx235_1; replace hx235_2 := (HB.out.cell (World.block_lt_of_cell? w _ hx235_2)).trans hx235_2; replace hx235_3 := (HB.out.cell (World.block_lt_of_cell? w _ hx235_3)).trans hx235_3; replace hx235_4 := (HB.out.cell (World.block_lt_of_cell? w _ hx235_4)).trans hx235_4; replace hx235_5 := (HB.out.cell (World.block_lt_of_cell? w _ hx235_5)).trans hx235_5; replace hx235_6 := (HB.out.cell (World.block_lt_of_cell? w _ hx235_6)).trans hx235_6; replace p235 := eq_true p235; replace q235 := eq_true q235; have p34 : 0 ≤ (a1 : Int) := of_decide_eq_true (by first | (with_reducible assumption) | assumption); have q34 : (a1 : Int) < ((t232.length : Int) : Int) := of_decide_eq_true (by first | (with_reducible assumption) | assumption); obtain ⟨go34, co34, eo34, gb34, gl34, cl34, HG34⟩ := Kd.R_form HO234.out (by omega); (first | cases eo34 | (injection eo34 with ea_ en_ ec_; (first | subst ea_ | (injection ea_ with ea_; subst ea_)); subst ec_; clear en_)); have GB34 := Aside0.mk gb34; have GG34 := Aside0.mk HG34; clear gb34 gl34 HG34; obtain ⟨ce34, hcl34, hM34, hcc34, hfr34⟩ := Kd.R_elem HO234.out z37 (a1 : Int) p34 q34; obtain rfl := k37_openM hM34; have hx34_0 : w40.cell? ⟨go34, (a1 : Int).toNat * 7, none⟩ = some (.int .i64 ((rd_T37 t232 a1).f0)) := hcc34 0 _ rfl; have hx34_1 : w40.cell? ⟨go34, (a1 : Int).toNat * 7 + 1, none⟩ = some (.int .i64 ((rd_T37 t232 a1).f1)) := hcc34 1 _ rfl; have hx34_2 : w40.cell? ⟨go34, (a1 : Int).toNat * 7 + 2, none⟩ = some (.bool ((rd_T37 t232 a1).f2)) := hcc34 2 _ rfl; have hx34_3 : w40.cell? ⟨go34, (a1 : Int).toNat * 7 + 3, none⟩ = some (.string ((rd_T37 t232 a1).f3.f0)) := hcc34 3 _ rfl; have hx34_4 : w40.cell? ⟨go34, (a1 : Int).toNat * 7 + 4, none⟩ = some (.int .i64 ((rd_T37 t232 a1).f3.f1)) := hcc34 4 _ rfl; have hx34_5 : w40.cell? ⟨go34, (a1 : Int).toNat * 7 + 5, none⟩ = some (.int .i64 ((rd_T37 t232 a1).f3.f2)) := hcc34 5 _ rfl; have hx34_6 : w40.cell? ⟨go34, (a1 : Int).toNat * 7 + 6, none⟩ = some (.int .i64 ((rd_T37 t232 a1).f4)) := hcc34 6 _ rfl; have hf34_0 : w40.frozen? ⟨go34, (a1 : Int).toNat * 7, none⟩ = false := hfr34 0; have hf34_1 : w40.frozen? ⟨go34, (a1 : Int).toNat * 7 + 1, none⟩ = false := hfr34 1; have hf34_2 : w40.frozen? ⟨go34, (a1 : Int).toNat * 7 + 2, none⟩ = false := hfr34 2; have hf34_3 : w40.frozen? ⟨go34, (a1 : Int).toNat * 7 + 3, none⟩ = false := hfr34 3; have hf34_4 : w40.frozen? ⟨go34, (a1 : Int).toNat * 7 + 4, none⟩ = false := hfr34 4; have hf34_5 : w40.frozen? ⟨go34, (a1 : Int).toNat * 7 + 5, none⟩ = false := hfr34 5; have hf34_6 : w40.frozen? ⟨go34, (a1 : Int).toNat * 7 + 6, none⟩ = false := hfr34 6; clear hcl34 hcc34 hfr34 hM34; replace p34 := eq_true p34; replace q34 := eq_true q34; have HX41 := Aside0.mk (show Kd.R k37 37 w40 w.heap.size (fun _ => True) (.slice (some ⟨go34, 0, none⟩) t232.length co34) t232 from (by (with_reducible repeat (first | apply Kd.R_alloc | apply Kd.R_drewN | apply Kd.R_drew)); exact HO234.out)); obtain ⟨ce41, hcl41, hM41, hcc41, hfr41⟩ := Kd.R_elem HX41.out z37 (a1 : Int) (of_decide_eq_true (by first | (with_reducible assumption) | assumption)) (by have h_ : (a1 : Int) < ((t232.length : Int) : Int) := of_decide_eq_true (by first | (with_reducible assumption) | assumption); first | exact h_ | (have e_ := (Kd.R_reads' HO234.out).1; omega) | simpa using h_); obtain rfl := k37_openM hM41; have HP41 := Kd.R_seg HX41.out (a1 : Int) (of_decide_eq_true (by first | (with_reducible assumption) | assumption)) (by have h_ : (a1 : Int) < ((t232.length : Int) : Int) := of_decide_eq_true (by first | (with_reducible assumption) | assumption); first | exact h_ | (have e_ := (Kd.R_reads' HO234.out).1; omega) | simpa using h_) (seg := [.int .i64 ((rd_T37 l0 (ji29)).f0), .int .i64 ((rd_T37 l0 (ji29)).f1), .bool ((rd_T37 l0 (ji29)).f2), .string ((rd_T37 l0 (ji29)).f3.f0), .int .i64 ((rd_T37 l0 (ji29)).f3.f1), .int .i64 ((rd_T37 l0 (ji29)).f3.f2), .int .i64 ((rd_T37 l0 (ji29)).f4)]) (j := 0) hcl41 hcc41 (show 7 ≤ 7 from by decide) (x' := (⟨(rd_T37 l0 (ji29)).f0, (rd_T37 l0 (ji29)).f1, (rd_T37 l0 (ji29)).f2, (⟨(rd_T37 l0 (ji29)).f3.f0, (rd_T37 l0 (ji29)).f3.f1, (rd_T37 l0 (ji29)).f3.f2⟩ : S35), (rd_T37 l0 (ji29)).f4⟩ : S37)) (k37_mkM _ _ _ (⟨(rd_T37 l0 (ji29)).f0, (rd_T37 l0 (ji29)).f1, (rd_T37 l0 (ji29)).f2, (⟨(rd_T37 l0 (ji29)).f3.f0, (rd_T37 l0 (ji29)).f3.f1, (rd_T37 l0 (ji29)).f3.f2⟩ : S35), (rd_T37 l0 (ji29)).f4⟩ : S37) ) (fun _ hk => hk); have hx41_0 := hcc41 0 _ rfl; (try simp only [show (k37).sz = 7 from rfl, Nat.mul_one, Nat.add_zero] at hx41_0); have hf41_0 := hfr41 0; (try simp only [show (k37).sz = 7 from rfl, Nat.mul_one, Nat.add_zero] at hf41_0); have hx41_1 := hcc41 1 _ rfl; (try simp only [show (k37).sz = 7 from rfl, Nat.mul_one, Nat.add_zero] at hx41_1); have hf41_1 := hfr41 1; (try simp only [show (k37).sz = 7 from rfl, Nat.mul_one, Nat.add_zero] at hf41_1); have hx41_2 := hcc41 2 _ rfl; (try simp only [show (k37).sz = 7 from rfl, Nat.mul_one, Nat.add_zero] at hx41_2); have hf41_2 := hfr41 2; (try simp only [show (k37).sz = 7 from rfl, Nat.mul_one, Nat.add_zero] at hf41_2); have hx41_3 := hcc41 3 _ rfl; (try simp only [show (k37).sz = 7 from rfl, Nat.mul_one, Nat.add_zero] at hx41_3); have hf41_3 := hfr41 3; (try simp only [show (k37).sz = 7 from rfl, Nat.mul_one, Nat.add_zero] at hf41_3); have hx41_4 := hcc41 4 _ rfl; (try simp only [show (k37).sz = 7 from rfl, Nat.mul_one, Nat.add_zero] at hx41_4); have hf41_4 := hfr41 4; (try simp only [show (k37).sz = 7 from rfl, Nat.mul_one, Nat.add_zero] at hf41_4); have hx41_5 := hcc41 5 _ rfl; (try simp only [show (k37).sz = 7 from rfl, Nat.mul_one, Nat.add_zero] at hx41_5); have hf41_5 := hfr41 5; (try simp only [show (k37).sz = 7 from rfl, Nat.mul_one, Nat.add_zero] at hf41_5); have hx41_6 := hcc41 6 _ rfl; (try simp only [show (k37).sz = 7 from rfl, Nat.mul_one, Nat.add_zero] at hx41_6); have hf41_6 := hfr41 6; (try simp only [show (k37).sz = 7 from rfl, Nat.mul_one, Nat.add_zero] at hf41_6); clear hcl41 hcc41 hfr41 hM41) | ((with_reducible refine gate_store (t := 37) (p := 65) rfl ?_); (try (rw [drewN_self w40]; generalize hq_ : World.drewN w40 _ = w40; have n0_ := Aside0.mk (Kd.R_at hq_ HO234.out); have n1_ := Aside0.mk (below_at hq_ HB.out); clear hq_ HO234 HB; have HO234 := n0_; have HB := n1_; clear n0_ n1_; (try (have HX41 := Aside0.mk (show Kd.R k37 37 w40 w.heap.size (fun _ => True) (.slice (some ⟨go34, 0, none⟩) t232.length co34) t232 from (by (with_reducible repeat (first | apply Kd.R_alloc | apply Kd.R_drewN | apply Kd.R_drew)); exact HO234.out)))); (try (obtain ⟨ce41, hcl41, hM41, hcc41, hfr41⟩ := Kd.R_elem HX41.out z37 (a1 : Int) (of_decide_eq_true (by first | (with_reducible assumption) | assumption)) (by have h_ : (a1 : Int) < ((t232.length : Int) : Int) := of_decide_eq_true (by first | (with_reducible assumption) | assumption); first | exact h_ | (have e_ := (Kd.R_reads' HO234.out).1; omega) | simpa using h_))); (try (obtain rfl := k37_openM hM41)); (try (have HP41 := Kd.R_seg HX41.out (a1 : Int) (of_decide_eq_true (by first | (with_reducible assumption) | assumption)) (by have h_ : (a1 : Int) < ((t232.length : Int) : Int) := of_decide_eq_true (by first | (with_reducible assumption) | assumption); first | exact h_ | (have e_ := (Kd.R_reads' HO234.out).1; omega) | simpa using h_) (seg := [.int .i64 ((rd_T37 l0 (ji29)).f0), .int .i64 ((rd_T37 l0 (ji29)).f1), .bool ((rd_T37 l0 (ji29)).f2), .string ((rd_T37 l0 (ji29)).f3.f0), .int .i64 ((rd_T37 l0 (ji29)).f3.f1), .int .i64 ((rd_T37 l0 (ji29)).f3.f2), .int .i64 ((rd_T37 l0 (ji29)).f4)]) (j := 0) hcl41 hcc41 (show 7 ≤ 7 from by decide) (x' := (⟨(rd_T37 l0 (ji29)).f0, (rd_T37 l0 (ji29)).f1, (rd_T37 l0 (ji29)).f2, (⟨(rd_T37 l0 (ji29)).f3.f0, (rd_T37 l0 (ji29)).f3.f1, (rd_T37 l0 (ji29)).f3.f2⟩ : S35), (rd_T37 l0 (ji29)).f4⟩ : S37)) (k37_mkM _ _ _ (⟨(rd_T37 l0 (ji29)).f0, (rd_T37 l0 (ji29)).f1, (rd_T37 l0 (ji29)).f2, (⟨(rd_T37 l0 (ji29)).f3.f0, (rd_T37 l0 (ji29)).f3.f1, (rd_T37 l0 (ji29)).f3.f2⟩ : S35), (rd_T37 l0 (ji29)).f4⟩ : S37) ) (fun _ hk => hk))); (try (have hx41_0 := hcc41 0 _ rfl)); (try (try simp only [show (k37).sz = 7 from rfl, Nat.mul_one, Nat.add_zero] at hx41_0)); (try (have hf41_0 := hfr41 0)); (try (try simp only [show (k37).sz = 7 from rfl, Nat.mul_one, Nat.add_zero] at hf41_0)); (try (have hx41_1 := hcc41 1 _ rfl)); (try (try simp only [show (k37).sz = 7 from rfl, Nat.mul_one, Nat.add_zero] at hx41_1)); (try (have hf41_1 := hfr41 1)); (try (try simp only [show (k37).sz = 7 from rfl, Nat.mul_one, Nat.add_zero] at hf41_1)); (try (have hx41_2 := hcc41 2 _ rfl)); (try (try simp only [show (k37).sz = 7 from rfl, Nat.mul_one, Nat.add_zero] at hx41_2)); (try (have hf41_2 := hfr41 2)); (try (try simp only [show (k37).sz = 7 from rfl, Nat.mul_one, Nat.add_zero] at hf41_2)); (try (have hx41_3 := hcc41 3 _ rfl)); (try (try simp only [show (k37).sz = 7 from rfl, Nat.mul_one, Nat.add_zero] at hx41_3)); (try (have hf41_3 := hfr41 3)); (try (try simp only [show (k37).sz = 7 from rfl, Nat.mul_one, Nat.add_zero] at hf41_3)); (try (have hx41_4 := hcc41 4 _ rfl)); (try (try simp only [show (k37).sz = 7 from rfl, Nat.mul_one, Nat.add_zero] at hx41_4)); (try (have hf41_4 := hfr41 4)); (try (try simp only [show (k37).sz = 7 from rfl, Nat.mul_one, Nat.add_zero] at hf41_4)); (try (have hx41_5 := hcc41 5 _ rfl)); (try (try simp only [show (k37).sz = 7 from rfl, Nat.mul_one, Nat.add_zero] at hx41_5)); (try (have hf41_5 := hfr41 5)); (try (try simp only [show (k37).sz = 7 from rfl, Nat.mul_one, Nat.add_zero] at hf41_5)); (try (have hx41_6 := hcc41 6 _ rfl)); (try (try simp only [show (k37).sz = 7 from rfl, Nat.mul_one, Nat.add_zero] at hx41_6)); (try (have hf41_6 := hfr41 6)); (try (try simp only [show (k37).sz = 7 from rfl, Nat.mul_one, Nat.add_zero] at hf41_6)); (try (clear hcl41 hcc41 hfr41 hM41)))); refine store_event (t := 37) (p := 65) (v := ?vo_w42) (w1 := (((((((w40.setCell ⟨go34, (a1 : Int).toNat * 7, none⟩ (.int .i64 ((rd_T37 l0 (ji29)).f0))).setCell ⟨go34, (a1 : Int).toNat * 7 + 1, none⟩ (.int .i64 ((rd_T37 l0 (ji29)).f1))).setCell ⟨go34, (a1 : Int).toNat * 7 + 2, none⟩ (.bool ((rd_T37 l0 (ji29)).f2))).setCell ⟨go34, (a1 : Int).toNat * 7 + 3, none⟩ (.string ((rd_T37 l0 (ji29)).f3.f0))).setCell ⟨go34, (a1 : Int).toNat * 7 + 4, none⟩ (.int .i64 ((rd_T37 l0 (ji29)).f3.f1))).setCell ⟨go34, (a1 : Int).toNat * 7 + 5, none⟩ (.int .i64 ((rd_T37 l0 (ji29)).f3.f2))).setCell ⟨go34, (a1 : Int).toNat * 7 + 6, none⟩ (.int .i64 ((rd_T37 l0 (ji29)).f4)))) ?hg ?ho ?hn ?hr ?_; (case ho => rfl); (case hg => rfl); (case hn => rfl); (case hr => first | (go_simp; done) | (go_simp; rfl)); intro w42 hw; have hg : w40.grownBy w42 (some go34) := (by rw [hw]; exact HP41.2); have hp_ : Kd.R k37 37 w42 w.heap.size (fun _ => True) (.slice (some ⟨go34, 0, none⟩) t232.length co34) y236 := (by rw [hw, Ny236.out]; exact HP41.1); clear HP41; have n0_ := Aside0.mk (hp_); have n1_ := Aside0.mk ((by rw [hw]; exact below_set (below_set (below_set (below_set (below_set (below_set (below_set (HB.out) GB34.out) GB34.out) GB34.out) GB34.out) GB34.out) GB34.out) GB34.out : Below w.heap.size w w42)); clear HO234; clear HB; have HO234 := n0_; have HB := n1_; clear n0_ n1_; clear hg hw hp_; have p237 : 0 ≤ (a1 : Int) := of_decide_eq_true (by first | (with_reducible assumption) | assumption); have q237 : a1 < (l0.length : Int) := of_decide_eq_true (by first | (with_reducible assumption) | assumption); obtain ⟨ad237, e237, hx237_0, hx237_1, hx237_2, hx237_3, hx237_4, hx237_5, hx237_6⟩ := at_T37 HR0.out a1 p237 q237; obtain rfl : ad235 = ad237 := (by injection e237); replace hx237_0 := (HB.out.cell (World.block_lt_of_cell? w _ hx237_0)).trans hx237_0; replace hx237_1 := (HB.out.cell (World.block_lt_of_cell? w _ hx237_1)).trans hx237_1; replace hx237_2 := (HB.out.cell (World.block_lt_of_cell? w _ hx237_2)).trans hx237_2; replace hx237_3 := (HB.out.cell (World.block_lt_of_cell? w _ hx237_3)).trans hx237_3; replace hx237_4 := (HB.out.cell (World.block_lt_of_cell? w _ hx237_4)).trans hx237_4; replace hx237_5 := (HB.out.cell (World.block_lt_of_cell? w _ hx237_5)).trans hx237_5; replace hx237_6 := (HB.out.cell (World.block_lt_of_cell? w _ hx237_6)).trans hx237_6; replace p237 := eq_true p237; replace q237 := eq_true q237; have p37 : 0 ≤ ((ji29) : Int) := of_decide_eq_true (by first | (with_reducible assumption) | assumption); have q37 : ((ji29) : Int) < ((t232.length : Int) : Int) := of_decide_eq_true (by first | (with_reducible assumption) | assumption); obtain ⟨ce37, hcl37, hM37, hcc37, hfr37⟩ := Kd.R_elem HO234.out z37 ((ji29) : Int) p37 q37; obtain rfl := k37_openM hM37; have hx37_0 : w42.cell? ⟨go34, ((ji29) : Int).toNat * 7, none⟩ = some (.int .i64 ((rd_T37 y236 (ji29)).f0)) := hcc37 0 _ rfl; have hx37_1 : w42.cell? ⟨go34, ((ji29) : Int).toNat * 7 + 1, none⟩ = some (.int .i64 ((rd_T37 y236 (ji29)).f1)) := hcc37 1 _ rfl; have hx37_2 : w42.cell? ⟨go34, ((ji29) : Int).toNat * 7 + 2, none⟩ = some (.bool ((rd_T37 y236 (ji29)).f2)) := hcc37 2 _ rfl; have hx37_3 : w42.cell? ⟨go34, ((ji29) : Int).toNat * 7 + 3, none⟩ = some (.string ((rd_T37 y236 (ji29)).f3.f0)) := hcc37 3 _ rfl; have hx37_4 : w42.cell? ⟨go34, ((ji29) : Int).toNat * 7 + 4, none⟩ = some (.int .i64 ((rd_T37 y236 (ji29)).f3.f1)) := hcc37 4 _ rfl; have hx37_5 : w42.cell? ⟨go34, ((ji29) : Int).toNat * 7 + 5, none⟩ = some (.int .i64 ((rd_T37 y236 (ji29)).f3.f2)) := hcc37 5 _ rfl; have hx37_6 : w42.cell? ⟨go34, ((ji29) : Int).toNat * 7 + 6, none⟩ = some (.int .i64 ((rd_T37 y236 (ji29)).f4)) := hcc37 6 _ rfl; have hf37_0 : w42.frozen? ⟨go34, ((ji29) : Int).toNat * 7, none⟩ = false := hfr37 0; have hf37_1 : w42.frozen? ⟨go34, ((ji29) : Int).toNat * 7 + 1, none⟩ = false := hfr37 1; have hf37_2 : w42.frozen? ⟨go34, ((ji29) : Int).toNat * 7 + 2, none⟩ = false := hfr37 2; have hf37_3 : w42.frozen? ⟨go34, ((ji29) : Int).toNat * 7 + 3, none⟩ = false := hfr37 3; have hf37_4 : w42.frozen? ⟨go34, ((ji29) : Int).toNat * 7 + 4, none⟩ = false := hfr37 4; have hf37_5 : w42.frozen? ⟨go34, ((ji29) : Int).toNat * 7 + 5, none⟩ = false := hfr37 5; have hf37_6 : w42.frozen? ⟨go34, ((ji29) : Int).toNat * 7 + 6, none⟩ = false := hfr37 6; clear hcl37 hcc37 hfr37 hM37; replace p37 := eq_true p37; replace q37 := eq_true q37; have HX43 := Aside0.mk (show Kd.R k37 37 w42 w.heap.size (fun _ => True) (.slice (some ⟨go34, 0, none⟩) t232.length co34) y236 from (by (with_reducible repeat (first | apply Kd.R_alloc | apply Kd.R_drewN | apply Kd.R_drew)); exact HO234.out)); obtain ⟨ce43, hcl43, hM43, hcc43, hfr43⟩ := Kd.R_elem HX43.out z37 ((ji29) : Int) (of_decide_eq_true (by first | (with_reducible assumption) | assumption)) (by have h_ : ((ji29) : Int) < ((t232.length : Int) : Int) := of_decide_eq_true (by first | (with_reducible assumption) | assumption); first | exact h_ | (have e_ := (Kd.R_reads' HO234.out).1; omega) | simpa using h_); obtain rfl := k37_openM hM43; have HP43 := Kd.R_seg HX43.out ((ji29) : Int) (of_decide_eq_true (by first | (with_reducible assumption) | assumption)) (by have h_ : ((ji29) : Int) < ((t232.length : Int) : Int) := of_decide_eq_true (by first | (with_reducible assumption) | assumption); first | exact h_ | (have e_ := (Kd.R_reads' HO234.out).1; omega) | simpa using h_) (seg := [.int .i64 ((rd_T37 l0 a1).f0), .int .i64 ((rd_T37 l0 a1).f1), .bool ((rd_T37 l0 a1).f2), .string ((rd_T37 l0 a1).f3.f0), .int .i64 ((rd_T37 l0 a1).f3.f1), .int .i64 ((rd_T37 l0 a1).f3.f2), .int .i64 ((rd_T37 l0 a1).f4)]) (j := 0) hcl43 hcc43 (show 7 ≤ 7 from by decide) (x' := (⟨(rd_T37 l0 a1).f0, (rd_T37 l0 a1).f1, (rd_T37 l0 a1).f2, (⟨(rd_T37 l0 a1).f3.f0, (rd_T37 l0 a1).f3.f1, (rd_T37 l0 a1).f3.f2⟩ : S35), (rd_T37 l0 a1).f4⟩ : S37)) (k37_mkM _ _ _ (⟨(rd_T37 l0 a1).f0, (rd_T37 l0 a1).f1, (rd_T37 l0 a1).f2, (⟨(rd_T37 l0 a1).f3.f0, (rd_T37 l0 a1).f3.f1, (rd_T37 l0 a1).f3.f2⟩ : S35), (rd_T37 l0 a1).f4⟩ : S37) ) (fun _ hk => hk); have hx43_0 := hcc43 0 _ rfl; (try simp only [show (k37).sz = 7 from rfl, Nat.mul_one, Nat.add_zero] at hx43_0); have hf43_0 := hfr43 0; (try simp only [show (k37).sz = 7 from rfl, Nat.mul_one, Nat.add_zero] at hf43_0); have hx43_1 := hcc43 1 _ rfl; (try simp only [show (k37).sz = 7 from rfl, Nat.mul_one, Nat.add_zero] at hx43_1); have hf43_1 := hfr43 1; (try simp only [show (k37).sz = 7 from rfl, Nat.mul_one, Nat.add_zero] at hf43_1); have hx43_2 := hcc43 2 _ rfl; (try simp only [show (k37).sz = 7 from rfl, Nat.mul_one, Nat.add_zero] at hx43_2); have hf43_2 := hfr43 2; (try simp only [show (k37).sz = 7 from rfl, Nat.mul_one, Nat.add_zero] at hf43_2); have hx43_3 := hcc43 3 _ rfl; (try simp only [show (k37).sz = 7 from rfl, Nat.mul_one, Nat.add_zero] at hx43_3); have hf43_3 := hfr43 3; (try simp only [show (k37).sz = 7 from rfl, Nat.mul_one, Nat.add_zero] at hf43_3); have hx43_4 := hcc43 4 _ rfl; (try simp only [show (k37).sz = 7 from rfl, Nat.mul_one, Nat.add_zero] at hx43_4); have hf43_4 := hfr43 4; (try simp only [show (k37).sz = 7 from rfl, Nat.mul_one, Nat.add_zero] at hf43_4); have hx43_5 := hcc43 5 _ rfl; (try simp only [show (k37).sz = 7 from rfl, Nat.mul_one, Nat.add_zero] at hx43_5); have hf43_5 := hfr43 5; (try simp only [show (k37).sz = 7 from rfl, Nat.mul_one, Nat.add_zero] at hf43_5); have hx43_6 := hcc43 6 _ rfl; (try simp only [show (k37).sz = 7 from rfl, Nat.mul_one, Nat.add_zero] at hx43_6); have hf43_6 := hfr43 6; (try simp only [show (k37).sz = 7 from rfl, Nat.mul_one, Nat.add_zero] at hf43_6); clear hcl43 hcc43 hfr43 hM43) | ((with_reducible refine gate_store (t := 37) (p := 73) rfl ?_); (try (rw [drewN_self w42]; generalize hq_ : World.drewN w42 _ = w42; have n0_ := Aside0.mk (Kd.R_at hq_ HO234.out); have n1_ := Aside0.mk (below_at hq_ HB.out); clear hq_ HO234 HB; have HO234 := n0_; have HB := n1_; clear n0_ n1_; (try (have HX43 := Aside0.mk (show Kd.R k37 37 w42 w.heap.size (fun _ => True) (.slice (some ⟨go34, 0, none⟩) t232.length co34) y236 from (by (with_reducible repeat (first | apply Kd.R_alloc | apply Kd.R_drewN | apply Kd.R_drew)); exact HO234.out)))); (try (obtain ⟨ce43, hcl43, hM43, hcc43, hfr43⟩ := Kd.R_elem HX43.out z37 ((ji29) : Int) (of_decide_eq_true (by first | (with_reducible assumption) | assumption)) (by have h_ : ((ji29) : Int) < ((t232.length : Int) : Int) := of_decide_eq_true (by first | (with_reducible assumption) | assumption); first | exact h_ | (have e_ := (Kd.R_reads' HO234.out).1; omega) | simpa using h_))); (try (obtain rfl := k37_openM hM43)); (try (have HP43 := Kd.R_seg HX43.out ((ji29) : Int) (of_decide_eq_true (by first | (with_reducible assumption) | assumption)) (by have h_ : ((ji29) : Int) < ((t232.length : Int) : Int) := of_decide_eq_true (by first | (with_reducible assumption) | assumption); first | exact h_ | (have e_ := (Kd.R_reads' HO234.out).1; omega) | simpa using h_) (seg := [.int .i64 ((rd_T37 l0 a1).f0), .int .i64 ((rd_T37 l0 a1).f1), .bool ((rd_T37 l0 a1).f2), .string ((rd_T37 l0 a1).f3.f0), .int .i64 ((rd_T37 l0 a1).f3.f1), .int .i64 ((rd_T37 l0 a1).f3.f2), .int .i64 ((rd_T37 l0 a1).f4)]) (j := 0) hcl43 hcc43 (show 7 ≤ 7 from by decide) (x' := (⟨(rd_T37 l0 a1).f0, (rd_T37 l0 a1).f1, (rd_T37 l0 a1).f2, (⟨(rd_T37 l0 a1).f3.f0, (rd_T37 l0 a1).f3.f1, (rd_T37 l0 a1).f3.f2⟩ : S35), (rd_T37 l0 a1).f4⟩ : S37)) (k37_mkM _ _ _ (⟨(rd_T37 l0 a1).f0, (rd_T37 l0 a1).f1, (rd_T37 l0 a1).f2, (⟨(rd_T37 l0 a1).f3.f0, (rd_T37 l0 a1).f3.f1, (rd_T37 l0 a1).f3.f2⟩ : S35), (rd_T37 l0 a1).f4⟩ : S37) ) (fun _ hk => hk))); (try (have hx43_0 := hcc43 0 _ rfl)); (try (try simp only [show (k37).sz = 7 from rfl, Nat.mul_one, Nat.add_zero] at hx43_0)); (try (have hf43_0 := hfr43 0)); (try (try simp only [show (k37).sz = 7 from rfl, Nat.mul_one, Nat.add_zero] at hf43_0)); (try (have hx43_1 := hcc43 1 _ rfl)); (try (try simp only [show (k37).sz = 7 from rfl, Nat.mul_one, Nat.add_zero] at hx43_1)); (try (have hf43_1 := hfr43 1)); (try (try simp only [show (k37).sz = 7 from rfl, Nat.mul_one, Nat.add_zero] at hf43_1)); (try (have hx43_2 := hcc43 2 _ rfl)); (try (try simp only [show (k37).sz = 7 from rfl, Nat.mul_one, Nat.add_zero] at hx43_2)); (try (have hf43_2 := hfr43 2)); (try (try simp only [show (k37).sz = 7 from rfl, Nat.mul_one, Nat.add_zero] at hf43_2)); (try (have hx43_3 := hcc43 3 _ rfl)); (try (try simp only [show (k37).sz = 7 from rfl, Nat.mul_one, Nat.add_zero] at hx43_3)); (try (have hf43_3 := hfr43 3)); (try (try simp only [show (k37).sz = 7 from rfl, Nat.mul_one, Nat.add_zero] at hf43_3)); (try (have hx43_4 := hcc43 4 _ rfl)); (try (try simp only [show (k37).sz = 7 from rfl, Nat.mul_one, Nat.add_zero] at hx43_4)); (try (have hf43_4 := hfr43 4)); (try (try simp only [show (k37).sz = 7 from rfl, Nat.mul_one, Nat.add_zero] at hf43_4)); (try (have hx43_5 := hcc43 5 _ rfl)); (try (try simp only [show (k37).sz = 7 from rfl, Nat.mul_one, Nat.add_zero] at hx43_5)); (try (have hf43_5 := hfr43 5)); (try (try simp only [show (k37).sz = 7 from rfl, Nat.mul_one, Nat.add_zero] at hf43_5)); (try (have hx43_6 := hcc43 6 _ rfl)); (try (try simp only [show (k37).sz = 7 from rfl, Nat.mul_one, Nat.add_zero] at hx43_6)); (try (have hf43_6 := hfr43 6)); (try (try simp only [show (k37).sz = 7 from rfl, Nat.mul_one, Nat.add_zero] at hf43_6)); (try (clear hcl43 hcc43 hfr43 hM43)))); refine store_event (t := 37) (p := 73) (v := ?vo_w44) (w1 := (((((((w42.setCell ⟨go34, ((ji29) : Int).toNat * 7, none⟩ (.int .i64 ((rd_T37 l0 a1).f0))).setCell ⟨go34, ((ji29) : Int).toNat * 7 + 1, none⟩ (.int .i64 ((rd_T37 l0 a1).f1))).setCell ⟨go34, ((ji29) : Int).toNat * 7 + 2, none⟩ (.bool ((rd_T37 l0 a1).f2))).setCell ⟨go34, ((ji29) : Int).toNat * 7 + 3, none⟩ (.string ((rd_T37 l0 a1).f3.f0))).setCell ⟨go34, ((ji29) : Int).toNat * 7 + 4, none⟩ (.int .i64 ((rd_T37 l0 a1).f3.f1))).setCell ⟨go34, ((ji29) : Int).toNat * 7 + 5, none⟩ (.int .i64 ((rd_T37 l0 a1).f3.f2))).setCell ⟨go34, ((ji29) : Int).toNat * 7 + 6, none⟩ (.int .i64 ((rd_T37 l0 a1).f4)))) ?hg ?ho ?hn ?hr ?_; (case ho => rfl); (case hg => rfl); (case hn => rfl); (case hr => first | (go_simp; done) | (go_simp; rfl)); intro w44 hw; have hg : w42.grownBy w44 (some go34) := (by rw [hw]; exact HP43.2); have hp_ : Kd.R k37 37 w44 w.heap.size (fun _ => True) (.slice (some ⟨go34, 0, none⟩) t232.length co34) y238 := (by rw [hw, Ny238.out]; exact HP43.1); clear HP43; have n0_ := Aside0.mk (hp_); have n1_ := Aside0.mk ((by rw [hw]; exact below_set (below_set (below_set (below_set (below_set (below_set (below_set (HB.out) GB34.out) GB34.out) GB34.out) GB34.out) GB34.out) GB34.out) GB34.out : Below w.heap.size w w44)); clear HO234; clear HB; have HO234 := n0_; have HB := n1_; clear n0_ n1_; clear hg hw hp_) | (go_at_call 18; refine calls_of_args (args' := #[.slice (some ⟨go34, 0, none⟩) y238.length co34, .slice (some ad235) l0.length c0]) (by first | (rw [show y238.length = t232.length from (Kd.R_reads' HO234.out).1.symm] <;> rfl) | rfl) ?_; (with_reducible refine (hist_Wider.calls _ _ y238 _ _ l0 t239 t240 _ ?side1 ?side2 ?side3 ?side4 A38.out).mono ?_); (case side1 => repeat (first | exact (Kd.R_reads' HO234.out).2.2 | (with_reducible refine Kd.C_alloc ?_ _) | (with_reducible refine Kd.C_drewN ?_ _) | (with_reducible refine Kd.C_drew ?_))); (case side2 => rw [show y238.length = t232.length from (Kd.R_reads' HO234.out).1.symm]; exact (Kd.R_reads' HO234.out).2.1); (case side3 => repeat (first | exact (Kd.C_below HR0.out HB.out) | (with_reducible refine Kd.C_alloc ?_ _) | (with_reducible refine Kd.C_drewN ?_ _) | (with_reducible refine Kd.C_drew ?_))); (case side4 => exact HC0.out); rintro e w45 ⟨rfl, hb⟩; have n0_ := Aside0.mk (Kd.R_below (by (with_reducible repeat (first | apply Kd.R_alloc | apply Kd.R_drewN | apply Kd.R_drew)); exact HO234.out) hb); have n1_ := Aside0.mk (below_step (by repeat (first | (with_reducible first | exact HB.out | apply below_alloc | apply pw_below_drewN | apply below_drew1) | exact HB.out)) hb); clear HO234; clear HB; have HO234 := n0_; have HB := n1_; clear n0_ n1_; (try clear hb); (try clear hb2); (try clear hk); (try clear hi))); go_upto_region 9 with (first | (go_at_call 17; (with_reducible refine (locklesslaw17_own.calls _ _ l0 t232 _ ?side1 ?side2 A28.out).mono ?_); (case side1 => repeat (first | exact (Kd.C_below HR0.out HB.out) | (with_reducible refine Kd.C_alloc ?_ _) | (with_reducible refine Kd.C_drewN ?_ _) | (with_reducible refine Kd.C_drew ?_))); (case side2 => exact HC0.out); rintro e w40 ⟨v233, rfl, ho0, hb⟩; have n0_ := Aside0.mk (Kd.R_lower ho0 (below_size (by repeat (first | (with_reducible first | exact HB.out | apply below_alloc | apply pw_below_drewN | apply below_drew1) | exact HB.out)))); have n1_ := Aside0.mk (below_step (by repeat (first | (with_reducible first | exact HB.out | apply below_alloc | apply pw_below_drewN | apply below_drew1) | exact HB.out)) hb); clear HB; have HO234 := n0_; have HB := n1_; clear n0_ n1_; (try clear hb); (try clear hb2); (try clear hk); (try clear hi); (try clear ho0); have p235 : 0 ≤ ((ji29) : Int) := of_decide_eq_true (by first | (with_reducible assumption) | assumption); have q235 : (ji29) < (l0.length : Int) := of_decide_eq_true (by first | (with_reducible assumption) | assumption); obtain ⟨ad235, e235, hx235_0, hx235_1, hx235_2, hx235_3, hx235_4, hx235_5, hx235_6⟩ := at_T37 HR0.out (ji29) p235 q235; cases e235; replace hx235_0 := (HB.out.cell (World.block_lt_of_cell? w _ hx235_0)).trans hx235_0; replace hx235_1 := (HB.out.cell (World.block_lt_of_cell? w _ hx235_1)).trans hx235_1; replace hx235_2 := (HB.out.cell (World.block_lt_of_cell? w _ hx235_2)).trans hx235_2; replace hx235_3 := (HB.out.cell (World.block_lt_of_cell? w _ hx235_3)).trans hx235_3; replace hx235_4 := (HB.out.cell (World.block_lt_of_cell? w _ hx235_4)).trans hx235_4; replace hx235_5 := (HB.out.cell (World.block_lt_of_cell? w _ hx235_5)).trans hx235_5; replace hx235_6 := (HB.out.cell (World.block_lt_of_cell? w _ hx235_6)).trans hx235_6; replace p235 := eq_true p235; replace q235 := eq_true q235; have p34 : 0 ≤ (a1 : Int) := of_decide_eq_true (by first | (with_reducible assumption) | assumption); have q34 : (a1 : Int) < ((t232.length : Int) : Int) := of_decide_eq_true (by first | (with_reducible assumption) | assumption); obtain ⟨go34, co34, eo34, gb34, gl34, cl34, HG34⟩ := Kd.R_form HO234.out (by omega); (first | cases eo34 | (injection eo34 with ea_ en_ ec_; (first | subst ea_ | (injection ea_ with ea_; subst ea_)); subst ec_; clear en_)); have GB34 := Aside0.mk gb34; have GG34 := Aside0.mk HG34; clear gb34 gl34 HG34; obtain ⟨ce34, hcl34, hM34, hcc34, hfr34⟩ := Kd.R_elem HO234.out z37 (a1 : Int) p34 q34; obtain rfl := k37_openM hM34; have hx34_0 : w40.cell? ⟨go34, (a1 : Int).toNat * 7, none⟩ = some (.int .i64 ((rd_T37 t232 a1).f0)) := hcc34 0 _ rfl; have hx34_1 : w40.cell? ⟨go34, (a1 : Int).toNat * 7 + 1, none⟩ = some (.int .i64 ((rd_T37 t232 a1).f1)) := hcc34 1 _ rfl; have hx34_2 : w40.cell? ⟨go34, (a1 : Int).toNat * 7 + 2, none⟩ = some (.bool ((rd_T37 t232 a1).f2)) := hcc34 2 _ rfl; have hx34_3 : w40.cell? ⟨go34, (a1 : Int).toNat * 7 + 3, none⟩ = some (.string ((rd_T37 t232 a1).f3.f0)) := hcc34 3 _ rfl; have hx34_4 : w40.cell? ⟨go34, (a1 : Int).toNat * 7 + 4, none⟩ = some (.int .i64 ((rd_T37 t232 a1).f3.f1)) := hcc34 4 _ rfl; have hx34_5 : w40.cell? ⟨go34, (a1 : Int).toNat * 7 + 5, none⟩ = some (.int .i64 ((rd_T37 t232 a1).f3.f2)) := hcc34 5 _ rfl; have hx34_6 : w40.cell? ⟨go34, (a1 : Int).toNat * 7 + 6, none⟩ = some (.int .i64 ((rd_T37 t232 a1).f4)) := hcc34 6 _ rfl; have hf34_0 : w40.frozen? ⟨go34, (a1 : Int).toNat * 7, none⟩ = false := hfr34 0; have hf34_1 : w40.frozen? ⟨go34, (a1 : Int).toNat * 7 + 1, none⟩ = false := hfr34 1; have hf34_2 : w40.frozen? ⟨go34, (a1 : Int).toNat * 7 + 2, none⟩ = false := hfr34 2; have hf34_3 : w40.frozen? ⟨go34, (a1 : Int).toNat * 7 + 3, none⟩ = false := hfr34 3; have hf34_4 : w40.frozen? ⟨go34, (a1 : Int).toNat * 7 + 4, none⟩ = false := hfr34 4; have hf34_5 : w40.frozen? ⟨go34, (a1 : Int).toNat * 7 + 5, none⟩ = false := hfr34 5; have hf34_6 : w40.frozen? ⟨go34, (a1 : Int).toNat * 7 + 6, none⟩ = false := hfr34 6; clear hcl34 hcc34 hfr34 hM34; replace p34 := eq_true p34; replace q34 := eq_true q34; have HX41 := Aside0.mk (show Kd.R k37 37 w40 w.heap.size (fun _ => True) (.slice (some ⟨go34, 0, none⟩) t232.length co34) t232 from (by (with_reducible repeat (first | apply Kd.R_alloc | apply Kd.R_drewN | apply Kd.R_drew)); exact HO234.out)); obtain ⟨ce41, hcl41, hM41, hcc41, hfr41⟩ := Kd.R_elem HX41.out z37 (a1 : Int) (of_decide_eq_true (by first | (with_reducible assumption) | assumption)) (by have h_ : (a1 : Int) < ((t232.length : Int) : Int) := of_decide_eq_true (by first | (with_reducible assumption) | assumption); first | exact h_ | (have e_ := (Kd.R_reads' HO234.out).1; omega) | simpa using h_); obtain rfl := k37_openM hM41; have HP41 := Kd.R_seg HX41.out (a1 : Int) (of_decide_eq_true (by first | (with_reducible assumption) | assumption)) (by have h_ : (a1 : Int) < ((t232.length : Int) : Int) := of_decide_eq_true (by first | (with_reducible assumption) | assumption); first | exact h_ | (have e_ := (Kd.R_reads' HO234.out).1; omega) | simpa using h_) (seg := [.int .i64 ((rd_T37 l0 (ji29)).f0), .int .i64 ((rd_T37 l0 (ji29)).f1), .bool ((rd_T37 l0 (ji29)).f2), .string ((rd_T37 l0 (ji29)).f3.f0), .int .i64 ((rd_T37 l0 (ji29)).f3.f1), .int .i64 ((rd_T37 l0 (ji29)).f3.f2), .int .i64 ((rd_T37 l0 (ji29)).f4)]) (j := 0) hcl41 hcc41 (show 7 ≤ 7 from by decide) (x' := (⟨(rd_T37 l0 (ji29)).f0, (rd_T37 l0 (ji29)).f1, (rd_T37 l0 (ji29)).f2, (⟨(rd_T37 l0 (ji29)).f3.f0, (rd_T37 l0 (ji29)).f3.f1, (rd_T37 l0 (ji29)).f3.f2⟩ : S35), (rd_T37 l0 (ji29)).f4⟩ : S37)) (k37_mkM _ _ _ (⟨(rd_T37 l0 (ji29)).f0, (rd_T37 l0 (ji29)).f1, (rd_T37 l0 (ji29)).f2, (⟨(rd_T37 l0 (ji29)).f3.f0, (rd_T37 l0 (ji29)).f3.f1, (rd_T37 l0 (ji29)).f3.f2⟩ : S35), (rd_T37 l0 (ji29)).f4⟩ : S37) ) (fun _ hk => hk); have hx41_0 := hcc41 0 _ rfl; (try simp only [show (k37).sz = 7 from rfl, Nat.mul_one, Nat.add_zero] at hx41_0); have hf41_0 := hfr41 0; (try simp only [show (k37).sz = 7 from rfl, Nat.mul_one, Nat.add_zero] at hf41_0); have hx41_1 := hcc41 1 _ rfl; (try simp only [show (k37).sz = 7 from rfl, Nat.mul_one, Nat.add_zero] at hx41_1); have hf41_1 := hfr41 1; (try simp only [show (k37).sz = 7 from rfl, Nat.mul_one, Nat.add_zero] at hf41_1); have hx41_2 := hcc41 2 _ rfl; (try simp only [show (k37).sz = 7 from rfl, Nat.mul_one, Nat.add_zero] at hx41_2); have hf41_2 := hfr41 2; (try simp only [show (k37).sz = 7 from rfl, Nat.mul_one, Nat.add_zero] at hf41_2); have hx41_3 := hcc41 3 _ rfl; (try simp only [show (k37).sz = 7 from rfl, Nat.mul_one, Nat.add_zero] at hx41_3); have hf41_3 := hfr41 3; (try simp only [show (k37).sz = 7 from rfl, Nat.mul_one, Nat.add_zero] at hf41_3); have hx41_4 := hcc41 4 _ rfl; (try simp only [show (k37).sz = 7 from rfl, Nat.mul_one, Nat.add_zero] at hx41_4); have hf41_4 := hfr41 4; (try simp only [show (k37).sz = 7 from rfl, Nat.mul_one, Nat.add_zero] at hf41_4); have hx41_5 := hcc41 5 _ rfl; (try simp only [show (k37).sz = 7 from rfl, Nat.mul_one, Nat.add_zero] at hx41_5); have hf41_5 := hfr41 5; (try simp only [show (k37).sz = 7 from rfl, Nat.mul_one, Nat.add_zero] at hf41_5); have hx41_6 := hcc41 6 _ rfl; (try simp only [show (k37).sz = 7 from rfl, Nat.mul_one, Nat.add_zero] at hx41_6); have hf41_6 := hfr41 6; (try simp only [show (k37).sz = 7 from rfl, Nat.mul_one, Nat.add_zero] at hf41_6); clear hcl41 hcc41 hfr41 hM41) | ((with_reducible refine gate_store (t := 37) (p := 65) rfl ?_); (try (rw [drewN_self w40]; generalize hq_ : World.drewN w40 _ = w40; have n0_ := Aside0.mk (Kd.R_at hq_ HO234.out); have n1_ := Aside0.mk (below_at hq_ HB.out); clear hq_ HO234 HB; have HO234 := n0_; have HB := n1_; clear n0_ n1_; (try (have HX41 := Aside0.mk (show Kd.R k37 37 w40 w.heap.size (fun _ => True) (.slice (some ⟨go34, 0, none⟩) t232.length co34) t232 from (by (with_reducible repeat (first | apply Kd.R_alloc | apply Kd.R_drewN | apply Kd.R_drew)); exact HO234.out)))); (try (obtain ⟨ce41, hcl41, hM41, hcc41, hfr41⟩ := Kd.R_elem HX41.out z37 (a1 : Int) (of_decide_eq_true (by first | (with_reducible assumption) | assumption)) (by have h_ : (a1 : Int) < ((t232.length : Int) : Int) := of_decide_eq_true (by first | (with_reducible assumption) | assumption); first | exact h_ | (have e_ := (Kd.R_reads' HO234.out).1; omega) | simpa using h_))); (try (obtain rfl := k37_openM hM41)); (try (have HP41 := Kd.R_seg HX41.out (a1 : Int) (of_decide_eq_true (by first | (with_reducible assumption) | assumption)) (by have h_ : (a1 : Int) < ((t232.length : Int) : Int) := of_decide_eq_true (by first | (with_reducible assumption) | assumption); first | exact h_ | (have e_ := (Kd.R_reads' HO234.out).1; omega) | simpa using h_) (seg := [.int .i64 ((rd_T37 l0 (ji29)).f0), .int .i64 ((rd_T37 l0 (ji29)).f1), .bool ((rd_T37 l0 (ji29)).f2), .string ((rd_T37 l0 (ji29)).f3.f0), .int .i64 ((rd_T37 l0 (ji29)).f3.f1), .int .i64 ((rd_T37 l0 (ji29)).f3.f2), .int .i64 ((rd_T37 l0 (ji29)).f4)]) (j := 0) hcl41 hcc41 (show 7 ≤ 7 from by decide) (x' := (⟨(rd_T37 l0 (ji29)).f0, (rd_T37 l0 (ji29)).f1, (rd_T37 l0 (ji29)).f2, (⟨(rd_T37 l0 (ji29)).f3.f0, (rd_T37 l0 (ji29)).f3.f1, (rd_T37 l0 (ji29)).f3.f2⟩ : S35), (rd_T37 l0 (ji29)).f4⟩ : S37)) (k37_mkM _ _ _ (⟨(rd_T37 l0 (ji29)).f0, (rd_T37 l0 (ji29)).f1, (rd_T37 l0 (ji29)).f2, (⟨(rd_T37 l0 (ji29)).f3.f0, (rd_T37 l0 (ji29)).f3.f1, (rd_T37 l0 (ji29)).f3.f2⟩ : S35), (rd_T37 l0 (ji29)).f4⟩ : S37) ) (fun _ hk => hk))); (try (have hx41_0 := hcc41 0 _ rfl)); (try (try simp only [show (k37).sz = 7 from rfl, Nat.mul_one, Nat.add_zero] at hx41_0)); (try (have hf41_0 := hfr41 0)); (try (try simp only [show (k37).sz = 7 from rfl, Nat.mul_one, Nat.add_zero] at hf41_0)); (try (have hx41_1 := hcc41 1 _ rfl)); (try (try simp only [show (k37).sz = 7 from rfl, Nat.mul_one, Nat.add_zero] at hx41_1)); (try (have hf41_1 := hfr41 1)); (try (try simp only [show (k37).sz = 7 from rfl, Nat.mul_one, Nat.add_zero] at hf41_1)); (try (have hx41_2 := hcc41 2 _ rfl)); (try (try simp only [show (k37).sz = 7 from rfl, Nat.mul_one, Nat.add_zero] at hx41_2)); (try (have hf41_2 := hfr41 2)); (try (try simp only [show (k37).sz = 7 from rfl, Nat.mul_one, Nat.add_zero] at hf41_2)); (try (have hx41_3 := hcc41 3 _ rfl)); (try (try simp only [show (k37).sz = 7 from rfl, Nat.mul_one, Nat.add_zero] at hx41_3)); (try (have hf41_3 := hfr41 3)); (try (try simp only [show (k37).sz = 7 from rfl, Nat.mul_one, Nat.add_zero] at hf41_3)); (try (have hx41_4 := hcc41 4 _ rfl)); (try (try simp only [show (k37).sz = 7 from rfl, Nat.mul_one, Nat.add_zero] at hx41_4)); (try (have hf41_4 := hfr41 4)); (try (try simp only [show (k37).sz = 7 from rfl, Nat.mul_one, Nat.add_zero] at hf41_4)); (try (have hx41_5 := hcc41 5 _ rfl)); (try (try simp only [show (k37).sz = 7 from rfl, Nat.mul_one, Nat.add_zero] at hx41_5)); (try (have hf41_5 := hfr41 5)); (try (try simp only [show (k37).sz = 7 from rfl, Nat.mul_one, Nat.add_zero] at hf41_5)); (try (have hx41_6 := hcc41 6 _ rfl)); (try (try simp only [show (k37).sz = 7 from rfl, Nat.mul_one, Nat.add_zero] at hx41_6)); (try (have hf41_6 := hfr41 6)); (try (try simp only [show (k37).sz = 7 from rfl, Nat.mul_one, Nat.add_zero] at hf41_6)); (try (clear hcl41 hcc41 hfr41 hM41)))); refine store_event (t := 37) (p := 65) (v := ?vo_w42) (w1 := (((((((w40.setCell ⟨go34, (a1 : Int).toNat * 7, none⟩ (.int .i64 ((rd_T37 l0 (ji29)).f0))).setCell ⟨go34, (a1 : Int).toNat * 7 + 1, none⟩ (.int .i64 ((rd_T37 l0 (ji29)).f1))).setCell ⟨go34, (a1 : Int).toNat * 7 + 2, none⟩ (.bool ((rd_T37 l0 (ji29)).f2))).setCell ⟨go34, (a1 : Int).toNat * 7 + 3, none⟩ (.string ((rd_T37 l0 (ji29)).f3.f0))).setCell ⟨go34, (a1 : Int).toNat * 7 + 4, none⟩ (.int .i64 ((rd_T37 l0 (ji29)).f3.f1))).setCell ⟨go34, (a1 : Int).toNat * 7 + 5, none⟩ (.int .i64 ((rd_T37 l0 (ji29)).f3.f2))).setCell ⟨go34, (a1 : Int).toNat * 7 + 6, none⟩ (.int .i64 ((rd_T37 l0 (ji29)).f4)))) ?hg ?ho ?hn ?hr ?_; (case ho => rfl); (case hg => rfl); (case hn => rfl); (case hr => first | (go_simp; done) | (go_simp; rfl)); intro w42 hw; have hg : w40.grownBy w42 (some go34) := (by rw [hw]; exact HP41.2); have hp_ : Kd.R k37 37 w42 w.heap.size (fun _ => True) (.slice (some ⟨go34, 0, none⟩) t232.length co34) y236 := (by rw [hw, Ny236.out]; exact HP41.1); clear HP41; have n0_ := Aside0.mk (hp_); have n1_ := Aside0.mk ((by rw [hw]; exact below_set (below_set (below_set (below_set (below_set (below_set (below_set (HB.out) GB34.out) GB34.out) GB34.out) GB34.out) GB34.out) GB34.out) GB34.out : Below w.heap.size w w42)); clear HO234; clear HB; have HO234 := n0_; have HB := n1_; clear n0_ n1_; clear hg hw hp_; have p237 : 0 ≤ (a1 : Int) := of_decide_eq_true (by first | (with_reducible assumption) | assumption); have q237 : a1 < (l0.length : Int) := of_decide_eq_true (by first | (with_reducible assumption) | assumption); obtain ⟨ad237, e237, hx237_0, hx237_1, hx237_2, hx237_3, hx237_4, hx237_5, hx237_6⟩ := at_T37 HR0.out a1 p237 q237; obtain rfl : ad235 = ad237 := (by injection e237); replace hx237_0 := (HB.out.cell (World.block_lt_of_cell? w _ hx237_0)).trans hx237_0; replace hx237_1 := (HB.out.cell (World.block_lt_of_cell? w _ hx237_1)).trans hx237_1; replace hx237_2 := (HB.out.cell (World.block_lt_of_cell? w _ hx237_2)).trans hx237_2; replace hx237_3 := (HB.out.cell (World.block_lt_of_cell? w _ hx237_3)).trans hx237_3; replace hx237_4 := (HB.out.cell (World.block_lt_of_cell? w _ hx237_4)).trans hx237_4; replace hx237_5 := (HB.out.cell (World.block_lt_of_cell? w _ hx237_5)).trans hx237_5; replace hx237_6 := (HB.out.cell (World.block_lt_of_cell? w _ hx237_6)).trans hx237_6; replace p237 := eq_true p237; replace q237 := eq_true q237; have p37 : 0 ≤ ((ji29) : Int) := of_decide_eq_true (by first | (with_reducible assumption) | assumption); have q37 : ((ji29) : Int) < ((t232.length : Int) : Int) := of_decide_eq_true (by first | (with_reducible assumption) | assumption); obtain ⟨ce37, hcl37, hM37, hcc37, hfr37⟩ := Kd.R_elem HO234.out z37 ((ji29) : Int) p37 q37; obtain rfl := k37_openM hM37; have hx37_0 : w42.cell? ⟨go34, ((ji29) : Int).toNat * 7, none⟩ = some (.int .i64 ((rd_T37 y236 (ji29)).f0)) := hcc37 0 _ rfl; have hx37_1 : w42.cell? ⟨go34, ((ji29) : Int).toNat * 7 + 1, none⟩ = some (.int .i64 ((rd_T37 y236 (ji29)).f1)) := hcc37 1 _ rfl; have hx37_2 : w42.cell? ⟨go34, ((ji29) : Int).toNat * 7 + 2, none⟩ = some (.bool ((rd_T37 y236 (ji29)).f2)) := hcc37 2 _ rfl; have hx37_3 : w42.cell? ⟨go34, ((ji29) : Int).toNat * 7 + 3, none⟩ = some (.string ((rd_T37 y236 (ji29)).f3.f0)) := hcc37 3 _ rfl; have hx37_4 : w42.cell? ⟨go34, ((ji29) : Int).toNat * 7 + 4, none⟩ = some (.int .i64 ((rd_T37 y236 (ji29)).f3.f1)) := hcc37 4 _ rfl; have hx37_5 : w42.cell? ⟨go34, ((ji29) : Int).toNat * 7 + 5, none⟩ = some (.int .i64 ((rd_T37 y236 (ji29)).f3.f2)) := hcc37 5 _ rfl; have hx37_6 : w42.cell? ⟨go34, ((ji29) : Int).toNat * 7 + 6, none⟩ = some (.int .i64 ((rd_T37 y236 (ji29)).f4)) := hcc37 6 _ rfl; have hf37_0 : w42.frozen? ⟨go34, ((ji29) : Int).toNat * 7, none⟩ = false := hfr37 0; have hf37_1 : w42.frozen? ⟨go34, ((ji29) : Int).toNat * 7 + 1, none⟩ = false := hfr37 1; have hf37_2 : w42.frozen? ⟨go34, ((ji29) : Int).toNat * 7 + 2, none⟩ = false := hfr37 2; have hf37_3 : w42.frozen? ⟨go34, ((ji29) : Int).toNat * 7 + 3, none⟩ = false := hfr37 3; have hf37_4 : w42.frozen? ⟨go34, ((ji29) : Int).toNat * 7 + 4, none⟩ = false := hfr37 4; have hf37_5 : w42.frozen? ⟨go34, ((ji29) : Int).toNat * 7 + 5, none⟩ = false := hfr37 5; have hf37_6 : w42.frozen? ⟨go34, ((ji29) : Int).toNat * 7 + 6, none⟩ = false := hfr37 6; clear hcl37 hcc37 hfr37 hM37; replace p37 := eq_true p37; replace q37 := eq_true q37; have HX43 := Aside0.mk (show Kd.R k37 37 w42 w.heap.size (fun _ => True) (.slice (some ⟨go34, 0, none⟩) t232.length co34) y236 from (by (with_reducible repeat (first | apply Kd.R_alloc | apply Kd.R_drewN | apply Kd.R_drew)); exact HO234.out)); obtain ⟨ce43, hcl43, hM43, hcc43, hfr43⟩ := Kd.R_elem HX43.out z37 ((ji29) : Int) (of_decide_eq_true (by first | (with_reducible assumption) | assumption)) (by have h_ : ((ji29) : Int) < ((t232.length : Int) : Int) := of_decide_eq_true (by first | (with_reducible assumption) | assumption); first | exact h_ | (have e_ := (Kd.R_reads' HO234.out).1; omega) | simpa using h_); obtain rfl := k37_openM hM43; have HP43 := Kd.R_seg HX43.out ((ji29) : Int) (of_decide_eq_true (by first | (with_reducible assumption) | assumption)) (by have h_ : ((ji29) : Int) < ((t232.length : Int) : Int) := of_decide_eq_true (by first | (with_reducible assumption) | assumption); first | exact h_ | (have e_ := (Kd.R_reads' HO234.out).1; omega) | simpa using h_) (seg := [.int .i64 ((rd_T37 l0 a1).f0), .int .i64 ((rd_T37 l0 a1).f1), .bool ((rd_T37 l0 a1).f2), .string ((rd_T37 l0 a1).f3.f0), .int .i64 ((rd_T37 l0 a1).f3.f1), .int .i64 ((rd_T37 l0 a1).f3.f2), .int .i64 ((rd_T37 l0 a1).f4)]) (j := 0) hcl43 hcc43 (show 7 ≤ 7 from by decide) (x' := (⟨(rd_T37 l0 a1).f0, (rd_T37 l0 a1).f1, (rd_T37 l0 a1).f2, (⟨(rd_T37 l0 a1).f3.f0, (rd_T37 l0 a1).f3.f1, (rd_T37 l0 a1).f3.f2⟩ : S35), (rd_T37 l0 a1).f4⟩ : S37)) (k37_mkM _ _ _ (⟨(rd_T37 l0 a1).f0, (rd_T37 l0 a1).f1, (rd_T37 l0 a1).f2, (⟨(rd_T37 l0 a1).f3.f0, (rd_T37 l0 a1).f3.f1, (rd_T37 l0 a1).f3.f2⟩ : S35), (rd_T37 l0 a1).f4⟩ : S37) ) (fun _ hk => hk); have hx43_0 := hcc43 0 _ rfl; (try simp only [show (k37).sz = 7 from rfl, Nat.mul_one, Nat.add_zero] at hx43_0); have hf43_0 := hfr43 0; (try simp only [show (k37).sz = 7 from rfl, Nat.mul_one, Nat.add_zero] at hf43_0); have hx43_1 := hcc43 1 _ rfl; (try simp only [show (k37).sz = 7 from rfl, Nat.mul_one, Nat.add_zero] at hx43_1); have hf43_1 := hfr43 1; (try simp only [show (k37).sz = 7 from rfl, Nat.mul_one, Nat.add_zero] at hf43_1); have hx43_2 := hcc43 2 _ rfl; (try simp only [show (k37).sz = 7 from rfl, Nat.mul_one, Nat.add_zero] at hx43_2); have hf43_2 := hfr43 2; (try simp only [show (k37).sz = 7 from rfl, Nat.mul_one, Nat.add_zero] at hf43_2); have hx43_3 := hcc43 3 _ rfl; (try simp only [show (k37).sz = 7 from rfl, Nat.mul_one, Nat.add_zero] at hx43_3); have hf43_3 := hfr43 3; (try simp only [show (k37).sz = 7 from rfl, Nat.mul_one, Nat.add_zero] at hf43_3); have hx43_4 := hcc43 4 _ rfl; (try simp only [show (k37).sz = 7 from rfl, Nat.mul_one, Nat.add_zero] at hx43_4); have hf43_4 := hfr43 4; (try simp only [show (k37).sz = 7 from rfl, Nat.mul_one, Nat.add_zero] at hf43_4); have hx43_5 := hcc43 5 _ rfl; (try simp only [show (k37).sz = 7 from rfl, Nat.mul_one, Nat.add_zero] at hx43_5); have hf43_5 := hfr43 5; (try simp only [show (k37).sz = 7 from rfl, Nat.mul_one, Nat.add_zero] at hf43_5); have hx43_6 := hcc43 6 _ rfl; (try simp only [show (k37).sz = 7 from rfl, Nat.mul_one, Nat.add_zero] at hx43_6); have hf43_6 := hfr43 6; (try simp only [show (k37).sz = 7 from rfl, Nat.mul_one, Nat.add_zero] at hf43_6); clear hcl43 hcc43 hfr43 hM43) | ((with_reducible refine gate_store (t := 37) (p := 73) rfl ?_); (try (rw [drewN_self w42]; generalize hq_ : World.drewN w42 _ = w42; have n0_ := Aside0.mk (Kd.R_at hq_ HO234.out); have n1_ := Aside0.mk (below_at hq_ HB.out); clear hq_ HO234 HB; have HO234 := n0_; have HB := n1_; clear n0_ n1_; (try (have HX43 := Aside0.mk (show Kd.R k37 37 w42 w.heap.size (fun _ => True) (.slice (some ⟨go34, 0, none⟩) t232.length co34) y236 from (by (with_reducible repeat (first | apply Kd.R_alloc | apply Kd.R_drewN | apply Kd.R_drew)); exact HO234.out)))); (try (obtain ⟨ce43, hcl43, hM43, hcc43, hfr43⟩ := Kd.R_elem HX43.out z37 ((ji29) : Int) (of_decide_eq_true (by first | (with_reducible assumption) | assumption)) (by have h_ : ((ji29) : Int) < ((t232.length : Int) : Int) := of_decide_eq_true (by first | (with_reducible assumption) | assumption); first | exact h_ | (have e_ := (Kd.R_reads' HO234.out).1; omega) | simpa using h_))); (try (obtain rfl := k37_openM hM43)); (try (have HP43 := Kd.R_seg HX43.out ((ji29) : Int) (of_decide_eq_true (by first | (with_reducible assumption) | assumption)) (by have h_ : ((ji29) : Int) < ((t232.length : Int) : Int) := of_decide_eq_true (by first | (with_reducible assumption) | assumption); first | exact h_ | (have e_ := (Kd.R_reads' HO234.out).1; omega) | simpa using h_) (seg := [.int .i64 ((rd_T37 l0 a1).f0), .int .i64 ((rd_T37 l0 a1).f1), .bool ((rd_T37 l0 a1).f2), .string ((rd_T37 l0 a1).f3.f0), .int .i64 ((rd_T37 l0 a1).f3.f1), .int .i64 ((rd_T37 l0 a1).f3.f2), .int .i64 ((rd_T37 l0 a1).f4)]) (j := 0) hcl43 hcc43 (show 7 ≤ 7 from by decide) (x' := (⟨(rd_T37 l0 a1).f0, (rd_T37 l0 a1).f1, (rd_T37 l0 a1).f2, (⟨(rd_T37 l0 a1).f3.f0, (rd_T37 l0 a1).f3.f1, (rd_T37 l0 a1).f3.f2⟩ : S35), (rd_T37 l0 a1).f4⟩ : S37)) (k37_mkM _ _ _ (⟨(rd_T37 l0 a1).f0, (rd_T37 l0 a1).f1, (rd_T37 l0 a1).f2, (⟨(rd_T37 l0 a1).f3.f0, (rd_T37 l0 a1).f3.f1, (rd_T37 l0 a1).f3.f2⟩ : S35), (rd_T37 l0 a1).f4⟩ : S37) ) (fun _ hk => hk))); (try (have hx43_0 := hcc43 0 _ rfl)); (try (try simp only [show (k37).sz = 7 from rfl, Nat.mul_one, Nat.add_zero] at hx43_0)); (try (have hf43_0 := hfr43 0)); (try (try simp only [show (k37).sz = 7 from rfl, Nat.mul_one, Nat.add_zero] at hf43_0)); (try (have hx43_1 := hcc43 1 _ rfl)); (try (try simp only [show (k37).sz = 7 from rfl, Nat.mul_one, Nat.add_zero] at hx43_1)); (try (have hf43_1 := hfr43 1)); (try (try simp only [show (k37).sz = 7 from rfl, Nat.mul_one, Nat.add_zero] at hf43_1)); (try (have hx43_2 := hcc43 2 _ rfl)); (try (try simp only [show (k37).sz = 7 from rfl, Nat.mul_one, Nat.add_zero] at hx43_2)); (try (have hf43_2 := hfr43 2)); (try (try simp only [show (k37).sz = 7 from rfl, Nat.mul_one, Nat.add_zero] at hf43_2)); (try (have hx43_3 := hcc43 3 _ rfl)); (try (try simp only [show (k37).sz = 7 from rfl, Nat.mul_one, Nat.add_zero] at hx43_3)); (try (have hf43_3 := hfr43 3)); (try (try simp only [show (k37).sz = 7 from rfl, Nat.mul_one, Nat.add_zero] at hf43_3)); (try (have hx43_4 := hcc43 4 _ rfl)); (try (try simp only [show (k37).sz = 7 from rfl, Nat.mul_one, Nat.add_zero] at hx43_4)); (try (have hf43_4 := hfr43 4)); (try (try simp only [show (k37).sz = 7 from rfl, Nat.mul_one, Nat.add_zero] at hf43_4)); (try (have hx43_5 := hcc43 5 _ rfl)); (try (try simp only [show (k37).sz = 7 from rfl, Nat.mul_one, Nat.add_zero] at hx43_5)); (try (have hf43_5 := hfr43 5)); (try (try simp only [show (k37).sz = 7 from rfl, Nat.mul_one, Nat.add_zero] at hf43_5)); (try (have hx43_6 := hcc43 6 _ rfl)); (try (try simp only [show (k37).sz = 7 from rfl, Nat.mul_one, Nat.add_zero] at hx43_6)); (try (have hf43_6 := hfr43 6)); (try (try simp only [show (k37).sz = 7 from rfl, Nat.mul_one, Nat.add_zero] at hf43_6)); (try (clear hcl43 hcc43 hfr43 hM43)))); refine store_event (t := 37) (p := 73) (v := ?vo_w44) (w1 := (((((((w42.setCell ⟨go34, ((ji29) : Int).toNat * 7, none⟩ (.int .i64 ((rd_T37 l0 a1).f0))).setCell ⟨go34, ((ji29) : Int).toNat * 7 + 1, none⟩ (.int .i64 ((rd_T37 l0 a1).f1))).setCell ⟨go34, ((ji29) : Int).toNat * 7 + 2, none⟩ (.bool ((rd_T37 l0 a1).f2))).setCell ⟨go34, ((ji29) : Int).toNat * 7 + 3, none⟩ (.string ((rd_T37 l0 a1).f3.f0))).setCell ⟨go34, ((ji29) : Int).toNat * 7 + 4, none⟩ (.int .i64 ((rd_T37 l0 a1).f3.f1))).setCell ⟨go34, ((ji29) : Int).toNat * 7 + 5, none⟩ (.int .i64 ((rd_T37 l0 a1).f3.f2))).setCell ⟨go34, ((ji29) : Int).toNat * 7 + 6, none⟩ (.int .i64 ((rd_T37 l0 a1).f4)))) ?hg ?ho ?hn ?hr ?_; (case ho => rfl); (case hg => rfl); (case hn => rfl); (case hr => first | (go_simp; done) | (go_simp; rfl)); intro w44 hw; have hg : w42.grownBy w44 (some go34) := (by rw [hw]; exact HP43.2); have hp_ : Kd.R k37 37 w44 w.heap.size (fun _ => True) (.slice (some ⟨go34, 0, none⟩) t232.length co34) y238 := (by rw [hw, Ny238.out]; exact HP43.1); clear HP43; have n0_ := Aside0.mk (hp_); have n1_ := Aside0.mk ((by rw [hw]; exact below_set (below_set (below_set (below_set (below_set (below_set (below_set (HB.out) GB34.out) GB34.out) GB34.out) GB34.out) GB34.out) GB34.out) GB34.out : Below w.heap.size w w44)); clear HO234; clear HB; have HO234 := n0_; have HB := n1_; clear n0_ n1_; clear hg hw hp_) | (go_at_call 18; refine calls_of_args (args' := #[.slice (some ⟨go34, 0, none⟩) y238.length co34, .slice (some ad235) l0.length c0]) (by first | (rw [show y238.length = t232.length from (Kd.R_reads' HO234.out).1.symm] <;> rfl) | rfl) ?_; (with_reducible refine (hist_Wider.calls _ _ y238 _ _ l0 t239 t240 _ ?side1 ?side2 ?side3 ?side4 A38.out).mono ?_); (case side1 => repeat (first | exact (Kd.R_reads' HO234.out).2.2 | (with_reducible refine Kd.C_alloc ?_ _) | (with_reducible refine Kd.C_drewN ?_ _) | (with_reducible refine Kd.C_drew ?_))); (case side2 => rw [show y238.length = t232.length from (Kd.R_reads' HO234.out).1.symm]; exact (Kd.R_reads' HO234.out).2.1); (case side3 => repeat (first | exact (Kd.C_below HR0.out HB.out) | (with_reducible refine Kd.C_alloc ?_ _) | (with_reducible refine Kd.C_drewN ?_ _) | (with_reducible refine Kd.C_drew ?_))); (case side4 => exact HC0.out); rintro e w45 ⟨rfl, hb⟩; have n0_ := Aside0.mk (Kd.R_below (by (with_reducible repeat (first | apply Kd.R_alloc | apply Kd.R_drewN | apply Kd.R_drew)); exact HO234.out) hb); have n1_ := Aside0.mk (below_step (by repeat (first | (with_reducible first | exact HB.out | apply below_alloc | apply pw_below_drewN | apply below_drew1) | exact HB.out)) hb); clear HO234; clear HB; have HO234 := n0_; have HB := n1_; clear n0_ n1_; (try clear hb); (try clear hb2); (try clear hk); (try clear hi))))
                          (try simp only [Act.put, List.setIfInBounds_toArray, List.set_cons_zero, List.set_cons_succ])
                          go_cut [4] (fun v4 wc => ∃ (kq : Nat) (x4_38 : Bool), v4 = .bool x4_38 ∧ Aside0 (locklesslaw17_HistWider.j2 kq x4_38 = some r) ∧ Aside0 (kq ≤ kj14) ∧ Aside0 (Below w.heap.size w wc))
                          case first =>
                            have H := HC39.out
                            clear HC39
                            replace H := Option.bind_eq_some_iff.mp H
                            obtain ⟨t241, A460, H⟩ := H
                            replace H : (if t241 = true then (if t239 = true then (if t240 = 0 then ((locklesslaw17_sane.f kj14).bind fun t242 => (locklesslaw17_HistWider.j2 kj14 t242)) else (locklesslaw17_HistWider.j2 kj14 false)) else (locklesslaw17_HistWider.j2 kj14 false)) else (locklesslaw17_HistWider.j2 kj14 false)) = some r := H
                            have A46 := Aside0.mk A460
                            clear A460
                            by_cases c47 : t241 = true
                            · subst c47
                              have H1 : (if t239 = true then (if t240 = 0 then ((locklesslaw17_sane.f kj14).bind fun t242 => (locklesslaw17_HistWider.j2 kj14 t242)) else (locklesslaw17_HistWider.j2 kj14 false)) else (locklesslaw17_HistWider.j2 kj14 false)) = some r := by rw [if_pos rfl] at H; exact H
                              clear H
                              have H := H1
                              clear H1
                              by_cases c48 : t239 = true
                              · subst c48
                                have H1 : (if t240 = 0 then ((locklesslaw17_sane.f kj14).bind fun t242 => (locklesslaw17_HistWider.j2 kj14 t242)) else (locklesslaw17_HistWider.j2 kj14 false)) = some r := by rw [if_pos rfl] at H; exact H
                                clear H
                                have H := H1
                                clear H1
                                by_cases c49 : t240 = 0
                                · rw [if_pos c49] at H
                                  have c49b0 : (t240 == 0) = true := beq_iff_eq.mpr c49
                                  have c49b1 : (t240 != 0) = false := bne_eq_false_iff_eq.mpr c49
                                  clear c49
                                  (first | rw [c49b0] | (simp only [i64_w, i32_w]; rw [c49b0]) | skip)
                                  replace H := Option.bind_eq_some_iff.mp H
                                  obtain ⟨t242, A500, H⟩ := H
                                  replace H : (locklesslaw17_HistWider.j2 kj14 t242) = some r := H
                                  have A50 := Aside0.mk A500
                                  clear A500
                                  have H' := Aside0.mk H
                                  clear H
                                  go_wp2_with (first | (go_at_call 16; refine calls_of_args (args' := #[.slice (some ⟨go34, 0, none⟩) y238.length co34]) (by first | (rw [show y238.length = t232.length from (Kd.R_reads' HO234.out).1.symm] <;> rfl) | rfl) ?_; (with_reducible refine (hist_Valid.calls _ _ y238 true _ ?side1 ?side2 A46.out).mono ?_); (case side1 => repeat (first | exact (Kd.R_reads' HO234.out).2.2 | (with_reducible refine Kd.C_alloc ?_ _) | (with_reducible refine Kd.C_drewN ?_ _) | (with_reducible refine Kd.C_drew ?_))); (case side2 => rw [show y238.length = t232.length from (Kd.R_reads' HO234.out).1.symm]; exact (Kd.R_reads' HO234.out).2.1); rintro e w51 ⟨rfl, hb⟩; have n0_ := Aside0.mk (Kd.R_below (by (with_reducible repeat (first | apply Kd.R_alloc | apply Kd.R_drewN | apply Kd.R_drew)); exact HO234.out) hb); have n1_ := Aside0.mk (below_step (by repeat (first | (with_reducible first | exact HB.out | apply below_alloc | apply pw_below_drewN | apply below_drew1) | exact HB.out)) hb); clear HO234; clear HB; have HO234 := n0_; have HB := n1_; clear n0_ n1_; (try clear hb); (try clear hb2); (try clear hk); (try clear hi)) | (go_at_call 9; (with_reducible refine (locklesslaw17_sane.calls kj14  t242 _ A50.out).mono ?_); rintro e w52 ⟨rfl, hb⟩; have n0_ := Aside0.mk (Kd.R_below (by (with_reducible repeat (first | apply Kd.R_alloc | apply Kd.R_drewN | apply Kd.R_drew)); exact HO234.out) hb); have n1_ := Aside0.mk (below_step (by repeat (first | (with_reducible first | exact HB.out | apply below_alloc | apply pw_below_drewN | apply below_drew1) | exact HB.out)) hb); clear HO234; clear HB; have HO234 := n0_; have HB := n1_; clear n0_ n1_; (try clear hb); (try clear hb2); (try clear hk); (try clear hi)))
                                  repeat (go_quiet (first | (go_at_call 16; refine calls_of_args (args' := #[.slice (some ⟨go34, 0, none⟩) y238.length co34]) (by first | (rw [show y238.length = t232.length from (Kd.R_reads' HO234.out).1.symm] <;> rfl) | rfl) ?_; (with_reducible refine (hist_Valid.calls _ _ y238 true _ ?side1 ?side2 A46.out).mono ?_); (case side1 => repeat (first | exact (Kd.R_reads' HO234.out).2.2 | (with_reducible refine Kd.C_alloc ?_ _) | (with_reducible refine Kd.C_drewN ?_ _) | (with_reducible refine Kd.C_drew ?_))); (case side2 => rw [show y238.length = t232.length from (Kd.R_reads' HO234.out).1.symm]; exact (Kd.R_reads' HO234.out).2.1); rintro e w51 ⟨rfl, hb⟩; have n0_ := Aside0.mk (Kd.R_below (by (with_reducible repeat (first | apply Kd.R_alloc | apply Kd.R_drewN | apply Kd.R_drew)); exact HO234.out) hb); have n1_ := Aside0.mk (below_step (by repeat (first | (with_reducible first | exact HB.out | apply below_alloc | apply pw_below_drewN | apply below_drew1) | exact HB.out)) hb); clear HO234; clear HB; have HO234 := n0_; have HB := n1_; clear n0_ n1_; (try clear hb); (try clear hb2); (try clear hk); (try clear hi)) | (go_at_call 9; (with_reducible refine (locklesslaw17_sane.calls kj14  t242 _ A50.out).mono ?_); rintro e w52 ⟨rfl, hb⟩; have n0_ := Aside0.mk (Kd.R_below (by (with_reducible repeat (first | apply Kd.R_alloc | apply Kd.R_drewN | apply Kd.R_drew)); exact HO234.out) hb); have n1_ := Aside0.mk (below_step (by repeat (first | (with_reducible first | exact HB.out | apply below_alloc | apply pw_below_drewN | apply below_drew1) | exact HB.out)) hb); clear HO234; clear HB; have HO234 := n0_; have HB := n1_; clear n0_ n1_; (try clear hb); (try clear hb2); (try clear hk); (try clear hi))); try go_wp2_with (first | (go_at_call 16; refine calls_of_args (args' := #[.slice (some ⟨go34, 0, none⟩) y238.length co34]) (by first | (rw [show y238.length = t232.length from (Kd.R_reads' HO234.out).1.symm] <;> rfl) | rfl) ?_; (with_reducible refine (hist_Valid.calls _ _ y238 true _ ?side1 ?side2 A46.out).mono ?_); (case side1 => repeat (first | exact (Kd.R_reads' HO234.out).2.2 | (with_reducible refine Kd.C_alloc ?_ _) | (with_reducible refine Kd.C_drewN ?_ _) | (with_reducible refine Kd.C_drew ?_))); (case side2 => rw [show y238.length = t232.length from (Kd.R_reads' HO234.out).1.symm]; exact (Kd.R_reads' HO234.out).2.1); rintro e w51 ⟨rfl, hb⟩; have n0_ := Aside0.mk (Kd.R_below (by (with_reducible repeat (first | apply Kd.R_alloc | apply Kd.R_drewN | apply Kd.R_drew)); exact HO234.out) hb); have n1_ := Aside0.mk (below_step (by repeat (first | (with_reducible first | exact HB.out | apply below_alloc | apply pw_below_drewN | apply below_drew1) | exact HB.out)) hb); clear HO234; clear HB; have HO234 := n0_; have HB := n1_; clear n0_ n1_; (try clear hb); (try clear hb2); (try clear hk); (try clear hi)) | (go_at_call 9; (with_reducible refine (locklesslaw17_sane.calls kj14  t242 _ A50.out).mono ?_); rintro e w52 ⟨rfl, hb⟩; have n0_ := Aside0.mk (Kd.R_below (by (with_reducible repeat (first | apply Kd.R_alloc | apply Kd.R_drewN | apply Kd.R_drew)); exact HO234.out) hb); have n1_ := Aside0.mk (below_step (by repeat (first | (with_reducible first | exact HB.out | apply below_alloc | apply pw_below_drewN | apply below_drew1) | exact HB.out)) hb); clear HO234; clear HB; have HO234 := n0_; have HB := n1_; clear n0_ n1_; (try clear hb); (try clear hb2); (try clear hk); (try clear hi))))
                                  go_meet
                                  case rel => exact ⟨_, (t242), (by first | rfl | (simp; done) | (simp [*]; done)), H', ⟨by have := HJ2.out; have := HJ14.out; first | omega | exact Nat.le_refl _⟩, ⟨by repeat (first | (with_reducible first | exact HB.out | apply below_alloc | apply pw_below_drewN | apply below_drew1) | exact HB.out)⟩⟩
                                · rw [if_neg c49] at H
                                  have c49b0 : (t240 == 0) = false := beq_eq_false_iff_ne.mpr c49
                                  have c49b1 : (t240 != 0) = true := bne_iff_ne.mpr c49
                                  (first | rw [c49b0] | (simp only [i64_w, i32_w]; rw [c49b0]) | skip)
                                  have H' := Aside0.mk H
                                  clear H
                                  go_wp2_with (first | (go_at_call 16; refine calls_of_args (args' := #[.slice (some ⟨go34, 0, none⟩) y238.length co34]) (by first | (rw [show y238.length = t232.length from (Kd.R_reads' HO234.out).1.symm] <;> rfl) | rfl) ?_; (with_reducible refine (hist_Valid.calls _ _ y238 true _ ?side1 ?side2 A46.out).mono ?_); (case side1 => repeat (first | exact (Kd.R_reads' HO234.out).2.2 | (with_reducible refine Kd.C_alloc ?_ _) | (with_reducible refine Kd.C_drewN ?_ _) | (with_reducible refine Kd.C_drew ?_))); (case side2 => rw [show y238.length = t232.length from (Kd.R_reads' HO234.out).1.symm]; exact (Kd.R_reads' HO234.out).2.1); rintro e w53 ⟨rfl, hb⟩; have n0_ := Aside0.mk (Kd.R_below (by (with_reducible repeat (first | apply Kd.R_alloc | apply Kd.R_drewN | apply Kd.R_drew)); exact HO234.out) hb); have n1_ := Aside0.mk (below_step (by repeat (first | (with_reducible first | exact HB.out | apply below_alloc | apply pw_below_drewN | apply below_drew1) | exact HB.out)) hb); clear HO234; clear HB; have HO234 := n0_; have HB := n1_; clear n0_ n1_; (try clear hb); (try clear hb2); (try clear hk); (try clear hi)))
                                  repeat (go_quiet (first | (go_at_call 16; refine calls_of_args (args' := #[.slice (some ⟨go34, 0, none⟩) y238.length co34]) (by first | (rw [show y238.length = t232.length from (Kd.R_reads' HO234.out).1.symm] <;> rfl) | rfl) ?_; (with_reducible refine (hist_Valid.calls _ _ y238 true _ ?side1 ?side2 A46.out).mono ?_); (case side1 => repeat (first | exact (Kd.R_reads' HO234.out).2.2 | (with_reducible refine Kd.C_alloc ?_ _) | (with_reducible refine Kd.C_drewN ?_ _) | (with_reducible refine Kd.C_drew ?_))); (case side2 => rw [show y238.length = t232.length from (Kd.R_reads' HO234.out).1.symm]; exact (Kd.R_reads' HO234.out).2.1); rintro e w53 ⟨rfl, hb⟩; have n0_ := Aside0.mk (Kd.R_below (by (with_reducible repeat (first | apply Kd.R_alloc | apply Kd.R_drewN | apply Kd.R_drew)); exact HO234.out) hb); have n1_ := Aside0.mk (below_step (by repeat (first | (with_reducible first | exact HB.out | apply below_alloc | apply pw_below_drewN | apply below_drew1) | exact HB.out)) hb); clear HO234; clear HB; have HO234 := n0_; have HB := n1_; clear n0_ n1_; (try clear hb); (try clear hb2); (try clear hk); (try clear hi))); try go_wp2_with (first | (go_at_call 16; refine calls_of_args (args' := #[.slice (some ⟨go34, 0, none⟩) y238.length co34]) (by first | (rw [show y238.length = t232.length from (Kd.R_reads' HO234.out).1.symm] <;> rfl) | rfl) ?_; (with_reducible refine (hist_Valid.calls _ _ y238 true _ ?side1 ?side2 A46.out).mono ?_); (case side1 => repeat (first | exact (Kd.R_reads' HO234.out).2.2 | (with_reducible refine Kd.C_alloc ?_ _) | (with_reducible refine Kd.C_drewN ?_ _) | (with_reducible refine Kd.C_drew ?_))); (case side2 => rw [show y238.length = t232.length from (Kd.R_reads' HO234.out).1.symm]; exact (Kd.R_reads' HO234.out).2.1); rintro e w53 ⟨rfl, hb⟩; have n0_ := Aside0.mk (Kd.R_below (by (with_reducible repeat (first | apply Kd.R_alloc | apply Kd.R_drewN | apply Kd.R_drew)); exact HO234.out) hb); have n1_ := Aside0.mk (below_step (by repeat (first | (with_reducible first | exact HB.out | apply below_alloc | apply pw_below_drewN | apply below_drew1) | exact HB.out)) hb); clear HO234; clear HB; have HO234 := n0_; have HB := n1_; clear n0_ n1_; (try clear hb); (try clear hb2); (try clear hk); (try clear hi))))
                                  go_meet
                                  case rel => exact ⟨_, (false), (by first | rfl | (simp; done) | (simp [*]; done)), H', ⟨by have := HJ2.out; have := HJ14.out; first | omega | exact Nat.le_refl _⟩, ⟨by repeat (first | (with_reducible first | exact HB.out | apply below_alloc | apply pw_below_drewN | apply below_drew1) | exact HB.out)⟩⟩
                              · replace c48 := Bool.eq_false_iff.mpr c48
                                subst c48
                                have H1 : (locklesslaw17_HistWider.j2 kj14 false) = some r := by rw [if_neg (show ¬ (false = true) by decide)] at H; exact H
                                clear H
                                have H := H1
                                clear H1
                                have H' := Aside0.mk H
                                clear H
                                go_wp2_with (first | (go_at_call 16; refine calls_of_args (args' := #[.slice (some ⟨go34, 0, none⟩) y238.length co34]) (by first | (rw [show y238.length = t232.length from (Kd.R_reads' HO234.out).1.symm] <;> rfl) | rfl) ?_; (with_reducible refine (hist_Valid.calls _ _ y238 true _ ?side1 ?side2 A46.out).mono ?_); (case side1 => repeat (first | exact (Kd.R_reads' HO234.out).2.2 | (with_reducible refine Kd.C_alloc ?_ _) | (with_reducible refine Kd.C_drewN ?_ _) | (with_reducible refine Kd.C_drew ?_))); (case side2 => rw [show y238.length = t232.length from (Kd.R_reads' HO234.out).1.symm]; exact (Kd.R_reads' HO234.out).2.1); rintro e w54 ⟨rfl, hb⟩; have n0_ := Aside0.mk (Kd.R_below (by (with_reducible repeat (first | apply Kd.R_alloc | apply Kd.R_drewN | apply Kd.R_drew)); exact HO234.out) hb); have n1_ := Aside0.mk (below_step (by repeat (first | (with_reducible first | exact HB.out | apply below_alloc | apply pw_below_drewN | apply below_drew1) | exact HB.out)) hb); clear HO234; clear HB; have HO234 := n0_; have HB := n1_; clear n0_ n1_; (try clear hb); (try clear hb2); (try clear hk); (try clear hi)))
                                repeat (go_quiet (first | (go_at_call 16; refine calls_of_args (args' := #[.slice (some ⟨go34, 0, none⟩) y238.length co34]) (by first | (rw [show y238.length = t232.length from (Kd.R_reads' HO234.out).1.symm] <;> rfl) | rfl) ?_; (with_reducible refine (hist_Valid.calls _ _ y238 true _ ?side1 ?side2 A46.out).mono ?_); (case side1 => repeat (first | exact (Kd.R_reads' HO234.out).2.2 | (with_reducible refine Kd.C_alloc ?_ _) | (with_reducible refine Kd.C_drewN ?_ _) | (with_reducible refine Kd.C_drew ?_))); (case side2 => rw [show y238.length = t232.length from (Kd.R_reads' HO234.out).1.symm]; exact (Kd.R_reads' HO234.out).2.1); rintro e w54 ⟨rfl, hb⟩; have n0_ := Aside0.mk (Kd.R_below (by (with_reducible repeat (first | apply Kd.R_alloc | apply Kd.R_drewN | apply Kd.R_drew)); exact HO234.out) hb); have n1_ := Aside0.mk (below_step (by repeat (first | (with_reducible first | exact HB.out | apply below_alloc | apply pw_below_drewN | apply below_drew1) | exact HB.out)) hb); clear HO234; clear HB; have HO234 := n0_; have HB := n1_; clear n0_ n1_; (try clear hb); (try clear hb2); (try clear hk); (try clear hi))); try go_wp2_with (first | (go_at_call 16; refine calls_of_args (args' := #[.slice (some ⟨go34, 0, none⟩) y238.length co34]) (by first | (rw [show y238.length = t232.length from (Kd.R_reads' HO234.out).1.symm] <;> rfl) | rfl) ?_; (with_reducible refine (hist_Valid.calls _ _ y238 true _ ?side1 ?side2 A46.out).mono ?_); (case side1 => repeat (first | exact (Kd.R_reads' HO234.out).2.2 | (with_reducible refine Kd.C_alloc ?_ _) | (with_reducible refine Kd.C_drewN ?_ _) | (with_reducible refine Kd.C_drew ?_))); (case side2 => rw [show y238.length = t232.length from (Kd.R_reads' HO234.out).1.symm]; exact (Kd.R_reads' HO234.out).2.1); rintro e w54 ⟨rfl, hb⟩; have n0_ := Aside0.mk (Kd.R_below (by (with_reducible repeat (first | apply Kd.R_alloc | apply Kd.R_drewN | apply Kd.R_drew)); exact HO234.out) hb); have n1_ := Aside0.mk (below_step (by repeat (first | (with_reducible first | exact HB.out | apply below_alloc | apply pw_below_drewN | apply below_drew1) | exact HB.out)) hb); clear HO234; clear HB; have HO234 := n0_; have HB := n1_; clear n0_ n1_; (try clear hb); (try clear hb2); (try clear hk); (try clear hi))))
                                go_meet
                                case rel => exact ⟨_, (false), (by first | rfl | (simp; done) | (simp [*]; done)), H', ⟨by have := HJ2.out; have := HJ14.out; first | omega | exact Nat.le_refl _⟩, ⟨by repeat (first | (with_reducible first | exact HB.out | apply below_alloc | apply pw_below_drewN | apply below_drew1) | exact HB.out)⟩⟩
                            · replace c47 := Bool.eq_false_iff.mpr c47
                              subst c47
                              have H1 : (locklesslaw17_HistWider.j2 kj14 false) = some r := by rw [if_neg (show ¬ (false = true) by decide)] at H; exact H
                              clear H
                              have H := H1
                              clear H1
                              have H' := Aside0.mk H
                              clear H
                              go_wp2_with (first | (go_at_call 16; refine calls_of_args (args' := #[.slice (some ⟨go34, 0, none⟩) y238.length co34]) (by first | (rw [show y238.length = t232.length from (Kd.R_reads' HO234.out).1.symm] <;> rfl) | rfl) ?_; (with_reducible refine (hist_Valid.calls _ _ y238 false _ ?side1 ?side2 A46.out).mono ?_); (case side1 => repeat (first | exact (Kd.R_reads' HO234.out).2.2 | (with_reducible refine Kd.C_alloc ?_ _) | (with_reducible refine Kd.C_drewN ?_ _) | (with_reducible refine Kd.C_drew ?_))); (case side2 => rw [show y238.length = t232.length from (Kd.R_reads' HO234.out).1.symm]; exact (Kd.R_reads' HO234.out).2.1); rintro e w55 ⟨rfl, hb⟩; have n0_ := Aside0.mk (Kd.R_below (by (with_reducible repeat (first | apply Kd.R_alloc | apply Kd.R_drewN | apply Kd.R_drew)); exact HO234.out) hb); have n1_ := Aside0.mk (below_step (by repeat (first | (with_reducible first | exact HB.out | apply below_alloc | apply pw_below_drewN | apply below_drew1) | exact HB.out)) hb); clear HO234; clear HB; have HO234 := n0_; have HB := n1_; clear n0_ n1_; (try clear hb); (try clear hb2); (try clear hk); (try clear hi)))
                              repeat (go_quiet (first | (go_at_call 16; refine calls_of_args (args' := #[.slice (some ⟨go34, 0, none⟩) y238.length co34]) (by first | (rw [show y238.length = t232.length from (Kd.R_reads' HO234.out).1.symm] <;> rfl) | rfl) ?_; (with_reducible refine (hist_Valid.calls _ _ y238 false _ ?side1 ?side2 A46.out).mono ?_); (case side1 => repeat (first | exact (Kd.R_reads' HO234.out).2.2 | (with_reducible refine Kd.C_alloc ?_ _) | (with_reducible refine Kd.C_drewN ?_ _) | (with_reducible refine Kd.C_drew ?_))); (case side2 => rw [show y238.length = t232.length from (Kd.R_reads' HO234.out).1.symm]; exact (Kd.R_reads' HO234.out).2.1); rintro e w55 ⟨rfl, hb⟩; have n0_ := Aside0.mk (Kd.R_below (by (with_reducible repeat (first | apply Kd.R_alloc | apply Kd.R_drewN | apply Kd.R_drew)); exact HO234.out) hb); have n1_ := Aside0.mk (below_step (by repeat (first | (with_reducible first | exact HB.out | apply below_alloc | apply pw_below_drewN | apply below_drew1) | exact HB.out)) hb); clear HO234; clear HB; have HO234 := n0_; have HB := n1_; clear n0_ n1_; (try clear hb); (try clear hb2); (try clear hk); (try clear hi))); try go_wp2_with (first | (go_at_call 16; refine calls_of_args (args' := #[.slice (some ⟨go34, 0, none⟩) y238.length co34]) (by first | (rw [show y238.length = t232.length from (Kd.R_reads' HO234.out).1.symm] <;> rfl) | rfl) ?_; (with_reducible refine (hist_Valid.calls _ _ y238 false _ ?side1 ?side2 A46.out).mono ?_); (case side1 => repeat (first | exact (Kd.R_reads' HO234.out).2.2 | (with_reducible refine Kd.C_alloc ?_ _) | (with_reducible refine Kd.C_drewN ?_ _) | (with_reducible refine Kd.C_drew ?_))); (case side2 => rw [show y238.length = t232.length from (Kd.R_reads' HO234.out).1.symm]; exact (Kd.R_reads' HO234.out).2.1); rintro e w55 ⟨rfl, hb⟩; have n0_ := Aside0.mk (Kd.R_below (by (with_reducible repeat (first | apply Kd.R_alloc | apply Kd.R_drewN | apply Kd.R_drew)); exact HO234.out) hb); have n1_ := Aside0.mk (below_step (by repeat (first | (with_reducible first | exact HB.out | apply below_alloc | apply pw_below_drewN | apply below_drew1) | exact HB.out)) hb); clear HO234; clear HB; have HO234 := n0_; have HB := n1_; clear n0_ n1_; (try clear hb); (try clear hb2); (try clear hk); (try clear hi))))
                              go_meet
                              case rel => exact ⟨_, (false), (by first | rfl | (simp; done) | (simp [*]; done)), H', ⟨by have := HJ2.out; have := HJ14.out; first | omega | exact Nat.le_refl _⟩, ⟨by repeat (first | (with_reducible first | exact HB.out | apply below_alloc | apply pw_below_drewN | apply below_drew1) | exact HB.out)⟩⟩
                          case rest =>
                            clear HC39
                            try clear c1
                            try clear q1
                            try clear c2
                            try clear p2
                            try clear q2
                            try clear hx2
                            try clear c3
                            try clear p3
                            try clear q3
                            try clear hx3
                            try clear hf3
                            try clear c4
                            try clear hx4
                            try clear hf4
                            try clear c5
                            try clear p6
                            try clear c7
                            try clear c8
                            try clear c8b0
                            try clear c12
                            try clear c16
                            try clear c16b0
                            try clear c17
                            try clear c17b0
                            try clear q18
                            try clear c19
                            try clear c21
                            try clear c21b0
                            try clear c22
                            try clear c22b0
                            try clear p22
                            try clear q22
                            try clear hx22
                            try clear p23
                            try clear q23
                            try clear hx23
                            try clear c24
                            try clear c25
                            try clear c30
                            try clear c30b0
                            try clear c31
                            try clear c31b0
                            try clear c32
                            try clear c32b0
                            try clear c33
                            try clear c33b0
                            try clear c34
                            try clear p34
                            try clear q34
                            try clear hx34
                            try clear hf34
                            try clear c35
                            try clear c35b0
                            try clear c36
                            try clear c36b0
                            try clear c37
                            try clear p37
                            try clear q37
                            try clear hx37
                            try clear hf37
                            try clear c41
                            try clear hx41
                            try clear hf41
                            try clear c43
                            try clear hx43
                            try clear hf43
                            try clear c47
                            try clear c48
                            try clear c49
                            try clear c49b0
                            try clear c49b1
                            try clear hx227_0
                            try clear hx227_1
                            try clear hx227_2
                            try clear hx227_3
                            try clear hx227_4
                            try clear hx227_5
                            try clear hx227_6
                            try clear hx228_0
                            try clear hx228_1
                            try clear hx228_2
                            try clear hx228_3
                            try clear hx228_4
                            try clear hx228_5
                            try clear hx228_6
                            try clear hx229_0
                            try clear hx229_1
                            try clear hx229_2
                            try clear hx229_3
                            try clear hx229_4
                            try clear hx229_5
                            try clear hx229_6
                            try clear hx230_0
                            try clear hx230_1
                            try clear hx230_2
                            try clear hx230_3
                            try clear hx230_4
                            try clear hx230_5
                            try clear hx230_6
                            try clear hx235_0
                            try clear hx235_1
                            try clear hx235_2
                            try clear hx235_3
                            try clear hx235_4
                            try clear hx235_5
                            try clear hx235_6
                            try clear hx237_0
                            try clear hx237_1
                            try clear hx237_2
                            try clear hx237_3
                            try clear hx237_4
                            try clear hx237_5
                            try clear hx237_6
                            try clear hx34_0
                            try clear hx34_1
                            try clear hx34_2
                            try clear hx34_3
                            try clear hx34_4
                            try clear hx34_5
                            try clear hx34_6
                            try clear hx37_0
                            try clear hx37_1
                            try clear hx37_2
                            try clear hx37_3
                            try clear hx37_4
                            try clear hx37_5
                            try clear hx37_6
                            try clear hx41_0
                            try clear hx41_1
                            try clear hx41_2
                            try clear hx41_3
                            try clear hx41_4
                            try clear hx41_5
                            try clear hx41_6
                            try clear hx43_0
                            try clear hx43_1
                            try clear hx43_2
                            try clear hx43_3
                            try clear hx43_4
                            try clear hx43_5
                            try clear hx43_6
                            try clear p2
                            try clear p22
                            try clear p227
                            try clear p228
                            try clear p229
                            try clear p23
                            try clear p230
                            try clear p235
                            try clear p237
                            try clear p34
                            try clear p37
                            try clear p6
                            try clear q1
                            try clear q18
                            try clear q2
                            try clear q22
                            try clear q227
                            try clear q228
                            try clear q229
                            try clear q23
                            try clear q230
                            try clear q235
                            try clear q237
                            try clear q34
                            try clear q37
                            obtain ⟨kq, x4_38, rfl, HA, HJ38, HB⟩ := hcut
                            cases kq with
                            | zero => exact absurd HA.out (by simp [locklesslaw17_HistWider.j2])
                            | succ kj38 =>
                              have H := HA.out
                              clear HA
                              simp only [locklesslaw17_HistWider.j2] at H
                              obtain rfl := Option.some.inj H
                              go_wp2
                              repeat (go_quiet (fail); try go_wp2)
                              go_ret
                              exact ⟨by first | rfl | (simp [errW_none, errW_some] <;> rfl) | (simp only [← hji29]; first | rfl | (simp [errW_none, errW_some] <;> rfl)) | (simp [*, errW_none, errW_some] <;> rfl), by repeat (first | (with_reducible first | exact HB.out | apply below_alloc | apply pw_below_drewN | apply below_drew1) | exact HB.out)⟩
                        · rw [if_neg c36] at H
                          exact absurd H (by simp)
                      · rw [if_neg c35] at H
                        exact absurd H (by simp)
                    · rw [if_neg c33] at H
                      exact absurd H (by simp)
                  · rw [if_neg c32] at H
                    exact absurd H (by simp)
                · rw [if_neg c31] at H
                  exact absurd H (by simp)
              · rw [if_neg c30] at H
                exact absurd H (by simp)


end Go.Proofs.YtfokmfnafbladaaDoor.Q
