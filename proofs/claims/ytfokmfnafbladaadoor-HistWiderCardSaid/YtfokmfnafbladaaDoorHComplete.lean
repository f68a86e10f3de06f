/- What hist.Complete keeps: the events but the calls that have not returned. -/
import Derived.Test.YtfokmfnafbladaaDoorHSpans
import Derived.Shelf.Abstract
import Derived.Lib.SliceRun
import Derived.WalkSpells
namespace Go.Proofs.YtfokmfnafbladaaDoor.Q
open Go.RowKit Go.Proofs.YtfokmfnafbladaaDoorW.PrintWords Go.Proofs.YtfokmfnafbladaaDoorW.PrintLast Go.Proofs.YtfokmfnafbladaaDoorW.PrintMore
set_option linter.unusedVariables false
set_option linter.unusedSimpArgs false
set_option linter.unnecessarySimpa false

/-- A call as a value. -/
def ev54 (x : S54) : Value := .agg #[.int .i64 x.f0, .int .i64 x.f1, .string x.f2.f0, .int .i64 x.f2.f1, .int .i64 x.f2.f2, .int .i64 x.f3, .int .i64 x.f4, .int .i64 x.f5]

/-- The first place at which p holds; -1: none. -/
def idx54 (p : S54 → Bool) (l : List S54) : Int := if l.findIdx p < l.length then (l.findIdx p : Int) else -1

theorem idx54_found {p : S54 → Bool} {l : List S54} {k : Nat} {y : S54} (hlt : k < l.length) (hy : l[k]? = some y) (hp : p y = true) (ha : ∀ j x, j < k → l[j]? = some x → p x = false) : idx54 p l = k := by
  have : l.findIdx p = k := by
    rw [List.findIdx_eq hlt]
    refine ⟨?_, fun j hj => ?_⟩
    · rw [List.getElem?_eq_getElem hlt] at hy
      injection hy with h2
      rw [h2]; exact hp
    · exact ha j _ hj (List.getElem?_eq_getElem (by omega))
  unfold idx54
  rw [this, if_pos hlt]
theorem idx54_none {p : S54 → Bool} {l : List S54} (ha : ∀ j x, j < l.length → l[j]? = some x → p x = false) : idx54 p l = -1 := by
  have : ¬ l.findIdx p < l.length := by
    intro h
    have h2 := List.findIdx_getElem (w := h)
    have h3 := ha _ _ h (List.getElem?_eq_getElem h)
    rw [h3] at h2
    cases h2
  unfold idx54
  rw [if_neg this]
theorem idx54_any {p : S54 → Bool} {l : List S54} : decide (idx54 p l ≥ 0) = l.any p := by
  unfold idx54
  by_cases h : l.findIdx p < l.length
  · rw [if_pos h, List.any_eq_true.2 ⟨_, List.getElem_mem h, List.findIdx_getElem (w := h)⟩]
    simp
  · rw [if_neg h]
    have : l.any p = false := by
      cases hq : l.any p with
      | false => rfl
      | true =>
        rw [List.any_eq_true] at hq
        obtain ⟨x, hx, hp⟩ := hq
        exact absurd (List.findIdx_lt_length_of_exists ⟨x, hx, hp⟩) h
    rw [this]
    rfl

theorem c32_calls (x : S54) (at_ : Int) (B : Nat) (w : World) (hB : w.cell? ⟨B, 0, none⟩ = some (.int .i64 at_)) :
    Calls Tryd.prog 32 #[ev54 x, .pointer (some ⟨B, 0, none⟩)] w fun e w' => e = .returned (.bool (x.f3 == at_ && decide (x.f4 < 0))) ∧ Below w.heap.size w w' := by
  unfold ev54
  have hlt : B < w.heap.size := World.block_lt_of_cell? w _ hB
  have hB1 : ∀ o, (w.alloc o).cell? ⟨B, 0, none⟩ = some (.int .i64 at_) := fun o => pw_cell_below ((Below.refl _ _).alloc (Nat.le_refl _) o) hB
  cases h1 : (x.f3 == at_) with
  | true =>
    go_enter Tryd.func32, Tryd.ntmps32
    go_wp2
    go_ret
    exact ⟨by rw [Bool.true_and]; rfl, (Below.refl _ _).alloc (Nat.le_refl _) _⟩
  | false =>
    go_enter Tryd.func32, Tryd.ntmps32
    go_wp2
    go_ret
    exact ⟨by rw [Bool.false_and]; rfl, (Below.refl _ _).alloc (Nat.le_refl _) _⟩

set_option maxHeartbeats 1000000 in
theorem if36_32 (A0 : Option Addr) (c0 : Nat) (l0 : List S54) (at_ : Int) (B : Nat) (w : World) (hr0 : Kd.C k54 w A0 l0.length l0) (hB : w.cell? ⟨B, 0, none⟩ = some (.int .i64 at_)) :
    Calls Tryd.prog 36 #[.slice A0 l0.length c0, .func (.func 32) #[] #[.pointer (some ⟨B, 0, none⟩)]] w fun e w' => e = .returned (.int .i64 (idx54 (fun x => x.f3 == at_ && decide (x.f4 < 0)) l0)) ∧ Below w.heap.size w w' := by
  have hbig : l0.length ≤ 9223372036854775807 := hr0.2.1
  have HR := Aside0.mk hr0
  have HB_ := Aside0.mk hB
  clear hr0 hB
  go_enter Tryd.func36, Tryd.ntmps36
  go_wp2
  go_loopg [5, 8] l0.length (fun gg _ s8 wr => ∃ kk : Nat, kk ≤ l0.length ∧ l0.length - kk ≤ gg ∧ s8 = .int .i64 kk ∧ Aside0 (Below w.heap.size w wr) ∧ Aside0 (∀ j x, j < kk → l0[j]? = some x → (x.f3 == at_ && decide (x.f4 < 0)) = false))
  case atStart => exact ⟨0, Nat.zero_le _, by omega, rfl, ⟨Below.refl _ w⟩, ⟨fun j x hj => absurd hj (Nat.not_lt_zero _)⟩⟩
  case round =>
    obtain ⟨kk, hkk, hg, rfl, BW, A⟩ := hrel
    by_cases hlt : kk < l0.length
    · have hltz : (kk : Int) < (l0.length : Int) := by omega
      have hz : 0 ≤ (kk : Int) := by omega
      obtain ⟨ad, e, hx0, hx1, hx2, hx3, hx4, hx5, hx6, hx7⟩ := at_T54 (Kd.C_below HR.out BW.out) (kk : Int) hz hltz
      cases e
      simp only [Int.toNat_natCast] at hx0 hx1 hx2 hx3 hx4 hx5 hx6 hx7
      have hcall := c32_calls (rd_T54 l0 kk) at_ B wr (pw_cell_below BW.out HB_.out)
      have hrd : l0[kk]? = some (rd_T54 l0 (kk : Int)) := by simp [rd_T54, List.getD_eq_getElem?_getD, List.getElem?_eq_getElem hlt]
      have HRD := Aside0.mk hrd
      clear hrd
      generalize rd_T54 l0 (kk : Int) = x at *
      unfold ev54 at hcall
      cases hq : (x.f3 == at_ && decide (x.f4 < 0)) with
      | true =>
        rw [hq] at hcall
        have HQ := Aside0.mk hq
        clear hq
        go_wp2_with (go_at_call 32; refine hcall.mono ?_; rintro e w' ⟨rfl, hb'⟩)
        go_ret
        exact ⟨by rw [idx54_found hlt HRD.out HQ.out A.out]; rfl, below_step BW.out hb'⟩
      | false =>
        rw [hq] at hcall
        have HQ := Aside0.mk hq
        clear hq
        go_wp2_with (go_at_call 32; refine hcall.mono ?_; rintro e w' ⟨rfl, hb'⟩)
        go_roundg (l0.length - (kk + 1))
        case measure => omega
        case rel =>
          refine ⟨kk + 1, by omega, by omega, by go_num, ⟨below_step BW.out hb'⟩, ⟨fun j x' hj hx => ?_⟩⟩
          by_cases e : j = kk
          · subst e
            have h2 := HRD.out
            rw [hx] at h2
            injection h2 with h2
            subst h2
            exact HQ.out
          · exact A.out j x' (by omega) hx
    · have hltz : ¬ (kk : Int) < (l0.length : Int) := by omega
      have : kk = l0.length := by omega
      subst this
      go_wp2
      go_ret
      exact ⟨by rw [idx54_none A.out]; rfl, BW.out⟩

theorem cf31_calls (A0 : Option Addr) (c0 : Nat) (l0 : List S54) (at_ : Int) (B : Nat) (w : World) (hr0 : Kd.C k54 w A0 l0.length l0) (hB : w.cell? ⟨B, 0, none⟩ = some (.int .i64 at_)) :
    Calls Tryd.prog 31 #[.slice A0 l0.length c0, .func (.func 32) #[] #[.pointer (some ⟨B, 0, none⟩)]] w fun e w' => e = .returned (.bool (l0.any (fun x => x.f3 == at_ && decide (x.f4 < 0)))) ∧ Below w.heap.size w w' := by
  have h1 := if36_32 A0 c0 l0 at_ B w hr0 hB
  rw [← idx54_any]
  generalize idx54 (fun x => x.f3 == at_ && decide (x.f4 < 0)) l0 = n at *
  clear hr0 hB
  go_enter Tryd.func31, Tryd.ntmps31
  go_wp2_with (go_at_call 36; refine h1.mono ?_; rintro e w' ⟨rfl, hb'⟩)
  go_ret
  exact ⟨rfl, hb'⟩

/-- An event of a call that has not returned. -/
def pend (s : List S54) (k : Int) : Bool := s.any (fun x => x.f3 == k && decide (x.f4 < 0))
/-- The events but those, from place k on. -/
def cpGo (s : List S54) : Nat → List S37 → List S37
  | _, [] => []
  | k, e :: es => if pend s (k : Int) then cpGo s (k + 1) es else e :: cpGo s (k + 1) es
theorem cpGo_length (s : List S54) : ∀ (l : List S37) (k : Nat), (cpGo s k l).length ≤ l.length
  | [], _ => Nat.le_refl _
  | e :: l, k => by
    unfold cpGo
    split
    · exact Nat.le_succ_of_le (cpGo_length s l (k + 1))
    · exact Nat.succ_le_succ (cpGo_length s l (k + 1))
def hist_Complete.f (l0 : List S37) : Option (List S37 × Int) :=
  if l0.length < 2199023255552 then
    match hist_spans.f l0 with
    | some (s, true) => some (cpGo s 0 l0, 0)
    | some (_, false) => some ([], 1)
    | none => none
  else none

theorem rdc37_drop {l0 : List S37} {k : Nat} (h : k < l0.length) : l0.drop k = rd_T37 l0 (k : Int) :: l0.drop (k + 1) := by
  rw [List.drop_eq_getElem_cons h]
  simp [rd_T37, List.getD_eq_getElem?_getD, List.getElem?_eq_getElem h]

set_option maxHeartbeats 16000000 in
set_option maxRecDepth 100000 in
theorem hist_Complete.calls (A0 : Option Addr) (c0 : Nat) (l0 : List S37) (r1 : List S37) (r2 : Int) (w : World) (hr0 : Kd.C k37 w A0 l0.length l0) (hc0 : l0.length ≤ c0) (h : hist_Complete.f l0 = some (r1, r2)) :
    Calls Tryd.prog 12 #[.slice A0 l0.length c0] w fun e w' => ∃ v0_ : Value, e = .returned (.tuple #[v0_, .int .i64 r2]) ∧ Kd.R k37 37 w' w.heap.size (fun _ => True) v0_ r1 ∧ Below w.heap.size w w' := by
  have hbig : l0.length ≤ 9223372036854775807 := hr0.2.1
  unfold hist_Complete.f at h
  split at h
  case isFalse => cases h
  case isTrue hlen =>
  cases hsp : hist_spans.f l0 with
  | none => rw [hsp] at h; cases h
  | some q =>
  obtain ⟨sl, ok⟩ := q
  rw [hsp] at h
  have hs := hist_spans.calls A0 c0 l0 sl ok w hr0 hc0 hsp
  have HR := Aside0.mk hr0
  clear hr0 hc0 hsp
  cases ok with
  | false =>
    injection h with h
    injection h with h1 h2
    subst h1; subst h2
    go_enter Tryd.func12, Tryd.ntmps12
    go_wp2_with (go_at_call 30; refine hs.mono ?_; rintro e w1 ⟨v0, rfl, hl, hb⟩; have HB := Aside0.mk hb; clear hb hl)
    refine bodyPost_ret (v := .tuple #[.slice none 0 0, .int .i64 1]) (by simp [results, Tryd.results12, go_sem]) rfl ?_
    exact ⟨_, rfl, Kd.R_nil _ _ _ _ _, HB.out⟩
  | true =>
    injection h with h
    injection h with h1 h2
    subst h2
    have H1 := Aside0.mk h1
    clear h1
    go_enter Tryd.func12, Tryd.ntmps12
    go_wp2_with (go_at_call 30; refine hs.mono ?_; rintro e w1 ⟨v0, rfl, hl, hb⟩; obtain ⟨Al, cl, rfl, _⟩ := Kd.R_reads hl; have HL := Aside0.mk hl; have HB := Aside0.mk hb; clear hb hl)
    go_loopg [6, 17] l0.length (fun gg s6 s17 wr => ∃ (k : Nat) (acc : List S37), k ≤ l0.length ∧ l0.length - k ≤ gg ∧ s17 = .int .i64 k ∧ acc.length ≤ k ∧ Aside0 (acc ++ cpGo sl k (l0.drop k) = r1) ∧ Aside0 (Kd.R k37 37 wr w.heap.size (fun _ => True) s6 acc) ∧ Aside0 (Kd.R k54 54 wr w.heap.size (fun _ => True) (.slice Al sl.length cl) sl) ∧ Aside0 (Below w.heap.size w wr))
    case atStart => exact ⟨0, [], Nat.zero_le _, by omega, rfl, Nat.le_refl _, H1, ⟨Kd.R_nil _ _ _ _ _⟩, HL, HB⟩
    case round =>
      clear H1 HL HB hs
      obtain ⟨k, acc, hkn, hgg, rfl, hak, HF, HO, HL, HB⟩ := hrel
      by_cases hlt : k < l0.length
      · have hltz : (k : Int) < (l0.length : Int) := by omega
        have hkz : 0 ≤ (k : Int) := by omega
        have hF := HF.out
        rw [rdc37_drop hlt] at hF
        have hb1 : Below wr.heap.size wr (wr.alloc (.cells #[.int .i64 (k : Int)] 3)) := (Below.refl _ _).alloc (Nat.le_refl _) _
        have hz : (wr.alloc (.cells #[.int .i64 (k : Int)] 3)).cell? ⟨wr.heap.size, 0, none⟩ = some (.int .i64 (k : Int)) := (blk_cell (blk_new wr (.cells #[.int .i64 (k : Int)] 3 (0, 0))) 0).trans rfl
        have hcl := cf31_calls Al cl sl (k : Int) wr.heap.size (wr.alloc (.cells #[.int .i64 (k : Int)] 3)) (Kd.C_below (Kd.R_reads' HL.out).2.2 hb1) hz
        have HLb := Aside0.mk (Kd.R_below HL.out hb1)
        have HOb := Aside0.mk (Kd.R_below HO.out hb1)
        have HBb := Aside0.mk (below_step HB.out hb1)
        clear hb1 HL HO HB
        change Calls Tryd.prog 31 _ _ (fun e w' => e = .returned (.bool (pend sl (k : Int))) ∧ _) at hcl
        unfold cpGo at hF
        cases hp : pend sl (k : Int) with
        | true =>
          rw [hp] at hF hcl
          have HF2 := Aside0.mk hF
          clear hF HF hp
          go_wp2_with (go_at_call 31; go_loud (refine hcl.mono ?_; rintro e w2 ⟨rfl, hb2⟩; have HL2 := Aside0.mk (Kd.R_below HLb.out hb2); have HO2 := Aside0.mk (Kd.R_below HOb.out hb2); have HB2 := Aside0.mk (below_step HBb.out hb2); clear hb2))
          go_roundg (l0.length - (k + 1))
          case measure => omega
          case rel => exact ⟨k + 1, acc, by omega, Nat.le_refl _, by go_num, by omega, HF2, HO2, HL2, HB2⟩
        | false =>
          rw [hp] at hF hcl
          have HF2 := Aside0.mk hF
          clear hF HF hp
          obtain ⟨ad0, e0, _⟩ := at_T37 (Kd.C_below HR.out HBb.out) (k : Int) hkz hltz
          cases e0
          go_wp2_with (first | (go_at_call 31; go_loud (refine hcl.mono ?_; rintro e w2 ⟨rfl, hb2⟩; have HL2 := Aside0.mk (Kd.R_below HLb.out hb2); have HO2 := Aside0.mk (Kd.R_below HOb.out hb2); have HB2 := Aside0.mk (below_step HBb.out hb2); obtain ⟨ad, e, hx0, hx1, hx2, hx3, hx4, hx5, hx6⟩ := at_T37 (Kd.C_below HR.out HB2.out) (k : Int) hkz hltz; cases e; (simp only [Int.toNat_natCast] at hx0 hx1 hx2 hx3 hx4 hx5 hx6); have hz2 := pw_cell_below hb2 hz; clear hb2)) | ((with_reducible refine gate_builtin (b := .append) (xs := #[.tmp 24, .tmp 29]) rfl ?_); at_builtin; go_loud (refine Kd.R_append k37 (w0 := w) w.heap.size rfl (.tmp 24) (.tmp 29) 22 37 (.agg #[(.int .i64 0), (.int .i64 0), (.bool false), (.string ⟨#[]⟩), (.int .i64 0), (.int .i64 0), (.int .i64 0)]) 64 rfl Tryd.underlying22 info37 rfl (by decide) (by omega) u6 acc (rd_T37 l0 (k : Int)) [.int .i64 (rd_T37 l0 (k : Int)).f0, .int .i64 (rd_T37 l0 (k : Int)).f1, .bool (rd_T37 l0 (k : Int)).f2, .string (rd_T37 l0 (k : Int)).f3.f0, .int .i64 (rd_T37 l0 (k : Int)).f3.f1, .int .i64 (rd_T37 l0 (k : Int)).f3.f2, .int .i64 (rd_T37 l0 (k : Int)).f4] (fun _ => True) (fun _ => False) rfl (by first | rfl | (go_simp; done) | (go_simp; rfl)) ?aP (fun _ hk => hk.elim) ?aF ?aO ?aB ?aS ?aL ?_; (case aP => exact k37_mkM _ _ _ _); (case aB => exact HB2.out); (case aF => exact (fun _ _ => trivial)); (case aO => exact HO2.out); (case aS => exact HB2.out.size); (case aL => omega); intro v3 w3 ho hb hg hat; have HO3 := Aside0.mk ho; have HB3 := Aside0.mk hb; have HL3 := Aside0.mk (Kd.R_over' HL2.out (Kd.R_typed HO2.out) (by decide) hg); clear ho hb hg hat)))
          go_roundg (l0.length - (k + 1))
          case measure => omega
          case rel =>
            refine ⟨k + 1, acc ++ [rd_T37 l0 (k : Int)], by omega, Nat.le_refl _, by go_num, by rw [List.length_append, List.length_singleton]; omega, ⟨?_⟩, HO3, HL3, HB3⟩
            have h1 := HF2.out
            rw [if_neg (by decide)] at h1
            rw [List.append_assoc]
            exact h1
      · have hkn2 : k = l0.length := by omega
        have hltz : ¬ (k : Int) < (l0.length : Int) := by omega
        subst hkn2
        have hF := HF.out
        rw [List.drop_length] at hF
        unfold cpGo at hF
        rw [List.append_nil] at hF
        subst hF
        clear HF
        go_wp2
        refine bodyPost_ret (v := .tuple #[u6, .int .i64 0]) (by simp [results, Tryd.results12, go_sem]) rfl ?_
        exact ⟨_, rfl, HO.out, HB.out⟩

end Go.Proofs.YtfokmfnafbladaaDoor.Q
