/- What hist.text writes: a line for each event. -/
import Derived.Test.YtfokmfnafbladaaDoorQx0
import Derived.Test.YtfokmfnafbladaaDoorShelf
import Derived.RegionTactic
import Derived.ChangeAlike
import Derived.BigRegion
import Derived.Lib.ItoaLen
import Derived.Shelf.Strings.BuilderK
import Derived.Shelf.Strings.Builder1
import Derived.Shelf.Strings.MapGrows
import Derived.Deep.DrawnRows
namespace Go.Proofs.YtfokmfnafbladaaDoor.Q
open Go.RowKit Go.Proofs.YtfokmfnafbladaaDoorW.PrintWords Go.Proofs.YtfokmfnafbladaaDoorW.PrintLast Go.Proofs.YtfokmfnafbladaaDoorW.PrintMore
set_option linter.unusedVariables false
set_option linter.unusedSimpArgs false
set_option linter.unnecessarySimpa false

theorem cells89 : (Tryd.prog.info? 89).map (·.size) = some 2 := by kernel_rfl
theorem lies89 : liesAt Tryd.prog Tryd.prog.depth 89 (2 / Tryd.prog.cellsOf 89) 0 89 1 = true := by kernel_rfl

set_option maxRecDepth 100000 in
set_option maxHeartbeats 2000000 in
theorem cc70_fresh (b : Nat) (w : World) (h0 : w.cell? ⟨b, 0, none⟩ = some (.pointer none)) (hsh : w.shape? b = some (89, 2)) (hfz : w.frozen? ⟨b, 0, none⟩ = false) :
    Calls Tryd.prog 70 #[.pointer (some ⟨b, 0, none⟩)] w fun e w' => e = .returned (.tuple #[]) ∧ w' = w.setCell ⟨b, 0, none⟩ (.pointer (some ⟨b, 0, none⟩)) := by
  obtain ⟨j, hj, hjs⟩ := Option.map_eq_some_iff.1 cells89
  go_enter Tryd.func70, Tryd.ntmps70
  go_wp2
  rw [Lib.run_to_unsafe w ⟨b, 0, none⟩ Tryd.underlying86 Tryd.underlying122 hj (by rw [hjs]; decide) hsh (Nat.zero_lt_succ 1)]
  simp only [Result.andThen]
  rw [Oper.upon_value]
  go_wp2
  rw [run_callFunc_extern Tryd.func91 (by kernel_rfl) (by kernel_rfl) (by kernel_rfl) (e := Extern.AbiNoEscape.same) (by kernel_rfl)]
  rw [Lib.run_noEscape]
  simp only [Result.andThen]
  rw [Oper.upon_value]
  go_wp2
  rw [Lib.run_from_unsafe w ⟨b, 0, none⟩ Tryd.underlying122 Tryd.underlying86 hj hsh lies89]
  simp only [Result.andThen]
  rw [Oper.upon_value]
  go_wp2
  go_end0
  exact ⟨rfl, rfl⟩

set_option maxRecDepth 100000 in
set_option maxHeartbeats 2000000 in
theorem cc70_used (b : Nat) (w : World) (h0 : w.cell? ⟨b, 0, none⟩ = some (.pointer (some ⟨b, 0, none⟩))) :
    Calls Tryd.prog 70 #[.pointer (some ⟨b, 0, none⟩)] w fun e w' => e = .returned (.tuple #[]) ∧ w' = w := by
  obtain ⟨j, hj, _⟩ := Option.map_eq_some_iff.1 cells89
  go_enter Tryd.func70, Tryd.ntmps70
  go_wp2
  rw [Lib.run_neq_ptr_same w _ Tryd.underlying86 hj]
  go_wp2
  go_end0
  exact ⟨rfl, rfl⟩

theorem cc70_calls (B b : Nat) (bs : List Value) (w : World) (h : Lib.IsBuilderF 89 5 B b bs w) :
    Calls Tryd.prog 70 #[.pointer (some ⟨b, 0, none⟩)] w fun e w' => e = .returned (.tuple #[]) ∧ (Lib.BuilderAtF 89 5 B b (.pointer (some ⟨b, 0, none⟩)) bs w' ∧ Below B w w' ∧ Lib.OthersKept 5 (some b) w w') := by
  rcases h with h | h
  · refine (cc70_fresh b w h.cell0 h.shape h.frozen0).mono ?_
    rintro e w' ⟨rfl, rfl⟩
    exact ⟨rfl, h.used _, (Below.refl B w).setCell (p := ⟨b, 0, none⟩) h.1 _, (Lib.OthersKept.refl _ _ w).setCell ⟨b, 0, none⟩ rfl _⟩
  · refine (cc70_used b w h.cell0).mono ?_
    rintro e w' ⟨rfl, rfl⟩
    exact ⟨rfl, h, Below.refl B _, Lib.OthersKept.refl _ _ _⟩

theorem infoByte5 : (Tryd.prog.info? 5).map (fun i => (i.zero, i.size, i.bytes)) = some (some (.int .u8 0), 1, 1) := by kernel_rfl

set_option maxHeartbeats 2000000 in
set_option maxRecDepth 100000 in
theorem ws57_calls (B b : Nat) (bs : List Value) (s : ByteArray) (w : World) (h : Lib.IsBuilderF 89 5 B b bs w) (hlen : bs.length + s.size ≤ 140737488355328) (hBw : B ≤ w.heap.size) :
    Calls Tryd.prog 57 #[.pointer (some ⟨b, 0, none⟩), .string s] w fun e w' => e = .returned (.tuple #[.int .i64 s.size, .nilIface]) ∧ (Lib.BuilderAtF 89 5 B b (.pointer (some ⟨b, 0, none⟩)) (bs ++ Lib.strCells s) w' ∧ Below B w w' ∧ Lib.OthersKept 5 (some b) w w') := by
  obtain ⟨i0, hi, hz0, hz1, hz2⟩ := info_parts infoByte5
  go_enter Tryd.func57, Tryd.ntmps57
  go_wp2_with (go_at_call 70; refine (cc70_calls B b bs _ h).mono ?_)
  rintro e w1 ⟨rfl, h1, hb1, hk1⟩
  obtain ⟨hB, v, hbk, hown, hne⟩ := h1
  have c0 : w1.cell? ⟨b, 0, none⟩ = some (.pointer (some ⟨b, 0, none⟩)) := by rw [Lib.cell_of_heap hbk]; rfl
  have c1 : w1.cell? ⟨b, 1, none⟩ = some v := by rw [Lib.cell_of_heap hbk]; rfl
  go_wp2_with (at_builtin; refine Lib.wpList_append_own_stringF _ rfl _ _ 87 9 rfl B 5 i0 Tryd.underlying87 Tryd.underlying9 hi hz0 hz1 hz2 _ _ _ rfl hown s rfl ?c3 ?c4 ?c5 ?_)
  case c3 => unfold maxLen; omega
  case c4 => omega
  case c5 => have := hb1.size; omega
  intro v' w2 hown' hgrow _
  have hlt : b < w1.heap.size := by
    rcases Nat.lt_or_ge b w1.heap.size with h' | h'
    · exact h'
    · simp [Array.getElem?_eq_none h'] at hbk
  have hb2 : w2.heap[b]? = some (.cells #[.pointer (some ⟨b, 0, none⟩), v] 89 (0, 0)) := by
    rw [hgrow.block b hlt (fun e => hne e.symm)]
    exact hbk
  have d0 : w2.cell? ⟨b, 0, none⟩ = some (.pointer (some ⟨b, 0, none⟩)) := by rw [Lib.cell_of_heap hb2]; rfl
  have d1 : w2.cell? ⟨b, 1, none⟩ = some v := by rw [Lib.cell_of_heap hb2]; rfl
  have f1 : w2.frozen? ⟨b, 1, none⟩ = false := Lib.frozen_of_heap hb2 1
  obtain ⟨ao, n', cap, rfl⟩ : ∃ ao n' cap, v' = .slice ao n' cap := by
    rcases hown'.2 with ⟨hv, _⟩ | ⟨g, cap, cur, fz, hv, _⟩
    · exact ⟨_, _, _, hv⟩
    · exact ⟨_, _, _, hv⟩
  go_wp2
  go_ret2
  refine ⟨rfl, ?_, ?_, (hk1.grown hgrow (Lib.ownsRowF_kind hown)).setCell ⟨b, 1, none⟩ rfl _⟩
  · exact Lib.BuilderAtF.put (T := 89) (e := 5) hB hb2 (bs' := bs ++ Lib.strCells s) (by simpa [Lib.strCells_length] using hown') (by decide)
  · exact (hb1.grown hgrow (by have := hb1.size; omega) (fun k hk => (hown.lt k hk).1)).setCell (p := ⟨b, 1, none⟩) hB _


/-! The text of a history, a line for each event. -/
def txBack : List UInt8 := [98, 97, 99, 107]
def txCall : List UInt8 := [99, 97, 108, 108]
def txNums (e : S37) : List Int := if e.f2 then [e.f3.f1, e.f3.f2, e.f4] else [e.f3.f1, e.f3.f2]
def txRow (l : List Int) : List UInt8 := l.flatMap (fun n => 32 :: Lib.itoa n)
def txHead (e : S37) : List UInt8 := Lib.itoa e.f0 ++ [32] ++ (if e.f2 then txBack else txCall) ++ [32] ++ e.f3.f0.data.toList
def txLine (e : S37) : List UInt8 := txHead e ++ txRow (txNums e) ++ [10]
def txAll (l : List S37) : List UInt8 := l.flatMap txLine
def i64B (n : Int) : Bool := decide (-9223372036854775808 ≤ n) && decide (n ≤ 9223372036854775807)
def txOk (e : S37) : Bool := decide (e.f3.f0.size ≤ 1048576) && (i64B e.f0 && (i64B e.f3.f1 && (i64B e.f3.f2 && i64B e.f4)))
def smallB (n : Int) : Bool := decide (0 ≤ n) && decide (n < 100)
def txSmall (e : S37) : Bool := smallB e.f0 && (smallB e.f3.f1 && (smallB e.f3.f2 && smallB e.f4))
def hist_text.f (l0 : List S37) : Option ByteArray := if l0.length ≤ 1048576 ∧ (l0.all fun e => txOk e && txSmall e) = true then some ⟨(txAll l0).toArray⟩ else none

/-- Itoa may be called at n, from w on. -/
def ItoaAt (w : World) (n : Int) : Prop := ∀ w', Below w.heap.size w w' → Calls Tryd.prog 58 #[.int .i64 n] w' fun e w'' => e = .returned (.string ⟨(Lib.itoa n).toArray⟩) ∧ Below w'.heap.size w' w''

theorem itoaAt_small (w : World) (n : Int) (h : smallB n = true) : ItoaAt w n := by
  intro w' _
  unfold smallB at h
  simp only [Bool.and_eq_true, decide_eq_true_eq] at h
  obtain ⟨i, rfl⟩ := Int.eq_ofNat_of_zero_le h.1
  refine (Tryd.strconv_Itoa_small i (by omega) w').mono ?_
  rintro e w'' ⟨rfl, rfl⟩
  exact ⟨by rw [Lib.itoa_nonneg], Below.refl _ _⟩

theorem wsB (B b : Nat) (l : List UInt8) (s : ByteArray) (w : World) (h : Lib.IsBuilderF 89 5 B b (Lib.byteCells l) w) (hlen : l.length + s.size ≤ 140737488355328) (hBw : B ≤ w.heap.size) :
    Calls Tryd.prog 57 #[.pointer (some ⟨b, 0, none⟩), .string s] w fun e w' => e = .returned (.tuple #[.int .i64 s.size, .nilIface]) ∧ Lib.IsBuilderF 89 5 B b (Lib.byteCells (l ++ s.data.toList)) w' ∧ Below B w w' ∧ Lib.OthersKept 5 (some b) w w' := by
  refine (ws57_calls B b (Lib.byteCells l) s w h (by rw [Lib.byteCells_length]; exact hlen) hBw).mono ?_
  rintro e w' ⟨rfl, h1, h2, h3⟩
  refine ⟨rfl, .inr ?_, h2, h3⟩
  have : Lib.byteCells (l ++ s.data.toList) = Lib.byteCells l ++ Lib.strCells s := by
    simp [Lib.byteCells, Lib.strCells]
  rw [this]
  exact h1

theorem rdt37_drop {l0 : List S37} {k : Nat} (h : k < l0.length) : l0.drop k = rd_T37 l0 (k : Int) :: l0.drop (k + 1) := by
  rw [List.drop_eq_getElem_cons h]
  simp [rd_T37, List.getD_eq_getElem?_getD, List.getElem?_eq_getElem h]
theorem rdt37_take {l0 : List S37} {k : Nat} (h : k < l0.length) : l0.take (k + 1) = l0.take k ++ [rd_T37 l0 (k : Int)] := by
  rw [List.take_succ_eq_append_getElem h]
  simp [rd_T37, List.getD_eq_getElem?_getD, List.getElem?_eq_getElem h]
theorem rdt37_mem {l0 : List S37} {k : Nat} (h : k < l0.length) : rd_T37 l0 (k : Int) ∈ l0 := by
  have : rd_T37 l0 (k : Int) = l0[k] := by simp [rd_T37, List.getD_eq_getElem?_getD, List.getElem?_eq_getElem h]
  rw [this]
  exact List.getElem_mem _
theorem i64B_itoa {n : Int} (h : i64B n = true) : (Lib.itoa n).length ≤ 21 := by
  unfold i64B at h
  simp only [Bool.and_eq_true, decide_eq_true_eq] at h
  exact Lib.itoa_length_le n h.1 h.2
theorem txRow_length : ∀ {l : List Int}, (∀ n ∈ l, i64B n = true) → (txRow l).length ≤ 22 * l.length
  | [], _ => by simp [txRow]
  | n :: l, h => by
    have h1 := i64B_itoa (h n (by simp))
    have h2 := txRow_length (l := l) (fun m hm => h m (by simp [hm]))
    simp only [txRow, List.flatMap_cons, List.length_append, List.length_cons] at *
    omega
theorem txNums_i64 {e : S37} (h : txOk e = true) : ∀ n ∈ txNums e, i64B n = true := by
  unfold txOk at h
  simp only [Bool.and_eq_true, decide_eq_true_eq] at h
  intro n hn
  unfold txNums at hn
  split at hn
  · simp only [List.mem_cons, List.not_mem_nil, or_false] at hn
    rcases hn with h1 | h1 | h1 <;> subst h1 <;> simp [h]
  · simp only [List.mem_cons, List.not_mem_nil, or_false] at hn
    rcases hn with h1 | h1 <;> subst h1 <;> simp [h]
theorem txNums_length (e : S37) : (txNums e).length ≤ 3 := by
  unfold txNums
  split <;> simp
theorem txHead_length {e : S37} (h : txOk e = true) : (txHead e).length ≤ 1048700 := by
  unfold txOk at h
  simp only [Bool.and_eq_true, decide_eq_true_eq] at h
  have h1 := i64B_itoa h.2.1
  have h2 : (if e.f2 = true then txBack else txCall).length = 4 := by split <;> rfl
  have h3 : e.f3.f0.data.toList.length = e.f3.f0.size := Array.length_toList
  unfold txHead
  rw [List.length_append, List.length_append, List.length_append, List.length_append, h2, h3]
  simp only [List.length_cons, List.length_nil]
  omega
theorem txLine_length {e : S37} (h : txOk e = true) : (txLine e).length ≤ 1048800 := by
  have h1 := txHead_length h
  have h2 := txRow_length (txNums_i64 h)
  have h3 := txNums_length e
  unfold txLine
  simp only [List.length_append, List.length_cons, List.length_nil]
  omega
theorem txAll_length : ∀ {l : List S37}, (∀ e ∈ l, txOk e = true) → (txAll l).length ≤ 1048800 * l.length
  | [], _ => Nat.zero_le _
  | e :: l, h => by
    have h1 := txLine_length (h e (by simp))
    have h2 := txAll_length (l := l) (fun m hm => h m (by simp [hm]))
    have h3 : txAll (e :: l) = txLine e ++ txAll l := by unfold txAll; rw [List.flatMap_cons]
    rw [h3, List.length_append, List.length_cons]
    omega

theorem int_kept {W W' : World} {base b : Nat} {v : Value} {xs : List Int} (h : Kd.R (Kd.int .i64) 3 W base (fun _ => True) v xs) (hk : Lib.OthersKept 5 (some b) W W') (hb : b < base) : Kd.R (Kd.int .i64) 3 W' base (fun _ => True) v xs := by
  obtain ⟨hok, inner, ⟨hl, ho⟩, hr⟩ := h
  refine ⟨hok, inner, ⟨hl, ?_⟩, hr⟩
  rcases ho with ho | ⟨g, cap, cs, hv, hbg, hg, rest⟩
  · exact .inl ho
  · exact .inr ⟨g, cap, cs, hv, hbg, hk g _ hg (by simp; omega) (by intro c fz; simp), rest⟩
theorem int_below {W W' : World} {base : Nat} {v : Value} {xs : List Int} (h : Kd.R (Kd.int .i64) 3 W base (fun _ => True) v xs) (hk : Below W.heap.size W W') : Kd.R (Kd.int .i64) 3 W' base (fun _ => True) v xs := by
  obtain ⟨hok, inner, ⟨hl, ho⟩, hr⟩ := h
  refine ⟨hok, inner, ⟨hl, ?_⟩, hr⟩
  rcases ho with ho | ⟨g, cap, cs, hv, hbg, hg, rest⟩
  · exact .inl ho
  · exact .inr ⟨g, cap, cs, hv, hbg, (hk.block g (blk_lt hg)).trans hg, rest⟩
theorem txAll_room {l : List S37} (h : ∀ e ∈ l, txOk e = true) (hl : l.length ≤ 1048576) (k : Nat) : (txAll (l.take k)).length + 2000000 ≤ 140737488355328 := by
  have h1 := txAll_length (l := l.take k) (fun e he => h e (List.mem_of_mem_take he))
  have h2 : (l.take k).length ≤ 1048576 := by rw [List.length_take]; omega
  omega

theorem itoa_size21 {e : S37} (h : txOk e = true) : (⟨(Lib.itoa e.f0).toArray⟩ : ByteArray).size ≤ 21 := by
  unfold txOk at h
  simp only [Bool.and_eq_true, decide_eq_true_eq] at h
  have h1 := i64B_itoa h.2.1
  show (Lib.itoa e.f0).toArray.size ≤ 21
  rw [List.size_toArray]
  exact h1
theorem txOk_size {e : S37} (h : txOk e = true) : e.f3.f0.size ≤ 1048576 := by
  unfold txOk at h
  simp only [Bool.and_eq_true, decide_eq_true_eq] at h
  exact h.1
theorem hl8 {n : Nat} {s0 wd s1 : ByteArray} (h : n + 2000000 ≤ 140737488355328) (h0 : s0.size ≤ 21) (hw : wd.size = 4) (h1 : s1.size ≤ 1048576) : n + (s0 ++ ⟨#[32]⟩ ++ wd ++ ⟨#[32]⟩ ++ s1).size ≤ 140737488355328 := by
  rw [ByteArray.size_append, ByteArray.size_append, ByteArray.size_append, ByteArray.size_append]
  have e1 : (⟨#[32]⟩ : ByteArray).size = 1 := rfl
  omega
theorem others_box {W W' : World} {b g t : Nat} {c : Array Value} {fz : Nat × Nat} (hk : Lib.OthersKept 5 (some b) W W') (hb : b < g) (h : W.heap[g]? = some (.cells c t fz)) (ht : t ≠ 5) : W'.heap[g]? = some (.cells c t fz) :=
  hk g _ h (by simp; omega) (by intro c' fz' he; injection he with h1 h2 h3; exact ht h2)
theorem head_eq (y : S37) (s0 wd : ByteArray) (hs : s0 = ⟨(Lib.itoa y.f0).toArray⟩) (hw : wd.data.toList = if y.f2 then txBack else txCall) : (s0 ++ ⟨#[32]⟩ ++ wd ++ ⟨#[32]⟩ ++ y.f3.f0).data.toList = txHead y := by
  subst hs
  unfold txHead
  rw [← hw]
  simp
theorem nums_itoa {w : World} {y : S37} (h1 : ItoaAt w y.f3.f1) (h2 : ItoaAt w y.f3.f2) (h3 : ItoaAt w y.f4) (hy : txOk y = true) : ∀ n ∈ txNums y, ItoaAt w n ∧ i64B n = true := by
  intro n hn
  refine ⟨?_, txNums_i64 hy n hn⟩
  unfold txNums at hn
  split at hn
  · simp only [List.mem_cons, List.not_mem_nil, or_false] at hn
    rcases hn with h | h | h <;> subst h <;> assumption
  · simp only [List.mem_cons, List.not_mem_nil, or_false] at hn
    rcases hn with h | h <;> subst h <;> assumption
theorem int_take {l : List Int} {j : Nat} (h : j < l.length) : l.take (j + 1) = l.take j ++ [rd l (j : Int)] := by
  rw [List.take_succ_eq_append_getElem h]
  simp [rd, List.getD_eq_getElem?_getD, List.getElem?_eq_getElem h]
theorem int_mem {l : List Int} {j : Nat} (h : j < l.length) : rd l (j : Int) ∈ l := by
  have : rd l (j : Int) = l[j] := by simp [rd, List.getD_eq_getElem?_getD, List.getElem?_eq_getElem h]
  rw [this]
  exact List.getElem_mem _
theorem size_itoa21 {x : Int} (h : i64B x = true) : (⟨(Lib.itoa x).toArray⟩ : ByteArray).size ≤ 21 := by
  show (Lib.itoa x).toArray.size ≤ 21
  rw [List.size_toArray]
  exact i64B_itoa h
theorem row_room {n : List UInt8} {y : S37} (h : n.length + 2000000 ≤ 140737488355328) (hy : txOk y = true) (j : Nat) : (n ++ txHead y ++ txRow ((txNums y).take j)).length + 1000 ≤ 140737488355328 := by
  have h1 := txHead_length hy
  have h2 := txRow_length (l := (txNums y).take j) (fun m hm => txNums_i64 hy m (List.mem_of_mem_take hm))
  have h3 := txNums_length y
  have h4 : ((txNums y).take j).length ≤ 3 := by rw [List.length_take]; omega
  rw [List.length_append, List.length_append]
  omega
theorem line_room {n : List UInt8} {y : S37} (h : n.length + 2000000 ≤ 140737488355328) (hy : txOk y = true) : (n ++ txHead y ++ txRow (txNums y)).length + (⟨#[10]⟩ : ByteArray).size ≤ 140737488355328 := by
  have h1 := row_room h hy (txNums y).length
  rw [List.take_length] at h1
  have e1 : (⟨#[10]⟩ : ByteArray).size = 1 := rfl
  omega
theorem hl9 {n : Nat} {s1 : ByteArray} (h : n + 1000 ≤ 140737488355328) (h0 : s1.size ≤ 21) : n + ((⟨#[32]⟩ : ByteArray) ++ s1).size ≤ 140737488355328 := by
  rw [ByteArray.size_append]
  have e1 : (⟨#[32]⟩ : ByteArray).size = 1 := rfl
  omega
theorem row_step {n : List UInt8} (y : S37) (x : Int) (s1 : ByteArray) {j : Nat} (hs : s1 = ⟨(Lib.itoa x).toArray⟩) (ht : (txNums y).take (j + 1) = (txNums y).take j ++ [x]) : n ++ txHead y ++ txRow ((txNums y).take j) ++ ((⟨#[32]⟩ : ByteArray) ++ s1).data.toList = n ++ txHead y ++ txRow ((txNums y).take (j + 1)) := by
  subst hs
  rw [ht]
  simp [txRow]
theorem line_step {l : List S37} {y : S37} : txAll l ++ txHead y ++ txRow (txNums y) ++ (⟨#[10]⟩ : ByteArray).data.toList = txAll (l ++ [y]) := by
  simp [txAll, txLine]
set_option maxHeartbeats 16000000 in
set_option maxRecDepth 100000 in
theorem hist_text.callsG (A0 : Option Addr) (c0 : Nat) (l0 : List S37) (w : World) (hr0 : Kd.C k37 w A0 l0.length l0) (hc0 : l0.length ≤ c0) (hlen : l0.length ≤ 1048576) (hok : ∀ e ∈ l0, txOk e = true)
    (hit : ∀ e ∈ l0, ItoaAt w e.f0 ∧ ItoaAt w e.f3.f1 ∧ ItoaAt w e.f3.f2 ∧ ItoaAt w e.f4) :
    Calls Tryd.prog 40 #[.slice A0 l0.length c0] w fun e w' => e = .returned (.string ⟨(txAll l0).toArray⟩) ∧ Below w.heap.size w w' := by
  have HR := Aside0.mk hr0
  have HIT := Aside0.mk hit
  have HOK := Aside0.mk hok
  clear hr0 hc0 hit hok
  have hbd0 : Lib.IsBuilderF 89 5 w.heap.size w.heap.size (Lib.byteCells []) (w.alloc (.cells #[.pointer none, .slice none 0 0] 89 (0, 0))) := .inl ⟨Nat.le_refl _, .slice none 0 0, blk_new w _, ⟨rfl, .inl ⟨rfl, rfl⟩⟩, by simp [Value.ownBlock]⟩
  have hB0 : Below w.heap.size w (w.alloc (.cells #[.pointer none, .slice none 0 0] 89 (0, 0))) := (Below.refl _ _).alloc (Nat.le_refl _) _
  have HBD0 := Aside0.mk hbd0
  have HB0 := Aside0.mk hB0
  clear hbd0 hB0
  go_enter Tryd.func40, Tryd.ntmps40
  go_wp2
  go_loopg [12] l0.length (fun gg s12 wr => ∃ (k : Nat), k ≤ l0.length ∧ l0.length - k ≤ gg ∧ s12 = .int .i64 k ∧ Aside0 (Lib.IsBuilderF 89 5 w.heap.size w.heap.size (Lib.byteCells (txAll (l0.take k))) wr) ∧ Aside0 (Below w.heap.size w wr))
  case atStart => exact ⟨0, Nat.zero_le _, by omega, rfl, HBD0, HB0⟩
  case round =>
    clear HBD0 HB0
    obtain ⟨k, hkn, hgg, rfl, HBD, HB⟩ := hrel
    by_cases hlt : k < l0.length
    · have hltz : (k : Int) < (l0.length : Int) := by omega
      have hkz : 0 ≤ (k : Int) := by omega
      obtain ⟨ad, e, hx0, hx1, hx2, hx3, hx4, hx5, hx6⟩ := at_T37 (Kd.C_below HR.out HB.out) (k : Int) hkz hltz
      cases e
      simp only [Int.toNat_natCast] at hx0 hx1 hx2 hx3 hx4 hx5 hx6
      have hym := rdt37_mem hlt
      have hytk := rdt37_take hlt
      generalize rd_T37 l0 (k : Int) = y at *
      have HYM := Aside0.mk hym
      have HYT := Aside0.mk hytk
      have hY := HOK.out y hym
      have HY := Aside0.mk hY
      clear hym hytk hY
      have hbl : Below wr.heap.size wr (wr.alloc (.cells #[.int .i64 y.f0, .int .i64 y.f1, .bool y.f2, .string y.f3.f0, .int .i64 y.f3.f1, .int .i64 y.f3.f2, .int .i64 y.f4] 37 (0, 0))) := (Below.refl _ _).alloc (Nat.le_refl _) _
      have hbx := blk_new wr (.cells #[.int .i64 y.f0, .int .i64 y.f1, .bool y.f2, .string y.f3.f0, .int .i64 y.f3.f1, .int .i64 y.f3.f2, .int .i64 y.f4] 37 (0, 0))
      have HBL := Aside0.mk hbl
      have HBX := Aside0.mk hbx
      clear hbl hbx
      go_wp2
      generalize hw1 : wr.alloc (.cells #[.int .i64 y.f0, .int .i64 y.f1, .bool y.f2, .string y.f3.f0, .int .i64 y.f3.f1, .int .i64 y.f3.f2, .int .i64 y.f4] 37 (0, 0)) = w1 at HBL HBX ⊢
      have hsz1 : w1.heap.size = wr.heap.size + 1 := by rw [← hw1]; simp
      clear hw1 hx0 hx1 hx2 hx3 hx4 hx5 hx6
      have hz4 : w1.cell? ⟨wr.heap.size, 4, none⟩ = some (.int .i64 y.f3.f1) := (blk_cell HBX.out 4).trans rfl
      have hz5 : w1.cell? ⟨wr.heap.size, 5, none⟩ = some (.int .i64 y.f3.f2) := (blk_cell HBX.out 5).trans rfl
      have hw2b : Below wr.heap.size wr (w1.alloc (.cells #[.int .i64 y.f3.f1, .int .i64 y.f3.f2] 3 (0, 0))).drew := (HBL.out.alloc (by omega) _).drew
      have hw2x : (w1.alloc (.cells #[.int .i64 y.f3.f1, .int .i64 y.f3.f2] 3 (0, 0))).drew.heap[wr.heap.size]? = some (.cells #[.int .i64 y.f0, .int .i64 y.f1, .bool y.f2, .string y.f3.f0, .int .i64 y.f3.f1, .int .i64 y.f3.f2, .int .i64 y.f4] 37 (0, 0)) := blk_alloc HBX.out _
      have hw2v : Kd.R (Kd.int .i64) 3 (w1.alloc (.cells #[.int .i64 y.f3.f1, .int .i64 y.f3.f2] 3 (0, 0))).drew wr.heap.size (fun _ => True) (.slice (some ⟨wr.heap.size + 1, 0, none⟩) 2 2) [y.f3.f1, y.f3.f2] := ⟨fun _ _ => trivial, [.int .i64 y.f3.f1, .int .i64 y.f3.f2], ⟨rfl, .inr ⟨wr.heap.size + 1, 2, _, rfl, by omega, by rw [← hsz1]; exact blk_new w1 _, Nat.le_refl 2, by decide, rfl, rfl⟩⟩, Kd.reps_scalar (enc := Value.int .i64) [y.f3.f1, y.f3.f2]⟩
      have hw2s : (w1.alloc (.cells #[.int .i64 y.f3.f1, .int .i64 y.f3.f2] 3 (0, 0))).drew.heap.size = wr.heap.size + 2 := by simp [hsz1]
      go_region_held3 (fun w' => w'.cell? ⟨wr.heap.size, 4, none⟩ = some (.int .i64 y.f3.f1) ∧ w'.cell? ⟨wr.heap.size, 5, none⟩ = some (.int .i64 y.f3.f2)) (go_keep) (fail)
      generalize (w1.alloc (.cells #[.int .i64 y.f3.f1, .int .i64 y.f3.f2] 3 (0, 0))).drew = w2 at hw2b hw2v hw2s hw2x ⊢
      have HB2 := Aside0.mk hw2b
      have HX2 := Aside0.mk hw2x
      have HV2 := Aside0.mk hw2v
      have HS2 := Aside0.mk hw2s
      clear hw2s hw2b hw2x hw2v HBL HBX hz4 hz5 hsz1
      obtain ⟨hi0, hiX, hiY, hiR⟩ := HIT.out y HYM.out
      have HI0 := Aside0.mk hi0
      have HIX := Aside0.mk hiX
      have HIY := Aside0.mk hiY
      have HIR := Aside0.mk hiR
      clear hi0 hiX hiY hiR
      cases h2 : y.f2 with
      | false =>
        have hz2 : w2.cell? ⟨wr.heap.size, 2, none⟩ = some (.bool false) := (blk_cell HX2.out 2).trans (by rw [h2]; rfl)
        have HX3 := HX2
        have HB3 := HB2
        have HV3 := HV2
        clear HX2 HB2 HV2
        go_wp2
        clear hz2
        have hz0 : w2.cell? ⟨wr.heap.size, 0, none⟩ = some (.int .i64 y.f0) := (blk_cell HX3.out 0).trans rfl
        have hz3 : w2.cell? ⟨wr.heap.size, 3, none⟩ = some (.string y.f3.f0) := (blk_cell HX3.out 3).trans rfl
        have HBW3 := Aside0.mk (below_then HB.out HB.out.size HB3.out)
        have HWL := Aside0.mk (HBD.out.elim (fun h => h.lt) (fun h => h.lt) : w.heap.size < wr.heap.size)
        have HSX := Aside0.mk (blk_lt HX3.out)
        obtain ⟨s0, hs0⟩ : ∃ s0 : ByteArray, s0 = ⟨(Lib.itoa y.f0).toArray⟩ := ⟨_, rfl⟩
        have hi0 := HI0.out
        unfold ItoaAt at hi0
        rw [← hs0] at hi0
        have HJ0 := Aside0.mk hi0
        have hs0n : s0.size ≤ 21 := by rw [hs0]; exact itoa_size21 HY.out
        have HS0 := Aside0.mk hs0
        have hyn : y.f3.f0.size ≤ 1048576 := txOk_size HY.out
        clear hi0 HI0 hs0
        have HSN := Aside0.mk hs0n
        have HYN := Aside0.mk hyn
        have cz1 : (9223372036854775807 < s0.size + 1) = False := eq_false (by omega)
        have cz2 : (9223372036854775807 < s0.size + 1 + 4) = False := eq_false (by omega)
        have cz3 : (9223372036854775807 < s0.size + 1 + 4 + 1) = False := eq_false (by omega)
        have cz4 : (9223372036854775807 < s0.size + 1 + 4 + 1 + y.f3.f0.size) = False := eq_false (by omega)
        clear hs0n hyn
        have HL0 := Aside0.mk (show (txAll (l0.take k)).length + 2000000 ≤ 140737488355328 from txAll_room HOK.out hlen k)
        go_region_held3 (fun w' => w'.cell? ⟨wr.heap.size, 0, none⟩ = some (.int .i64 y.f0) ∧ w'.cell? ⟨wr.heap.size, 3, none⟩ = some (.string y.f3.f0)) (go_keep) (first | (go_at_call 58; go_loud (refine (HJ0.out _ (by first | exact HBW3.out | exact HBW3.out.drew)).mono ?_; rintro e w4 ⟨rfl, hb4⟩; have q0 : w4.cell? ⟨wr.heap.size, 0, none⟩ = some (.int .i64 y.f0) := (hb4.cell (p := ⟨wr.heap.size, 0, none⟩) HSX.out).trans hz0; have q3 : w4.cell? ⟨wr.heap.size, 3, none⟩ = some (.string y.f3.f0) := (hb4.cell (p := ⟨wr.heap.size, 3, none⟩) HSX.out).trans hz3; have HB4 := Aside0.mk (below_then HB3.out.drew HB3.out.drew.size hb4); have HX4 := Aside0.mk ((hb4.block wr.heap.size HSX.out).trans HX3.out); have HV4 := Aside0.mk (int_below (W := w2.drew) HV3.out hb4); clear hb4)) | (go_at_call 57; go_loud (refine (wsB w.heap.size w.heap.size (txAll (l0.take k)) _ _ ?hh ?hl ?hB).mono ?_; (case hh => exact Lib.IsBuilderF.below HBD.out HB4.out); (case hB => exact Nat.le_trans HB.out.size HB4.out.size); (case hl => exact hl8 HL0.out HSN.out rfl HYN.out); rintro e w5 ⟨rfl, h51, h52, h53⟩; have hx5 := others_box h53 HWL.out HX4.out (by decide); have q0 : w5.cell? ⟨wr.heap.size, 0, none⟩ = some (.int .i64 y.f0) := (blk_cell hx5 0).trans rfl; have q3 : w5.cell? ⟨wr.heap.size, 3, none⟩ = some (.string y.f3.f0) := (blk_cell hx5 3).trans rfl; have HV5 := Aside0.mk (int_kept HV4.out h53 HWL.out); have HBD5 := Aside0.mk h51; have HB5 := Aside0.mk ((below_then HB.out HB.out.size HB4.out).trans h52); clear hx5 h51 h52 h53)))
        clear q0 q3 hz0 hz3 cz1 cz2 cz3 cz4 HB4 HX4 HV4 HBW3 HSX HX3 HV3 HB3 HSN HYN HJ0
        have hbd5 := HBD5.out
        rw [head_eq y s0 ⟨#[99, 97, 108, 108]⟩ HS0.out (by rw [h2]; rfl)] at hbd5
        have HBD6 := Aside0.mk hbd5
        have hL : [y.f3.f1, y.f3.f2] = txNums y := by unfold txNums; rw [h2]; rfl
        have hv5 : Kd.R (Kd.int .i64) 3 w5 wr.heap.size (fun _ => True) (.slice (some ⟨wr.heap.size + 1, 0, none⟩) 2 2) (txNums y) := by rw [← hL]; exact HV5.out
        have HV6 := Aside0.mk hv5
        have hln : (txNums y).length = 2 := by rw [← hL]; rfl
        clear hbd5 hL hv5 HBD5 HV5 HS0
        have HIL := Aside0.mk (nums_itoa HIX.out HIY.out HIR.out HY.out : ∀ n ∈ txNums y, ItoaAt w n ∧ i64B n = true)
        have HLN := Aside0.mk hln
        clear hln
        generalize (some ⟨wr.heap.size + 1, 0, none⟩ : Option Addr) = A3 at HV6 ⊢
        go_wp2
        go_loopg [44] 2 (fun gg s44 wq => ∃ (j : Nat), j ≤ 2 ∧ 2 - j ≤ gg ∧ s44 = .int .i64 j ∧ Aside0 (Lib.IsBuilderF 89 5 w.heap.size w.heap.size (Lib.byteCells (txAll (l0.take k) ++ txHead y ++ txRow ((txNums y).take j))) wq) ∧ Aside0 (Below w.heap.size w wq) ∧ Aside0 (Kd.R (Kd.int .i64) 3 wq wr.heap.size (fun _ => True) (.slice A3 2 2) (txNums y)))
        case atStart =>
          refine ⟨0, Nat.zero_le _, by omega, rfl, ⟨?_⟩, HB5, HV6⟩
          have h1 := HBD6.out
          simp only [List.take_zero, txRow, List.flatMap_nil, List.append_nil]
          exact h1
        case round =>
          clear HBD6 HB5 HV6
          obtain ⟨j, hjn, hjg, rfl, HBDq, HBq, HVq⟩ := hrel
          by_cases hj : j < 2
          · have hjz : (j : Int) < 2 := by omega
            have hjz0 : 0 ≤ (j : Int) := by omega
            obtain ⟨ae, e, hce⟩ := Kd.at_int (Kd.R_reads' HVq.out).2.2 (j : Int) hjz0 (by rw [HLN.out]; omega)
            cases e
            simp only [Int.toNat_natCast] at hce
            have htk := int_take (l := txNums y) (by rw [HLN.out]; exact hj)
            obtain ⟨hI1, h641⟩ := HIL.out (rd (txNums y) (j : Int)) (int_mem (by rw [HLN.out]; exact hj))
            generalize rd (txNums y) (j : Int) = x at hce htk hI1 h641
            obtain ⟨s1, hs1⟩ : ∃ s1 : ByteArray, s1 = ⟨(Lib.itoa x).toArray⟩ := ⟨_, rfl⟩
            have hs1n : s1.size ≤ 21 := by rw [hs1]; exact size_itoa21 h641
            unfold ItoaAt at hI1
            rw [← hs1] at hI1
            have HJ1 := Aside0.mk hI1
            have HS1 := Aside0.mk hs1
            have HTK := Aside0.mk htk
            have HSN1 := Aside0.mk hs1n
            have cz5 : (9223372036854775807 < 1 + s1.size) = False := eq_false (by omega)
            clear hI1 hs1 htk hs1n h641
            have HL1 := Aside0.mk (row_room HL0.out HY.out j)
            go_wp2_with (first | (go_at_call 58; go_loud (refine (HJ1.out _ HBq.out).mono ?_; rintro e w6 ⟨rfl, hb6⟩; have HB6 := Aside0.mk hb6; clear hb6)) | (go_at_call 57; go_loud (refine (wsB w.heap.size w.heap.size (txAll (l0.take k) ++ txHead y ++ txRow ((txNums y).take j)) _ _ ?hh ?hl ?hB).mono ?_; (case hh => exact Lib.IsBuilderF.below HBDq.out HB6.out); (case hB => exact Nat.le_trans HBq.out.size HB6.out.size); (case hl => exact hl9 HL1.out HSN1.out); rintro e w7 ⟨rfl, h71, h72, h73⟩; have HV7 := Aside0.mk (int_kept (int_below HVq.out HB6.out) h73 HWL.out); have HBD7 := Aside0.mk h71; have HB7 := Aside0.mk ((below_then HBq.out HBq.out.size HB6.out).trans h72); clear h71 h72 h73)))
            go_roundg (2 - (j + 1))
            case measure => omega
            case rel =>
              refine ⟨j + 1, by omega, Nat.le_refl _, by go_num, ⟨?_⟩, HB7, HV7⟩
              have h1 := HBD7.out
              rw [row_step y x s1 HS1.out HTK.out] at h1
              exact h1
          · have hjn2 : j = 2 := by omega
            have hjz : ¬ (j : Int) < 2 := by omega
            subst hjn2
            have hb7 := HBDq.out
            rw [show (txNums y).take 2 = txNums y from List.take_of_length_le (by rw [HLN.out]; exact Nat.le_refl _)] at hb7
            have HBD8 := Aside0.mk hb7
            clear hb7 hjz HBDq
            have HL2 := Aside0.mk (line_room HL0.out HY.out)
            go_wp2_with (go_at_call 57; go_loud (refine (wsB w.heap.size w.heap.size (txAll (l0.take k) ++ txHead y ++ txRow (txNums y)) _ _ ?hh ?hl ?hB).mono ?_; (case hh => exact HBD8.out); (case hB => exact HBq.out.size); (case hl => exact HL2.out); rintro e w7 ⟨rfl, h71, h72, h73⟩; have HBD7 := Aside0.mk h71; have HB7 := Aside0.mk (HBq.out.trans h72); clear h71 h72 h73))
            go_roundg (l0.length - (k + 1))
            case measure => omega
            case rel =>
              refine ⟨k + 1, by omega, Nat.le_refl _, by go_num, ⟨?_⟩, HB7⟩
              have h1 := HBD7.out
              rw [HYT.out]
              rw [line_step] at h1
              exact h1
      | true =>
        have hz2 : w2.cell? ⟨wr.heap.size, 2, none⟩ = some (.bool true) := (blk_cell HX2.out 2).trans (by rw [h2]; rfl)
        have hz6 : w2.cell? ⟨wr.heap.size, 6, none⟩ = some (.int .i64 y.f4) := (blk_cell HX2.out 6).trans rfl
        go_wp2_with ((with_reducible refine gate_builtin (b := .append) (xs := #[.tmp 25, .tmp 28]) rfl ?_); at_builtin; go_loud (refine Kd.R_append (Kd.int .i64) (w0 := wr) wr.heap.size rfl (.tmp 25) (.tmp 28) 30 3 (.int .i64 0) 8 rfl Tryd.underlying30 info3 rfl (by decide) (by omega) (.slice (some ⟨wr.heap.size + 1, 0, none⟩) 2 2) [y.f3.f1, y.f3.f2] y.f4 [.int .i64 y.f4] (fun _ => True) (fun _ => False) rfl rfl ?aP (fun _ hk => hk.elim) ?aF ?aO ?aB ?aS ?aL ?_; (case aP => exact rfl); (case aB => exact HB2.out); (case aF => exact (fun _ _ => trivial)); (case aO => exact HV2.out); (case aS => exact HB2.out.size); (case aL => show (2 + 1) * 8 ≤ 140737488355328; decide); intro v3 w3 ho hb hg hat; obtain ⟨A3, c3, rfl, hc3⟩ := Kd.R_reads ho; have HV3 := Aside0.mk ho; have HB3 := Aside0.mk hb; have HX3 := Aside0.mk (blk_grown HX2.out hg (by simp [Value.ownBlock])); clear ho hb hg hat hc3))
        clear hz2 hz6 HX2 HB2 HV2 HS2
        have hz0 : w3.cell? ⟨wr.heap.size, 0, none⟩ = some (.int .i64 y.f0) := (blk_cell HX3.out 0).trans rfl
        have hz3 : w3.cell? ⟨wr.heap.size, 3, none⟩ = some (.string y.f3.f0) := (blk_cell HX3.out 3).trans rfl
        have HBW3 := Aside0.mk (below_then HB.out HB.out.size HB3.out)
        have HWL := Aside0.mk (HBD.out.elim (fun h => h.lt) (fun h => h.lt) : w.heap.size < wr.heap.size)
        have HSX := Aside0.mk (blk_lt HX3.out)
        obtain ⟨s0, hs0⟩ : ∃ s0 : ByteArray, s0 = ⟨(Lib.itoa y.f0).toArray⟩ := ⟨_, rfl⟩
        have hi0 := HI0.out
        unfold ItoaAt at hi0
        rw [← hs0] at hi0
        have HJ0 := Aside0.mk hi0
        have hs0n : s0.size ≤ 21 := by rw [hs0]; exact itoa_size21 HY.out
        have HS0 := Aside0.mk hs0
        have hyn : y.f3.f0.size ≤ 1048576 := txOk_size HY.out
        clear hi0 HI0 hs0
        have HSN := Aside0.mk hs0n
        have HYN := Aside0.mk hyn
        have cz1 : (9223372036854775807 < s0.size + 1) = False := eq_false (by omega)
        have cz2 : (9223372036854775807 < s0.size + 1 + 4) = False := eq_false (by omega)
        have cz3 : (9223372036854775807 < s0.size + 1 + 4 + 1) = False := eq_false (by omega)
        have cz4 : (9223372036854775807 < s0.size + 1 + 4 + 1 + y.f3.f0.size) = False := eq_false (by omega)
        clear hs0n hyn
        have HL0 := Aside0.mk (show (txAll (l0.take k)).length + 2000000 ≤ 140737488355328 from txAll_room HOK.out hlen k)
        go_region_held3 (fun w' => w'.cell? ⟨wr.heap.size, 0, none⟩ = some (.int .i64 y.f0) ∧ w'.cell? ⟨wr.heap.size, 3, none⟩ = some (.string y.f3.f0)) (go_keep) (first | (go_at_call 58; go_loud (refine (HJ0.out _ (by first | exact HBW3.out | exact HBW3.out.drew)).mono ?_; rintro e w4 ⟨rfl, hb4⟩; have q0 : w4.cell? ⟨wr.heap.size, 0, none⟩ = some (.int .i64 y.f0) := (hb4.cell (p := ⟨wr.heap.size, 0, none⟩) HSX.out).trans hz0; have q3 : w4.cell? ⟨wr.heap.size, 3, none⟩ = some (.string y.f3.f0) := (hb4.cell (p := ⟨wr.heap.size, 3, none⟩) HSX.out).trans hz3; have HB4 := Aside0.mk (below_then HB3.out.drew HB3.out.drew.size hb4); have HX4 := Aside0.mk ((hb4.block wr.heap.size HSX.out).trans HX3.out); have HV4 := Aside0.mk (int_below (W := w3.drew) HV3.out hb4); clear hb4)) | (go_at_call 57; go_loud (refine (wsB w.heap.size w.heap.size (txAll (l0.take k)) _ _ ?hh ?hl ?hB).mono ?_; (case hh => exact Lib.IsBuilderF.below HBD.out HB4.out); (case hB => exact Nat.le_trans HB.out.size HB4.out.size); (case hl => exact hl8 HL0.out HSN.out rfl HYN.out); rintro e w5 ⟨rfl, h51, h52, h53⟩; have hx5 := others_box h53 HWL.out HX4.out (by decide); have q0 : w5.cell? ⟨wr.heap.size, 0, none⟩ = some (.int .i64 y.f0) := (blk_cell hx5 0).trans rfl; have q3 : w5.cell? ⟨wr.heap.size, 3, none⟩ = some (.string y.f3.f0) := (blk_cell hx5 3).trans rfl; have HV5 := Aside0.mk (int_kept HV4.out h53 HWL.out); have HBD5 := Aside0.mk h51; have HB5 := Aside0.mk ((below_then HB.out HB.out.size HB4.out).trans h52); clear hx5 h51 h52 h53)))
        clear q0 q3 hz0 hz3 cz1 cz2 cz3 cz4 HB4 HX4 HV4 HBW3 HSX HX3 HV3 HB3 HSN HYN HJ0
        have hbd5 := HBD5.out
        rw [head_eq y s0 ⟨#[98, 97, 99, 107]⟩ HS0.out (by rw [h2]; rfl)] at hbd5
        have HBD6 := Aside0.mk hbd5
        have hL : [y.f3.f1, y.f3.f2, y.f4] = txNums y := by unfold txNums; rw [h2]; rfl
        have hv5 : Kd.R (Kd.int .i64) 3 w5 wr.heap.size (fun _ => True) (.slice A3 3 c3) (txNums y) := by rw [← hL]; exact HV5.out
        have HV6 := Aside0.mk hv5
        have hln : (txNums y).length = 3 := by rw [← hL]; rfl
        clear hbd5 hL hv5 HBD5 HV5 HS0
        have HIL := Aside0.mk (nums_itoa HIX.out HIY.out HIR.out HY.out : ∀ n ∈ txNums y, ItoaAt w n ∧ i64B n = true)
        have HLN := Aside0.mk hln
        clear hln
        go_wp2
        go_loopg [44] 3 (fun gg s44 wq => ∃ (j : Nat), j ≤ 3 ∧ 3 - j ≤ gg ∧ s44 = .int .i64 j ∧ Aside0 (Lib.IsBuilderF 89 5 w.heap.size w.heap.size (Lib.byteCells (txAll (l0.take k) ++ txHead y ++ txRow ((txNums y).take j))) wq) ∧ Aside0 (Below w.heap.size w wq) ∧ Aside0 (Kd.R (Kd.int .i64) 3 wq wr.heap.size (fun _ => True) (.slice A3 3 c3) (txNums y)))
        case atStart =>
          refine ⟨0, Nat.zero_le _, by omega, rfl, ⟨?_⟩, HB5, HV6⟩
          have h1 := HBD6.out
          simp only [List.take_zero, txRow, List.flatMap_nil, List.append_nil]
          exact h1
        case round =>
          clear HBD6 HB5 HV6
          obtain ⟨j, hjn, hjg, rfl, HBDq, HBq, HVq⟩ := hrel
          by_cases hj : j < 3
          · have hjz : (j : Int) < 3 := by omega
            have hjz0 : 0 ≤ (j : Int) := by omega
            obtain ⟨ae, e, hce⟩ := Kd.at_int (Kd.R_reads' HVq.out).2.2 (j : Int) hjz0 (by rw [HLN.out]; omega)
            cases e
            simp only [Int.toNat_natCast] at hce
            have htk := int_take (l := txNums y) (by rw [HLN.out]; exact hj)
            obtain ⟨hI1, h641⟩ := HIL.out (rd (txNums y) (j : Int)) (int_mem (by rw [HLN.out]; exact hj))
            generalize rd (txNums y) (j : Int) = x at hce htk hI1 h641
            obtain ⟨s1, hs1⟩ : ∃ s1 : ByteArray, s1 = ⟨(Lib.itoa x).toArray⟩ := ⟨_, rfl⟩
            have hs1n : s1.size ≤ 21 := by rw [hs1]; exact size_itoa21 h641
            unfold ItoaAt at hI1
            rw [← hs1] at hI1
            have HJ1 := Aside0.mk hI1
            have HS1 := Aside0.mk hs1
            have HTK := Aside0.mk htk
            have HSN1 := Aside0.mk hs1n
            have cz5 : (9223372036854775807 < 1 + s1.size) = False := eq_false (by omega)
            clear hI1 hs1 htk hs1n h641
            have HL1 := Aside0.mk (row_room HL0.out HY.out j)
            go_wp2_with (first | (go_at_call 58; go_loud (refine (HJ1.out _ HBq.out).mono ?_; rintro e w6 ⟨rfl, hb6⟩; have HB6 := Aside0.mk hb6; clear hb6)) | (go_at_call 57; go_loud (refine (wsB w.heap.size w.heap.size (txAll (l0.take k) ++ txHead y ++ txRow ((txNums y).take j)) _ _ ?hh ?hl ?hB).mono ?_; (case hh => exact Lib.IsBuilderF.below HBDq.out HB6.out); (case hB => exact Nat.le_trans HBq.out.size HB6.out.size); (case hl => exact hl9 HL1.out HSN1.out); rintro e w7 ⟨rfl, h71, h72, h73⟩; have HV7 := Aside0.mk (int_kept (int_below HVq.out HB6.out) h73 HWL.out); have HBD7 := Aside0.mk h71; have HB7 := Aside0.mk ((below_then HBq.out HBq.out.size HB6.out).trans h72); clear h71 h72 h73)))
            go_roundg (3 - (j + 1))
            case measure => omega
            case rel =>
              refine ⟨j + 1, by omega, Nat.le_refl _, by go_num, ⟨?_⟩, HB7, HV7⟩
              have h1 := HBD7.out
              rw [row_step y x s1 HS1.out HTK.out] at h1
              exact h1
          · have hjn2 : j = 3 := by omega
            have hjz : ¬ (j : Int) < 3 := by omega
            subst hjn2
            have hb7 := HBDq.out
            rw [show (txNums y).take 3 = txNums y from List.take_of_length_le (by rw [HLN.out]; exact Nat.le_refl _)] at hb7
            have HBD8 := Aside0.mk hb7
            clear hb7 hjz HBDq
            have HL2 := Aside0.mk (line_room HL0.out HY.out)
            go_wp2_with (go_at_call 57; go_loud (refine (wsB w.heap.size w.heap.size (txAll (l0.take k) ++ txHead y ++ txRow (txNums y)) _ _ ?hh ?hl ?hB).mono ?_; (case hh => exact HBD8.out); (case hB => exact HBq.out.size); (case hl => exact HL2.out); rintro e w7 ⟨rfl, h71, h72, h73⟩; have HBD7 := Aside0.mk h71; have HB7 := Aside0.mk (HBq.out.trans h72); clear h71 h72 h73))
            go_roundg (l0.length - (k + 1))
            case measure => omega
            case rel =>
              refine ⟨k + 1, by omega, Nat.le_refl _, by go_num, ⟨?_⟩, HB7⟩
              have h1 := HBD7.out
              rw [HYT.out]
              rw [line_step] at h1
              exact h1
    · have hkn2 : k = l0.length := by omega
      have hltz : ¬ (k : Int) < (l0.length : Int) := by omega
      subst hkn2
      have hbd := HBD.out
      rw [List.take_length] at hbd
      have HBD8 := Aside0.mk hbd
      clear hbd HBD
      go_wp2_with (go_at_call 59; go_loud (refine (Tryd.Builder_String_any_k w.heap.size w.heap.size (txAll l0) _ HBD8.out HB.out.size).mono ?_; rintro e w9 ⟨rfl, _, h92, _⟩; have HB9 := Aside0.mk (HB.out.trans h92); clear h92))
      go_ret
      exact ⟨rfl, HB9.out⟩

theorem hist_text.calls (A0 : Option Addr) (c0 : Nat) (l0 : List S37) (r : ByteArray) (w : World) (hr0 : Kd.C k37 w A0 l0.length l0) (hc0 : l0.length ≤ c0) (h : hist_text.f l0 = some r) :
    Calls Tryd.prog 40 #[.slice A0 l0.length c0] w fun e w' => e = .returned (.string r) ∧ Below w.heap.size w w' := by
  unfold hist_text.f at h
  split at h
  case isFalse => cases h
  case isTrue hd =>
    injection h with h
    subst h
    have h1 : ∀ e ∈ l0, txOk e = true ∧ txSmall e = true := by
      intro e he
      have h2 := (List.all_eq_true.1 hd.2) e he
      simpa [Bool.and_eq_true] using h2
    refine hist_text.callsG A0 c0 l0 w hr0 hc0 hd.1 (fun e he => (h1 e he).1) (fun e he => ?_)
    have h2 := (h1 e he).2
    unfold txSmall at h2
    simp only [Bool.and_eq_true] at h2
    exact ⟨itoaAt_small w _ h2.1, itoaAt_small w _ h2.2.1, itoaAt_small w _ h2.2.2.1, itoaAt_small w _ h2.2.2.2⟩


end Go.Proofs.YtfokmfnafbladaaDoor.Q
