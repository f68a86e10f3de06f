/- The specification's test of a history, as a pure function of the events. -/
import Derived.Test.YtfokmfnafbladaaDoorQx7
import Derived.Test.YtfokmfnafbladaaDoorHComplete
namespace Go.Proofs.YtfokmfnafbladaaDoor.Q
open Go.RowKit Go.Proofs.YtfokmfnafbladaaDoorW.PrintWords Go.Proofs.YtfokmfnafbladaaDoorW.PrintLast Go.Proofs.YtfokmfnafbladaaDoorW.PrintMore
set_option linter.unusedVariables false
set_option linter.unusedSimpArgs false

theorem w64 {n : Int} (h0 : -9223372036854775808 ≤ n) (h1 : n ≤ 9223372036854775807) : wrap64 n = n := by unfold wrap64; omega

theorem isWord_eq (a : Int) : locklessref17_isWord.f a = some (wordB a) := by
  unfold locklessref17_isWord.f wordB
  by_cases h : a ≥ -1000000000000000
  · rw [if_pos h, decide_eq_true (show -1000000000000000 ≤ a from h)]; rfl
  · rw [if_neg h, decide_eq_false (show ¬ -1000000000000000 ≤ a from h)]; rfl

set_option maxRecDepth 100000 in
theorem letters_iff (b : UInt8) : letters.contains b = (decide (97 ≤ b.toNat) && decide (b.toNat ≤ 122)) := by
  have h : ∀ n : Fin 256, letters.contains (UInt8.ofNat n.val) = (decide (97 ≤ (UInt8.ofNat n.val).toNat) && decide ((UInt8.ofNat n.val).toNat ≤ 122)) := by decide
  have h1 := h ⟨b.toNat, b.toNat_lt⟩
  simpa using h1

theorem isName_go (s : ByteArray) (hs : s.size ≤ 9223372036854775807) : ∀ (m i : Nat), s.size - i ≤ m → i ≤ s.size → Ev (fun k => locklessref17_isName.l0 k s (i : Int)) ((s.data.toList.drop i).all (fun b => letters.contains b) && (decide (1 ≤ s.size) && decide (s.size ≤ 8))) := by
  intro m
  induction m with
  | zero =>
    intro i h1 h2
    have h3 : i = s.size := by omega
    subst h3
    have h4 : s.data.toList.drop s.size = [] := List.drop_of_length_le (Nat.le_of_eq Array.length_toList)
    rw [h4, List.all_nil, Bool.true_and]
    refine Ev.step (f := fun _ => some (decide (1 ≤ s.size) && decide (s.size ≤ 8))) (fun k => ?_) (Ev.now _)
    unfold locklessref17_isName.l0
    rw [if_neg (by omega)]
    by_cases h5 : (s.size : Int) ≥ 1
    · rw [if_pos h5, decide_eq_true (show 1 ≤ s.size by omega), Bool.true_and]
      congr 1
      exact decide_eq_decide.2 (by omega)
    · rw [if_neg h5, decide_eq_false (show ¬ 1 ≤ s.size by omega)]; rfl
  | succ m ih =>
    intro i h1 h2
    by_cases hi : i < s.size
    · have hd : s.data.toList.drop i = s.data[i]'hi :: s.data.toList.drop (i + 1) := by
        rw [List.drop_eq_getElem_cons (by rw [Array.length_toList]; exact hi)]
        rw [Array.getElem_toList]
      have hb : bt s (i : Int) = ((s.data[i]'hi).toNat : Int) := by
        unfold bt
        rw [dif_pos (show ((i : Int).toNat) < s.size from hi)]
        rfl
      rw [hd, List.all_cons, letters_iff]
      generalize s.data[i]'hi = b at hb hd
      by_cases c1 : bt s (i : Int) < 97
      · rw [decide_eq_false (show ¬ 97 ≤ b.toNat by omega)]
        refine Ev.step (f := fun _ => some false) (fun k => ?_) (Ev.now _)
        unfold locklessref17_isName.l0
        rw [if_pos (by omega), if_pos (by omega), if_pos c1]
      · by_cases c2 : bt s (i : Int) > 122
        · rw [decide_eq_false (show ¬ b.toNat ≤ 122 by omega), Bool.and_false]
          refine Ev.step (f := fun _ => some false) (fun k => ?_) (Ev.now _)
          unfold locklessref17_isName.l0
          rw [if_pos (by omega), if_pos (by omega), if_neg c1, if_pos c2]
        · rw [decide_eq_true (show 97 ≤ b.toNat by omega), decide_eq_true (show b.toNat ≤ 122 by omega), Bool.true_and, Bool.true_and]
          refine Ev.step (f := fun k => locklessref17_isName.l0 k s ((i + 1 : Nat) : Int)) (fun k => ?_) (ih (i + 1) (by omega) (by omega))
          conv => lhs; unfold locklessref17_isName.l0
          rw [if_pos (by omega), if_pos (by omega), if_neg c1, if_neg c2, w64 (by omega) (by omega)]
          rfl
    · have h3 : i = s.size := by omega
      exact ih i (by omega) (by omega)

theorem isName_ev (s : ByteArray) (hs : s.size ≤ 9223372036854775807) : Ev (fun k => locklessref17_isName.f k s) (nameB s) := by
  have h := isName_go s hs s.size 0 (by omega) (by omega)
  rw [List.drop_zero] at h
  have e : nameB s = (s.data.toList.all (fun b => letters.contains b) && (decide (1 ≤ s.size) && decide (s.size ≤ 8))) := by
    unfold nameB
    cases decide (1 ≤ s.size) <;> cases decide (s.size ≤ 8) <;> cases (s.data.toList.all fun b => letters.contains b) <;> rfl
  rw [e]
  exact h

/-! The specification's states. -/
structure RvSt where
  calls : Int
  opn : List Bool
  nxt : List Int
  und : List S35
def rvStep (s : RvSt) (e : S37) : Option RvSt :=
  if formB e = true then
    if (e.f2 != rdOf false s.opn e.f0) = true then none
    else if (e.f1 != rd s.nxt e.f0) = true then none
    else if e.f2 = true then
      if callEq e.f3 (rd_T35 s.und e.f0) = true then some ⟨s.calls, s.opn.set e.f0.toNat false, s.nxt.set e.f0.toNat (rd s.nxt e.f0 + 1), s.und⟩ else none
    else if e.f4 = 0 then
      if s.calls + 1 > 12 then none else some ⟨s.calls + 1, s.opn.set e.f0.toNat true, s.nxt, s.und.set e.f0.toNat e.f3⟩
    else none
  else none
def rvGo : List S37 → RvSt → Option RvSt
  | [], s => some s
  | e :: r, s => (rvStep s e).bind fun s' => rvGo r s'
def rvInit : RvSt := ⟨0, [false, false, false, false], [0, 0, 0, 0], [z35, z35, z35, z35]⟩
structure RvInv (i : Nat) (s : RvSt) : Prop where
  lo : s.opn.length = 4
  ln : s.nxt.length = 4
  lu : s.und.length = 4
  cb : 0 ≤ s.calls ∧ s.calls ≤ 12
  nb : ∀ x ∈ s.nxt, 0 ≤ x ∧ x ≤ i
theorem rvInit_inv : RvInv 0 rvInit := ⟨rfl, rfl, rfl, by decide, by decide⟩
theorem formB_thread {e : S37} (h : formB e = true) : 0 ≤ e.f0 ∧ e.f0 < 4 := by
  unfold formB at h
  simp only [Bool.and_eq_true, decide_eq_true_eq] at h
  exact ⟨h.1, h.2.1⟩
theorem rvStep_inv {i : Nat} {s s' : RvSt} {e : S37} (h : RvInv i s) (hs : rvStep s e = some s') : RvInv (i + 1) s' := by
  unfold rvStep at hs
  split at hs
  · rename_i hf
    have ht := formB_thread hf
    split at hs
    · cases hs
    · split at hs
      · cases hs
      · split at hs
        · split at hs
          · injection hs with hs
            subst hs
            refine ⟨by simp [h.lo], by simp [h.ln], h.lu, h.cb, fun x hx => ?_⟩
            rcases List.mem_or_eq_of_mem_set hx with hx | rfl
            · have := h.nb x hx
              omega
            · have := h.nb _ (rd_mem ht.1 (by rw [h.ln]; exact ht.2))
              omega
          · cases hs
        · split at hs
          · split at hs
            · cases hs
            · injection hs with hs
              subst hs
              have := h.cb
              refine ⟨by simp [h.lo], h.ln, by simp [h.lu], ⟨by dsimp only; omega, by dsimp only; omega⟩, fun x hx => ?_⟩
              have := h.nb x hx
              omega
          · cases hs
  · cases hs

theorem rvalid_go (l : List S37) (hl : l.length < 4611686018427387904) (hz : ∀ e ∈ l, e.f3.f0.size ≤ 9223372036854775807) : ∀ (m i : Nat) (s : RvSt), l.length - i ≤ m → i ≤ l.length → RvInv i s → Ev (fun k => locklessref17_Valid.l0 k l s.calls s.opn s.nxt s.und (i : Int)) (rvGo (l.drop i) s).isSome := by
  intro m
  induction m with
  | zero =>
    intro i s h1 h2 hI
    have h3 : i = l.length := by omega
    subst h3
    rw [List.drop_length]
    refine Ev.step (f := fun _ => some true) (fun k => ?_) (Ev.now _)
    unfold locklessref17_Valid.l0
    rw [if_neg (by omega)]
  | succ m ih =>
    intro i s h1 h2 hI
    by_cases hi : i < l.length
    · have hd : l.drop i = rd_T37 l (i : Int) :: l.drop (i + 1) := rdc37_drop hi
      have hm : rd_T37 l (i : Int) ∈ l := by
        have : rd_T37 l (i : Int) = l[i] := by simp [rd_T37, List.getD_eq_getElem?_getD, List.getElem?_eq_getElem hi]
        rw [this]
        exact List.getElem_mem _
      rw [hd]
      have hz1 := hz _ hm
      have hn : wrap64 ((i : Int) + 1) = ((i + 1 : Nat) : Int) := by rw [w64 (by omega) (by omega)]; rfl
      have hih := fun s' hI' => ih (i + 1) s' (by omega) (by omega) hI'
      generalize hy : rd_T37 l (i : Int) = y at *
      -- the test that fails: false
      have hj1 : ∀ {t : Bool}, t = true → Ev (fun k => locklessref17_Valid.j1 k l s.calls s.opn s.nxt s.und (i : Int) t y.f0 y.f1 y.f2 y.f3.f0 y.f3.f1 y.f3.f2 y.f4) false := by
        intro t ht
        refine Ev.step (f := fun _ => some false) (fun k => ?_) (Ev.now _)
        unfold locklessref17_Valid.j1
        rw [if_pos ht]
      have hj2 : ∀ {t : Bool}, t = true → Ev (fun k => locklessref17_Valid.j2 k l s.calls s.opn s.nxt s.und (i : Int) y.f0 t y.f0 y.f1 y.f2 y.f3.f0 y.f3.f1 y.f3.f2 y.f4) false := by
        intro t ht
        refine Ev.step (f := fun _ => some false) (fun k => ?_) (Ev.now _)
        unfold locklessref17_Valid.j2
        rw [if_pos ht]
      have hbad : formB y = false → Ev (fun k => locklessref17_Valid.l0 k l s.calls s.opn s.nxt s.und (i : Int)) false := by
        intro hf
        unfold formB at hf
        by_cases a1 : y.f0 < 0
        · refine Ev.step (f := fun k => locklessref17_Valid.j1 k l s.calls s.opn s.nxt s.und (i : Int) true y.f0 y.f1 y.f2 y.f3.f0 y.f3.f1 y.f3.f2 y.f4) (fun k => ?_) (hj1 rfl)
          conv => lhs; unfold locklessref17_Valid.l0
          rw [if_pos (by omega), if_pos (by omega), hy, if_pos a1]
        · by_cases a2 : y.f0 ≥ 4
          · refine Ev.step (f := fun k => locklessref17_Valid.j1 k l s.calls s.opn s.nxt s.und (i : Int) true y.f0 y.f1 y.f2 y.f3.f0 y.f3.f1 y.f3.f2 y.f4) (fun k => ?_) (hj1 rfl)
            conv => lhs; unfold locklessref17_Valid.l0
            rw [if_pos (by omega), if_pos (by omega), hy, if_neg a1, if_pos a2]
          · rw [decide_eq_true (show 0 ≤ y.f0 by omega), decide_eq_true (show y.f0 < 4 by omega), Bool.true_and, Bool.true_and] at hf
            cases n1 : wordB y.f3.f1 with
            | false =>
              refine Ev.step (f := fun k => locklessref17_Valid.j1 k l s.calls s.opn s.nxt s.und (i : Int) true y.f0 y.f1 y.f2 y.f3.f0 y.f3.f1 y.f3.f2 y.f4) (fun k => ?_) (hj1 rfl)
              conv => lhs; unfold locklessref17_Valid.l0
              rw [if_pos (by omega), if_pos (by omega), hy, if_neg a1, if_neg a2, isWord_eq, n1, Option.bind_some, if_neg (by decide)]
            | true =>
              cases n2 : wordB y.f3.f2 with
              | false =>
                refine Ev.step (f := fun k => locklessref17_Valid.j1 k l s.calls s.opn s.nxt s.und (i : Int) true y.f0 y.f1 y.f2 y.f3.f0 y.f3.f1 y.f3.f2 y.f4) (fun k => ?_) (hj1 rfl)
                conv => lhs; unfold locklessref17_Valid.l0
                rw [if_pos (by omega), if_pos (by omega), hy, if_neg a1, if_neg a2, isWord_eq, n1, Option.bind_some, if_pos rfl, isWord_eq, n2, Option.bind_some, if_neg (by decide)]
              | true =>
                cases n3 : wordB y.f4 with
                | false =>
                  refine Ev.step (f := fun k => locklessref17_Valid.j1 k l s.calls s.opn s.nxt s.und (i : Int) true y.f0 y.f1 y.f2 y.f3.f0 y.f3.f1 y.f3.f2 y.f4) (fun k => ?_) (hj1 rfl)
                  conv => lhs; unfold locklessref17_Valid.l0
                  rw [if_pos (by omega), if_pos (by omega), hy, if_neg a1, if_neg a2, isWord_eq, n1, Option.bind_some, if_pos rfl, isWord_eq, n2, Option.bind_some, if_pos rfl, isWord_eq, n3, Option.bind_some, if_neg (by decide)]
                | true =>
                  have n0 : nameB y.f3.f0 = false := by
                    cases n0 : nameB y.f3.f0 with
                    | false => rfl
                    | true => rw [n0, n1, n2, n3] at hf; cases hf
                  refine Ev.step (f := fun k => (locklessref17_isName.f k y.f3.f0).bind fun t147 => locklessref17_Valid.j1 k l s.calls s.opn s.nxt s.und (i : Int) (!t147) y.f0 y.f1 y.f2 y.f3.f0 y.f3.f1 y.f3.f2 y.f4) (fun k => ?_) (Ev.bind (isName_ev _ hz1) (hj1 (by rw [n0]; rfl)))
                  conv => lhs; unfold locklessref17_Valid.l0
                  rw [if_pos (by omega), if_pos (by omega), hy, if_neg a1, if_neg a2, isWord_eq, n1, Option.bind_some, if_pos rfl, isWord_eq, n2, Option.bind_some, if_pos rfl, isWord_eq, n3, Option.bind_some, if_pos rfl]
      have hgood : ∀ {r : Bool}, formB y = true → Ev (fun k => locklessref17_Valid.j1 k l s.calls s.opn s.nxt s.und (i : Int) false y.f0 y.f1 y.f2 y.f3.f0 y.f3.f1 y.f3.f2 y.f4) r → Ev (fun k => locklessref17_Valid.l0 k l s.calls s.opn s.nxt s.und (i : Int)) r := by
        intro r hf hj
        have ht := formB_thread hf
        unfold formB at hf
        simp only [Bool.and_eq_true] at hf
        obtain ⟨_, _, n0, n1, n2, n3⟩ := hf
        refine Ev.step (f := fun k => (locklessref17_isName.f k y.f3.f0).bind fun t147 => locklessref17_Valid.j1 k l s.calls s.opn s.nxt s.und (i : Int) (!t147) y.f0 y.f1 y.f2 y.f3.f0 y.f3.f1 y.f3.f2 y.f4) (fun k => ?_) (Ev.bind (isName_ev _ hz1) (by rw [n0]; exact hj))
        conv => lhs; unfold locklessref17_Valid.l0
        rw [if_pos (by omega), if_pos (by omega), hy, if_neg (by omega), if_neg (by omega), isWord_eq, n1, Option.bind_some, if_pos rfl, isWord_eq, n2, Option.bind_some, if_pos rfl, isWord_eq, n3, Option.bind_some, if_pos rfl]
      unfold rvGo
      cases hf : formB y with
      | false =>
        have : rvStep s y = none := by unfold rvStep; rw [hf]; rfl
        rw [this]
        exact hbad hf
      | true =>
        have ht := formB_thread hf
        refine hgood hf ?_
        have hlo := hI.lo
        have hln := hI.ln
        have hlu := hI.lu
        have hcb := hI.cb
        unfold rvStep
        rw [if_pos hf]
        by_cases b1 : (y.f2 != rdOf false s.opn y.f0) = true
        · rw [if_pos b1]
          refine Ev.step (f := fun k => locklessref17_Valid.j2 k l s.calls s.opn s.nxt s.und (i : Int) y.f0 true y.f0 y.f1 y.f2 y.f3.f0 y.f3.f1 y.f3.f2 y.f4) (fun k => ?_) (hj2 rfl)
          conv => lhs; unfold locklessref17_Valid.j1
          rw [if_neg (by decide), if_pos ht.1, if_pos (by rw [hlo]; exact ht.2), if_pos b1]
        · rw [if_neg b1]
          have hJ : ∀ {r : Bool}, Ev (fun k => locklessref17_Valid.j2 k l s.calls s.opn s.nxt s.und (i : Int) y.f0 (y.f1 != rd s.nxt y.f0) y.f0 y.f1 y.f2 y.f3.f0 y.f3.f1 y.f3.f2 y.f4) r → Ev (fun k => locklessref17_Valid.j1 k l s.calls s.opn s.nxt s.und (i : Int) false y.f0 y.f1 y.f2 y.f3.f0 y.f3.f1 y.f3.f2 y.f4) r := by
            intro r hr
            refine Ev.step (f := fun k => locklessref17_Valid.j2 k l s.calls s.opn s.nxt s.und (i : Int) y.f0 (y.f1 != rd s.nxt y.f0) y.f0 y.f1 y.f2 y.f3.f0 y.f3.f1 y.f3.f2 y.f4) (fun k => ?_) hr
            conv => lhs; unfold locklessref17_Valid.j1
            rw [if_neg (by decide), if_pos ht.1, if_pos (by rw [hlo]; exact ht.2), if_neg b1, if_pos (by rw [hln]; exact ht.2)]
          refine hJ ?_
          by_cases b2 : (y.f1 != rd s.nxt y.f0) = true
          · rw [if_pos b2]
            exact hj2 b2
          · rw [if_neg b2]
            by_cases b3 : y.f2 = true
            · rw [if_pos b3]
              have hc : (!(y.f3.f0.toList == ((rd_T35 s.und y.f0).f0.toList)) || (!(y.f3.f1 == (rd_T35 s.und y.f0).f1) || (!(y.f3.f2 == (rd_T35 s.und y.f0).f2)))) = !callEq y.f3 (rd_T35 s.und y.f0) := by
                unfold callEq
                simp only [Bool.not_and]
              have hnb := hI.nb _ (rd_mem ht.1 (by rw [hln]; exact ht.2))
              by_cases b4 : callEq y.f3 (rd_T35 s.und y.f0) = true
              · rw [if_pos b4, Option.bind_some]
                refine Ev.step (f := fun k => locklessref17_Valid.l0 k l s.calls (s.opn.set y.f0.toNat false) (s.nxt.set y.f0.toNat (rd s.nxt y.f0 + 1)) s.und ((i + 1 : Nat) : Int)) (fun k => ?_) (hih _ (rvStep_inv (e := y) hI (by unfold rvStep; rw [if_pos hf, if_neg b1, if_neg b2, if_pos b3, if_pos b4])))
                conv => lhs; unfold locklessref17_Valid.j2
                rw [if_neg b2, if_pos b3, if_pos ht.1, if_pos (by rw [hlu]; exact ht.2), hc, b4, if_neg (by decide), if_pos (by rw [hln]; exact ht.2), if_pos (by rw [hlo]; exact ht.2), hn, w64 (by omega) (by omega)]
              · rw [if_neg b4, Option.bind_none]
                refine Ev.step (f := fun _ => some false) (fun k => ?_) (Ev.now _)
                conv => lhs; unfold locklessref17_Valid.j2
                rw [if_neg b2, if_pos b3, if_pos ht.1, if_pos (by rw [hlu]; exact ht.2), hc, Bool.eq_false_iff.2 b4, if_pos (show (!false) = true from rfl)]
            · rw [if_neg b3]
              by_cases b4 : y.f4 = 0
              · rw [if_pos b4]
                by_cases b5 : s.calls + 1 > 12
                · rw [if_pos b5, Option.bind_none]
                  refine Ev.step (f := fun _ => some false) (fun k => ?_) (Ev.now _)
                  conv => lhs; unfold locklessref17_Valid.j2
                  rw [if_neg b2, if_neg b3, if_pos b4, w64 (by omega) (by omega), if_pos b5]
                · rw [if_neg b5, Option.bind_some]
                  refine Ev.step (f := fun k => locklessref17_Valid.l0 k l (s.calls + 1) (s.opn.set y.f0.toNat true) s.nxt (s.und.set y.f0.toNat y.f3) ((i + 1 : Nat) : Int)) (fun k => ?_) (hih _ (rvStep_inv (e := y) hI (by unfold rvStep; rw [if_pos hf, if_neg b1, if_neg b2, if_neg b3, if_pos b4, if_neg b5])))
                  conv => lhs; unfold locklessref17_Valid.j2
                  rw [if_neg b2, if_neg b3, if_pos b4, w64 (n := s.calls + 1) (by omega) (by omega), if_neg b5, if_pos ht.1, if_pos (by rw [hlo]; exact ht.2), if_pos (by rw [hlu]; exact ht.2), hn]
              · rw [if_neg b4, Option.bind_none]
                refine Ev.step (f := fun _ => some false) (fun k => ?_) (Ev.now _)
                conv => lhs; unfold locklessref17_Valid.j2
                rw [if_neg b2, if_neg b3, if_neg b4]
    · have h3 : i = l.length := by omega
      exact ih i s (by omega) (by omega) hI

def rvB (l : List S37) : Bool := (rvGo l rvInit).isSome
theorem rvalid_ev (l : List S37) (hl : l.length < 4611686018427387904) (hz : ∀ e ∈ l, e.f3.f0.size ≤ 9223372036854775807) : Ev (fun k => locklessref17_Valid.f k l) (rvB l) := by
  have h := rvalid_go l hl hz l.length 0 rvInit (by omega) (by omega) rvInit_inv
  rw [List.drop_zero] at h
  refine Ev.congr (f := fun k => locklessref17_Valid.l0 k l rvInit.calls rvInit.opn rvInit.nxt rvInit.und ((0 : Nat) : Int)) (fun k => ?_) h
  unfold locklessref17_Valid.f
  rw [if_pos (by decide), if_pos (by decide), if_pos (by decide)]
  rfl

end Go.Proofs.YtfokmfnafbladaaDoor.Q
