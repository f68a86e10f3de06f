/- The states of hist.spans and of the specification, event by event. -/
import Derived.Test.YtfokmfnafbladaaDoorP1a
namespace Go.Proofs.YtfokmfnafbladaaDoor.Q
open Go.RowKit Go.Proofs.YtfokmfnafbladaaDoorW.PrintWords Go.Proofs.YtfokmfnafbladaaDoorW.PrintLast Go.Proofs.YtfokmfnafbladaaDoorW.PrintMore
set_option linter.unusedVariables false
set_option linter.unusedSimpArgs false

theorem getD_set {α : Type} (xs : List α) (i j : Nat) (a d : α) : (xs.set i a).getD j d = if i = j ∧ i < xs.length then a else xs.getD j d := by
  rw [List.getD_eq_getElem?_getD, List.getD_eq_getElem?_getD, List.getElem?_set]
  by_cases h : i = j
  · subst h
    by_cases h2 : i < xs.length
    · simp [h2]
    · simp [h2]
  · simp [h]
theorem rd_set (xs : List Int) (i j : Int) (a : Int) (h0 : 0 ≤ i) (h1 : i < xs.length) (h2 : 0 ≤ j) : rd (xs.set i.toNat a) j = if i = j then a else rd xs j := by
  unfold rd
  rw [getD_set]
  by_cases h : i = j
  · subst h
    rw [if_pos ⟨rfl, by omega⟩, if_pos rfl]
  · rw [if_neg (by omega), if_neg h]
theorem rdOf_set {α : Type} (d : α) (xs : List α) (i j : Int) (a : α) (h0 : 0 ≤ i) (h1 : i < xs.length) (h2 : 0 ≤ j) : rdOf d (xs.set i.toNat a) j = if i = j then a else rdOf d xs j := by
  unfold rdOf
  rw [getD_set]
  by_cases h : i = j
  · subst h
    rw [if_pos ⟨rfl, by omega⟩, if_pos rfl]
  · rw [if_neg (by omega), if_neg h]
theorem rd54_set (xs : List S54) (i j : Int) (a : S54) (h0 : 0 ≤ i) (h1 : i < xs.length) (h2 : 0 ≤ j) : rd_T54 (xs.set i.toNat a) j = if i = j then a else rd_T54 xs j := rdOf_set z54 xs i j a h0 h1 h2
theorem rd35_set (xs : List S35) (i j : Int) (a : S35) (h0 : 0 ≤ i) (h1 : i < xs.length) (h2 : 0 ≤ j) : rd_T35 (xs.set i.toNat a) j = if i = j then a else rd_T35 xs j := rdOf_set z35 xs i j a h0 h1 h2
theorem rd54_append (xs : List S54) (a : S54) (j : Int) (h0 : 0 ≤ j) : rd_T54 (xs ++ [a]) j = if j = xs.length then a else rd_T54 xs j := by
  unfold rd_T54
  rw [List.getD_eq_getElem?_getD, List.getD_eq_getElem?_getD, List.getElem?_append]
  by_cases h : j.toNat < xs.length
  · rw [if_pos h, if_neg (by omega)]
  · rw [if_neg h]
    by_cases h2 : j = xs.length
    · rw [if_pos h2]
      have : j.toNat - xs.length = 0 := by omega
      rw [this]
      rfl
    · rw [if_neg h2]
      have : ∃ n, j.toNat - xs.length = n + 1 := ⟨j.toNat - xs.length - 1, by omega⟩
      obtain ⟨n, hn⟩ := this
      rw [hn, List.getElem?_eq_none (show xs.length ≤ j.toNat by omega)]
      rfl
theorem callEq_iff (a b : S35) : callEq a b = true ↔ a = b := by
  obtain ⟨a0, a1, a2⟩ := a
  obtain ⟨b0, b1, b2⟩ := b
  unfold callEq
  simp only [Bool.and_eq_true, beq_iff_eq, S35.mk.injEq]
  constructor
  · rintro ⟨h0, h1, h2⟩
    refine ⟨?_, h1, h2⟩
    rw [ByteArray.toList_eq, ByteArray.toList_eq] at h0
    cases a0; cases b0
    congr 1
    exact Array.toList_inj.1 h0
  · rintro ⟨rfl, rfl, rfl⟩
    exact ⟨rfl, rfl, rfl⟩

structure Link (i : Nat) (s : SpSt) (r : RvSt) : Prop where
  sp : SpInv s
  rv : RvInv i r
  calls : r.calls = s.l.length
  shut : ∀ t : Int, 0 ≤ t → t < 4 → rd s.opn t < 0 → rdOf false r.opn t = false ∧ rd s.cnt t = rd r.nxt t
  open_ : ∀ t : Int, 0 ≤ t → t < 4 → 0 ≤ rd s.opn t → rdOf false r.opn t = true ∧ rd s.cnt t = rd r.nxt t + 1 ∧ (rd_T54 s.l (rd s.opn t)).f1 = rd r.nxt t ∧ (rd_T54 s.l (rd s.opn t)).f2 = rd_T35 r.und t ∧ (rd_T54 s.l (rd s.opn t)).f0 = t
  place : ∀ j : Int, 0 ≤ j → j < s.l.length → 0 ≤ (rd_T54 s.l j).f3 ∧ (rd_T54 s.l j).f3 < i
  key : ∀ j : Int, 0 ≤ j → j < s.l.length → (0 ≤ (rd_T54 s.l j).f0 ∧ (rd_T54 s.l j).f0 < 4) ∧ 0 ≤ (rd_T54 s.l j).f1 ∧ (rd_T54 s.l j).f1 < rd s.cnt (rd_T54 s.l j).f0
  uniq : ∀ a b : Int, 0 ≤ a → a < b → b < s.l.length → ¬ ((rd_T54 s.l a).f0 = (rd_T54 s.l b).f0 ∧ (rd_T54 s.l a).f1 = (rd_T54 s.l b).f1)
  pend : ∀ j : Int, 0 ≤ j → j < s.l.length → ((rd_T54 s.l j).f4 < 0 ↔ rd s.opn (rd_T54 s.l j).f0 = j)
  order : ∀ a b : Int, 0 ≤ a → a < b → b < s.l.length → (rd_T54 s.l a).f3 < (rd_T54 s.l b).f3

theorem link_init : Link 0 spInit rvInit := by
  refine ⟨spInit_inv, rvInit_inv, rfl, fun t h0 h1 _ => ?_, fun t h0 h1 h2 => ?_, fun j h0 h1 => ?_, fun j h0 h1 => ?_, fun a b h0 h1 h2 => ?_, fun j h0 h1 => ?_, fun a b h0 h1 h2 => ?_⟩
  · have : t = 0 ∨ t = 1 ∨ t = 2 ∨ t = 3 := by omega
    rcases this with rfl | rfl | rfl | rfl <;> exact ⟨rfl, rfl⟩
  · have : t = 0 ∨ t = 1 ∨ t = 2 ∨ t = 3 := by omega
    rcases this with rfl | rfl | rfl | rfl <;> exact absurd h2 (by decide)
  all_goals (simp only [spInit, List.length_nil] at *; omega)

set_option maxHeartbeats 4000000 in
theorem link_step {i : Nat} {s : SpSt} {r : RvSt} (h : Link i s r) (e : S37) :
    (spStep i s e = none ∧ rvStep r e = none) ∨ ∃ s' r', spStep i s e = some s' ∧ rvStep r e = some r' ∧ Link (i + 1) s' r' := by
  cases hf : formB e with
  | false => exact .inl ⟨by unfold spStep; rw [hf]; rfl, by unfold rvStep; rw [hf]; rfl⟩
  | true =>
    have ht := formB_thread hf
    by_cases h1 : e.f2 = true
    · by_cases h2 : 0 ≤ rd s.opn e.f0
      · obtain ⟨o1, o2, o3, o4, o5⟩ := h.open_ e.f0 ht.1 ht.2 h2
        have hown : rd s.opn e.f0 < s.l.length := h.sp.opnb _ (rd_mem ht.1 (by rw [h.sp.lopn]; exact ht.2))
        by_cases h3 : e.f1 = rd r.nxt e.f0
        · by_cases h4 : e.f3 = rd_T35 r.und e.f0
          · right
            have hs : spStep i s e = some ⟨s.l.set (rd s.opn e.f0).toNat ⟨(rd_T54 s.l (rd s.opn e.f0)).f0, (rd_T54 s.l (rd s.opn e.f0)).f1, (rd_T54 s.l (rd s.opn e.f0)).f2, (rd_T54 s.l (rd s.opn e.f0)).f3, i, e.f4⟩, s.cnt, s.opn.set e.f0.toNat (-1)⟩ := by
              unfold spStep
              rw [if_pos hf, if_pos h1, if_pos h2, if_pos ((callEq_iff _ _).2 (by rw [o4, h4])), if_pos (by rw [o3, h3])]
            have hr : rvStep r e = some ⟨r.calls, r.opn.set e.f0.toNat false, r.nxt.set e.f0.toNat (rd r.nxt e.f0 + 1), r.und⟩ := by
              unfold rvStep
              rw [if_pos hf, if_neg (by rw [h1, o1]; decide), if_neg (by rw [h3]; simp), if_pos h1, if_pos ((callEq_iff _ _).2 h4)]
            refine ⟨_, _, hs, hr, spStep_inv h.sp hs, rvStep_inv h.rv hr, ?_, fun t t0 t1 ho => ?_, fun t t0 t1 ho => ?_, fun j j0 j1 => ?_, fun j j0 j1 => ?_, fun a b a0 ab b1 => ?_, fun j j0 j1 => ?_, fun a b a0 ab b1 => ?_⟩
            · simp only [List.length_set]
              exact h.calls
            all_goals simp only [List.length_set] at *
            · rw [rd_set s.opn _ _ _ ht.1 (by rw [h.sp.lopn]; exact ht.2) t0] at ho
              rw [rdOf_set _ _ _ _ _ ht.1 (by rw [h.rv.lo]; exact ht.2) t0, rd_set r.nxt _ _ _ ht.1 (by rw [h.rv.ln]; exact ht.2) t0]
              by_cases he : e.f0 = t
              · subst he
                rw [if_pos rfl, if_pos rfl]
                exact ⟨rfl, o2⟩
              · rw [if_neg he] at ho
                rw [if_neg he, if_neg he]
                exact h.shut t t0 t1 ho
            · rw [rd_set s.opn _ _ _ ht.1 (by rw [h.sp.lopn]; exact ht.2) t0] at ho ⊢
              rw [rdOf_set _ _ _ _ _ ht.1 (by rw [h.rv.lo]; exact ht.2) t0, rd_set r.nxt _ _ _ ht.1 (by rw [h.rv.ln]; exact ht.2) t0]
              by_cases he : e.f0 = t
              · rw [if_pos he] at ho
                exact absurd ho (by decide)
              · rw [if_neg he] at ho ⊢
                rw [if_neg he, if_neg he]
                obtain ⟨q1, q2, q3, q4, q5⟩ := h.open_ t t0 t1 ho
                rw [rd54_set _ _ _ _ h2 hown ho]
                have hne : rd s.opn e.f0 ≠ rd s.opn t := by
                  intro hh
                  rw [← hh, o5] at q5
                  exact he q5
                rw [if_neg hne]
                exact ⟨q1, q2, q3, q4, q5⟩
            · rw [rd54_set _ _ _ _ h2 hown j0]
              have := h.place j j0 j1
              have := h.place _ h2 hown
              split
              · dsimp only; omega
              · omega
            · rw [rd54_set _ _ _ _ h2 hown j0]
              have k1 := h.key j j0 j1
              have k2 := h.key _ h2 hown
              split
              · exact k2
              · exact k1
            · rw [rd54_set _ _ _ _ h2 hown a0, rd54_set _ _ _ _ h2 hown (by omega)]
              have k1 := h.uniq a b a0 ab b1
              by_cases ea : rd s.opn e.f0 = a
              · rw [if_pos ea, if_neg (by omega)]
                subst ea
                exact k1
              · by_cases eb : rd s.opn e.f0 = b
                · rw [if_neg ea, if_pos eb]
                  subst eb
                  exact k1
                · rw [if_neg ea, if_neg eb]
                  exact k1
            · rw [rd54_set _ _ _ _ h2 hown j0]
              have k1 := h.pend j j0 j1
              have k2 := (h.key j j0 j1).1
              by_cases ej : rd s.opn e.f0 = j
              · rw [if_pos ej]
                dsimp only
                rw [o5, rd_set s.opn _ _ _ ht.1 (by rw [h.sp.lopn]; exact ht.2) ht.1, if_pos rfl]
                omega
              · rw [if_neg ej, rd_set s.opn _ _ _ ht.1 (by rw [h.sp.lopn]; exact ht.2) k2.1]
                by_cases et : e.f0 = (rd_T54 s.l j).f0
                · rw [if_pos et, k1, ← et]
                  omega
                · rw [if_neg et]
                  exact k1
            · rw [rd54_set _ _ _ _ h2 hown a0, rd54_set _ _ _ _ h2 hown (by omega)]
              have k1 := h.order a b a0 ab b1
              by_cases ea : rd s.opn e.f0 = a
              · rw [if_pos ea, if_neg (by omega)]
                subst ea
                exact k1
              · by_cases eb : rd s.opn e.f0 = b
                · rw [if_neg ea, if_pos eb]
                  subst eb
                  exact k1
                · rw [if_neg ea, if_neg eb]
                  exact k1
          · left
            refine ⟨?_, ?_⟩
            · unfold spStep
              rw [if_pos hf, if_pos h1, if_pos h2, if_neg (by rw [callEq_iff, o4]; exact fun hh => h4 hh.symm)]
            · unfold rvStep
              rw [if_pos hf, if_neg (by rw [h1, o1]; decide), if_neg (by rw [h3]; simp), if_pos h1, if_neg (by rw [callEq_iff]; exact h4)]
        · left
          refine ⟨?_, ?_⟩
          · unfold spStep
            rw [if_pos hf, if_pos h1, if_pos h2]
            split
            · rw [if_neg (by rw [o3]; exact fun hh => h3 hh.symm)]
            · rfl
          · unfold rvStep
            rw [if_pos hf, if_neg (by rw [h1, o1]; decide), if_pos (by simpa using h3)]
      · left
        obtain ⟨o1, o2⟩ := h.shut e.f0 ht.1 ht.2 (by omega)
        refine ⟨?_, ?_⟩
        · unfold spStep
          rw [if_pos hf, if_pos h1, if_neg h2]
        · unfold rvStep
          rw [if_pos hf, if_pos (by rw [h1, o1]; decide)]
    · have h1' : e.f2 = false := by simpa using h1
      by_cases h2 : rd s.opn e.f0 < 0
      · obtain ⟨o1, o2⟩ := h.shut e.f0 ht.1 ht.2 h2
        by_cases h3 : e.f1 = rd r.nxt e.f0
        · by_cases h4 : e.f4 = 0
          · by_cases h5 : s.l.length = 12
            · left
              refine ⟨?_, ?_⟩
              · unfold spStep
                rw [if_pos hf, if_neg h1, if_pos h2, if_pos (by rw [h3, o2]), if_pos h4, if_pos h5]
              · unfold rvStep
                rw [if_pos hf, if_neg (by rw [h1', o1]; decide), if_neg (by rw [h3]; simp), if_neg h1, if_pos h4, if_pos (by rw [h.calls, h5]; decide)]
            · right
              have hfew := h.sp.few
              have hs : spStep i s e = some ⟨s.l ++ [⟨e.f0, e.f1, e.f3, i, -1, 0⟩], s.cnt.set e.f0.toNat (rd s.cnt e.f0 + 1), s.opn.set e.f0.toNat s.l.length⟩ := by
                unfold spStep
                rw [if_pos hf, if_neg h1, if_pos h2, if_pos (by rw [h3, o2]), if_pos h4, if_neg h5]
              have hr : rvStep r e = some ⟨r.calls + 1, r.opn.set e.f0.toNat true, r.nxt, r.und.set e.f0.toNat e.f3⟩ := by
                unfold rvStep
                rw [if_pos hf, if_neg (by rw [h1', o1]; decide), if_neg (by rw [h3]; simp), if_neg h1, if_pos h4, if_neg (by rw [h.calls]; omega)]
              have hcn : 0 ≤ rd s.cnt e.f0 := (h.sp.cntb _ (rd_mem ht.1 (by rw [h.sp.lcnt]; exact ht.2))).1
              have hlen : (s.l ++ [(⟨e.f0, e.f1, e.f3, i, -1, 0⟩ : S54)]).length = s.l.length + 1 := by simp
              refine ⟨_, _, hs, hr, spStep_inv h.sp hs, rvStep_inv h.rv hr, ?_, fun t t0 t1 ho => ?_, fun t t0 t1 ho => ?_, fun j j0 j1 => ?_, fun j j0 j1 => ?_, fun a b a0 ab b1 => ?_, fun j j0 j1 => ?_, fun a b a0 ab b1 => ?_⟩
              · dsimp only
                rw [hlen, h.calls]
                omega
              · dsimp only at ho ⊢
                rw [rd_set s.opn _ _ _ ht.1 (by rw [h.sp.lopn]; exact ht.2) t0] at ho
                rw [rdOf_set false r.opn _ _ _ ht.1 (by rw [h.rv.lo]; exact ht.2) t0, rd_set s.cnt _ _ _ ht.1 (by rw [h.sp.lcnt]; exact ht.2) t0]
                by_cases he : e.f0 = t
                · rw [if_pos he] at ho
                  omega
                · rw [if_neg he] at ho
                  rw [if_neg he, if_neg he]
                  exact h.shut t t0 t1 ho
              · dsimp only at ho ⊢
                rw [rd_set s.opn _ _ _ ht.1 (by rw [h.sp.lopn]; exact ht.2) t0] at ho ⊢
                rw [rdOf_set false r.opn _ _ _ ht.1 (by rw [h.rv.lo]; exact ht.2) t0, rd_set s.cnt _ _ _ ht.1 (by rw [h.sp.lcnt]; exact ht.2) t0, rd35_set r.und _ _ _ ht.1 (by rw [h.rv.lu]; exact ht.2) t0]
                by_cases he : e.f0 = t
                · subst he
                  rw [if_pos rfl, if_pos rfl, if_pos rfl, if_pos rfl, rd54_append _ _ _ (by omega), if_pos rfl]
                  exact ⟨rfl, by rw [o2], by rw [h3], rfl, rfl⟩
                · rw [if_neg he] at ho ⊢
                  rw [if_neg he, if_neg he, if_neg he]
                  have hb := h.sp.opnb _ (rd_mem t0 (by rw [h.sp.lopn]; exact t1))
                  rw [rd54_append _ _ _ ho, if_neg (by omega)]
                  exact h.open_ t t0 t1 ho
              · dsimp only at j1 ⊢
                rw [hlen] at j1
                rw [rd54_append _ _ _ j0]
                split
                · dsimp only; omega
                · have := h.place j j0 (by omega)
                  omega
              · dsimp only at j1 ⊢
                rw [hlen] at j1
                rw [rd54_append _ _ _ j0]
                by_cases ej : j = s.l.length
                · rw [if_pos ej]
                  dsimp only
                  rw [rd_set s.cnt _ _ _ ht.1 (by rw [h.sp.lcnt]; exact ht.2) ht.1, if_pos rfl, h3, o2]
                  rw [o2] at hcn
                  exact ⟨ht, hcn, by omega⟩
                · rw [if_neg ej]
                  have k1 := h.key j j0 (by omega)
                  rw [rd_set s.cnt _ _ _ ht.1 (by rw [h.sp.lcnt]; exact ht.2) k1.1.1]
                  refine ⟨k1.1, k1.2.1, ?_⟩
                  split
                  · rename_i et
                    have := k1.2.2
                    rw [← et] at this
                    omega
                  · exact k1.2.2
              · dsimp only at b1 ⊢
                rw [hlen] at b1
                rw [rd54_append _ _ _ a0, rd54_append _ _ _ (show 0 ≤ b by omega), if_neg (show ¬ a = s.l.length by omega)]
                by_cases eb : b = s.l.length
                · rw [if_pos eb]
                  dsimp only
                  rintro ⟨q0, q1⟩
                  have k1 := (h.key a a0 (by omega)).2.2
                  rw [q0, q1, h3, o2] at k1
                  omega
                · rw [if_neg eb]
                  exact h.uniq a b a0 ab (by omega)
              · dsimp only at j1 ⊢
                rw [hlen] at j1
                rw [rd54_append _ _ _ j0]
                by_cases ej : j = s.l.length
                · rw [if_pos ej]
                  dsimp only
                  rw [rd_set s.opn _ _ _ ht.1 (by rw [h.sp.lopn]; exact ht.2) ht.1, if_pos rfl]
                  exact ⟨fun _ => ej.symm, fun _ => by decide⟩
                · rw [if_neg ej]
                  have k1 := h.key j j0 (by omega)
                  have k2 := h.pend j j0 (by omega)
                  rw [rd_set s.opn _ _ _ ht.1 (by rw [h.sp.lopn]; exact ht.2) k1.1.1]
                  by_cases et : e.f0 = (rd_T54 s.l j).f0
                  · rw [if_pos et, k2, ← et]
                    omega
                  · rw [if_neg et]
                    exact k2
              · dsimp only at b1 ⊢
                rw [hlen] at b1
                rw [rd54_append _ _ _ a0, rd54_append _ _ _ (show 0 ≤ b by omega), if_neg (show ¬ a = s.l.length by omega)]
                by_cases eb : b = s.l.length
                · rw [if_pos eb]
                  dsimp only
                  exact (h.place a a0 (by omega)).2
                · rw [if_neg eb]
                  exact h.order a b a0 ab (by omega)
          · left
            refine ⟨?_, ?_⟩
            · unfold spStep
              rw [if_pos hf, if_neg h1, if_pos h2, if_pos (by rw [h3, o2]), if_neg h4]
            · unfold rvStep
              rw [if_pos hf, if_neg (by rw [h1', o1]; decide), if_neg (by rw [h3]; simp), if_neg h1, if_neg h4]
        · left
          refine ⟨?_, ?_⟩
          · unfold spStep
            rw [if_pos hf, if_neg h1, if_pos h2, if_neg (by rw [o2]; exact h3)]
          · unfold rvStep
            rw [if_pos hf, if_neg (by rw [h1', o1]; decide), if_pos (by simpa using h3)]
      · left
        obtain ⟨o1, _⟩ := h.open_ e.f0 ht.1 ht.2 (by omega)
        refine ⟨?_, ?_⟩
        · unfold spStep
          rw [if_pos hf, if_neg h1, if_neg h2]
        · unfold rvStep
          rw [if_pos hf, if_pos (by rw [h1', o1]; decide)]

end Go.Proofs.YtfokmfnafbladaaDoor.Q
