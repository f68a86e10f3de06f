/- Whether two histories have the same events of each thread. -/
import Derived.Test.YtfokmfnafbladaaDoorSx7
namespace Go.Proofs.YtfokmfnafbladaaDoor.Q
open Go.RowKit Go.Proofs.YtfokmfnafbladaaDoorW.PrintWords Go.Proofs.YtfokmfnafbladaaDoorW.PrintLast Go.Proofs.YtfokmfnafbladaaDoorW.PrintMore
set_option linter.unusedVariables false
set_option linter.unusedSimpArgs false

deriving instance DecidableEq for S35
deriving instance DecidableEq for S37

/-- The printed comparison of two events. -/
def ne37 (a b : S37) : Bool := (!(((a).f0) == ((b).f0)) || (!(((a).f1) == ((b).f1)) || (!(((a).f2) == ((b).f2)) || ((!((((a).f3.f0).toList) == (((b).f3.f0).toList)) || (!(((a).f3.f1) == ((b).f3.f1)) || (!(((a).f3.f2) == ((b).f3.f2))))) || (!(((a).f4) == ((b).f4)))))))

theorem toList_inj {a b : ByteArray} (h : a.toList = b.toList) : a = b := by
  rw [ByteArray.toList_eq, ByteArray.toList_eq] at h
  cases a; cases b
  congr 1
  exact Array.toList_inj.1 h

theorem ne37_iff (a b : S37) : ne37 a b = !decide (a = b) := by
  unfold ne37
  obtain ⟨a0, a1, a2, ⟨a30, a31, a32⟩, a4⟩ := a
  obtain ⟨b0, b1, b2, ⟨b30, b31, b32⟩, b4⟩ := b
  have hs : (a30.toList == b30.toList) = decide (a30 = b30) := by
    by_cases h : a30 = b30
    · simp [h]
    · have : a30.toList ≠ b30.toList := fun h2 => h (toList_inj h2)
      rw [decide_eq_false h]
      exact beq_false_of_ne this
  simp only [hs, S37.mk.injEq, S35.mk.injEq, Bool.decide_and]
  have hi : ∀ x y : Int, (x == y) = decide (x = y) := fun x y => by
    by_cases h : x = y <;> simp [h]
  have hb : ∀ x y : Bool, (x == y) = decide (x = y) := by decide
  simp only [Bool.not_and, hi, hb]

theorem eq_go (x0 x1 : List S37) (hl : x0.length = x1.length) (hb : x0.length < 9223372036854775807) : ∀ (m k i : Nat), x0.length - i ≤ m → i ≤ x0.length → m < k → api_Event.l0 k x0 x1 (x0.length : Int) (i : Int) = some (decide (x0.drop i = x1.drop i)) := by
  intro m
  induction m with
  | zero =>
    intro k i h1 h2 h3
    obtain ⟨k, rfl⟩ : ∃ k', k = k' + 1 := ⟨k - 1, by omega⟩
    unfold api_Event.l0
    rw [if_neg (by omega)]
    have h4 : i = x0.length := by omega
    rw [List.drop_of_length_le (by omega), List.drop_of_length_le (by omega)]
    rfl
  | succ m ih =>
    intro k i h1 h2 h3
    obtain ⟨k, rfl⟩ : ∃ k', k = k' + 1 := ⟨k - 1, by omega⟩
    unfold api_Event.l0
    by_cases hi : i < x0.length
    · rw [if_pos (by omega), if_pos (by omega), if_pos (by omega), if_pos (by omega)]
      change (if ne37 (rd_T37 x0 (i : Int)) (rd_T37 x1 (i : Int)) = true then _ else _) = _
      rw [ne37_iff]
      have e0 : x0.drop i = rd_T37 x0 (i : Int) :: x0.drop (i + 1) := by
        rw [List.drop_eq_getElem_cons hi]
        simp [rd_T37, List.getD_eq_getElem?_getD, List.getElem?_eq_getElem hi]
      have hi1 : i < x1.length := by omega
      have e1 : x1.drop i = rd_T37 x1 (i : Int) :: x1.drop (i + 1) := by
        rw [List.drop_eq_getElem_cons hi1]
        simp [rd_T37, List.getD_eq_getElem?_getD, List.getElem?_eq_getElem hi1]
      rw [e0, e1]
      by_cases he : rd_T37 x0 (i : Int) = rd_T37 x1 (i : Int)
      · rw [if_neg (by simp [he])]
        have hw : wrap64 ((i : Int) + 1) = ((i + 1 : Nat) : Int) := by
          unfold wrap64; omega
        rw [hw, ih k (i + 1) (by omega) (by omega) (by omega)]
        congr 1
        rw [he]
        simp
      · rw [if_pos (by simp [he])]
        simp [he]
    · rw [if_neg (by omega)]
      rw [List.drop_of_length_le (by omega), List.drop_of_length_le (by omega)]
      rfl

theorem api_Event_eq (k : Nat) (x0 x1 : List S37) (hb : x0.length < 9223372036854775807) (hk : x0.length < k) : api_Event.f k x0 x1 = some (decide (x0 = x1)) := by
  unfold api_Event.f
  by_cases hl : x0.length = x1.length
  · rw [if_pos (by omega)]
    have := eq_go x0 x1 hl hb x0.length k 0 (by omega) (by omega) hk
    simpa using this
  · rw [if_neg (by omega)]
    have : x0 ≠ x1 := fun h => hl (by rw [h])
    simp [this]

/-- The events of a thread. -/
def ofL (l : List S37) (t : Int) : List S37 := l.filter (fun x => x.f0 == t)
def alikeB (l0 l1 : List S37) : Bool := decide (ofL l0 0 = ofL l1 0) && (decide (ofL l0 1 = ofL l1 1) && (decide (ofL l0 2 = ofL l1 2) && decide (ofL l0 3 = ofL l1 3)))

theorem ofL_length (l : List S37) (t : Int) : (ofL l t).length ≤ l.length := List.length_filter_le _ _
theorem alike_step (k : Nat) (l0 l1 : List S37) (h0 : l0.length < 2199023255552) (h1 : l1.length < 2199023255552) (hk : l0.length < k) (t : Int) (ht : t < 4) : hist_alike.l0 (k + 1) l0 l1 t = if ofL l0 t = ofL l1 t then hist_alike.l0 k l0 l1 (wrap64 (t + 1)) else some false := by
  have h2 := ofL_length l0 t
  conv => lhs; unfold hist_alike.l0
  rw [if_pos ht]
  unfold hist_of.f
  rw [if_pos h0, if_pos h1]
  simp only [Option.bind_some]
  change ((api_Event.f k (ofL l0 t) (ofL l1 t)).bind _) = _
  rw [api_Event_eq k (ofL l0 t) (ofL l1 t) (by omega) (by omega)]
  simp only [Option.bind_some, decide_eq_true_eq]
theorem hist_alike_eq (k : Nat) (l0 l1 : List S37) (h0 : l0.length < 2199023255552) (h1 : l1.length < 2199023255552) (hk : l0.length + 5 < k) : hist_alike.f k l0 l1 = some (alikeB l0 l1) := by
  obtain ⟨k, rfl⟩ : ∃ k', k = k' + 1 + 1 + 1 + 1 + 1 := ⟨k - 5, by omega⟩
  unfold hist_alike.f alikeB
  rw [alike_step _ l0 l1 h0 h1 (by omega) 0 (by decide)]
  by_cases e0 : ofL l0 0 = ofL l1 0
  · rw [if_pos e0, show wrap64 ((0 : Int) + 1) = 1 by unfold wrap64; omega, alike_step _ l0 l1 h0 h1 (by omega) 1 (by decide)]
    by_cases e1 : ofL l0 1 = ofL l1 1
    · rw [if_pos e1, show wrap64 ((1 : Int) + 1) = 2 by unfold wrap64; omega, alike_step _ l0 l1 h0 h1 (by omega) 2 (by decide)]
      by_cases e2 : ofL l0 2 = ofL l1 2
      · rw [if_pos e2, show wrap64 ((2 : Int) + 1) = 3 by unfold wrap64; omega, alike_step _ l0 l1 h0 h1 (by omega) 3 (by decide)]
        by_cases e3 : ofL l0 3 = ofL l1 3
        · rw [if_pos e3, show wrap64 ((3 : Int) + 1) = 4 by unfold wrap64; omega]
          unfold hist_alike.l0
          rw [if_neg (by decide)]
          simp [e0, e1, e2, e3]
        · rw [if_neg e3]
          simp [e3]
      · rw [if_neg e2]
        simp [e2]
    · rw [if_neg e1]
      simp [e1]
  · rw [if_neg e0]
    simp [e0]

end Go.Proofs.YtfokmfnafbladaaDoor.Q
