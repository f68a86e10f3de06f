/- The states of hist.spans at the end of a list. -/
import Derived.Test.YtfokmfnafbladaaDoorP2
namespace Go.Proofs.YtfokmfnafbladaaDoor.Q
open Go.RowKit Go.Proofs.YtfokmfnafbladaaDoorW.PrintWords Go.Proofs.YtfokmfnafbladaaDoorW.PrintLast Go.Proofs.YtfokmfnafbladaaDoorW.PrintMore
set_option linter.unusedVariables false
set_option linter.unusedSimpArgs false

theorem link_go : ∀ (es : List S37) {i : Nat} {s : SpSt} {r : RvSt}, Link i s r → (spGo es i s = none ∧ rvGo es r = none) ∨ ∃ s' r', spGo es i s = some s' ∧ rvGo es r = some r' ∧ Link (i + es.length) s' r'
  | [], i, s, r, h => .inr ⟨s, r, rfl, rfl, h⟩
  | e :: es, i, s, r, h => by
    unfold spGo rvGo
    rcases link_step h e with ⟨h1, h2⟩ | ⟨s1, r1, h1, h2, h3⟩
    · exact .inl ⟨by rw [h1]; rfl, by rw [h2]; rfl⟩
    · rw [h1, h2]
      have := link_go es h3
      rw [List.length_cons, show i + (es.length + 1) = i + 1 + es.length by omega]
      exact this
theorem valid_same (l : List S37) : (spGo l 0 spInit).isSome = rvB l := by
  unfold rvB
  rcases link_go l link_init with ⟨h1, h2⟩ | ⟨s1, r1, h1, h2, _⟩
  · rw [show spGo l 0 spInit = none from h1, h2]; rfl
  · rw [show spGo l 0 spInit = some s1 from h1, h2]; rfl

theorem spStep_ret {i : Int} {s s1 : SpSt} {e : S37} (h : spStep i s e = some s1) (h1 : e.f2 = true) : (0 ≤ rd s.opn e.f0 ∧ (rd_T54 s.l (rd s.opn e.f0)).f1 = e.f1) ∧ s1 = ⟨s.l.set (rd s.opn e.f0).toNat ⟨(rd_T54 s.l (rd s.opn e.f0)).f0, (rd_T54 s.l (rd s.opn e.f0)).f1, (rd_T54 s.l (rd s.opn e.f0)).f2, (rd_T54 s.l (rd s.opn e.f0)).f3, i, e.f4⟩, s.cnt, s.opn.set e.f0.toNat (-1)⟩ := by
  unfold spStep at h
  split at h
  · split at h
    · split at h
      · split at h
        · injection h with h
          exact ⟨⟨by assumption, by assumption⟩, h.symm⟩
        · cases h
      · cases h
    · cases h
  · cases h
theorem spStep_call {i : Int} {s s1 : SpSt} {e : S37} (h : spStep i s e = some s1) (h1 : ¬ e.f2 = true) : rd s.opn e.f0 < 0 ∧ s1 = ⟨s.l ++ [⟨e.f0, e.f1, e.f3, i, -1, 0⟩], s.cnt.set e.f0.toNat (rd s.cnt e.f0 + 1), s.opn.set e.f0.toNat s.l.length⟩ := by
  unfold spStep at h
  split at h
  · split at h
    · split at h
      · split at h
        · split at h
          · cases h
          · injection h with h
            exact ⟨by assumption, h.symm⟩
        · cases h
      · cases h
    · cases h
  · cases h
theorem spStep_form {i : Int} {s s1 : SpSt} {e : S37} (h : spStep i s e = some s1) : formB e = true := by
  unfold spStep at h
  split at h
  · assumption
  · cases h

theorem spGo_few {l : List S37} {F : SpSt} (hg : spGo l 0 spInit = some F) : ∃ r, Link l.length F r ∧ rvGo l rvInit = some r := by
  rcases link_go l link_init with ⟨q1, q2⟩ | ⟨s2, r2, q1, q2, q3⟩
  · rw [show spGo l 0 spInit = none from q1] at hg; cases hg
  · rw [show spGo l 0 spInit = some s2 from q1] at hg
    injection hg with hg
    subst hg
    rw [Nat.zero_add] at q3
    exact ⟨r2, q3, q2⟩

theorem link_next {i : Nat} {s s1 : SpSt} {r : RvSt} {e : S37} (h : Link i s r) (hs : spStep i s e = some s1) : ∃ r1, rvStep r e = some r1 ∧ Link (i + 1) s1 r1 := by
  rcases link_step h e with ⟨q1, q2⟩ | ⟨s2, r2, q1, q2, q3⟩
  · rw [q1] at hs; cases hs
  · rw [q1] at hs
    injection hs with hs
    subst hs
    exact ⟨r2, q2, q3⟩


end Go.Proofs.YtfokmfnafbladaaDoor.Q
