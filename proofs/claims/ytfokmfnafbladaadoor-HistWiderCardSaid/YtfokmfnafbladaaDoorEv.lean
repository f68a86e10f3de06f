/- A list of events as an argument: what its reading gives. -/
import Derived.Test.YtfokmfnafbladaaDoorQx0
import Derived.Deep.Slices
import Derived.ChangeArms
import Derived.DataReads
import Derived.ChangeOld
import Derived.ProofKit
namespace Go.Proofs.YtfokmfnafbladaaDoor.Q
open Go.ChangeShapes Go.WideShapes Go.ChangeAt Go.RowKit Go.Deep
open Go.Proofs.YtfokmfnafbladaaDoorW.PrintWords Go.Proofs.YtfokmfnafbladaaDoorW.PrintLast Go.Proofs.YtfokmfnafbladaaDoorW.PrintMore
set_option linter.unusedVariables false

section
variable {H : Type} {enc : TypeId × Value → H} {w : World} {base : Nat} {spare : Nat → Bool} {held : Bool}

theorem cells37 : Tryd.prog.cellsOf 37 = 7 := by kernel_rfl
theorem cells35 : Tryd.prog.cellsOf 35 = 3 := by kernel_rfl
theorem cells3 : Tryd.prog.cellsOf 3 = 1 := by kernel_rfl
theorem cells4 : Tryd.prog.cellsOf 4 = 1 := by kernel_rfl
theorem cells9 : Tryd.prog.cellsOf 9 = 1 := by kernel_rfl

theorem take_one {cs : List Value} {o : Nat} {v : Value} (h : (cs.drop o).take 1 = [v]) : cs[o]? = some v := by
  have h1 : ((cs.drop o).take 1)[0]? = some v := by rw [h]; rfl
  rw [List.getElem?_take_of_lt (by decide), List.getElem?_drop] at h1
  simpa using h1

set_option maxRecDepth 100000 in
/-- An event that is read. -/
theorem event_of_trod {fuel : Nat} {cs : List Value} {x : DataW H × List MemPlace} (h : DataW.trod enc Tryd.prog w base spare held fuel 37 cs = some x) :
    ∃ e : S37, cs = [.int .i64 e.f0, .int .i64 e.f1, .bool e.f2, .string e.f3.f0, .int .i64 e.f3.f1, .int .i64 e.f3.f2, .int .i64 e.f4] ∧ e.f3.f0.size ≤ maxLen := by
  obtain ⟨xs, n, _, _, hlen, hxl, hf⟩ := DataW.trod_struct Tryd.underlying37 h
  rw [cells37] at hlen
  have g : ∀ (i : Nat) (f : Field), i < 5 → (#[{ name := "Thread", type := 3, offset := 0, embedded := false, tag := "", pkgPath := "", byteOffset := 0 }, { name := "Index", type := 3, offset := 1, embedded := false, tag := "", pkgPath := "", byteOffset := 8 }, { name := "Return", type := 4, offset := 2, embedded := false, tag := "", pkgPath := "", byteOffset := 16 }, { name := "Call", type := 35, offset := 3, embedded := false, tag := "", pkgPath := "", byteOffset := 24 }, { name := "Result", type := 3, offset := 6, embedded := false, tag := "", pkgPath := "", byteOffset := 56 }] : Array Field)[i]? = some f → ∃ y, DataW.trod enc Tryd.prog w base spare held n f.type ((cs.drop f.offset).take (Tryd.prog.cellsOf f.type)) = some y := by
    intro i f hi hfi
    have h1 := hf i f hfi
    have h2 : i < xs.length := by rw [hxl]; exact hi
    rw [List.getElem?_eq_getElem h2] at h1
    exact ⟨_, h1⟩
  obtain ⟨y0, h0⟩ := g 0 _ (by decide) rfl
  obtain ⟨y1, h1⟩ := g 1 _ (by decide) rfl
  obtain ⟨y2, h2⟩ := g 2 _ (by decide) rfl
  obtain ⟨y3, h3⟩ := g 3 _ (by decide) rfl
  obtain ⟨y4, h4⟩ := g 4 _ (by decide) rfl
  change DataW.trod enc Tryd.prog w base spare held n 3 ((cs.drop 0).take (Tryd.prog.cellsOf 3)) = _ at h0
  change DataW.trod enc Tryd.prog w base spare held n 3 ((cs.drop 1).take (Tryd.prog.cellsOf 3)) = _ at h1
  change DataW.trod enc Tryd.prog w base spare held n 4 ((cs.drop 2).take (Tryd.prog.cellsOf 4)) = _ at h2
  change DataW.trod enc Tryd.prog w base spare held n 35 ((cs.drop 3).take (Tryd.prog.cellsOf 35)) = _ at h3
  change DataW.trod enc Tryd.prog w base spare held n 3 ((cs.drop 6).take (Tryd.prog.cellsOf 3)) = _ at h4
  rw [cells3] at h0 h1 h4
  rw [cells4] at h2
  rw [cells35] at h3
  obtain ⟨n0, e0, _, _⟩ := DataW.trod_int Tryd.underlying3 h0
  obtain ⟨n1, e1, _, _⟩ := DataW.trod_int Tryd.underlying3 h1
  obtain ⟨b2, e2, _⟩ := DataW.trod_bool Tryd.underlying4 h2
  obtain ⟨n4, e4, _, _⟩ := DataW.trod_int Tryd.underlying3 h4
  obtain ⟨ys, m, _, _, _, hyl, hg⟩ := DataW.trod_struct Tryd.underlying35 h3
  have k : ∀ (i : Nat) (f : Field), i < 3 → (#[{ name := "Op", type := 9, offset := 0, embedded := false, tag := "", pkgPath := "", byteOffset := 0 }, { name := "X", type := 3, offset := 1, embedded := false, tag := "", pkgPath := "", byteOffset := 16 }, { name := "Y", type := 3, offset := 2, embedded := false, tag := "", pkgPath := "", byteOffset := 24 }] : Array Field)[i]? = some f → ∃ y, DataW.trod enc Tryd.prog w base spare held m f.type ((((cs.drop 3).take 3).drop f.offset).take (Tryd.prog.cellsOf f.type)) = some y := by
    intro i f hi hfi
    have q1 := hg i f hfi
    have q2 : i < ys.length := by rw [hyl]; exact hi
    rw [List.getElem?_eq_getElem q2] at q1
    exact ⟨_, q1⟩
  obtain ⟨z0, k0⟩ := k 0 _ (by decide) rfl
  obtain ⟨z1, k1⟩ := k 1 _ (by decide) rfl
  obtain ⟨z2, k2⟩ := k 2 _ (by decide) rfl
  change DataW.trod enc Tryd.prog w base spare held m 9 ((((cs.drop 3).take 3).drop 0).take (Tryd.prog.cellsOf 9)) = _ at k0
  change DataW.trod enc Tryd.prog w base spare held m 3 ((((cs.drop 3).take 3).drop 1).take (Tryd.prog.cellsOf 3)) = _ at k1
  change DataW.trod enc Tryd.prog w base spare held m 3 ((((cs.drop 3).take 3).drop 2).take (Tryd.prog.cellsOf 3)) = _ at k2
  rw [cells9] at k0
  rw [cells3] at k1 k2
  obtain ⟨s0, f0, _, hs⟩ := DataW.trod_string Tryd.underlying9 k0
  obtain ⟨m1, f1, _, _⟩ := DataW.trod_int Tryd.underlying3 k1
  obtain ⟨m2, f2, _, _⟩ := DataW.trod_int Tryd.underlying3 k2
  refine ⟨⟨n0, n1, b2, ⟨s0, m1, m2⟩, n4⟩, ?_, hs⟩
  have a0 := take_one e0
  have a1 := take_one e1
  have a2 := take_one e2
  have a6 := take_one e4
  have a3 := take_one f0
  have a4 := take_one f1
  have a5 := take_one f2
  match cs, hlen with
  | [c0, c1, c2, c3, c4, c5, c6], _ =>
    simp at a0 a1 a2 a3 a4 a5 a6
    subst a0; subst a1; subst a2; subst a3; subst a4; subst a5; subst a6
    rfl

set_option maxRecDepth 100000 in
/-- A list of events that is read. -/
theorem events_of_trod {fuel : Nat} {A : Option Addr} {len cap : Nat} {x : DataW H × List MemPlace} (h : DataW.trod enc Tryd.prog w base spare held fuel 22 [.slice A len cap] = some x) :
    ∃ l : List S37, len = l.length ∧ Kd.C k37 w A l.length l ∧ l.length ≤ cap ∧ ∀ e ∈ l, e.f3.f0.size ≤ maxLen := by
  rcases open_slice Tryd.underlying22 h with ⟨hcs, _⟩ | ⟨a, l, c, m, n, D, Pl, hcs, _, hl, hm, hmm, _, hi⟩
  · simp at hcs
    obtain ⟨rfl, rfl, rfl⟩ := hcs
    exact ⟨[], rfl, Kd.C_nil k37 w, Nat.le_refl _, fun e he => by cases he⟩
  · simp at hcs
    obtain ⟨rfl, rfl, rfl⟩ := hcs
    have hle : len ≤ m := by
      rw [hmm]
      split
      · exact hl
      · exact Nat.le_refl _
    have each : ∀ i, ∃ e : S37, i < len → (e.f3.f0.size ≤ maxLen ∧ ∃ c : List Value, c.length = k37.sz ∧ k37.K w e c ∧ ∀ j u, c[j]? = some u → w.cell? (a.add (i * k37.sz + j)) = some u) := by
      intro i
      by_cases hil : i < len
      · obtain ⟨cs', hc, ht⟩ := hi i (by omega)
        obtain ⟨e, he, hs⟩ := event_of_trod ht
        rw [cells37] at hc
        obtain ⟨_, hcl, hat⟩ := World.cells?_some hc
        refine ⟨e, fun _ => ⟨hs, cs', by rw [hcl]; rfl, by rw [he]; exact k37_mk w e, fun j u hj => ?_⟩⟩
        have hj7 : j < 7 := by
          have := (List.getElem?_eq_some_iff.1 hj).1
          omega
        have := hat j hj7
        rw [hj] at this
        rw [← Go.Deep.add_add]
        exact this
      · exact ⟨z37, fun h => absurd h hil⟩
    let E : Nat → S37 := fun i => Classical.choose (each i)
    have hE : ∀ i, i < len → ((E i).f3.f0.size ≤ maxLen ∧ ∃ c : List Value, c.length = k37.sz ∧ k37.K w (E i) c ∧ ∀ j u, c[j]? = some u → w.cell? (a.add (i * k37.sz + j)) = some u) := fun i => Classical.choose_spec (each i)
    refine ⟨(List.range len).map E, by simp, ⟨rfl, ?_, fun h0 => ⟨a, rfl, fun j p hj => ?_⟩⟩, by simpa using hl, fun e he => ?_⟩
    · simp
      unfold maxLen at hm
      omega
    · obtain ⟨hjl, hp⟩ := List.getElem?_eq_some_iff.1 hj
      simp at hjl hp
      subst hp
      exact (hE j hjl).2
    · obtain ⟨i, hi', rfl⟩ := List.mem_map.1 he
      exact (hE i (List.mem_range.1 hi')).1
end

end Go.Proofs.YtfokmfnafbladaaDoor.Q
