/- How a slice of costs reads. -/
import Derived.Test.YtkiogciokngjfaaOpenH
import Derived.Test.YtkiogciokngjfaaTopHeap
set_option linter.unusedVariables false
set_option linter.unusedSimpArgs false
namespace Go.Proofs.Ytkiogciokngjfaa
open Go.RowKit Go.Sort FR
open Go.ChangeShapes Go.WideShapes Go.ChangeAt Go.Joins
instance : Inhabited C := ⟨⟨0, 0⟩⟩
section
variable {H : Type} {enc : TypeId × Value → H} {w : World} {base : Nat} {held : Bool}
set_option maxRecDepth 100000 in
theorem slc_of {fuel : Nat} {cs : List Value} {x : DataW H × List MemPlace} (h : DataW.trod enc Try.prog w base (fun _ => true) held fuel 116 cs = some x) : ∃ A n m f, cs = [.slice A n m] ∧ SlC w A n f := by
  rcases Go.Deep.open_slice Try.underlying116 h with ⟨rfl, _⟩ | ⟨a, len, cap, m, n, D, Pl, rfl, _, hl, hm, hmm, _, hx⟩
  · exact ⟨none, 0, 0, fun _ => default, rfl, fun h => absurd h (by omega), by omega⟩
  · rw [cellsCostH] at hx
    simp only [if_true] at hmm
    obtain ⟨F, hF⟩ := Go.Deep.choose_lt (α := C) (n := m) (p := fun i p => ∀ j v, [Value.int .i64 p.s, .int .i64 p.d][j]? = some v → w.cell? ((a.add (i * 2)).add j) = some v) (fun i hi => by
      obtain ⟨cs', h1, h2⟩ := hx i hi
      obtain ⟨s, d, rfl⟩ := cost_of h2
      refine ⟨⟨s, d⟩, fun j v hj => ?_⟩
      obtain ⟨_, _, h3⟩ := World.cells?_some h1
      rw [h3 j (by have := (List.getElem?_eq_some_iff.1 hj).1; simpa using this)]; exact hj)
    refine ⟨some a, len, cap, F, rfl, fun hp => ?_, ?_⟩
    · have h0 := hF 0 (by omega) 0 _ rfl
      have ea : (a.add (0 * 2)).add 0 = a := by simp [Addr.add]
      rw [ea] at h0
      obtain ⟨b, o, rfl⟩ := addr_eta h0
      refine ⟨b, o, rfl, World.block_lt_of_cell? _ _ h0, fun k hk => ?_⟩
      have hk' := hF k (by omega)
      simp only [add_none] at hk'
      exact ⟨hk' 0 _ rfl, hk' 1 _ rfl⟩
    · unfold maxLen at hm; omega
variable {r : Reach} {b0 : Nat} {v : Value} {d : DataW H} {p : List MemPlace}
set_option maxRecDepth 100000 in
theorem open_costs (hv : Value.okWide Try.prog w r b0 116 v) (h : DataW.Trod enc Try.prog w base (fun _ => true) held 116 v d p) : ∃ A n m f, v = .slice A n m ∧ SlC w A n f := by
  obtain ⟨a, l, c, rfl⟩ := okWide_slice Try.underlying116 hv
  obtain ⟨fuel, hf⟩ := h
  obtain ⟨A, n, m, f, e, hs⟩ := slc_of hf
  have e' : Value.slice a l c = .slice A n m := (List.cons.inj (show [Value.slice a l c] = [.slice A n m] from e)).1
  exact ⟨A, n, m, f, e', hs⟩
end
end Go.Proofs.Ytkiogciokngjfaa
