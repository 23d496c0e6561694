/- The moves from a cell, one by one: what is still to come. -/
import Derived.Test.YtkiogciokngjfaaFresh
import Derived.Test.YtkiogciokngjfaaHeap8
import Derived.Test.YtkiogciokngjfaaAsGrid
set_option linter.unusedVariables false
set_option linter.unusedSimpArgs false
namespace Go.Proofs.Ytkiogciokngjfaa
open Go.RowKit Go.Sort FR
theorem Ints.blk' {w : World} {ad : Addr} {n : Nat} {f : Nat → Int} (h : Ints w (some ad) n f) (hn : 0 < n) : ad.block < w.heap.size := by
  obtain ⟨ad', e, h1, _⟩ := h hn
  injection e with e; subst e; exact h1
/-- the move of number j -/
theorem moves_at {g : G} {k j : Nat} (hj : j < (movesI g k).length) : ∃ d : Nat, d < 8 ∧ g.mayC k d = true ∧ (movesI g k).getD j 0 = (d : Int) ∧ (g.moves k)[j]? = some d := by
  have hl : (movesI g k).length = (g.moves k).length := by rw [movesI_eq, List.length_map]
  have hj' : j < (g.moves k).length := by omega
  have hm := List.getElem_mem hj'
  unfold G.moves at hm
  have := List.mem_filter.1 hm
  refine ⟨(g.moves k)[j], List.mem_range.1 this.1, this.2, ?_, List.getElem?_eq_getElem hj'⟩
  rw [movesI_eq]
  simp [List.getD, hj']
theorem bel_cell {w w' : World} {a : Addr} {v : Value} (h : Below w.heap.size w w') (hc : w.cell? a = some v) : w'.cell? a = some v := (h.cell (World.block_lt_of_cell? w _ hc)).trans hc
theorem alloc_some {w : World} {o : Obj} {a : Addr} {v : Value} (h : w.cell? a = some v) : (w.alloc o).cell? a = some v := by
  rw [World.cell?_alloc_old w _ _ (Nat.ne_of_lt (World.block_lt_of_cell? w _ h))]; exact h
/-- the parts of a step -/
theorem step_parts (d : Nat) : ∃ es ed : Int, stepC d = ⟨es, ed⟩ ∧ (d : Int).tmod 2 = ed ∧ 1 - ed = es ∧ 0 ≤ ed ∧ ed ≤ 1 := by
  refine ⟨1 - ((d % 2 : Nat) : Int), ((d % 2 : Nat) : Int), ?_, ?_, rfl, by omega, by omega⟩
  · unfold stepC
    rcases Nat.mod_two_eq_zero_or_one d with h | h <;> simp [h]
  · rw [Int.tmod_eq_emod_of_nonneg (by omega)]; simp
/-- the edges that are still to come -/
def PendM (g : G) (k j : Nat) (b : Nat) (e : C) : Prop := ∃ d, d ∈ (g.moves k).drop j ∧ b = g.to k d ∧ e = stepC d
theorem pend_next {g : G} {k j d tt : Nat} (hd : (g.moves k)[j]? = some d) (ht : g.to k d = tt) : ∀ b e, PendM g k j b e → PendM g k (j + 1) b e ∨ (b = tt ∧ e = stepC d) := by
  rintro b e ⟨d', hm, rfl, rfl⟩
  obtain ⟨hj, hd2⟩ := List.getElem?_eq_some_iff.1 hd
  rw [List.drop_eq_getElem_cons hj, hd2] at hm
  rcases List.mem_cons.1 hm with rfl | hm
  · exact .inr ⟨ht, rfl⟩
  · exact .inl ⟨d', hm, rfl, rfl⟩
theorem pend_done {g : G} {k nl : Nat} (h : (movesI g k).length = nl) : ∀ b e, PendM g k nl b e → False := by
  rintro b e ⟨d, hm, _⟩
  rw [movesI_eq, List.length_map] at h
  rw [List.drop_eq_nil_of_le (by omega)] at hm
  cases hm
theorem stepC_ne (d : Nat) : stepC d ≠ C.zero := by unfold stepC C.zero; split <;> simp
theorem stepC_le (d : Nat) : C.le (stepC d) ⟨0, 1⟩ := by unfold stepC; split <;> decide
end Go.Proofs.Ytkiogciokngjfaa
