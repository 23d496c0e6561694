/- The document's Direct: of two cells. -/
import Derived.Test.YtjejkadaafmdcaaGreatRRay4
set_option linter.unusedVariables false
set_option linter.unusedSimpArgs false
namespace Go.Proofs.YtjejkadaafmdcaaGreat
open Go.RowKit Go.Sort FR
theorem rangeAt_below {w w' : World} {b o : Nat} {cs : List Value} (h : w.rangeAt b o cs) (hb : Below w.heap.size w w') : w'.rangeAt b o cs := fun j v hv => bel_cell hb (h j v hv)
theorem one_ray (w : World) (Z : Array Value) (zs : Z.size = 769) (zo : Z.all (·.oneCell') = true) :
    ∃ W, (storeCells ⟨w.heap.size, 0, none⟩ Z.toList).run Tryz.prog (w.alloc (.cells Tryz.zeroCells113 113)) = .ok () W ∧ W.heap[w.heap.size]? = some (.cells Z 113 (0, 0)) ∧ Below w.heap.size w W := by
  have h2 := alloc_at w (.cells Tryz.zeroCells113 113) rfl
  have hr := run_storeCells_row (P := Tryz.prog) (w.alloc (.cells Tryz.zeroCells113 113)) w.heap.size _ 113 _ Z h2 (by rw [zs]; exact ray_info) (by rw [zero_ray, ray_size, zs]) zo
  exact ⟨_, hr, setRow_heap _ _ _ _ _ _ h2, below_setRow (bel_alloc (Below.refl _ _)) (Nat.le_refl _) _⟩
theorem range_all {w : World} {b : Nat} {Z : Array Value} {T : TypeId} (h : w.heap[b]? = some (.cells Z T (0, 0))) : w.rangeAt b 0 Z.toList := fun j v hv => by
  rw [Array.getElem?_toList] at hv
  simp [World.cell?, h, hv]
end Go.Proofs.YtjejkadaafmdcaaGreat
