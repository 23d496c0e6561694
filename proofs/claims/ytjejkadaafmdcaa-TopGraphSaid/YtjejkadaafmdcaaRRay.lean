/- The document's octile cost between cells; whether they are near. -/
import Derived.Test.YtjejkadaafmdcaaFloodSays
import Derived.Test.YtjejkadaafmdcaaGA
import Derived.Deep.RegionHeld3
set_option linter.unusedVariables false
set_option linter.unusedSimpArgs false
namespace Go.Proofs.Ytjejkadaafmdcaa
open Go.RowKit Go.Sort FR
theorem keepset {w : World} {B p : Nat} {x y v : Value} (hne : p ≠ B) (h : w.cell? ⟨p, 0, none⟩ = some v) : ((w.setCell ⟨B, 0, none⟩ x).setCell ⟨B, 1, none⟩ y).cell? ⟨p, 0, none⟩ = some v := by
  have hk : Kept [B] w ((w.setCell ⟨B, 0, none⟩ x).setCell ⟨B, 1, none⟩ y) := ((Kept.refl [B] w).setCell (.inl (by simp))).setCell (.inl (by simp))
  exact (World.cell?_of_block (a := ⟨p, 0, none⟩) (hk.block p (World.block_lt_of_cell? w _ h) (by simpa using hne))).trans h
end Go.Proofs.Ytjejkadaafmdcaa
