/- Lemmas of this claim: TxMaps. -/
import Derived.Test.YtkpcenjnjjmmkaaGreatDoorTxParse
set_option linter.unusedVariables false
set_option linter.unusedSimpArgs false
/- What printing and reading give together. -/
namespace Go.Proofs.YtkpcenjnjjmmkaaGreatDoor
open Go.RowKit Go.Sort FR
theorem laid_split {w w' : World} {e : Ending} (h : Laid w e w') : (e = .returned (.tuple #[.pointer none, .pointer none, .bool false]) ∧ Below w.heap.size w w') ∨
    ∃ p q g v, e = .returned (.tuple #[.pointer (some ⟨p, 0, none⟩), .pointer (some ⟨q, 0, none⟩), .bool true]) ∧ GridAt w' p g v ∧ RGridAt w' q g v ∧ Below w.heap.size w w' := by
  rcases h with h | ⟨p, q, g, v, h1, _, _, h2, h3, _, _, h4⟩
  · exact .inl h
  · exact .inr ⟨p, q, g, v, h1, h2, h3, h4⟩
theorem ParsedG.two {w w' : World} {l : List UInt8} {e : Ending} (h : ParsedG w l e w') : (∃ x y, e = .returned (.tuple #[x, y])) ∧ Below w.heap.size w w' := by
  rcases h with ⟨k, _, _, h, hb⟩ | ⟨a, b, R, p, _, h, _, _, hb⟩
  · exact ⟨⟨_, _, h⟩, hb⟩
  · exact ⟨⟨_, _, h⟩, hb⟩
end Go.Proofs.YtkpcenjnjjmmkaaGreatDoor
