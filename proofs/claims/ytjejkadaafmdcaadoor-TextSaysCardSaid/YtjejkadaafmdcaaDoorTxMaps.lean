/- Lemmas of this claim: TxMaps. -/
import Derived.Test.YtjejkadaafmdcaaDoorTxParse
set_option linter.unusedVariables false
set_option linter.unusedSimpArgs false
/- What printing and reading give together. -/
namespace Go.Proofs.YtjejkadaafmdcaaDoor
open Go.RowKit Go.Sort FR
/-- a grid that was printed is read as it -/
theorem ParsedG.print {w w' : World} {g : G} {e : Ending} (h : ParsedG w (printS g) e w') (hs : g.ok) :
    ∃ R p, e = .returned (.tuple #[.pointer (some ⟨p, 0, none⟩), .nilIface]) ∧ w.heap.size ≤ p ∧ GridAt w' p (partG g.w g.h R (g.h * g.w)) (cntB (rowsB g.w R) (g.h * g.w)) ∧ Below w.heap.size w w' ∧ ∀ c, c < g.w * g.h → (partG g.w g.h R (g.h * g.w)).b c = g.b c := by
  obtain ⟨R, hp, _, hb⟩ := parse_print g hs
  rcases h with ⟨k, h1, _⟩ | ⟨a, b, R', p, h1, h2, h3, h4, h5⟩
  · rw [hp] at h1; cases h1
  · rw [hp] at h1
    cases h1
    refine ⟨R, p, h2, h3, h4, h5, fun c hc => ?_⟩
    rw [← hb c hc]
    unfold partG
    simp only
    rw [decide_eq_true (by rw [Nat.mul_comm]; exact hc), Bool.true_and]
theorem laid_split {w w' : World} {e : Ending} (h : Laid w e w') : (e = .returned (.tuple #[.pointer none, .pointer none, .bool false]) ∧ Below w.heap.size w w') ∨
    ∃ p q g v, e = .returned (.tuple #[.pointer (some ⟨p, 0, none⟩), .pointer (some ⟨q, 0, none⟩), .bool true]) ∧ GridAt w' p g v ∧ RGridAt w' q g v ∧ Below w.heap.size w w' := by
  rcases h with h | ⟨p, q, g, v, h1, _, _, h2, h3, _, _, h4⟩
  · exact .inl h
  · exact .inr ⟨p, q, g, v, h1, h2, h3, h4⟩
theorem ParsedG.two {w w' : World} {l : List UInt8} {e : Ending} (h : ParsedG w l e w') : (∃ x y, e = .returned (.tuple #[x, y])) ∧ Below w.heap.size w w' := by
  rcases h with ⟨k, _, _, h, hb⟩ | ⟨a, b, R, p, _, h, _, _, hb⟩
  · exact ⟨⟨_, _, h⟩, hb⟩
  · exact ⟨⟨_, _, h⟩, hb⟩
end Go.Proofs.YtjejkadaafmdcaaDoor
