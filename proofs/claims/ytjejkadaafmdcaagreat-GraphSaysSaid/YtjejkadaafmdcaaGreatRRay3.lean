/- The document's Near and Direct. -/
import Derived.Test.YtjejkadaafmdcaaGreatRRay2
set_option linter.unusedVariables false
set_option linter.unusedSimpArgs false
namespace Go.Proofs.YtjejkadaafmdcaaGreat
open Go.RowKit Go.Sort FR
theorem boolP (P : Prop) : ∃ t : Bool, t = true ↔ P := by
  by_cases h : P
  · exact ⟨true, by simp [h]⟩
  · exact ⟨false, by simp [h]⟩
theorem bool_no {r : Bool} {P : Prop} (h : r = true ↔ P) (hn : ¬ P) : r = false := by
  cases r with
  | false => rfl
  | true => exact absurd (h.1 rfl) hn
theorem arr_b' {w w' : World} {b : Nat} {is : Nat → Bool} {t : Nat} (h : w.heap[b]? = some (.cells (rowOf (icell is) 256) 31 (0, 0))) (hb : Below w.heap.size w w') (ht : t < 256) : w'.cell? ⟨b, t, none⟩ = some (.bool (is t)) :=
  (World.cell?_of_block (w := w) (w' := w') (a := ⟨b, t, none⟩) (hb.block b (Array.getElem?_eq_some_iff.1 h).1)).trans (by simp [World.cell?, h, rowOf_get _ _ _ ht, icell])
theorem arr_c' {w w' : World} {b : Nat} {c : Nat → C} {t : Nat} (h : w.heap[b]? = some (.cells (rowOf (ccell c) 512) 83 (0, 0))) (hb : Below w.heap.size w w') (ht : t < 256) : w'.cell? ⟨b, t * 2, none⟩ = some (.int .i64 (c t).s) ∧ w'.cell? ⟨b, t * 2 + 1, none⟩ = some (.int .i64 (c t).d) := by
  have e1 : (t * 2 + 1) % 2 = 1 := by omega
  have e2 : (t * 2 + 1) / 2 = t := by omega
  exact ⟨(World.cell?_of_block (w := w) (w' := w') (a := ⟨b, t * 2, none⟩) (hb.block b (Array.getElem?_eq_some_iff.1 h).1)).trans (by simp [World.cell?, h, rowOf_get _ _ _ (show t * 2 < 512 by omega), ccell]),
    (World.cell?_of_block (w := w) (w' := w') (a := ⟨b, t * 2 + 1, none⟩) (hb.block b (Array.getElem?_eq_some_iff.1 h).1)).trans (by simp [World.cell?, h, rowOf_get _ _ _ (show t * 2 + 1 < 512 by omega), ccell, e1, e2])⟩
theorem ray_cell {w w' : World} {b a : Nat} {c : Nat → C} {is : Nat → Bool} {Z : Array Value} (h : w.heap[b]? = some (.cells Z 113 (0, 0))) (hZ : rayRow a c is = Z) (hb : Below w.heap.size w w') :
    w'.cell? ⟨b, 0, none⟩ = some (.int .i64 (a : Nat)) ∧ ∀ t, t < 256 → w'.cell? ⟨b, 1 + t * 2, none⟩ = some (.int .i64 (c t).s) ∧ w'.cell? ⟨b, 1 + t * 2 + 1, none⟩ = some (.int .i64 (c t).d) ∧ w'.cell? ⟨b, 513 + t, none⟩ = some (.bool (is t)) := by
  subst hZ
  have hl := (Array.getElem?_eq_some_iff.1 h).1
  have key : ∀ k, k < 769 → w'.cell? ⟨b, k, none⟩ = some (rayCell a c is k) := fun k hk =>
    (World.cell?_of_block (w := w) (w' := w') (a := ⟨b, k, none⟩) (hb.block b hl)).trans (by simp [World.cell?, h, rayRow, rowOf_get _ _ _ hk])
  refine ⟨key 0 (by omega), fun t ht => ⟨?_, ?_, ?_⟩⟩
  · rw [key _ (by omega)]
    unfold rayCell ccell
    rw [if_neg (by omega), if_pos (by omega), if_pos (by omega), show (1 + t * 2 - 1) / 2 = t by omega]
  · rw [key _ (by omega)]
    unfold rayCell ccell
    rw [if_neg (by omega), if_pos (by omega), if_neg (by omega), show (1 + t * 2 + 1 - 1) / 2 = t by omega]
  · rw [key _ (by omega)]
    unfold rayCell icell
    rw [if_neg (by omega), if_neg (by omega), show 513 + t - 513 = t by omega]
/-- a corner between, by what it costs from both -/
def MidK (g : G) (ca cb : Nat) (c1 c2 : Nat → C) (i1 i2 : Nat → Bool) (k : Nat) : Prop := k ≠ ca ∧ k ≠ cb ∧ i1 k = true ∧ i2 k = true ∧ C.add (c1 k) (c2 k) = g.oct ca cb
theorem midK_iff {g : G} {ca cb : Nat} {c1 c2 : Nat → C} {i1 i2 : Nat → Bool} (h1 : FloodIs g ca c1 i1) (h2 : FloodIs g cb c2 i2) (k : Nat) : MidK g ca cb c1 c2 i1 i2 k ↔ k ≠ ca ∧ k ≠ cb ∧ g.Mid ca cb k := by
  have hs : ∀ a b c, g.E a b c → g.E b a c := fun _ _ _ he => G.E_symm he
  constructor
  · rintro ⟨a1, a2, a3, a4, a5⟩
    exact ⟨a1, a2, _, _, ((h1 k).1 a3).1.1, Walk.rev hs ((h2 k).1 a4).1.1, a5⟩
  · rintro ⟨a1, a2, p, q, b1, b2, b3⟩
    have i1k : i1 k = true := by
      cases h : i1 k with
      | true => rfl
      | false => exact absurd b1 ((h1 k).2 h _)
    have i2k : i2 k = true := by
      cases h : i2 k with
      | true => rfl
      | false => exact absurd (Walk.rev hs b2) ((h2 k).2 h _)
    have d1 := ((h1 k).1 i1k).1
    have d2 := ((h2 k).1 i2k).1
    have l1 := d1.2 _ b1
    have l2 := d2.2 _ (Walk.rev hs b2)
    refine ⟨a1, a2, i1k, i2k, C.le_antisymm ?_ ?_⟩
    · rw [← b3]; exact C.add_le_add l1 l2
    · exact G.oct_le (d1.1.trans (Walk.rev hs d2.1))
theorem near_flood {g : G} {ca cb : Nat} {c1 : Nat → C} {i1 : Nat → Bool} (h1 : FloodIs g ca c1 i1) : g.Near ca cb ↔ i1 cb = true ∧ c1 cb = g.oct ca cb := by
  rw [G.near_dist]
  constructor
  · intro h
    have : i1 cb = true := by
      cases hh : i1 cb with
      | true => rfl
      | false => exact absurd h.1 ((h1 cb).2 hh _)
    exact ⟨this, ((h1 cb).1 this).1.unique h⟩
  · rintro ⟨a1, a2⟩
    rw [← a2]; exact ((h1 cb).1 a1).1
end Go.Proofs.YtjejkadaafmdcaaGreat
