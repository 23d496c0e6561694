/- Plain mathematics: which cells have been looked at, of the nine about one. -/
import Derived.Test.YtjejkadaafmdcaaGreatMathRepair
set_option linter.unusedVariables false
set_option linter.unusedSimpArgs false
namespace FR
namespace G
/-- a cell beside one, or that one -/
def nigh (g : G) (c z : Nat) : Prop := (g.X c : Int) - 1 ≤ g.X z ∧ (g.X z : Int) ≤ g.X c + 1 ∧ (g.Y c : Int) - 1 ≤ g.Y z ∧ (g.Y z : Int) ≤ g.Y c + 1
/-- those that have been looked at, when a place is next -/
def Pd (g : G) (c : Nat) (nx ny : Int) (z : Nat) : Prop := g.nigh c z ∧ ((g.Y z : Int) < ny ∨ ((g.Y z : Int) = ny ∧ (g.X z : Int) < nx))
/-- nodes, when a place is next -/
def PN (g g' : G) (c : Nat) (nx ny : Int) (z : Nat) : Prop := z < g.n ∧ ((g.Pd c nx ny z ∧ g'.Corner z) ∨ (¬ g.Pd c nx ny z ∧ g.Corner z))
/-- edges, when a place is next -/
def PD (g g' : G) (c : Nat) (nx ny : Int) (a b : Nat) : Prop := g.Direct a b ∧ (g.Pd c nx ny a → g.Corner a ∧ g'.Corner a) ∧ (g.Pd c nx ny b → g.Corner b ∧ g'.Corner b)
theorem PD_symm {g g' : G} {c : Nat} {nx ny : Int} {a b : Nat} (h : g.PD g' c nx ny a b) : g.PD g' c nx ny b a := ⟨direct_symm.1 h.1, h.2.2, h.2.1⟩
theorem Pd_start {g : G} {c z : Nat} : ¬ g.Pd c ((g.X c : Int) - 1) ((g.Y c : Int) - 1) z := by
  rintro ⟨⟨h1, h2, h3, h4⟩, h5⟩
  omega
theorem Pd_row {g : G} {c z : Nat} {ny nx : Int} (h : nx = (g.X c : Int) + 2) : g.Pd c nx ny z ↔ g.Pd c ((g.X c : Int) - 1) (ny + 1) z := by
  unfold Pd nigh
  omega
theorem Pd_end {g : G} {c z : Nat} {ny nx : Int} (h : ny = (g.Y c : Int) + 2) : g.Pd c nx ny z ↔ g.nigh c z := by
  unfold Pd nigh
  omega
/-- no cell stands there -/
theorem Pd_none {g : G} {c z : Nat} {nx ny : Int} (hg : g.ok) (hz : z < g.n) (ho : ¬ (0 ≤ nx ∧ nx < g.w ∧ 0 ≤ ny ∧ ny < g.h)) : g.Pd c (nx + 1) ny z ↔ g.Pd c nx ny z := by
  have h1 := X_lt hg z; have h2 := Y_lt hz
  unfold Pd
  refine and_congr_right fun _ => ?_
  omega
theorem Pd_cell {g : G} {c z k : Nat} {nx ny : Int} (hx : (g.X k : Int) = nx) (hy : (g.Y k : Int) = ny) (hk : g.nigh c k) : g.Pd c (nx + 1) ny z ↔ g.Pd c nx ny z ∨ z = k := by
  constructor
  · rintro ⟨h1, h2⟩
    by_cases e : (g.X z : Int) = nx ∧ (g.Y z : Int) = ny
    · right
      rw [← cell_XY g z, ← cell_XY g k, show g.X z = g.X k by omega, show g.Y z = g.Y k by omega]
    · exact .inl ⟨h1, by omega⟩
  · rintro (⟨h1, h2⟩ | rfl)
    · exact ⟨h1, by omega⟩
    · exact ⟨hk, by omega⟩
theorem Pd_not {g : G} {c k : Nat} {nx ny : Int} (hx : (g.X k : Int) = nx) (hy : (g.Y k : Int) = ny) : ¬ g.Pd c nx ny k := by
  rintro ⟨_, h⟩
  omega
theorem PN_cell {g g' : G} {c z k : Nat} {nx ny : Int} (hkn : k < g.n) (hx : (g.X k : Int) = nx) (hy : (g.Y k : Int) = ny) (hk : g.nigh c k) : ((z = k ∧ g'.Corner k) ∨ (z ≠ k ∧ g.PN g' c nx ny z)) ↔ g.PN g' c (nx + 1) ny z := by
  unfold PN
  rw [Pd_cell hx hy hk]
  have := Pd_not (c := c) hx hy
  by_cases e : z = k
  · subst e; simp [hkn]
  · simp [e]
theorem PD_cell {g g' : G} {c k a b : Nat} {nx ny : Int} (hkn : k < g.n) (hx : (g.X k : Int) = nx) (hy : (g.Y k : Int) = ny) (hk : g.nigh c k) (ha : g.PN g' c (nx + 1) ny a) (hb : g.PN g' c (nx + 1) ny b) :
    (g.PD g' c nx ny a b ∧ ((a ≠ k ∧ b ≠ k) ∨ (g'.Corner k ∧ g.PN g' c nx ny k))) ↔ g.PD g' c (nx + 1) ny a b := by
  have hn := Pd_not (c := c) hx hy
  have hNk : g.PN g' c nx ny k ↔ g.Corner k := by
    unfold PN
    simp [hn, hkn]
  rw [hNk]
  unfold PD
  rw [Pd_cell hx hy hk, Pd_cell hx hy hk]
  unfold PN at ha hb
  rw [Pd_cell hx hy hk] at ha hb
  constructor
  · rintro ⟨⟨h1, h2, h3⟩, h4⟩
    refine ⟨h1, ?_, ?_⟩
    · rintro (q | rfl)
      · exact h2 q
      · rcases h4 with ⟨r, _⟩ | ⟨r1, r2⟩
        · exact absurd rfl r
        · exact ⟨r2, r1⟩
    · rintro (q | rfl)
      · exact h3 q
      · rcases h4 with ⟨_, r⟩ | ⟨r1, r2⟩
        · exact absurd rfl r
        · exact ⟨r2, r1⟩
  · rintro ⟨h1, h2, h3⟩
    refine ⟨⟨h1, fun q => h2 (.inl q), fun q => h3 (.inl q)⟩, ?_⟩
    by_cases e1 : a = k
    · have := h2 (.inr e1)
      rw [e1] at this
      exact .inr ⟨this.2, this.1⟩
    · by_cases e2 : b = k
      · have := h3 (.inr e2)
        rw [e2] at this
        exact .inr ⟨this.2, this.1⟩
      · exact .inl ⟨e1, e2⟩
theorem PN_end {g g' : G} {c : Nat} (hb : But g g' (g.X c) (g.Y c)) {nx ny : Int} (h : ny = (g.Y c : Int) + 2) (z : Nat) : g.PN g' c nx ny z ↔ g'.Corner z := by
  unfold PN
  rw [Pd_end h]
  have hfar : ¬ g.nigh c z → (g'.Corner z ↔ g.Corner z) := fun hn => corner_far hb (by unfold nigh at hn; omega)
  constructor
  · rintro ⟨_, ⟨_, q⟩ | ⟨q1, q2⟩⟩
    · exact q
    · exact (hfar q1).2 q2
  · intro q
    refine ⟨by have := q.1; rw [hb.n] at this; exact this, ?_⟩
    by_cases hn : g.nigh c z
    · exact .inl ⟨hn, q⟩
    · exact .inr ⟨hn, (hfar hn).1 q⟩
/-- what is not between two corners, nor next to there, is near none of them -/
theorem PD_far {g g' : G} (hg : g.ok) {c : Nat} (hb : But g g' (g.X c) (g.Y c)) {nx ny : Int} (h : ny = (g.Y c : Int) + 2) {a b : Nat} (ha : g'.Corner a) (hbc : g'.Corner b) (hf : ¬ g.Btw a b (g.X c) (g.Y c)) : g.PD g' c nx ny a b ↔ g'.Direct a b := by
  have hna : ¬ g.nigh c a := by unfold nigh Btw at *; omega
  have hnb : ¬ g.nigh c b := by unfold nigh Btw at *; omega
  have e := direct_far hg hb (by have := hbc.1; rw [hb.n] at this; exact this) (by have := ha.1; rw [hb.n] at this; exact this) hf
  unfold PD
  rw [Pd_end h, Pd_end h]
  constructor
  · rintro ⟨q, _, _⟩; exact e.2 q
  · intro q; exact ⟨e.1 q, fun r => absurd r hna, fun r => absurd r hnb⟩
end G
end FR
