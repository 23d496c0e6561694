/- Lemmas of this claim: Math1. -/
set_option linter.unusedVariables false
set_option linter.unusedSimpArgs false
/- Plain mathematics: costs in one exact order, ways and what the cheapest costs, the least-first and the label-lowering searches, cells of a grid and steps between them. -/
namespace FR
theorem irr : ∀ n : Nat, ∀ s d : Int, s.natAbs ≤ n → s*s = 2*(d*d) → s = 0 ∧ d = 0 := by
  intro n
  induction n using Nat.strongRecOn with
  | _ n ih =>
    intro s d hs h
    by_cases h0 : s = 0
    · subst h0
      refine ⟨rfl, ?_⟩
      have h1 : d*d = 0 := by omega
      rcases Int.mul_eq_zero.1 h1 with h | h <;> exact h
    · exfalso
      have he : s % 2 = 0 := by
        rcases Int.emod_two_eq s with h' | h'
        · exact h'
        · have : (s*s) % 2 = 1 := by rw [Int.mul_emod, h']; rfl
          omega
      obtain ⟨t, rfl⟩ : ∃ t, s = 2*t := ⟨s/2, by omega⟩
      have h2 : d*d = 2*(t*t) := by grind
      have he' : d % 2 = 0 := by
        rcases Int.emod_two_eq d with h' | h'
        · exact h'
        · have : (d*d) % 2 = 1 := by rw [Int.mul_emod, h']; rfl
          omega
      obtain ⟨u, rfl⟩ : ∃ u, d = 2*u := ⟨d/2, by omega⟩
      have h3 : t*t = 2*(u*u) := by grind
      have := ih t.natAbs (by omega) t u (Nat.le_refl _) h3
      omega
/-- s + d√2 > 0 -/
def Pos (s d : Int) : Prop := (0 ≤ s ∧ 0 ≤ d ∧ (0 < s ∨ 0 < d)) ∨ (0 < s ∧ d < 0 ∧ 2*(d*d) < s*s) ∨ (s < 0 ∧ 0 < d ∧ s*s < 2*(d*d))
theorem sqlt {a b : Int} (ha : 0 ≤ a) (hb : 0 ≤ b) (h : a*a < b*b) : a < b := by
  rcases Int.lt_or_le a b with h' | h'
  · exact h'
  · exfalso; have := Int.mul_le_mul h' h' hb (by omega); omega
theorem sqle {a b : Int} (ha : 0 ≤ a) (h : a ≤ b) : a*a ≤ b*b := Int.mul_le_mul h h ha (by omega)
theorem mulpos {a b : Int} (ha : 0 < a) (hb : 0 < b) : 0 < a*b := Int.mul_pos ha hb
-- p1 > q1 r2, p2 > q2 r2 -> p1 p2 > 2 q1 q2
theorem cross {p1 q1 p2 q2 : Int} (h1 : 0 < p1) (h2 : 0 < q1) (h3 : 0 < p2) (h4 : 0 < q2) (a : 2*(q1*q1) < p1*p1) (b : 2*(q2*q2) < p2*p2) : 2*(q1*q2) < p1*p2 := by
  apply sqlt (by have := mulpos h2 h4; omega) (by have := mulpos h1 h3; omega)
  have hA : 2*(q1*q1) * (2*(q2*q2)) < p1*p1 * (p2*p2) := by
    have q1p := mulpos h2 h2
    have q2p := mulpos h4 h4
    calc 2*(q1*q1) * (2*(q2*q2)) < p1*p1 * (2*(q2*q2)) := Int.mul_lt_mul_of_pos_right a (by omega)
      _ ≤ p1*p1 * (p2*p2) := Int.mul_le_mul_of_nonneg_left (by omega) (by omega)
  grind
theorem cross' {p1 q1 p2 q2 : Int} (h1 : 0 < p1) (h2 : 0 < q1) (h3 : 0 < p2) (h4 : 0 < q2) (a : p1*p1 < 2*(q1*q1)) (b : p2*p2 < 2*(q2*q2)) : p1*p2 < 2*(q1*q2) := by
  apply sqlt (by have := mulpos h1 h3; omega) (by have := mulpos h2 h4; omega)
  have hA : p1*p1 * (p2*p2) < 2*(q1*q1) * (2*(q2*q2)) := by
    have q1p := mulpos h1 h1
    have q2p := mulpos h3 h3
    calc p1*p1 * (p2*p2) < 2*(q1*q1) * (p2*p2) := Int.mul_lt_mul_of_pos_right a (by omega)
      _ ≤ 2*(q1*q1) * (2*(q2*q2)) := Int.mul_le_mul_of_nonneg_left (by omega) (by omega)
  grind
theorem pos_tri (s d : Int) : Pos s d ∨ (s = 0 ∧ d = 0) ∨ Pos (-s) (-d) := by
  unfold Pos
  have hi := irr s.natAbs s d (Nat.le_refl _)
  have e1 : (-s)*(-s) = s*s := by grind
  have e2 : (-d)*(-d) = d*d := by grind
  rw [e1, e2]
  omega
theorem pos_asymm {s d : Int} (h : Pos s d) : ¬ Pos (-s) (-d) := by
  unfold Pos at *
  have e1 : (-s)*(-s) = s*s := by grind
  have e2 : (-d)*(-d) = d*d := by grind
  rw [e1, e2]
  omega
theorem pos_irrefl : ¬ Pos 0 0 := by unfold Pos; omega
/-- both signs: (s>0, d<0, s² > 2d²) + anything nonneg -/
theorem pos_add_nn {s d u v : Int} (h : Pos s d) (hu : 0 ≤ u) (hv : 0 ≤ v) : Pos (s+u) (d+v) := by
  unfold Pos at *
  rcases h with h | ⟨h1, h2, h3⟩ | ⟨h1, h2, h3⟩
  · omega
  · by_cases hd : 0 ≤ d + v
    · omega
    · refine .inr (.inl ⟨by omega, by omega, ?_⟩)
      have a : s*s ≤ (s+u)*(s+u) := sqle (by omega) (by omega)
      have b : (-(d+v))*(-(d+v)) ≤ (-d)*(-d) := sqle (by omega) (by omega)
      have e1 : (-(d+v))*(-(d+v)) = (d+v)*(d+v) := by grind
      have e2 : (-d)*(-d) = d*d := by grind
      omega
  · by_cases hd : 0 ≤ s + u
    · omega
    · refine .inr (.inr ⟨by omega, by omega, ?_⟩)
      have a : d*d ≤ (d+v)*(d+v) := sqle (by omega) (by omega)
      have b : (-(s+u))*(-(s+u)) ≤ (-s)*(-s) := sqle (by omega) (by omega)
      have e1 : (-(s+u))*(-(s+u)) = (s+u)*(s+u) := by grind
      have e2 : (-s)*(-s) = s*s := by grind
      omega
theorem pos_mixed {s d u v : Int} (h0 : Pos s d) (k0 : Pos u v) (h1 : s < 0) (h2 : 0 < d) (h3 : s*s < 2*(d*d)) (k1 : 0 < u) (k2 : v < 0) (k3 : 2*(v*v) < u*u) : Pos (s+u) (d+v) := by
  by_cases a : 0 ≤ s + u
  · by_cases b : 0 ≤ d + v
    · by_cases z : s + u = 0 ∧ d + v = 0
      · exfalso
        obtain ⟨z1, z2⟩ := z
        have e : u = -s := by omega
        have e' : v = -d := by omega
        subst e; subst e'
        exact pos_asymm h0 k0
      · exact .inl ⟨a, b, by omega⟩
    · -- s+u ≥ 0, d+v<0 : need 2(d+v)² < (s+u)²
      refine .inr (.inl ?_)
      have hlt : 0 < s + u ∧ 2*((d+v)*(d+v)) < (s+u)*(s+u) := by
        -- with p=-s, q=d: p < q√2 ; u > -v √2, -v > q ; u - p > (-v - q)√2
        rcases pos_tri (s+u) (d+v) with t | t | t
        · unfold Pos at t; omega
        · omega
        · exfalso
          -- Pos (-(s+u)) (-(d+v)), and Pos s d : then sum pos (-u)(-v), contradiction; -(d+v) > 0, -(s+u) ≤ 0
          by_cases q : s + u = 0
          · have e : u = -s := by omega
            subst e
            have : (-v)*(-v) ≥ d*d := sqle (by omega) (by omega)
            have e2 : (-v)*(-v) = v*v := by grind
            have e1 : (-s)*(-s) = s*s := by grind
            omega
          · unfold Pos at t
            have t' : (-(s+u))*(-(s+u)) < 2*((-(d+v))*(-(d+v))) := by omega
            have c := cross' (p1 := s+u) (q1 := -(d+v)) (p2 := -s) (q2 := d) (by omega) (by omega) (by omega) (by omega) (by grind) (by grind)
            have : u*u = (s+u)*(s+u) + s*s + 2*((s+u)*(-s)) := by grind
            have : v*v = (-(d+v))*(-(d+v)) + d*d + 2*((-(d+v))*d) := by grind
            have : (-(s+u))*(-(s+u)) = (s+u)*(s+u) := by grind
            omega
      exact ⟨hlt.1, by omega, hlt.2⟩
  · by_cases b : 0 < d + v
    · refine .inr (.inr ⟨by omega, b, ?_⟩)
      rcases pos_tri (s+u) (d+v) with t | t | t
      · unfold Pos at t; omega
      · omega
      · exfalso
        unfold Pos at t
        have e1 : (-(s+u))*(-(s+u)) = (s+u)*(s+u) := by grind
        have e2 : (-(d+v))*(-(d+v)) = (d+v)*(d+v) := by grind
        have t' : 2*((d+v)*(d+v)) < (s+u)*(s+u) := by omega
        have c := cross (p1 := -(s+u)) (q1 := d+v) (p2 := u) (q2 := -v) (by omega) (by omega) k1 (by omega) (by grind) (by grind)
        have : s*s = (-(s+u))*(-(s+u)) + u*u + 2*((-(s+u))*u) := by grind
        have : d*d = (d+v)*(d+v) + v*v + 2*((d+v)*(-v)) := by grind
        omega
    · exfalso
      -- s+u<0, d+v ≤ 0: -s > u, -v ≥ d: s² > u² > 2v² ≥ 2d²
      have a1 : u*u ≤ (-s)*(-s) := sqle (by omega) (by omega)
      have a2 : d*d ≤ (-v)*(-v) := sqle (by omega) (by omega)
      have e1 : (-s)*(-s) = s*s := by grind
      have e2 : (-v)*(-v) = v*v := by grind
      omega
theorem pos_add {s d u v : Int} (h : Pos s d) (k : Pos u v) : Pos (s+u) (d+v) := by
  have h0 := h
  have k0 := k
  unfold Pos at h k
  rcases k with k | ⟨k1, k2, k3⟩ | ⟨k1, k2, k3⟩
  · exact pos_add_nn h0 k.1 k.2.1
  · rcases h with h | ⟨h1, h2, h3⟩ | ⟨h1, h2, h3⟩
    · have := pos_add_nn k0 h.1 h.2.1; rw [Int.add_comm s, Int.add_comm d]; exact this
    · have c := cross (p1 := s) (q1 := -d) (p2 := u) (q2 := -v) h1 (by omega) k1 (by omega) (by grind) (by grind)
      refine .inr (.inl ⟨by omega, by omega, ?_⟩)
      have : (s+u)*(s+u) = s*s + u*u + 2*(s*u) := by grind
      have : (d+v)*(d+v) = d*d + v*v + 2*((-d)*(-v)) := by grind
      omega
    · exact pos_mixed h0 k0 h1 h2 h3 k1 k2 k3
  · rcases h with h | ⟨h1, h2, h3⟩ | ⟨h1, h2, h3⟩
    · have := pos_add_nn k0 h.1 h.2.1; rw [Int.add_comm s, Int.add_comm d]; exact this
    · have := pos_mixed k0 h0 k1 k2 k3 h1 h2 h3; rw [Int.add_comm s, Int.add_comm d]; exact this
    · have c := cross' (p1 := -s) (q1 := d) (p2 := -u) (q2 := v) (by omega) h2 (by omega) k2 (by grind) (by grind)
      refine .inr (.inr ⟨by omega, by omega, ?_⟩)
      have : (s+u)*(s+u) = s*s + u*u + 2*((-s)*(-u)) := by grind
      have : (d+v)*(d+v) = d*d + v*v + 2*(d*v) := by grind
      omega
/-- A cost: so many straight steps, so many diagonal ones. -/
structure C where
  s : Int
  d : Int
deriving DecidableEq
namespace C
def zero : C := ⟨0, 0⟩
def add (a b : C) : C := ⟨a.s + b.s, a.d + b.d⟩
def lt (a b : C) : Prop := Pos (b.s - a.s) (b.d - a.d)
def le (a b : C) : Prop := ¬ lt b a
instance (s d : Int) : Decidable (Pos s d) := by unfold Pos; infer_instance
instance (a b : C) : Decidable (lt a b) := by unfold lt; infer_instance
instance (a b : C) : Decidable (le a b) := by unfold le; infer_instance
theorem ext' {a b : C} (h : a.s = b.s) (k : a.d = b.d) : a = b := by cases a; cases b; simp_all
theorem lt_irrefl (a : C) : ¬ lt a a := by unfold lt; rw [Int.sub_self, Int.sub_self]; exact pos_irrefl
theorem lt_trans {a b c : C} (h : lt a b) (k : lt b c) : lt a c := by
  unfold lt at *
  have := pos_add h k
  rwa [show b.s - a.s + (c.s - b.s) = c.s - a.s by omega, show b.d - a.d + (c.d - b.d) = c.d - a.d by omega] at this
theorem lt_asymm {a b : C} (h : lt a b) : ¬ lt b a := fun k => lt_irrefl a (lt_trans h k)
theorem lt_tri (a b : C) : lt a b ∨ a = b ∨ lt b a := by
  unfold lt
  rcases pos_tri (b.s - a.s) (b.d - a.d) with h | h | h
  · exact .inl h
  · exact .inr (.inl (ext' (by omega) (by omega)))
  · refine .inr (.inr ?_)
    rwa [show -(b.s - a.s) = a.s - b.s by omega, show -(b.d - a.d) = a.d - b.d by omega] at h
theorem le_refl (a : C) : le a a := lt_irrefl a
theorem le_of_lt {a b : C} (h : lt a b) : le a b := lt_asymm h
theorem le_of_eq {a b : C} (h : a = b) : le a b := h ▸ le_refl a
theorem le_iff {a b : C} : le a b ↔ lt a b ∨ a = b := by
  constructor
  · intro h
    rcases lt_tri a b with x | x | x
    · exact .inl x
    · exact .inr x
    · exact absurd x h
  · rintro (h | h)
    · exact le_of_lt h
    · exact le_of_eq h
theorem le_trans {a b c : C} (h : le a b) (k : le b c) : le a c := by
  rcases le_iff.1 h with h | h
  · rcases le_iff.1 k with k | k
    · exact le_of_lt (lt_trans h k)
    · exact k ▸ le_of_lt h
  · exact h ▸ k
theorem lt_of_lt_of_le {a b c : C} (h : lt a b) (k : le b c) : lt a c := by
  rcases le_iff.1 k with k | k
  · exact lt_trans h k
  · exact k ▸ h
theorem lt_of_le_of_lt {a b c : C} (h : le a b) (k : lt b c) : lt a c := by
  rcases le_iff.1 h with h | h
  · exact lt_trans h k
  · exact h ▸ k
theorem add_comm (a b : C) : add a b = add b a := ext' (Int.add_comm ..) (Int.add_comm ..)
theorem add_assoc (a b c : C) : add (add a b) c = add a (add b c) := ext' (Int.add_assoc ..) (Int.add_assoc ..)
theorem add_zero (a : C) : add a zero = a := ext' (Int.add_zero _) (Int.add_zero _)
theorem zero_add (a : C) : add zero a = a := ext' (Int.zero_add _) (Int.zero_add _)
end C
/-- A way over edges: from one node to another one, at a cost. -/
inductive Walk (E : Nat → Nat → C → Prop) : Nat → Nat → C → Prop
  | nil (a : Nat) : Walk E a a C.zero
  | snoc {a b t : Nat} {c d : C} : Walk E a b c → E b t d → Walk E a t (C.add c d)
namespace Walk
variable {E : Nat → Nat → C → Prop}
theorem single {a b : Nat} {c : C} (h : E a b c) : Walk E a b c := by
  have := Walk.snoc (Walk.nil a) h; rwa [C.zero_add] at this
theorem trans {a b t : Nat} {c d : C} (h : Walk E a b c) (k : Walk E b t d) : Walk E a t (C.add c d) := by
  induction k with
  | nil => rwa [C.add_zero]
  | snoc _ e ih => rw [← C.add_assoc]; exact .snoc ih e
theorem cons {a b t : Nat} {c d : C} (h : E a b c) (k : Walk E b t d) : Walk E a t (C.add c d) := trans (single h) k
theorem rev (hs : ∀ a b c, E a b c → E b a c) {a b : Nat} {c : C} (h : Walk E a b c) : Walk E b a c := by
  induction h with
  | nil => exact .nil _
  | snoc _ e ih => rw [C.add_comm]; exact cons (hs _ _ _ e) ih
theorem mono {E' : Nat → Nat → C → Prop} (hs : ∀ a b c, E a b c → E' a b c) {a b : Nat} {c : C} (h : Walk E a b c) : Walk E' a b c := by
  induction h with
  | nil => exact .nil _
  | snoc _ e ih => exact .snoc ih (hs _ _ _ e)
end Walk
/-- What the way that costs least costs. -/
def Dist (E : Nat → Nat → C → Prop) (a b : Nat) (c : C) : Prop := Walk E a b c ∧ ∀ d, Walk E a b d → C.le c d
namespace Dist
variable {E : Nat → Nat → C → Prop}
theorem symm (hs : ∀ a b c, E a b c → E b a c) {a b : Nat} {c : C} (h : Dist E a b c) : Dist E b a c :=
  ⟨h.1.rev hs, fun d k => h.2 d (k.rev hs)⟩
theorem step {a b t : Nat} {c d e : C} (h : Dist E a b c) (k : E b t d) (l : Dist E a t e) : C.le e (C.add c d) := l.2 _ (h.1.snoc k)
theorem congr {E' : Nat → Nat → C → Prop} (hs : ∀ a b c, E a b c ↔ E' a b c) {a b : Nat} {c : C} : Dist E a b c ↔ Dist E' a b c := by
  have : E = E' := by funext a b c; exact propext (hs a b c)
  rw [this]
end Dist
/-- A grid: its size, and which cells are blocked. -/
structure G where
  w : Nat
  h : Nat
  b : Nat → Bool
def dxN (d : Nat) : Int := match d with | 0 => 0 | 1 => 1 | 2 => 1 | 3 => 1 | 4 => 0 | 5 => -1 | 6 => -1 | _ => -1
def dyN (d : Nat) : Int := match d with | 0 => -1 | 1 => -1 | 2 => 0 | 3 => 1 | 4 => 1 | 5 => 1 | 6 => 0 | _ => -1
/-- What a step in a direction costs. -/
def stepC (d : Nat) : C := if d % 2 = 1 then ⟨0, 1⟩ else ⟨1, 0⟩
namespace G
def ok (g : G) : Prop := 1 ≤ g.w ∧ g.w ≤ 16 ∧ 1 ≤ g.h ∧ g.h ≤ 16
def n (g : G) : Nat := g.w * g.h
def op (g : G) (x y : Int) : Bool := decide (0 ≤ x ∧ x < g.w ∧ 0 ≤ y ∧ y < g.h) && !g.b (y.toNat * g.w + x.toNat)
def may (g : G) (x y : Int) (d : Nat) : Bool := g.op x y && g.op (x + dxN d) (y + dyN d) && g.op (x + dxN d) y && g.op x (y + dyN d)
def X (g : G) (c : Nat) : Nat := c % g.w
def Y (g : G) (c : Nat) : Nat := c / g.w
def cell (g : G) (x y : Nat) : Nat := y * g.w + x
def mayC (g : G) (c d : Nat) : Bool := g.may (g.X c) (g.Y c) d
def toI (g : G) (c : Int) (d : Nat) : Int := c + dxN d + dyN d * g.w
def to (g : G) (c d : Nat) : Nat := (g.toI c d).toNat
theorem n_le {g : G} (h : g.ok) : g.n ≤ 256 := by
  obtain ⟨h1, h2, h3, h4⟩ := h
  have : g.w * g.h ≤ 16 * 16 := Nat.mul_le_mul h2 h4
  exact this
theorem X_lt {g : G} (h : g.ok) (c : Nat) : g.X c < g.w := Nat.mod_lt _ (by have := h.1; omega)
theorem Y_lt {g : G} {c : Nat} (hc : c < g.n) : g.Y c < g.h := by
  unfold Y; apply Nat.div_lt_of_lt_mul; exact hc
theorem XY (g : G) (c : Nat) : g.Y c * g.w + g.X c = c := by unfold X Y; rw [Nat.mul_comm]; exact Nat.div_add_mod c g.w
theorem op_cell {g : G} (h : g.ok) {c : Nat} (hc : c < g.n) : g.op (g.X c) (g.Y c) = !g.b c := by
  unfold op
  have h1 := X_lt h c
  have h2 := Y_lt hc
  rw [decide_eq_true (by omega)]
  simp only [Int.toNat_natCast, XY, Bool.true_and]
/-- One step over cells. -/
def E (g : G) (a b : Nat) (c : C) : Prop := a < g.n ∧ ∃ d, d < 8 ∧ g.mayC a d = true ∧ b = g.to a d ∧ c = stepC d
end G
namespace G
end G
/-- A function, turned at one place. -/
def upd {α : Type} (f : Nat → α) (k : Nat) (v : α) : Nat → α := fun j => if j = k then v else f j
theorem upd_same {α : Type} (f : Nat → α) (k : Nat) (v : α) : upd f k v k = v := if_pos rfl
theorem upd_ne {α : Type} (f : Nat → α) {k j : Nat} (v : α) (h : j ≠ k) : upd f k v j = f j := if_neg h
/-! ### The least first: what stands in the heap, what is done. -/
/-- What holds while the edges of the one that was popped last (k, at c) are gone over: those in 'pend' are still to come. -/
structure Dij (E : Nat → Nat → C → Prop) (from_ : Nat) (done hp : Nat → Option C) (k : Nat) (pend : Nat → C → Prop) : Prop where
  i1 : ∀ j c, done j = some c → Dist E from_ j c
  i2 : ∀ j c, hp j = some c → done j = none ∧ Walk E from_ j c
  i2' : ∀ j c, hp j = some c → ∀ i d, done i = some d → C.le d c
  i3 : ∀ a c b e, done a = some c → E a b e → (a = k ∧ pend b e) ∨ done b ≠ none ∨ ∃ d, hp b = some d ∧ C.le d (C.add c e)
  i4 : done from_ = some C.zero ∨ hp from_ = some C.zero
namespace Dij
variable {E : Nat → Nat → C → Prop}
end Dij
/-! ### A list of what is to be looked at: labels that go down. -/
def sumN (f : Nat → Nat) : Nat → Nat
  | 0 => 0
  | k + 1 => sumN f k + f k
def cntN (p : Nat → Bool) (n : Nat) : Nat := sumN (fun k => if p k then 1 else 0) n
structure Lab (E : Nat → Nat → C → Prop) (from_ n : Nat) (c : Nat → C) (is : Nat → Bool) (todo : List Nat) (i at_ : Nat) (pend : Nat → C → Prop) : Prop where
  i0 : is from_ = true ∧ c from_ = C.zero
  i1 : ∀ b, is b = true → Walk E from_ b (c b) ∧ b < n
  i2 : ∀ t ∈ todo, is t = true
  i3 : ∀ a b e, is a = true → E a b e → a ∈ todo.drop i ∨ (a = at_ ∧ pend b e) ∨ (is b = true ∧ C.le (c b) (C.add (c a) e))
  i4 : ∀ b, is b = true → C.le (c b) ⟨0, cntN is n⟩
namespace Lab
variable {E : Nat → Nat → C → Prop}
end Lab
end FR
