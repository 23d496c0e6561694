/- Plain mathematics: ways turn at corners: whatever is not near comes by a corner within a way that costs least. -/
import Derived.Test.YtkiogciokngjfaaMath2
set_option linter.unusedVariables false
set_option linter.unusedSimpArgs false
namespace FR
namespace G
/-! ### Ways turn at corners. -/
/-- the cell at a place -/
def at_ (g : G) (x y : Int) : Nat := g.cell x.toNat y.toNat
theorem at_XY {g : G} {x y : Int} (h : g.op x y = true) : g.at_ x y < g.n ∧ (g.X (g.at_ x y) : Int) = x ∧ (g.Y (g.at_ x y) : Int) = y := by
  obtain ⟨⟨h1, h2, h3, h4⟩, _⟩ := op_iff.1 h
  unfold at_
  rw [X_cell (by omega), Y_cell (by omega)]
  exact ⟨cell_lt (by omega) (by omega), by omega, by omega⟩
theorem at_of {g : G} (c : Nat) {x y : Int} (hx : (g.X c : Int) = x) (hy : (g.Y c : Int) = y) : g.at_ x y = c := by
  subst hx; subst hy; unfold at_; exact cell_XY g c
/-- A step by a vector. -/
structure V where
  x : Int
  y : Int
def V.unit (v : V) : Prop := (v.x = 1 ∧ v.y = 0) ∨ (v.x = -1 ∧ v.y = 0) ∨ (v.x = 0 ∧ v.y = 1) ∨ (v.x = 0 ∧ v.y = -1)
def V.diag (v : V) : Prop := (v.x = 1 ∨ v.x = -1) ∧ (v.y = 1 ∨ v.y = -1)
/-- from the place x, y one may go by u, v -/
def go (g : G) (x y u v : Int) : Prop := g.op x y = true ∧ g.op (x + u) (y + v) = true ∧ g.op (x + u) y = true ∧ g.op x (y + v) = true
theorem go_straight {g : G} {x y u v : Int} (h : (u = 1 ∧ v = 0) ∨ (u = -1 ∧ v = 0) ∨ (u = 0 ∧ v = 1) ∨ (u = 0 ∧ v = -1)) (h1 : g.op x y = true) (h2 : g.op (x+u) (y+v) = true) : g.go x y u v := by
  refine ⟨h1, h2, ?_, ?_⟩
  · rcases h with ⟨rfl, rfl⟩ | ⟨rfl, rfl⟩ | ⟨rfl, rfl⟩ | ⟨rfl, rfl⟩ <;> simp only [Int.add_zero] at * <;> assumption
  · rcases h with ⟨rfl, rfl⟩ | ⟨rfl, rfl⟩ | ⟨rfl, rfl⟩ | ⟨rfl, rfl⟩ <;> simp only [Int.add_zero] at * <;> assumption
theorem go_E' {g : G} {x y u v : Int} {d : Nat} (hd : d < 8) (hu : dxN d = u) (hv : dyN d = v) (h : g.go x y u v) : g.E (g.at_ x y) (g.at_ (x+u) (y+v)) (stepC d) := by
  obtain ⟨h1, h2, h3, h4⟩ := h
  obtain ⟨a1, a2, a3⟩ := at_XY h1
  have hm : g.mayC (g.at_ x y) d = true := by
    unfold mayC; rw [a2, a3, may_iff, hu, hv]; exact ⟨h1, h2, h3, h4⟩
  obtain ⟨_, t1, t2⟩ := mayC_to hm
  exact ⟨a1, d, hd, hm, at_of _ (by omega) (by omega), rfl⟩
theorem go_E1 {g : G} {x y u v : Int} (k : (u = 1 ∧ v = 0) ∨ (u = -1 ∧ v = 0) ∨ (u = 0 ∧ v = 1) ∨ (u = 0 ∧ v = -1)) (h : g.go x y u v) : g.E (g.at_ x y) (g.at_ (x+u) (y+v)) ⟨1, 0⟩ := by
  obtain ⟨h1, h2, h3⟩ := step_dirN' k
  have := go_E' (dirN_lt u v) h1 h2 h; rwa [h3] at this
theorem go_E2 {g : G} {x y u v : Int} (k : (u = 1 ∨ u = -1) ∧ (v = 1 ∨ v = -1)) (h : g.go x y u v) : g.E (g.at_ x y) (g.at_ (x+u) (y+v)) ⟨0, 1⟩ := by
  obtain ⟨h1, h2, h3⟩ := step_dirN k.1 k.2
  have := go_E' (dirN_lt u v) h1 h2 h; rwa [h3] at this
/-- G1 -/
def Corner (g : G) (c : Nat) : Prop := c < g.n ∧ g.op (g.X c) (g.Y c) = true ∧ ∃ u v : Int, (u = 1 ∨ u = -1) ∧ (v = 1 ∨ v = -1) ∧
  g.op (g.X c + u) (g.Y c + v) = false ∧ g.op (g.X c + u) (g.Y c) = true ∧ g.op (g.X c) (g.Y c + v) = true
theorem corner_at {g : G} {x y u v : Int} (h0 : g.op x y = true) (hu : u = 1 ∨ u = -1) (hv : v = 1 ∨ v = -1) (h1 : g.op (x+u) (y+v) = false) (h2 : g.op (x+u) y = true) (h3 : g.op x (y+v) = true) : g.Corner (g.at_ x y) := by
  obtain ⟨a1, a2, a3⟩ := at_XY h0
  refine ⟨a1, by rw [a2, a3]; exact h0, u, v, hu, hv, ?_, ?_, ?_⟩ <;> rw [a2, a3] <;> assumption
/-- a straight unit step B, and D athwart it -/
def Frame (b1 b2 e1 e2 : Int) : Prop := ((b1 = 1 ∨ b1 = -1) ∧ b2 = 0 ∧ e1 = 0 ∧ (e2 = 1 ∨ e2 = -1)) ∨ (b1 = 0 ∧ (b2 = 1 ∨ b2 = -1) ∧ (e1 = 1 ∨ e1 = -1) ∧ e2 = 0)
theorem Frame.b {b1 b2 e1 e2 : Int} (h : Frame b1 b2 e1 e2) : (b1 = 1 ∧ b2 = 0) ∨ (b1 = -1 ∧ b2 = 0) ∨ (b1 = 0 ∧ b2 = 1) ∨ (b1 = 0 ∧ b2 = -1) := by unfold Frame at h; omega
theorem Frame.e {b1 b2 e1 e2 : Int} (h : Frame b1 b2 e1 e2) : (e1 = 1 ∧ e2 = 0) ∨ (e1 = -1 ∧ e2 = 0) ∨ (e1 = 0 ∧ e2 = 1) ∨ (e1 = 0 ∧ e2 = -1) := by unfold Frame at h; omega
theorem Frame.a {b1 b2 e1 e2 : Int} (h : Frame b1 b2 e1 e2) : (b1 + e1 = 1 ∨ b1 + e1 = -1) ∧ (b2 + e2 = 1 ∨ b2 + e2 = -1) := by unfold Frame at h; omega
theorem Frame.neg {b1 b2 e1 e2 : Int} (h : Frame b1 b2 e1 e2) : Frame b1 b2 (-e1) (-e2) := by unfold Frame at *; omega
/-- a diagonal step: what must be free, by a frame -/
theorem go_diag {g : G} {x y b1 b2 e1 e2 : Int} (h : Frame b1 b2 e1 e2) : g.go x y (b1+e1) (b2+e2) ↔ g.op x y = true ∧ g.op (x+b1+e1) (y+b2+e2) = true ∧ g.op (x+b1) (y+b2) = true ∧ g.op (x+e1) (y+e2) = true := by
  unfold go
  rw [show x + (b1 + e1) = x + b1 + e1 by omega, show y + (b2 + e2) = y + b2 + e2 by omega]
  rcases h with ⟨_, rfl, rfl, _⟩ | ⟨rfl, _, _, rfl⟩ <;> simp only [Int.add_zero] <;> constructor <;> (rintro ⟨h1, h2, h3, h4⟩; refine ⟨h1, h2, ?_, ?_⟩ <;> assumption)
/-- a corner by a frame: blocked at s * B + t * D, free at both -/
theorem corner_fr {g : G} {x y b1 b2 e1 e2 : Int} (h : Frame b1 b2 e1 e2) (h0 : g.op x y = true) (h1 : g.op (x+b1+e1) (y+b2+e2) = false) (h2 : g.op (x+b1) (y+b2) = true) (h3 : g.op (x+e1) (y+e2) = true) : g.Corner (g.at_ x y) := by
  rcases h with ⟨k1, rfl, rfl, k2⟩ | ⟨rfl, k1, k2, rfl⟩
  · simp only [Int.add_zero] at *; exact corner_at h0 k1 k2 h1 h2 h3
  · simp only [Int.add_zero] at *; exact corner_at h0 k2 k1 h1 h3 h2
theorem Frame.negb {b1 b2 e1 e2 : Int} (h : Frame b1 b2 e1 e2) : Frame (-b1) (-b2) e1 e2 := by unfold Frame at *; omega
/-- inside a way of this cost a corner lies on one of the same cost, or another way costs less -/
def Turn (g : G) (p e : Nat) (c : C) : Prop := (∃ q c1 c2, g.Corner q ∧ Walk g.E p q c1 ∧ Walk g.E q e c2 ∧ C.add c1 c2 = c ∧ c1 ≠ C.zero ∧ c2 ≠ C.zero) ∨ ∃ c', Walk g.E p e c' ∧ C.lt c' c
theorem Turn.front {g : G} {o p e : Nat} {c d : C} (h : Turn g p e c) (k : Walk g.E o p d) : Turn g o e (C.add d c) := by
  rcases h with ⟨q, c1, c2, h1, h2, h3, h4, h5, h6⟩ | ⟨c', h1, h2⟩
  · refine .inl ⟨q, _, c2, h1, k.trans h2, h3, by rw [C.add_assoc, h4], ?_, h6⟩
    intro z
    have hn := k.nn fun _ _ _ => E_nn
    have hm := h2.nn fun _ _ _ => E_nn
    apply h5
    have z1 := congrArg C.s z; have z2 := congrArg C.d z
    simp only [C.add, C.zero] at z1 z2
    have := hn.1; have := hn.2; have := hm.1; have := hm.2
    exact C.ext' (by simp only [C.zero]; omega) (by simp only [C.zero]; omega)
  · exact .inr ⟨_, k.trans h1, (C.add_lt_left _).2 h2⟩
theorem Turn.back {g : G} {p e t : Nat} {c d : C} (h : Turn g p e c) (k : Walk g.E e t d) : Turn g p t (C.add c d) := by
  rcases h with ⟨q, c1, c2, h1, h2, h3, h4, h5, h6⟩ | ⟨c', h1, h2⟩
  · refine .inl ⟨q, c1, _, h1, h2, h3.trans k, by rw [← C.add_assoc, h4], h5, ?_⟩
    intro z
    have hn := k.nn fun _ _ _ => E_nn
    have hm := h3.nn fun _ _ _ => E_nn
    apply h6
    have z1 := congrArg C.s z; have z2 := congrArg C.d z
    simp only [C.add, C.zero] at z1 z2
    have := hn.1; have := hn.2; have := hm.1; have := hm.2
    exact C.ext' (by simp only [C.zero]; omega) (by simp only [C.zero]; omega)
  · exact .inr ⟨_, h1.trans k, (C.add_lt_right _).2 h2⟩
/-- k steps by one vector -/
inductive Rep (g : G) (u v : Int) : Nat → Int → Int → Int → Int → Prop
  | nil (x y : Int) : Rep g u v 0 x y x y
  | cons {k : Nat} {x y x' y' : Int} : g.go x y u v → Rep g u v k (x+u) (y+v) x' y' → Rep g u v (k+1) x y x' y'
theorem Rep.snoc {g : G} {u v : Int} {k : Nat} {x y x' y' : Int} (h : Rep g u v k x y x' y') (l : g.go x' y' u v) : Rep g u v (k+1) x y (x'+u) (y'+v) := by
  induction h with
  | nil => exact .cons l (.nil _ _)
  | cons h1 _ ih => exact .cons h1 (ih l)
theorem Rep.walk1 {g : G} {u v : Int} (hu : (u = 1 ∧ v = 0) ∨ (u = -1 ∧ v = 0) ∨ (u = 0 ∧ v = 1) ∨ (u = 0 ∧ v = -1)) {k : Nat} {x y x' y' : Int} (h : Rep g u v k x y x' y') : Walk g.E (g.at_ x y) (g.at_ x' y') ⟨k, 0⟩ := by
  induction h with
  | nil => exact .nil _
  | cons h1 _ ih =>
    have := Walk.cons (go_E1 hu h1) ih
    refine cast (congrArg _ (C.ext' ?_ ?_)) this <;> simp only [C.add] <;> omega
theorem Rep.walk2 {g : G} {u v : Int} (hu : (u = 1 ∨ u = -1) ∧ (v = 1 ∨ v = -1)) {k : Nat} {x y x' y' : Int} (h : Rep g u v k x y x' y') : Walk g.E (g.at_ x y) (g.at_ x' y') ⟨0, k⟩ := by
  induction h with
  | nil => exact .nil _
  | cons h1 _ ih =>
    have := Walk.cons (go_E2 hu h1) ih
    refine cast (congrArg _ (C.ext' ?_ ?_)) this <;> simp only [C.add] <;> omega
theorem Turn.less {g : G} {p t : Nat} {c d d' : C} (h : Walk g.E p t (C.add c d')) (k : C.lt d' d) : Turn g p t (C.add c d) := .inr ⟨_, h, (C.add_lt_left _).2 k⟩
theorem Turn.at {g : G} {p q t : Nat} {c c1 c2 : C} (hq : g.Corner q) (h : Walk g.E p q c1) (k : Walk g.E q t c2) (e : c = C.add c1 c2) (h1 : c1 ≠ C.zero) (h2 : c2 ≠ C.zero) : Turn g p t c :=
  .inl ⟨q, c1, c2, hq, h, k, e.symm, h1, h2⟩
theorem add_ne_zero {c d : C} (h : C.Nn c) (k : 0 ≤ d.s ∧ 0 ≤ d.d ∧ 0 < d.s + d.d) : C.add c d ≠ C.zero := by
  intro z
  have z1 := congrArg C.s z; have z2 := congrArg C.d z
  simp only [C.add, C.zero] at z1 z2
  have := h.1; have := h.2; omega
theorem wnn {g : G} {a b : Nat} {c : C} (h : Walk g.E a b c) : C.Nn c := h.nn fun _ _ _ => E_nn
/-- B, then D -/
theorem turn_BD {g : G} {p : Nat} {c : C} {x y b1 b2 e1 e2 : Int} (F : Frame b1 b2 e1 e2) (h : Walk g.E p (g.at_ x y) c) (h1 : g.go x y b1 b2) (h2 : g.go (x+b1) (y+b2) e1 e2) :
    Turn g p (g.at_ (x+b1+e1) (y+b2+e2)) (C.add c ⟨2, 0⟩) := by
  cases hm : g.op (x+e1) (y+e2) with
  | true =>
    have hd : g.go x y (b1+e1) (b2+e2) := (go_diag F).2 ⟨h1.1, h2.2.1, h1.2.1, hm⟩
    have := h.snoc (go_E2 F.a hd)
    rw [show x + (b1+e1) = x+b1+e1 by omega, show y + (b2+e2) = y+b2+e2 by omega] at this
    exact .less this (by decide)
  | false =>
    have e1' := go_E1 F.b h1
    have e2' := go_E1 F.e h2
    refine .at (corner_fr F.negb h2.1 ?_ ?_ h2.2.1) (h.snoc e1') (.single e2') ?_ (add_ne_zero (wnn h) (by decide)) (by decide)
    · rw [show x + b1 + -b1 + e1 = x + e1 by omega, show y + b2 + -b2 + e2 = y + e2 by omega]; exact hm
    · rw [show x + b1 + -b1 = x by omega, show y + b2 + -b2 = y by omega]; exact h1.1
    · rw [C.add_assoc]; rfl
theorem turn_Bback {g : G} {p : Nat} {c : C} {x y b1 b2 e1 e2 : Int} (F : Frame b1 b2 e1 e2) (h : Walk g.E p (g.at_ x y) c) :
    Turn g p (g.at_ x y) (C.add c ⟨2, 0⟩) := .less (d' := C.zero) (by rwa [C.add_zero]) (by decide)
/-- B, then D - B -/
theorem turn_BDB {g : G} {p : Nat} {c : C} {x y b1 b2 e1 e2 : Int} (F : Frame b1 b2 e1 e2) (h : Walk g.E p (g.at_ x y) c) (h1 : g.go x y b1 b2) (h2 : g.go (x+b1) (y+b2) (-b1+e1) (-b2+e2)) :
    Turn g p (g.at_ (x+e1) (y+e2)) (C.add c ⟨1, 1⟩) := by
  obtain ⟨_, k2, _, _⟩ := (go_diag F.negb).1 h2
  rw [show x + b1 + -b1 + e1 = x + e1 by omega, show y + b2 + -b2 + e2 = y + e2 by omega] at k2
  exact .less (h.snoc (go_E1 F.e (go_straight F.e h1.1 k2))) (by decide)
theorem turn_Aback {g : G} {p : Nat} {c : C} {x y : Int} (h : Walk g.E p (g.at_ x y) c) :
    Turn g p (g.at_ x y) (C.add c ⟨0, 2⟩) := .less (d' := C.zero) (by rwa [C.add_zero]) (by decide)
/-- A, then -B -/
theorem turn_AB {g : G} {p : Nat} {c : C} {x y b1 b2 e1 e2 : Int} (F : Frame b1 b2 e1 e2) (h : Walk g.E p (g.at_ x y) c) (h1 : g.go x y (b1+e1) (b2+e2)) :
    Turn g p (g.at_ (x+e1) (y+e2)) (C.add c ⟨1, 1⟩) := by
  obtain ⟨k1, _, _, k4⟩ := (go_diag F).1 h1
  exact .less (h.snoc (go_E1 F.e (go_straight F.e k1 k4))) (by decide)
theorem Frame.swap {b1 b2 e1 e2 : Int} (h : Frame b1 b2 e1 e2) : Frame e1 e2 b1 b2 := by unfold Frame at *; omega
/-- A, then B - D -/
theorem turn_AA {g : G} {p : Nat} {c : C} {x y b1 b2 e1 e2 : Int} (F : Frame b1 b2 e1 e2) (h : Walk g.E p (g.at_ x y) c) (h1 : g.go x y (b1+e1) (b2+e2)) (h2 : g.go (x+(b1+e1)) (y+(b2+e2)) (b1-e1) (b2-e2)) :
    Turn g p (g.at_ (x+b1+b1) (y+b2+b2)) (C.add c ⟨0, 2⟩) := by
  obtain ⟨k1, _, k3, _⟩ := (go_diag F).1 h1
  have h2' : g.go (x+(b1+e1)) (y+(b2+e2)) (b1+-e1) (b2+-e2) := h2
  obtain ⟨_, l2, _, _⟩ := (go_diag F.neg).1 h2'
  rw [show x + (b1 + e1) + b1 + -e1 = x + b1 + b1 by omega, show y + (b2 + e2) + b2 + -e2 = y + b2 + b2 by omega] at l2
  have w1 := h.snoc (go_E1 F.b (go_straight F.b k1 k3))
  have w2 := w1.snoc (go_E1 F.b (go_straight F.b k3 l2))
  rw [C.add_assoc] at w2
  exact .less w2 (by decide)
/-- B, then A so many times, then D -/
theorem turn_BAD {g : G} {p : Nat} {b1 b2 e1 e2 : Int} (F : Frame b1 b2 e1 e2) : ∀ (k : Nat) (c : C) (x y x' y' : Int), Walk g.E p (g.at_ x y) c → g.go x y b1 b2 →
    Rep g (b1+e1) (b2+e2) k (x+b1) (y+b2) x' y' → g.go x' y' e1 e2 → Turn g p (g.at_ (x'+e1) (y'+e2)) (C.add c ⟨2, k⟩)
  | 0, c, x, y, x', y', h, h1, h2, h3 => by cases h2; exact turn_BD F h h1 h3
  | k+1, c, x, y, x', y', h, h1, h2, h3 => by
    cases h2 with
    | cons h2 r =>
    obtain ⟨q1, q2, q3, q4⟩ := (go_diag F).1 h2
    cases hm : g.op (x+e1) (y+e2) with
    | true =>
      have hd : g.go x y (b1+e1) (b2+e2) := (go_diag F).2 ⟨h1.1, q4, q1, hm⟩
      have w1 := h.snoc (go_E2 F.a hd)
      have hb : g.go (x+(b1+e1)) (y+(b2+e2)) b1 b2 := go_straight F.b (by rw [show x + (b1+e1) = x+b1+e1 by omega, show y + (b2+e2) = y+b2+e2 by omega]; exact q4)
        (by rw [show x + (b1+e1) + b1 = x+b1+b1+e1 by omega, show y + (b2+e2) + b2 = y+b2+b2+e2 by omega]; exact q2)
      have r' : Rep g (b1+e1) (b2+e2) k (x+(b1+e1)+b1) (y+(b2+e2)+b2) x' y' := by
        rw [show x + (b1+e1) + b1 = x+b1+(b1+e1) by omega, show y + (b2+e2) + b2 = y+b2+(b2+e2) by omega]; exact r
      have := turn_BAD F k _ _ _ _ _ w1 hb r' h3
      rwa [C.add_assoc, show C.add ⟨0, 1⟩ ⟨2, (k : Int)⟩ = ⟨2, ((k + 1 : Nat) : Int)⟩ from C.ext' rfl (by simp only [C.add]; omega)] at this
    | false =>
      have w2 := (Rep.walk2 F.a (.cons h2 r)).snoc (go_E1 F.e h3)
      refine .at (corner_fr F.negb h2.1 ?_ ?_ q4) (h.snoc (go_E1 F.b h1)) w2 ?_ (add_ne_zero (wnn h) (by decide)) (add_ne_zero ⟨by simp only; omega, by simp only; omega⟩ (by decide))
      · rw [show x + b1 + -b1 + e1 = x + e1 by omega, show y + b2 + -b2 + e2 = y + e2 by omega]; exact hm
      · rw [show x + b1 + -b1 = x by omega, show y + b2 + -b2 = y by omega]; exact h1.1
      · exact C.ext' (by simp only [C.add]; omega) (by simp only [C.add]; omega)
/-- A, then B so many times, then B - D -/
theorem turn_ABA {g : G} {p : Nat} {b1 b2 e1 e2 : Int} (F : Frame b1 b2 e1 e2) : ∀ (k : Nat) (c : C) (x y x' y' : Int), Walk g.E p (g.at_ x y) c → g.go x y (b1+e1) (b2+e2) →
    Rep g b1 b2 k (x+(b1+e1)) (y+(b2+e2)) x' y' → g.go x' y' (b1-e1) (b2-e2) → Turn g p (g.at_ (x'+(b1-e1)) (y'+(b2-e2))) (C.add c ⟨k, 2⟩)
  | 0, c, x, y, x', y', h, h1, h2, h3 => by
    cases h2
    have := turn_AA F h h1 h3
    rw [show x + (b1+e1) + (b1-e1) = x+b1+b1 by omega, show y + (b2+e2) + (b2-e2) = y+b2+b2 by omega]; exact this
  | k+1, c, x, y, x', y', h, h1, h2, h3 => by
    cases h2 with
    | cons h2 r =>
    obtain ⟨q1, q2, q3, q4⟩ := (go_diag F).1 h1
    have a1 : g.op (x+b1+e1+b1) (y+b2+e2+b2) = true := by have := h2.2.1; rwa [show x + (b1+e1) + b1 = x+b1+e1+b1 by omega, show y + (b2+e2) + b2 = y+b2+e2+b2 by omega] at this
    cases hm : g.op (x+b1+b1) (y+b2+b2) with
    | true =>
      have w1 := h.snoc (go_E1 F.b (go_straight F.b q1 q3))
      have hd : g.go (x+b1) (y+b2) (b1+e1) (b2+e2) := (go_diag F).2 ⟨q3, by rw [show x + b1 + b1 + e1 = x+b1+e1+b1 by omega, show y + b2 + b2 + e2 = y+b2+e2+b2 by omega]; exact a1, hm, q2⟩
      have r' : Rep g b1 b2 k (x+b1+(b1+e1)) (y+b2+(b2+e2)) x' y' := by
        rw [show x+b1+(b1+e1) = x + (b1+e1) + b1 by omega, show y+b2+(b2+e2) = y + (b2+e2) + b2 by omega]; exact r
      have := turn_ABA F k _ _ _ _ _ w1 hd r' h3
      rwa [C.add_assoc, show C.add ⟨1, 0⟩ ⟨(k : Int), 2⟩ = ⟨((k + 1 : Nat) : Int), 2⟩ from C.ext' (by simp only [C.add]; omega) rfl] at this
    | false =>
      have h3' : g.go x' y' (b1+-e1) (b2+-e2) := h3
      have w2 := (Rep.walk1 F.b (.cons h2 r)).snoc (go_E2 F.neg.a h3')
      refine .at (corner_fr F.neg h2.1 ?_ h2.2.1 ?_) (h.snoc (go_E2 F.a h1)) w2 ?_ (add_ne_zero (wnn h) (by decide)) (add_ne_zero ⟨by simp only; omega, by simp only; omega⟩ (by decide))
      · rw [show x + (b1+e1) + b1 + -e1 = x + b1 + b1 by omega, show y + (b2+e2) + b2 + -e2 = y + b2 + b2 by omega]; exact hm
      · rw [show x + (b1+e1) + -e1 = x + b1 by omega, show y + (b2+e2) + -e2 = y + b2 by omega]; exact q3
      · exact C.ext' (by simp only [C.add]; omega) (by simp only [C.add]; omega)
theorem Rep.last {g : G} {u v : Int} {k : Nat} {x y x' y' : Int} (h : Rep g u v k x y x' y') : (k = 0 ∧ x' = x ∧ y' = y) ∨ ∃ j mx my, k = j + 1 ∧ Rep g u v j x y mx my ∧ g.go mx my u v ∧ x' = mx + u ∧ y' = my + v := by
  induction h with
  | nil => exact .inl ⟨rfl, rfl, rfl⟩
  | cons h1 r ih =>
    rcases ih with ⟨rfl, rfl, rfl⟩ | ⟨j, mx, my, rfl, r', h2, e1, e2⟩
    · exact .inr ⟨0, _, _, rfl, .nil _ _, h1, rfl, rfl⟩
    · exact .inr ⟨j+1, mx, my, rfl, .cons h1 r', h2, e1, e2⟩
/-- Where a way stands that has not turned yet: by i steps A and j steps B; the tail says what came last. -/
inductive Tail (g : G) (p : Nat) (b1 b2 e1 e2 x y i j : Int) (c' : C) : Prop
  | zero (hi : i = 0) (hj : j = 0)
  | b (c : C) (mx my : Int) (h : Walk g.E p (g.at_ mx my) c) (k : g.go mx my b1 b2) (ex : x = mx + b1) (ey : y = my + b2) (ec : c' = C.add c ⟨1, 0⟩) (hi : i = 0) (hj : 0 < j)
  | a (c : C) (mx my : Int) (h : Walk g.E p (g.at_ mx my) c) (k : g.go mx my (b1+e1) (b2+e2)) (ex : x = mx + (b1+e1)) (ey : y = my + (b2+e2)) (ec : c' = C.add c ⟨0, 1⟩) (hi : 0 < i) (hj : j = 0)
  | ab (c : C) (k : Nat) (mx my : Int) (h : Walk g.E p (g.at_ mx my) c) (l : g.go mx my (b1+e1) (b2+e2)) (r : Rep g b1 b2 (k+1) (mx+(b1+e1)) (my+(b2+e2)) x y) (ec : c' = C.add c ⟨((k+1 : Nat) : Int), 1⟩) (hi : 0 < i) (hj : 0 < j)
  | ba (c : C) (k : Nat) (mx my : Int) (h : Walk g.E p (g.at_ mx my) c) (l : g.go mx my b1 b2) (r : Rep g (b1+e1) (b2+e2) (k+1) (mx+b1) (my+b2) x y) (ec : c' = C.add c ⟨1, ((k+1 : Nat) : Int)⟩) (hi : 0 < i) (hj : 0 < j)
structure Inv (g : G) (p : Nat) (x y : Int) (b1 b2 e1 e2 i j : Int) : Prop where
  F : Frame b1 b2 e1 e2
  hi : 0 ≤ i
  hj : 0 ≤ j
  ex : x = g.X p + i * (b1 + e1) + j * b1
  ey : y = g.Y p + i * (b2 + e2) + j * b2
  w : Walk g.E p (g.at_ x y) ⟨j, i⟩
  t : Tail g p b1 b2 e1 e2 x y i j ⟨j, i⟩
theorem frame_cases {b1 b2 e1 e2 u v : Int} (F : Frame b1 b2 e1 e2) :
    ((u = 1 ∧ v = 0) ∨ (u = -1 ∧ v = 0) ∨ (u = 0 ∧ v = 1) ∨ (u = 0 ∧ v = -1) → (u = b1 ∧ v = b2) ∨ (u = -b1 ∧ v = -b2) ∨ (u = e1 ∧ v = e2) ∨ (u = -e1 ∧ v = -e2)) ∧
    ((u = 1 ∨ u = -1) ∧ (v = 1 ∨ v = -1) → (u = b1+e1 ∧ v = b2+e2) ∨ (u = b1-e1 ∧ v = b2-e2) ∨ (u = -b1+e1 ∧ v = -b2+e2) ∨ (u = -b1-e1 ∧ v = -b2-e2)) := by
  unfold Frame at F; constructor <;> intro h <;> omega
theorem Inv.oct {g : G} {p : Nat} {x y b1 b2 e1 e2 i j : Int} (H : Inv g p x y b1 b2 e1 e2 i j) : octI (x - g.X p) (y - g.Y p) = ⟨j, i⟩ := by
  obtain ⟨F, hi, hj, ex, ey, _, _⟩ := H
  unfold octI
  unfold Frame at F
  rcases F with ⟨rfl | rfl, rfl, rfl, rfl | rfl⟩ | ⟨rfl, rfl | rfl, rfl | rfl, rfl⟩ <;> split <;> refine C.ext' ?_ ?_ <;> simp only <;> omega

theorem turn_eq {g : G} {p : Nat} {x y x' y' : Int} {c c' : C} (h : Turn g p (g.at_ x y) c) (ex : x' = x) (ey : y' = y) (ec : c' = c) : Turn g p (g.at_ x' y') c' := by subst ex; subst ey; subst ec; exact h
theorem go_eq {g : G} {x y u v x' y' u' v' : Int} (h : g.go x y u v) (ex : x' = x) (ey : y' = y) (eu : u' = u) (ev : v' = v) : g.go x' y' u' v' := by subst ex; subst ey; subst eu; subst ev; exact h
theorem ceq {a b c d : Int} (h : a = c) (k : b = d) : (⟨a, b⟩ : C) = ⟨c, d⟩ := by rw [h, k]
/-- the last step was B -/
theorem lastB {g : G} {p : Nat} {c : C} {mx my b1 b2 e1 e2 u v : Int} (F : Frame b1 b2 e1 e2) (h : Walk g.E p (g.at_ mx my) c) (k : g.go mx my b1 b2) (st : g.go (mx+b1) (my+b2) u v)
    (hs : (u = -b1 ∧ v = -b2) ∨ (u = e1 ∧ v = e2) ∨ (u = -e1 ∧ v = -e2)) : Turn g p (g.at_ (mx+b1+u) (my+b2+v)) (C.add (C.add c ⟨1, 0⟩) ⟨1, 0⟩) := by
  have e : C.add (C.add c ⟨1, 0⟩) ⟨1, 0⟩ = C.add c ⟨2, 0⟩ := by rw [C.add_assoc]; rfl
  rw [e]
  rcases hs with ⟨rfl, rfl⟩ | ⟨rfl, rfl⟩ | ⟨rfl, rfl⟩
  · exact turn_eq (turn_Bback F h) (by omega) (by omega) rfl
  · exact turn_BD F h k st
  · exact turn_BD F.neg h k st
theorem lastB' {g : G} {p : Nat} {c : C} {mx my b1 b2 e1 e2 u v : Int} (F : Frame b1 b2 e1 e2) (h : Walk g.E p (g.at_ mx my) c) (k : g.go mx my b1 b2) (st : g.go (mx+b1) (my+b2) u v)
    (hs : (u = -b1+e1 ∧ v = -b2+e2) ∨ (u = -b1-e1 ∧ v = -b2-e2)) : Turn g p (g.at_ (mx+b1+u) (my+b2+v)) (C.add (C.add c ⟨1, 0⟩) ⟨0, 1⟩) := by
  have e : C.add (C.add c ⟨1, 0⟩) ⟨0, 1⟩ = C.add c ⟨1, 1⟩ := by rw [C.add_assoc]; rfl
  rw [e]
  rcases hs with ⟨rfl, rfl⟩ | ⟨rfl, rfl⟩
  · exact turn_eq (turn_BDB F h k st) (by omega) (by omega) rfl
  · exact turn_eq (turn_BDB F.neg h k st) (by omega) (by omega) rfl
theorem lastA {g : G} {p : Nat} {c : C} {mx my b1 b2 e1 e2 u v : Int} (F : Frame b1 b2 e1 e2) (h : Walk g.E p (g.at_ mx my) c) (k : g.go mx my (b1+e1) (b2+e2))
    (hs : (u = -b1 ∧ v = -b2) ∨ (u = -e1 ∧ v = -e2)) : Turn g p (g.at_ (mx+(b1+e1)+u) (my+(b2+e2)+v)) (C.add (C.add c ⟨0, 1⟩) ⟨1, 0⟩) := by
  have e : C.add (C.add c ⟨0, 1⟩) ⟨1, 0⟩ = C.add c ⟨1, 1⟩ := by rw [C.add_assoc]; rfl
  rw [e]
  rcases hs with ⟨rfl, rfl⟩ | ⟨rfl, rfl⟩
  · exact turn_eq (turn_AB F h k) (by omega) (by omega) rfl
  · exact turn_eq (turn_AB F.swap h (go_eq k rfl rfl (by omega) (by omega))) (by omega) (by omega) rfl
theorem lastA' {g : G} {p : Nat} {c : C} {mx my b1 b2 e1 e2 u v : Int} (F : Frame b1 b2 e1 e2) (h : Walk g.E p (g.at_ mx my) c) (k : g.go mx my (b1+e1) (b2+e2)) (st : g.go (mx+(b1+e1)) (my+(b2+e2)) u v)
    (hs : (u = b1-e1 ∧ v = b2-e2) ∨ (u = -b1+e1 ∧ v = -b2+e2) ∨ (u = -b1-e1 ∧ v = -b2-e2)) : Turn g p (g.at_ (mx+(b1+e1)+u) (my+(b2+e2)+v)) (C.add (C.add c ⟨0, 1⟩) ⟨0, 1⟩) := by
  have e : C.add (C.add c ⟨0, 1⟩) ⟨0, 1⟩ = C.add c ⟨0, 2⟩ := by rw [C.add_assoc]; rfl
  rw [e]
  rcases hs with ⟨rfl, rfl⟩ | ⟨rfl, rfl⟩ | ⟨rfl, rfl⟩
  · exact turn_eq (turn_AA F h k st) (by omega) (by omega) rfl
  · exact turn_eq (turn_AA F.swap h (go_eq k rfl rfl (by omega) (by omega)) (go_eq st (by omega) (by omega) (by omega) (by omega))) (by omega) (by omega) rfl
  · exact turn_eq (turn_Aback h) (by omega) (by omega) rfl
/-- some frame, some counts -/
def Str (g : G) (p : Nat) (x y : Int) : Prop := ∃ b1 b2 e1 e2 i j, Inv g p x y b1 b2 e1 e2 i j
theorem succ_mul' (i b : Int) : (i + 1) * b = i * b + b := by rw [Int.add_mul, Int.one_mul]
/-- one straight step more -/
theorem inv_straight {g : G} {p : Nat} {x y u v b1 b2 e1 e2 i j : Int} (H : Inv g p x y b1 b2 e1 e2 i j) (st : g.go x y u v) (hu : (u = 1 ∧ v = 0) ∨ (u = -1 ∧ v = 0) ∨ (u = 0 ∧ v = 1) ∨ (u = 0 ∧ v = -1)) :
    (∃ b1 b2 e1 e2 j', Inv g p (x+u) (y+v) b1 b2 e1 e2 i j' ∧ j' = j + 1) ∨ Turn g p (g.at_ (x+u) (y+v)) (C.add ⟨j, i⟩ ⟨1, 0⟩) := by
  obtain ⟨F, hi, hj, ex, ey, w, t⟩ := H
  have hc := (frame_cases F).1 hu
  have w' : Walk g.E p (g.at_ (x+u) (y+v)) ⟨j+1, i⟩ := by
    have := w.snoc (go_E1 hu st); rwa [show C.add ⟨j, i⟩ ⟨1, 0⟩ = ⟨j+1, i⟩ from ceq rfl (Int.add_zero _)] at this
  have e1' := succ_mul' j b1
  have e2' := succ_mul' j b2
  cases t with
  | zero h1 h2 =>
    subst h1; subst h2
    obtain ⟨d1, d2, F'⟩ : ∃ d1 d2, Frame u v d1 d2 := by
      rcases hu with ⟨rfl, rfl⟩ | ⟨rfl, rfl⟩ | ⟨rfl, rfl⟩ | ⟨rfl, rfl⟩
      · exact ⟨0, 1, .inl ⟨.inl rfl, rfl, rfl, .inl rfl⟩⟩
      · exact ⟨0, 1, .inl ⟨.inr rfl, rfl, rfl, .inl rfl⟩⟩
      · exact ⟨1, 0, .inr ⟨rfl, .inl rfl, .inl rfl, rfl⟩⟩
      · exact ⟨1, 0, .inr ⟨rfl, .inr rfl, .inl rfl, rfl⟩⟩
    refine .inl ⟨u, v, d1, d2, 1, ⟨F', by omega, by omega, by omega, by omega, w', .b ⟨0, 0⟩ x y w st rfl rfl rfl rfl (by omega)⟩, rfl⟩
  | b c mx my h k ex' ey' ec h1 h2 =>
    subst ex'; subst ey'
    rcases hc with ⟨rfl, rfl⟩ | hc
    · exact .inl ⟨_, _, _, _, _, ⟨F, hi, by omega, by omega, by omega, w', .b _ _ _ w st rfl rfl (ceq rfl (Int.add_zero _).symm) h1 (by omega)⟩, rfl⟩
    · right; rw [ec]; exact lastB F h k st hc
  | a c mx my h k ex' ey' ec h1 h2 =>
    subst ex'; subst ey'
    subst h2
    rcases hc with ⟨rfl, rfl⟩ | hc | ⟨rfl, rfl⟩ | hc
    · refine .inl ⟨_, _, _, _, _, ⟨F, hi, by omega, by omega, by omega, w', .ab c 0 mx my h k (.cons st (.nil _ _)) ?_ h1 (by omega)⟩, rfl⟩
      have q1 := congrArg C.s ec; have q2 := congrArg C.d ec
      simp only [C.add] at q1 q2
      exact C.ext' (by simp only [C.add]; omega) (by simp only [C.add]; omega)
    · right; rw [ec]; exact lastA F h k (.inl hc)
    · refine .inl ⟨_, _, _, _, _, ⟨F.swap, hi, by omega, by rw [Int.add_comm u b1]; omega, by rw [Int.add_comm v b2]; omega, w', .ab c 0 mx my h (go_eq k rfl rfl (by omega) (by omega)) ?_ ?_ h1 (by omega)⟩, rfl⟩
      · rw [Int.add_comm u b1, Int.add_comm v b2]; exact .cons st (.nil _ _)
      · have q1 := congrArg C.s ec; have q2 := congrArg C.d ec
        simp only [C.add] at q1 q2
        exact C.ext' (by simp only [C.add]; omega) (by simp only [C.add]; omega)
    · right; rw [ec]; exact lastA F h k (.inr hc)
  | ab c k mx my h l r ec h1 h2 =>
    rcases hc with ⟨rfl, rfl⟩ | hc
    · refine .inl ⟨_, _, _, _, _, ⟨F, hi, by omega, by omega, by omega, w', .ab c (k+1) mx my h l (r.snoc st) ?_ h1 (by omega)⟩, rfl⟩
      have q1 := congrArg C.s ec; have q2 := congrArg C.d ec
      simp only [C.add] at q1 q2
      exact C.ext' (by simp only [C.add]; omega) (by simp only [C.add]; omega)
    · right
      rcases r.last with ⟨z, _⟩ | ⟨k', nx, ny, z, r', l', ex', ey'⟩
      · omega
      · obtain rfl : k' = k := by omega
        subst ex'; subst ey'
        have w2 := (h.snoc (go_E2 F.a l)).trans (r'.walk1 F.b)
        have := lastB F w2 l' st hc
        refine turn_eq this rfl rfl ?_
        have q1 := congrArg C.s ec; have q2 := congrArg C.d ec
        simp only [C.add] at q1 q2
        exact C.ext' (by simp only [C.add]; omega) (by simp only [C.add]; omega)
  | ba c k mx my h l r ec h1 h2 =>
    have q1 := congrArg C.s ec; have q2 := congrArg C.d ec
    simp only [C.add] at q1 q2
    rcases r.last with ⟨z, _⟩ | ⟨k', nx, ny, z, r', l', ex', ey'⟩
    · omega
    obtain rfl : k' = k := by omega
    have w2 := (h.snoc (go_E1 F.b l)).trans (r'.walk2 F.a)
    rcases hc with ⟨rfl, rfl⟩ | hc | ⟨rfl, rfl⟩ | hc
    · refine .inl ⟨_, _, _, _, _, ⟨F, hi, by omega, by omega, by omega, w', .ab _ 0 nx ny w2 l' ?_ ?_ h1 (by omega)⟩, rfl⟩
      · rw [← ex', ← ey']; exact .cons st (.nil _ _)
      · exact C.ext' (by simp only [C.add]; omega) (by simp only [C.add]; omega)
    · right; subst ex'; subst ey'
      refine turn_eq (lastA F w2 l' (.inl hc)) rfl rfl ?_
      exact C.ext' (by simp only [C.add]; omega) (by simp only [C.add]; omega)
    · right
      refine turn_eq (turn_BAD F (k'+1) c mx my x y h l r st) rfl rfl ?_
      exact C.ext' (by simp only [C.add]; omega) (by simp only [C.add]; omega)
    · right; subst ex'; subst ey'
      refine turn_eq (lastA F w2 l' (.inr hc)) rfl rfl ?_
      exact C.ext' (by simp only [C.add]; omega) (by simp only [C.add]; omega)
/-- one diagonal step more -/
theorem inv_diag {g : G} {p : Nat} {x y u v b1 b2 e1 e2 i j : Int} (H : Inv g p x y b1 b2 e1 e2 i j) (st : g.go x y u v) (hu : (u = 1 ∨ u = -1) ∧ (v = 1 ∨ v = -1)) :
    (∃ b1 b2 e1 e2 i', Inv g p (x+u) (y+v) b1 b2 e1 e2 i' j ∧ i' = i + 1) ∨ Turn g p (g.at_ (x+u) (y+v)) (C.add ⟨j, i⟩ ⟨0, 1⟩) := by
  obtain ⟨F, hi, hj, ex, ey, w, t⟩ := H
  have hc := (frame_cases F).2 hu
  have w' : Walk g.E p (g.at_ (x+u) (y+v)) ⟨j, i+1⟩ := by
    have := w.snoc (go_E2 hu st); rwa [show C.add ⟨j, i⟩ ⟨0, 1⟩ = ⟨j, i+1⟩ from ceq (Int.add_zero _) rfl] at this
  have e1' := succ_mul' i (b1+e1)
  have e2' := succ_mul' i (b2+e2)
  cases t with
  | zero h1 h2 =>
    subst h1; subst h2
    refine .inl ⟨u, 0, 0, v, 1, ⟨.inl ⟨hu.1, rfl, rfl, hu.2⟩, by omega, by omega, by omega, by omega, w', .a ⟨0, 0⟩ x y w (go_eq st rfl rfl (by omega) (by omega)) (by omega) (by omega) rfl (by omega) rfl⟩, rfl⟩
  | b c mx my h k ex' ey' ec h1 h2 =>
    subst ex'; subst ey'
    subst h1
    have q1 := congrArg C.s ec; have q2 := congrArg C.d ec
    simp only [C.add] at q1 q2
    rcases hc with ⟨rfl, rfl⟩ | ⟨rfl, rfl⟩ | hc
    · exact .inl ⟨_, _, _, _, _, ⟨F, by omega, hj, by omega, by omega, w', .ba c 0 mx my h k (.cons st (.nil _ _)) (C.ext' (by simp only [C.add]; omega) (by simp only [C.add]; omega)) (by omega) h2⟩, rfl⟩
    · exact .inl ⟨b1, b2, -e1, -e2, _, ⟨F.neg, by omega, hj, by omega, by omega, w', .ba c 0 mx my h k (.cons st (.nil _ _)) (C.ext' (by simp only [C.add]; omega) (by simp only [C.add]; omega)) (by omega) h2⟩, rfl⟩
    · right; rw [ec]; exact lastB' F h k st hc
  | a c mx my h k ex' ey' ec h1 h2 =>
    subst ex'; subst ey'
    rcases hc with ⟨rfl, rfl⟩ | hc
    · exact .inl ⟨_, _, _, _, _, ⟨F, by omega, hj, by omega, by omega, w', .a _ _ _ w st rfl rfl (ceq (Int.add_zero _).symm rfl) (by omega) h2⟩, rfl⟩
    · right; rw [ec]; exact lastA' F h k st hc
  | ab c k mx my h l r ec h1 h2 =>
    have q1 := congrArg C.s ec; have q2 := congrArg C.d ec
    simp only [C.add] at q1 q2
    rcases r.last with ⟨z, _⟩ | ⟨k', nx, ny, z, r', l', ex', ey'⟩
    · omega
    obtain rfl : k' = k := by omega
    have w2 := (h.snoc (go_E2 F.a l)).trans (r'.walk1 F.b)
    rcases hc with ⟨rfl, rfl⟩ | ⟨rfl, rfl⟩ | hc
    · refine .inl ⟨_, _, _, _, _, ⟨F, by omega, hj, by omega, by omega, w', .ba _ 0 nx ny w2 l' ?_ ?_ (by omega) h2⟩, rfl⟩
      · rw [← ex', ← ey']; exact .cons st (.nil _ _)
      · exact C.ext' (by simp only [C.add]; omega) (by simp only [C.add]; omega)
    · right
      refine turn_eq (turn_ABA F (k'+1) c mx my x y h l r st) rfl rfl ?_
      exact C.ext' (by simp only [C.add]; omega) (by simp only [C.add]; omega)
    · right; subst ex'; subst ey'
      refine turn_eq (lastB' F w2 l' st hc) rfl rfl ?_
      exact C.ext' (by simp only [C.add]; omega) (by simp only [C.add]; omega)
  | ba c k mx my h l r ec h1 h2 =>
    have q1 := congrArg C.s ec; have q2 := congrArg C.d ec
    simp only [C.add] at q1 q2
    rcases hc with ⟨rfl, rfl⟩ | hc
    · refine .inl ⟨_, _, _, _, _, ⟨F, by omega, hj, by omega, by omega, w', .ba c (k+1) mx my h l (r.snoc st) ?_ (by omega) h2⟩, rfl⟩
      exact C.ext' (by simp only [C.add]; omega) (by simp only [C.add]; omega)
    · right
      rcases r.last with ⟨z, _⟩ | ⟨k', nx, ny, z, r', l', ex', ey'⟩
      · omega
      · obtain rfl : k' = k := by omega
        subst ex'; subst ey'
        have w2 := (h.snoc (go_E1 F.b l)).trans (r'.walk2 F.a)
        refine turn_eq (lastA' F w2 l' st hc) rfl rfl ?_
        exact C.ext' (by simp only [C.add]; omega) (by simp only [C.add]; omega)
/-- A way that costs more than octile turns at a corner, or another one costs less. -/
theorem turn_main {g : G} {p e : Nat} {c : C} (h : Walk g.E p e c) : (∃ b1 b2 e1 e2 i j, Inv g p (g.X e) (g.Y e) b1 b2 e1 e2 i j ∧ c = ⟨j, i⟩) ∨ Turn g p e c := by
  induction h with
  | nil => exact .inl ⟨1, 0, 0, 1, 0, 0, ⟨.inl ⟨.inl rfl, rfl, rfl, .inl rfl⟩, by omega, by omega, by omega, by omega, by rw [at_of p rfl rfl]; exact .nil _, .zero rfl rfl⟩, rfl⟩
  | @snoc e t c d w ed ih =>
    rcases ih with ⟨b1, b2, e1, e2, i, j, H, rfl⟩ | T
    · obtain ⟨_, dd, hd, hm, rfl, rfl⟩ := ed
      obtain ⟨hm', hx, hy⟩ := mayC_to hm
      have st : g.go (g.X e) (g.Y e) (dxN dd) (dyN dd) := by have := hm; unfold mayC at this; exact may_iff.1 this
      rw [hx, hy]
      rcases dN_cases hd with ⟨k1, k2⟩ | ⟨k1, k2⟩
      · rw [k1]
        rcases inv_straight H st k2 with ⟨b1, b2, e1, e2, j', H', rfl⟩ | T
        · exact .inl ⟨_, _, _, _, _, _, H', ceq rfl (Int.add_zero _)⟩
        · right; rwa [← hx, ← hy, at_of _ rfl rfl] at T
      · rw [k1]
        rcases inv_diag H st k2 with ⟨b1, b2, e1, e2, i', H', rfl⟩ | T
        · exact .inl ⟨_, _, _, _, _, _, H', ceq (Int.add_zero _) rfl⟩
        · right; rwa [← hx, ← hy, at_of _ rfl rfl] at T
    · exact .inr (T.back (.single ed))
theorem turn_near {g : G} {p e : Nat} {c : C} (h : Walk g.E p e c) : c = g.oct p e ∨ Turn g p e c := by
  rcases turn_main h with ⟨b1, b2, e1, e2, i, j, H, rfl⟩ | T
  · left; rw [oct_symm]; exact H.oct.symm
  · exact .inr T
/-- Whoever is not near comes by a corner: it lies on a way that costs least, and within it. -/
theorem dist_corner {g : G} {p e : Nat} {c : C} (h : Dist g.E p e c) (hn : c ≠ g.oct p e) : ∃ q c1 c2, g.Corner q ∧ Dist g.E p q c1 ∧ Dist g.E q e c2 ∧ C.add c1 c2 = c ∧ c1 ≠ C.zero ∧ c2 ≠ C.zero := by
  rcases turn_near h.1 with rfl | ⟨q, c1, c2, h1, h2, h3, h4, h5, h6⟩ | ⟨c', h1, h2⟩
  · exact absurd rfl hn
  · refine ⟨q, c1, c2, h1, ⟨h2, fun d k => ?_⟩, ⟨h3, fun d k => ?_⟩, h4, h5, h6⟩
    · have := h.2 _ (k.trans h3); rw [← h4] at this; exact (C.add_le_right _).1 this
    · have := h.2 _ (h2.trans k); rw [← h4] at this; exact (C.add_le_left _).1 this
  · exact absurd h2 (h.2 _ h1)
end G
end FR
