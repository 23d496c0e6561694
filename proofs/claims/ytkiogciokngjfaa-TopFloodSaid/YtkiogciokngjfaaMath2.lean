/- Plain mathematics: ways that cost what octile says, by places on a field of diagonal and straight steps. -/
import Derived.Test.YtkiogciokngjfaaMath1
set_option linter.unusedVariables false
set_option linter.unusedSimpArgs false
namespace FR
/-! ### Ways that cost what octile says. -/
theorem Walk.inv {E : Nat → Nat → C → Prop} {a b : Nat} {c : C} (h : Walk E a b c) : (b = a ∧ c = C.zero) ∨ ∃ m d e, Walk E a m d ∧ E m b e ∧ c = C.add d e := by
  cases h with
  | nil => exact .inl ⟨rfl, rfl⟩
  | snoc h e => exact .inr ⟨_, _, _, h, e, rfl⟩
theorem Walk.inv' {E : Nat → Nat → C → Prop} {a b : Nat} {c : C} (h : Walk E a b c) : (b = a ∧ c = C.zero) ∨ ∃ m d e, E a m e ∧ Walk E m b d ∧ c = C.add e d := by
  induction h with
  | nil => exact .inl ⟨rfl, rfl⟩
  | snoc h e ih =>
    rcases ih with ⟨rfl, rfl⟩ | ⟨m, d, e', h1, h2, rfl⟩
    · exact .inr ⟨_, C.zero, _, e, .nil _, by rw [C.zero_add, C.add_zero]⟩
    · exact .inr ⟨m, _, e', h1, h2.snoc e, by rw [C.add_assoc]⟩
namespace G
theorem dN_cases {d : Nat} (h : d < 8) : (stepC d = ⟨1, 0⟩ ∧ ((dxN d = 1 ∧ dyN d = 0) ∨ (dxN d = -1 ∧ dyN d = 0) ∨ (dxN d = 0 ∧ dyN d = 1) ∨ (dxN d = 0 ∧ dyN d = -1))) ∨
    (stepC d = ⟨0, 1⟩ ∧ (dxN d = 1 ∨ dxN d = -1) ∧ (dyN d = 1 ∨ dyN d = -1)) := by
  have : d = 0 ∨ d = 1 ∨ d = 2 ∨ d = 3 ∨ d = 4 ∨ d = 5 ∨ d = 6 ∨ d = 7 := by omega
  rcases this with rfl | rfl | rfl | rfl | rfl | rfl | rfl | rfl <;> decide
/-- a way of so many steps of each kind goes no farther -/
theorem walk_far {g : G} {a b : Nat} {c : C} (h : Walk g.E a b c) : 0 ≤ c.s ∧ 0 ≤ c.d ∧
    (g.X b : Int) - g.X a ≤ c.s + c.d ∧ (g.X a : Int) - g.X b ≤ c.s + c.d ∧ (g.Y b : Int) - g.Y a ≤ c.s + c.d ∧ (g.Y a : Int) - g.Y b ≤ c.s + c.d ∧
    (g.X b : Int) - g.X a + ((g.Y b : Int) - g.Y a) ≤ c.s + 2 * c.d ∧ (g.X b : Int) - g.X a - ((g.Y b : Int) - g.Y a) ≤ c.s + 2 * c.d ∧
    (g.X a : Int) - g.X b + ((g.Y b : Int) - g.Y a) ≤ c.s + 2 * c.d ∧ (g.X a : Int) - g.X b - ((g.Y b : Int) - g.Y a) ≤ c.s + 2 * c.d := by
  induction h with
  | nil => simp [C.zero]
  | snoc _ e ih =>
    obtain ⟨_, d, hd, hm, rfl, rfl⟩ := e
    obtain ⟨_, hx, hy⟩ := mayC_to hm
    rcases dN_cases hd with ⟨e, k⟩ | ⟨e, k1, k2⟩
    · rw [e]; simp only [C.add]; omega
    · rw [e]; simp only [C.add]; omega
end G
/-- The steps of ways that cost what octile says: 'a' the diagonal one, 'b' the straight one; I, J: how many. -/
structure Dirs (I J : Nat) (ax ay bx by_ : Int) : Prop where
  ha : 0 < I → (ax = 1 ∨ ax = -1) ∧ (ay = 1 ∨ ay = -1)
  hb : 0 < J → (bx = 1 ∧ by_ = 0) ∨ (bx = -1 ∧ by_ = 0) ∨ (bx = 0 ∧ by_ = 1) ∨ (bx = 0 ∧ by_ = -1)
  hab : 0 < I → 0 < J → (bx = ax ∧ by_ = 0) ∨ (bx = 0 ∧ by_ = ay)
/-- all the cases that there are -/
theorem Dirs.cases {I J : Nat} {ax ay bx by_ : Int} (h : Dirs I J ax ay bx by_) :
    (I = 0 ∧ J = 0) ∨
    (I = 0 ∧ ((bx = 1 ∧ by_ = 0) ∨ (bx = -1 ∧ by_ = 0) ∨ (bx = 0 ∧ by_ = 1) ∨ (bx = 0 ∧ by_ = -1))) ∨
    (J = 0 ∧ ((ax = 1 ∧ ay = 1) ∨ (ax = 1 ∧ ay = -1) ∨ (ax = -1 ∧ ay = 1) ∨ (ax = -1 ∧ ay = -1))) ∨
    ((ax = 1 ∧ ay = 1 ∧ bx = 1 ∧ by_ = 0) ∨ (ax = 1 ∧ ay = -1 ∧ bx = 1 ∧ by_ = 0) ∨ (ax = -1 ∧ ay = 1 ∧ bx = -1 ∧ by_ = 0) ∨ (ax = -1 ∧ ay = -1 ∧ bx = -1 ∧ by_ = 0) ∨
     (ax = 1 ∧ ay = 1 ∧ bx = 0 ∧ by_ = 1) ∨ (ax = 1 ∧ ay = -1 ∧ bx = 0 ∧ by_ = -1) ∨ (ax = -1 ∧ ay = 1 ∧ bx = 0 ∧ by_ = 1) ∨ (ax = -1 ∧ ay = -1 ∧ bx = 0 ∧ by_ = -1)) := by
  obtain ⟨ha, hb, hab⟩ := h
  by_cases h1 : I = 0
  · by_cases h2 : J = 0
    · exact .inl ⟨h1, h2⟩
    · exact .inr (.inl ⟨h1, hb (by omega)⟩)
  · obtain ⟨h3, h4⟩ := ha (by omega)
    by_cases h2 : J = 0
    · refine .inr (.inr (.inl ⟨h2, ?_⟩))
      rcases h3 with rfl | rfl <;> rcases h4 with rfl | rfl <;> simp
    · have h5 := hab (by omega) (by omega)
      refine .inr (.inr (.inr ?_))
      rcases h3 with rfl | rfl <;> rcases h4 with rfl | rfl <;> rcases h5 with ⟨rfl, rfl⟩ | ⟨rfl, rfl⟩ <;> simp
/-- The last step of a way of i diagonal and j straight steps to i * a + j * b is one of the two. -/
theorem last_step {I J : Nat} {ax ay bx by_ : Int} (H : Dirs I J ax ay bx by_) {i j : Int} (hi0 : 0 ≤ i) (hj0 : 0 ≤ j) (hi : i ≤ I) (hj : j ≤ J) {px py : Int} (hpx : px = i * ax + j * bx) (hpy : py = i * ay + j * by_)
    {sx sy s d : Int} (hst : (s = j - 1 ∧ d = i ∧ ((sx = 1 ∧ sy = 0) ∨ (sx = -1 ∧ sy = 0) ∨ (sx = 0 ∧ sy = 1) ∨ (sx = 0 ∧ sy = -1))) ∨ (s = j ∧ d = i - 1 ∧ (sx = 1 ∨ sx = -1) ∧ (sy = 1 ∨ sy = -1)))
    (h0 : 0 ≤ s) (h1 : 0 ≤ d) (x1 : px - sx ≤ s + d) (x2 : -(px - sx) ≤ s + d) (y1 : py - sy ≤ s + d) (y2 : -(py - sy) ≤ s + d)
    (z1 : px - sx + (py - sy) ≤ s + 2*d) (z2 : px - sx - (py - sy) ≤ s + 2*d) (z3 : -(px - sx) + (py - sy) ≤ s + 2*d) (z4 : -(px - sx) - (py - sy) ≤ s + 2*d) :
    (s = j - 1 ∧ d = i ∧ 1 ≤ j ∧ sx = bx ∧ sy = by_) ∨ (s = j ∧ d = i - 1 ∧ 1 ≤ i ∧ sx = ax ∧ sy = ay) := by
  rcases H.cases with ⟨e1, e2⟩ | ⟨e, h⟩ | ⟨e, h⟩ | h
  · exfalso; omega
  · have e3 : i = 0 := by omega
    subst e3
    rw [Int.zero_mul, Int.zero_add] at hpx hpy
    rcases hst with ⟨rfl, rfl, hu⟩ | ⟨rfl, rfl, hu⟩
    · left
      refine ⟨rfl, rfl, by omega, ?_⟩
      rcases h with ⟨rfl, rfl⟩ | ⟨rfl, rfl⟩ | ⟨rfl, rfl⟩ | ⟨rfl, rfl⟩ <;> rcases hu with ⟨rfl, rfl⟩ | ⟨rfl, rfl⟩ | ⟨rfl, rfl⟩ | ⟨rfl, rfl⟩ <;> first | exact ⟨rfl, rfl⟩ | (exfalso; omega)
    · exfalso; omega
  · have e3 : j = 0 := by omega
    subst e3
    rw [Int.zero_mul, Int.add_zero] at hpx hpy
    rcases hst with ⟨rfl, rfl, hu⟩ | ⟨rfl, rfl, hu⟩
    · exfalso; omega
    · right
      refine ⟨rfl, rfl, by omega, ?_⟩
      rcases h with ⟨rfl, rfl⟩ | ⟨rfl, rfl⟩ | ⟨rfl, rfl⟩ | ⟨rfl, rfl⟩ <;> rcases hu with ⟨rfl | rfl, rfl | rfl⟩ <;> first | exact ⟨rfl, rfl⟩ | (exfalso; omega)
  · rcases hst with ⟨rfl, rfl, hu⟩ | ⟨rfl, rfl, hu⟩
    · left
      refine ⟨rfl, rfl, by omega, ?_⟩
      rcases h with ⟨rfl, rfl, rfl, rfl⟩ | ⟨rfl, rfl, rfl, rfl⟩ | ⟨rfl, rfl, rfl, rfl⟩ | ⟨rfl, rfl, rfl, rfl⟩ | ⟨rfl, rfl, rfl, rfl⟩ | ⟨rfl, rfl, rfl, rfl⟩ | ⟨rfl, rfl, rfl, rfl⟩ | ⟨rfl, rfl, rfl, rfl⟩ <;>
        rcases hu with ⟨rfl, rfl⟩ | ⟨rfl, rfl⟩ | ⟨rfl, rfl⟩ | ⟨rfl, rfl⟩ <;> first | exact ⟨rfl, rfl⟩ | (exfalso; omega)
    · right
      refine ⟨rfl, rfl, by omega, ?_⟩
      rcases h with ⟨rfl, rfl, rfl, rfl⟩ | ⟨rfl, rfl, rfl, rfl⟩ | ⟨rfl, rfl, rfl, rfl⟩ | ⟨rfl, rfl, rfl, rfl⟩ | ⟨rfl, rfl, rfl, rfl⟩ | ⟨rfl, rfl, rfl, rfl⟩ | ⟨rfl, rfl, rfl, rfl⟩ | ⟨rfl, rfl, rfl, rfl⟩ <;>
        rcases hu with ⟨rfl | rfl, rfl | rfl⟩ <;> first | exact ⟨rfl, rfl⟩ | (exfalso; omega)
set_option maxHeartbeats 1000000 in
/-- Whatever lies on such a way lies between. -/
theorem mid_place {I J : Nat} {ax ay bx by_ : Int} (H : Dirs I J ax ay bx by_) {px py : Int} {s d u v : Int} (hs : s + u = J) (hd : d + v = I) (h0 : 0 ≤ s) (h1 : 0 ≤ d) (h2 : 0 ≤ u) (h3 : 0 ≤ v)
    {tx ty : Int} (htx : tx = I * ax + J * bx) (hty : ty = I * ay + J * by_)
    (x1 : px ≤ s + d) (x2 : -px ≤ s + d) (y1 : py ≤ s + d) (y2 : -py ≤ s + d) (z1 : px + py ≤ s + 2*d) (z2 : px - py ≤ s + 2*d) (z3 : -px + py ≤ s + 2*d) (z4 : -px - py ≤ s + 2*d)
    (x1' : tx - px ≤ u + v) (x2' : -(tx - px) ≤ u + v) (y1' : ty - py ≤ u + v) (y2' : -(ty - py) ≤ u + v)
    (z1' : tx - px + (ty - py) ≤ u + 2*v) (z2' : tx - px - (ty - py) ≤ u + 2*v) (z3' : -(tx - px) + (ty - py) ≤ u + 2*v) (z4' : -(tx - px) - (ty - py) ≤ u + 2*v) :
    px = d * ax + s * bx ∧ py = d * ay + s * by_ := by
  rcases H.cases with ⟨e1, e2⟩ | ⟨e, h⟩ | ⟨e, h⟩ | h
  · have e3 : d = 0 := by omega
    have e4 : s = 0 := by omega
    subst e3; subst e4; simp only [Int.zero_mul]; omega
  · have e3 : d = 0 := by omega
    subst e3; subst e
    rcases h with ⟨rfl, rfl⟩ | ⟨rfl, rfl⟩ | ⟨rfl, rfl⟩ | ⟨rfl, rfl⟩ <;> simp only [Int.zero_mul] at * <;> omega
  · have e3 : s = 0 := by omega
    subst e3; subst e
    rcases h with ⟨rfl, rfl⟩ | ⟨rfl, rfl⟩ | ⟨rfl, rfl⟩ | ⟨rfl, rfl⟩ <;> simp only [Int.zero_mul] at * <;> omega
  · rcases h with ⟨rfl, rfl, rfl, rfl⟩ | ⟨rfl, rfl, rfl, rfl⟩ | ⟨rfl, rfl, rfl, rfl⟩ | ⟨rfl, rfl, rfl, rfl⟩ | ⟨rfl, rfl, rfl, rfl⟩ | ⟨rfl, rfl, rfl, rfl⟩ | ⟨rfl, rfl, rfl, rfl⟩ | ⟨rfl, rfl, rfl, rfl⟩ <;> omega
def sgn (n : Int) : Int := if n < 0 then -1 else if 0 < n then 1 else 0
theorem sgn_cases (n : Int) : (n < 0 ∧ sgn n = -1) ∨ (n = 0 ∧ sgn n = 0) ∨ (0 < n ∧ sgn n = 1) := by
  unfold sgn; split
  · left; omega
  · split
    · right; right; omega
    · right; left; omega
/-- the direction of a step (0, if it is none) -/
def dirN (x y : Int) : Nat :=
  if x = 0 ∧ y = -1 then 0 else if x = 1 ∧ y = -1 then 1 else if x = 1 ∧ y = 0 then 2 else if x = 1 ∧ y = 1 then 3
  else if x = 0 ∧ y = 1 then 4 else if x = -1 ∧ y = 1 then 5 else if x = -1 ∧ y = 0 then 6 else if x = -1 ∧ y = -1 then 7 else 0
theorem dirN_lt (x y : Int) : dirN x y < 8 := by unfold dirN; repeat' split
                                                 all_goals decide
theorem dirN_step {d : Nat} (h : d < 8) : dirN (dxN d) (dyN d) = d := by
  have : d = 0 ∨ d = 1 ∨ d = 2 ∨ d = 3 ∨ d = 4 ∨ d = 5 ∨ d = 6 ∨ d = 7 := by omega
  rcases this with rfl | rfl | rfl | rfl | rfl | rfl | rfl | rfl <;> decide
theorem step_dirN {x y : Int} (hx : x = 1 ∨ x = -1) (hy : y = 1 ∨ y = -1) : dxN (dirN x y) = x ∧ dyN (dirN x y) = y ∧ stepC (dirN x y) = ⟨0, 1⟩ := by
  rcases hx with rfl | rfl <;> rcases hy with rfl | rfl <;> decide
theorem step_dirN' {x y : Int} (h : (x = 1 ∧ y = 0) ∨ (x = -1 ∧ y = 0) ∨ (x = 0 ∧ y = 1) ∨ (x = 0 ∧ y = -1)) : dxN (dirN x y) = x ∧ dyN (dirN x y) = y ∧ stepC (dirN x y) = ⟨1, 0⟩ := by
  rcases h with ⟨rfl, rfl⟩ | ⟨rfl, rfl⟩ | ⟨rfl, rfl⟩ | ⟨rfl, rfl⟩ <;> decide
namespace G
variable (g : G) (a b : Nat)
def fdx : Int := (g.X b : Int) - g.X a
def fdy : Int := (g.Y b : Int) - g.Y a
def fI : Nat := min (g.fdx a b).natAbs (g.fdy a b).natAbs
def fJ : Nat := max (g.fdx a b).natAbs (g.fdy a b).natAbs - min (g.fdx a b).natAbs (g.fdy a b).natAbs
def fax : Int := sgn (g.fdx a b)
def fay : Int := sgn (g.fdy a b)
def fbx : Int := if (g.fdy a b).natAbs ≤ (g.fdx a b).natAbs then sgn (g.fdx a b) else 0
def fby : Int := if (g.fdy a b).natAbs ≤ (g.fdx a b).natAbs then 0 else sgn (g.fdy a b)
def fdg : Nat := dirN (g.fax a b) (g.fay a b)
def fst_ : Nat := dirN (g.fbx a b) (g.fby a b)
def fx (i j : Nat) : Int := g.X a + i * g.fax a b + j * g.fbx a b
def fy (i j : Nat) : Int := g.Y a + i * g.fay a b + j * g.fby a b
def fcell (i j : Nat) : Nat := g.cell (g.fx a b i j).toNat (g.fy a b i j).toNat
theorem fDirs : Dirs (g.fI a b) (g.fJ a b) (g.fax a b) (g.fay a b) (g.fbx a b) (g.fby a b) := by
  unfold fI fJ fax fay fbx fby
  have h1 := sgn_cases (g.fdx a b); have h2 := sgn_cases (g.fdy a b)
  generalize sgn (g.fdx a b) = sx at *; generalize sgn (g.fdy a b) = sy at *
  generalize g.fdx a b = x at *; generalize g.fdy a b = y at *
  refine ⟨fun h => by omega, fun h => ?_, fun h h' => ?_⟩
  · split <;> omega
  · split <;> omega
theorem oct_fIJ : g.oct a b = ⟨g.fJ a b, g.fI a b⟩ := by
  unfold oct octI fI fJ
  have e1 : ((g.X a : Int) - g.X b).natAbs = (g.fdx a b).natAbs := by unfold fdx; omega
  have e2 : ((g.Y a : Int) - g.Y b).natAbs = (g.fdy a b).natAbs := by unfold fdy; omega
  rw [e1, e2]
  split <;> apply C.ext' <;> simp <;> omega
theorem fend : g.fdx a b = g.fI a b * g.fax a b + g.fJ a b * g.fbx a b ∧ g.fdy a b = g.fI a b * g.fay a b + g.fJ a b * g.fby a b := by
  unfold fI fJ fax fay fbx fby
  have h1 := sgn_cases (g.fdx a b); have h2 := sgn_cases (g.fdy a b)
  generalize sgn (g.fdx a b) = sx at *; generalize sgn (g.fdy a b) = sy at *
  generalize g.fdx a b = x at *; generalize g.fdy a b = y at *
  rcases h1 with ⟨h1, rfl⟩ | ⟨h1, rfl⟩ | ⟨h1, rfl⟩ <;> rcases h2 with ⟨h2, rfl⟩ | ⟨h2, rfl⟩ | ⟨h2, rfl⟩ <;> split <;> omega
variable {g a b}
/-- between: a place on the field lies in the grid -/
theorem f_in (hg : g.ok) (hb : b < g.n) (ha : a < g.n) {i j : Nat} (hi : i ≤ g.fI a b) (hj : j ≤ g.fJ a b) :
    0 ≤ g.fx a b i j ∧ g.fx a b i j < g.w ∧ 0 ≤ g.fy a b i j ∧ g.fy a b i j < g.h := by
  have h1 := X_lt hg a; have h2 := X_lt hg b; have h3 := Y_lt ha; have h4 := Y_lt hb
  obtain ⟨e1, e2⟩ := g.fend a b
  have H := g.fDirs a b
  unfold fx fy
  unfold fdx at e1; unfold fdy at e2
  generalize g.fax a b = ax at *; generalize g.fay a b = ay at *; generalize g.fbx a b = bx at *; generalize g.fby a b = by_ at *
  generalize g.fI a b = I at *; generalize g.fJ a b = J at *
  rcases H.cases with ⟨q1, q2⟩ | ⟨e, h⟩ | ⟨e, h⟩ | h
  · have : i = 0 := by omega
    have : j = 0 := by omega
    subst i; subst j; simp only [Int.natCast_zero, Int.zero_mul]; omega
  · have : i = 0 := by omega
    subst i; subst e
    rcases h with ⟨rfl, rfl⟩ | ⟨rfl, rfl⟩ | ⟨rfl, rfl⟩ | ⟨rfl, rfl⟩ <;> simp only [Int.natCast_zero, Int.zero_mul] at * <;> omega
  · have : j = 0 := by omega
    subst j; subst e
    rcases h with ⟨rfl, rfl⟩ | ⟨rfl, rfl⟩ | ⟨rfl, rfl⟩ | ⟨rfl, rfl⟩ <;> simp only [Int.natCast_zero, Int.zero_mul] at * <;> omega
  · rcases h with ⟨rfl, rfl, rfl, rfl⟩ | ⟨rfl, rfl, rfl, rfl⟩ | ⟨rfl, rfl, rfl, rfl⟩ | ⟨rfl, rfl, rfl, rfl⟩ | ⟨rfl, rfl, rfl, rfl⟩ | ⟨rfl, rfl, rfl, rfl⟩ | ⟨rfl, rfl, rfl, rfl⟩ | ⟨rfl, rfl, rfl, rfl⟩ <;> omega
theorem fcell_XY (hg : g.ok) (hb : b < g.n) (ha : a < g.n) {i j : Nat} (hi : i ≤ g.fI a b) (hj : j ≤ g.fJ a b) :
    g.fcell a b i j < g.n ∧ (g.X (g.fcell a b i j) : Int) = g.fx a b i j ∧ (g.Y (g.fcell a b i j) : Int) = g.fy a b i j := by
  obtain ⟨h1, h2, h3, h4⟩ := f_in hg hb ha hi hj
  unfold fcell
  rw [X_cell (by omega), Y_cell (by omega)]
  exact ⟨cell_lt (by omega) (by omega), by omega, by omega⟩
theorem eq_fcell (hg : g.ok) (hb : b < g.n) (ha : a < g.n) {i j : Nat} (hi : i ≤ g.fI a b) (hj : j ≤ g.fJ a b) {v : Nat} (hx : (g.X v : Int) = g.fx a b i j) (hy : (g.Y v : Int) = g.fy a b i j) : v = g.fcell a b i j := by
  obtain ⟨_, h1, h2⟩ := fcell_XY hg hb ha hi hj
  rw [← cell_XY g v, ← cell_XY g (g.fcell a b i j)]
  rw [show g.X v = g.X (g.fcell a b i j) by omega, show g.Y v = g.Y (g.fcell a b i j) by omega]
theorem fcell_zero : g.fcell a b 0 0 = a := by
  unfold fcell fx fy; simp; exact cell_XY g a
theorem fcell_end (hg : g.ok) (hb : b < g.n) (ha : a < g.n) : g.fcell a b (g.fI a b) (g.fJ a b) = b := by
  obtain ⟨e1, e2⟩ := g.fend a b
  refine (eq_fcell hg hb ha (Nat.le_refl _) (Nat.le_refl _) ?_ ?_).symm
  · unfold fx; unfold fdx at e1; omega
  · unfold fy; unfold fdy at e2; omega
/-- i diagonal and j straight steps lead there. -/
def On (g : G) (a b i j : Nat) : Prop := Walk g.E a (g.fcell a b i j) ⟨j, i⟩
def Back (g : G) (a b i j : Nat) : Prop := Walk g.E (g.fcell a b i j) b ⟨(g.fJ a b : Int) - j, (g.fI a b : Int) - i⟩
theorem fdg_step (h : 0 < g.fI a b) : dxN (g.fdg a b) = g.fax a b ∧ dyN (g.fdg a b) = g.fay a b ∧ stepC (g.fdg a b) = ⟨0, 1⟩ := by
  obtain ⟨h1, h2⟩ := (g.fDirs a b).ha h; exact step_dirN h1 h2
theorem fst_step (h : 0 < g.fJ a b) : dxN (g.fst_ a b) = g.fbx a b ∧ dyN (g.fst_ a b) = g.fby a b ∧ stepC (g.fst_ a b) = ⟨1, 0⟩ :=
  step_dirN' ((g.fDirs a b).hb h)
theorem fx_succ_i (i j : Nat) : g.fx a b (i+1) j = g.fx a b i j + g.fax a b ∧ g.fy a b (i+1) j = g.fy a b i j + g.fay a b := by
  unfold fx fy
  rw [show ((i+1 : Nat) : Int) = i + 1 by omega, Int.add_mul, Int.add_mul, Int.one_mul, Int.one_mul]; omega
theorem fx_succ_j (i j : Nat) : g.fx a b i (j+1) = g.fx a b i j + g.fbx a b ∧ g.fy a b i (j+1) = g.fy a b i j + g.fby a b := by
  unfold fx fy
  rw [show ((j+1 : Nat) : Int) = j + 1 by omega, Int.add_mul, Int.add_mul, Int.one_mul, Int.one_mul]; omega
/-- the edges of the field -/
theorem edge_i (hg : g.ok) (hb : b < g.n) (ha : a < g.n) {i j : Nat} (hi : i < g.fI a b) (hj : j ≤ g.fJ a b) (hm : g.may (g.fx a b i j) (g.fy a b i j) (g.fdg a b) = true) :
    g.E (g.fcell a b i j) (g.fcell a b (i+1) j) ⟨0, 1⟩ := by
  obtain ⟨q1, q2, q3⟩ := fcell_XY hg hb ha (Nat.le_of_lt hi) hj
  obtain ⟨s1, s2, s3⟩ := fdg_step (show 0 < g.fI a b by omega)
  have hm' : g.mayC (g.fcell a b i j) (g.fdg a b) = true := by unfold mayC; rw [q2, q3]; exact hm
  obtain ⟨_, t1, t2⟩ := mayC_to hm'
  obtain ⟨u1, u2⟩ := fx_succ_i (g := g) (a := a) (b := b) i j
  refine ⟨q1, g.fdg a b, dirN_lt _ _, hm', ?_, s3.symm⟩
  exact (eq_fcell hg hb ha (i := i+1) hi hj (by omega) (by omega)).symm
theorem edge_j (hg : g.ok) (hb : b < g.n) (ha : a < g.n) {i j : Nat} (hi : i ≤ g.fI a b) (hj : j < g.fJ a b) (hm : g.may (g.fx a b i j) (g.fy a b i j) (g.fst_ a b) = true) :
    g.E (g.fcell a b i j) (g.fcell a b i (j+1)) ⟨1, 0⟩ := by
  obtain ⟨q1, q2, q3⟩ := fcell_XY hg hb ha hi (Nat.le_of_lt hj)
  obtain ⟨s1, s2, s3⟩ := fst_step (show 0 < g.fJ a b by omega)
  have hm' : g.mayC (g.fcell a b i j) (g.fst_ a b) = true := by unfold mayC; rw [q2, q3]; exact hm
  obtain ⟨_, t1, t2⟩ := mayC_to hm'
  obtain ⟨u1, u2⟩ := fx_succ_j (g := g) (a := a) (b := b) i j
  refine ⟨q1, g.fst_ a b, dirN_lt _ _, hm', ?_, s3.symm⟩
  exact (eq_fcell hg hb ha (j := j+1) hi hj (by omega) (by omega)).symm
/-- what an edge is of which the ends are known -/
theorem edge_dir {u v d : Nat} (hd : d < 8) (hm : g.mayC u d = true) (hv : v = g.to u d) {x y : Int} (hx : (g.X v : Int) = g.X u + x) (hy : (g.Y v : Int) = g.Y u + y) : d = dirN x y := by
  subst hv
  obtain ⟨_, t1, t2⟩ := mayC_to hm
  rw [show x = dxN d by omega, show y = dyN d by omega]
  exact (dirN_step hd).symm
theorem on_iff (hg : g.ok) (hb : b < g.n) (ha : a < g.n) {i j : Nat} (hi : i ≤ g.fI a b) (hj : j ≤ g.fJ a b) :
    g.On a b i j ↔ (i = 0 ∧ j = 0) ∨ (∃ i', i = i' + 1 ∧ g.On a b i' j ∧ g.may (g.fx a b i' j) (g.fy a b i' j) (g.fdg a b) = true) ∨
      (∃ j', j = j' + 1 ∧ g.On a b i j' ∧ g.may (g.fx a b i j') (g.fy a b i j') (g.fst_ a b) = true) := by
  constructor
  · intro h
    rcases Walk.inv h with ⟨h1, h2⟩ | ⟨m, c, e, h1, h2, h3⟩
    · left
      have e1 := congrArg C.s h2; have e2 := congrArg C.d h2
      simp [C.zero] at e1 e2; exact ⟨e2, e1⟩
    · right
      have hE := h2
      obtain ⟨hmn, d, hd, hm, hto, rfl⟩ := h2
      obtain ⟨f0, f1, x1, x2, y1, y2, z1, z2, z3, z4⟩ := walk_far h1
      obtain ⟨_, t1, t2⟩ := mayC_to hm
      obtain ⟨q1, q2, q3⟩ := fcell_XY hg hb ha hi hj
      have e1 := congrArg C.s h3; have e2 := congrArg C.d h3
      simp only [C.add] at e1 e2
      rw [← hto, q2] at t1; rw [← hto, q3] at t2
      have p1 : g.fx a b i j - g.X a = i * g.fax a b + j * g.fbx a b := by unfold fx; omega
      have p2 : g.fy a b i j - g.Y a = i * g.fay a b + j * g.fby a b := by unfold fy; omega
      have L := last_step (g.fDirs a b) (i := i) (j := j) (by omega) (by omega) (by omega) (by omega) p1 p2 (sx := dxN d) (sy := dyN d) (s := c.s) (d := c.d)
        (by rcases dN_cases hd with ⟨k1, k2⟩ | ⟨k1, k2, k3⟩
            · left; rw [k1] at e1 e2; refine ⟨by simp only at e1; omega, by simp only at e2; omega, k2⟩
            · right; rw [k1] at e1 e2; refine ⟨by simp only at e1; omega, by simp only at e2; omega, k2, k3⟩)
        f0 f1 (by omega) (by omega) (by omega) (by omega) (by omega) (by omega) (by omega) (by omega)
      rcases L with ⟨l1, l2, l3, l4, l5⟩ | ⟨l1, l2, l3, l4, l5⟩
      · right
        obtain ⟨j', rfl⟩ : ∃ j', j = j' + 1 := ⟨j - 1, by omega⟩
        obtain ⟨u1, u2⟩ := fx_succ_j (g := g) (a := a) (b := b) i j'
        have hmc : m = g.fcell a b i j' := eq_fcell hg hb ha hi (by omega) (by omega) (by omega)
        have hdir : d = g.fst_ a b := by unfold fst_; rw [← l4, ← l5]; exact (dirN_step hd).symm
        refine ⟨j', rfl, ?_, ?_⟩
        · unfold On; rw [← hmc]
          have : c = ⟨(j' : Int), (i : Int)⟩ := C.ext' (by simp only; omega) (by simp only; omega)
          rw [← this]; exact h1
        · rw [← hdir]; unfold mayC at hm
          obtain ⟨_, r1, r2⟩ := fcell_XY hg hb ha hi (show j' ≤ g.fJ a b by omega)
          rw [← hmc] at r1 r2; rw [← r1, ← r2]; exact hm
      · left
        obtain ⟨i', rfl⟩ : ∃ i', i = i' + 1 := ⟨i - 1, by omega⟩
        obtain ⟨u1, u2⟩ := fx_succ_i (g := g) (a := a) (b := b) i' j
        have hmc : m = g.fcell a b i' j := eq_fcell hg hb ha (by omega) hj (by omega) (by omega)
        have hdir : d = g.fdg a b := by unfold fdg; rw [← l4, ← l5]; exact (dirN_step hd).symm
        refine ⟨i', rfl, ?_, ?_⟩
        · unfold On; rw [← hmc]
          have : c = ⟨(j : Int), (i' : Int)⟩ := C.ext' (by simp only; omega) (by simp only; omega)
          rw [← this]; exact h1
        · rw [← hdir]; unfold mayC at hm
          obtain ⟨_, r1, r2⟩ := fcell_XY hg hb ha (show i' ≤ g.fI a b by omega) hj
          rw [← hmc] at r1 r2; rw [← r1, ← r2]; exact hm
  · rintro (⟨rfl, rfl⟩ | ⟨i', rfl, h1, h2⟩ | ⟨j', rfl, h1, h2⟩)
    · unfold On; rw [fcell_zero]; exact .nil a
    · have := Walk.snoc h1 (edge_i hg hb ha (by omega) hj h2)
      unfold On
      have e : C.add ⟨(j : Int), (i' : Int)⟩ ⟨0, 1⟩ = ⟨(j : Int), ((i'+1 : Nat) : Int)⟩ := C.ext' (by simp [C.add]) (by simp [C.add])
      rwa [e] at this
    · have := Walk.snoc h1 (edge_j hg hb ha hi (by omega) h2)
      unfold On
      have e : C.add ⟨(j' : Int), (i : Int)⟩ ⟨1, 0⟩ = ⟨((j'+1 : Nat) : Int), (i : Int)⟩ := C.ext' (by simp [C.add]) (by simp [C.add])
      rwa [e] at this
end G
namespace G
variable {g : G} {a b : Nat}
theorem back_iff (hg : g.ok) (hb : b < g.n) (ha : a < g.n) {i j : Nat} (hi : i ≤ g.fI a b) (hj : j ≤ g.fJ a b) :
    g.Back a b i j ↔ (i = g.fI a b ∧ j = g.fJ a b) ∨ (i < g.fI a b ∧ g.may (g.fx a b i j) (g.fy a b i j) (g.fdg a b) = true ∧ g.Back a b (i+1) j) ∨
      (j < g.fJ a b ∧ g.may (g.fx a b i j) (g.fy a b i j) (g.fst_ a b) = true ∧ g.Back a b i (j+1)) := by
  obtain ⟨q1, q2, q3⟩ := fcell_XY hg hb ha hi hj
  constructor
  · intro h
    rcases Walk.inv' h with ⟨h1, h2⟩ | ⟨m, c, e, h2, h1, h3⟩
    · left
      have e1 := congrArg C.s h2; have e2 := congrArg C.d h2
      simp [C.zero] at e1 e2; omega
    · right
      obtain ⟨hmn, d, hd, hm, hto, rfl⟩ := h2
      obtain ⟨f0, f1, x1, x2, y1, y2, z1, z2, z3, z4⟩ := walk_far h1
      obtain ⟨_, t1, t2⟩ := mayC_to hm
      have e1 := congrArg C.s h3; have e2 := congrArg C.d h3
      simp only [C.add] at e1 e2
      rw [← hto, q2] at t1; rw [← hto, q3] at t2
      obtain ⟨d1, d2⟩ := g.fend a b
      have p1 : (g.X b : Int) - g.fx a b i j = ((g.fI a b : Int) - i) * g.fax a b + ((g.fJ a b : Int) - j) * g.fbx a b := by
        rw [Int.sub_mul, Int.sub_mul]; unfold fx; unfold fdx at d1; omega
      have p2 : (g.Y b : Int) - g.fy a b i j = ((g.fI a b : Int) - i) * g.fay a b + ((g.fJ a b : Int) - j) * g.fby a b := by
        rw [Int.sub_mul, Int.sub_mul]; unfold fy; unfold fdy at d2; omega
      have L := last_step (g.fDirs a b) (i := (g.fI a b : Int) - i) (j := (g.fJ a b : Int) - j) (by omega) (by omega) (by omega) (by omega) p1 p2 (sx := dxN d) (sy := dyN d) (s := c.s) (d := c.d)
        (by rcases dN_cases hd with ⟨k1, k2⟩ | ⟨k1, k2, k3⟩
            · left; rw [k1] at e1 e2; refine ⟨by simp only at e1; omega, by simp only at e2; omega, k2⟩
            · right; rw [k1] at e1 e2; refine ⟨by simp only at e1; omega, by simp only at e2; omega, k2, k3⟩)
        f0 f1 (by omega) (by omega) (by omega) (by omega) (by omega) (by omega) (by omega) (by omega)
      rcases L with ⟨l1, l2, l3, l4, l5⟩ | ⟨l1, l2, l3, l4, l5⟩
      · right
        have hjlt : j < g.fJ a b := by omega
        obtain ⟨u1, u2⟩ := fx_succ_j (g := g) (a := a) (b := b) i j
        have hmc : m = g.fcell a b i (j+1) := eq_fcell hg hb ha hi (by omega) (by omega) (by omega)
        have hdir : d = g.fst_ a b := by unfold fst_; rw [← l4, ← l5]; exact (dirN_step hd).symm
        refine ⟨hjlt, ?_, ?_⟩
        · rw [← hdir, ← q2, ← q3]; exact hm
        · unfold Back; rw [← hmc]
          have : c = ⟨(g.fJ a b : Int) - ((j+1 : Nat) : Int), (g.fI a b : Int) - i⟩ := C.ext' (by simp only; omega) (by simp only; omega)
          rw [← this]; exact h1
      · left
        have hilt : i < g.fI a b := by omega
        obtain ⟨u1, u2⟩ := fx_succ_i (g := g) (a := a) (b := b) i j
        have hmc : m = g.fcell a b (i+1) j := eq_fcell hg hb ha (by omega) hj (by omega) (by omega)
        have hdir : d = g.fdg a b := by unfold fdg; rw [← l4, ← l5]; exact (dirN_step hd).symm
        refine ⟨hilt, ?_, ?_⟩
        · rw [← hdir, ← q2, ← q3]; exact hm
        · unfold Back; rw [← hmc]
          have : c = ⟨(g.fJ a b : Int) - j, (g.fI a b : Int) - ((i+1 : Nat) : Int)⟩ := C.ext' (by simp only; omega) (by simp only; omega)
          rw [← this]; exact h1
  · rintro (⟨rfl, rfl⟩ | ⟨h0, h1, h2⟩ | ⟨h0, h1, h2⟩)
    · unfold Back; rw [fcell_end hg hb ha]
      have := Walk.nil (E := g.E) b
      rw [show C.zero = ⟨(g.fJ a b : Int) - g.fJ a b, (g.fI a b : Int) - g.fI a b⟩ from C.ext' (by simp [C.zero]) (by simp [C.zero])] at this
      exact this
    · have := Walk.cons (edge_i hg hb ha h0 hj h1) h2
      unfold Back
      have e : C.add ⟨0, 1⟩ ⟨(g.fJ a b : Int) - j, (g.fI a b : Int) - ((i+1 : Nat) : Int)⟩ = ⟨(g.fJ a b : Int) - j, (g.fI a b : Int) - i⟩ := C.ext' (by simp [C.add]) (by simp only [C.add]; omega)
      rwa [e] at this
    · have := Walk.cons (edge_j hg hb ha hi h0 h1) h2
      unfold Back
      have e : C.add ⟨1, 0⟩ ⟨(g.fJ a b : Int) - ((j+1 : Nat) : Int), (g.fI a b : Int) - i⟩ = ⟨(g.fJ a b : Int) - j, (g.fI a b : Int) - i⟩ := C.ext' (by simp only [C.add]; omega) (by simp [C.add])
      rwa [e] at this
/-- Near: there is a way that costs what octile says. -/
def Near (g : G) (a b : Nat) : Prop := Walk g.E a b (g.oct a b)
theorem near_dist : g.Near a b ↔ Dist g.E a b (g.oct a b) := ⟨fun h => ⟨h, fun _ k => oct_le k⟩, fun h => h.1⟩
theorem near_on (hg : g.ok) (hb : b < g.n) (ha : a < g.n) : g.Near a b ↔ g.On a b (g.fI a b) (g.fJ a b) := by
  unfold Near On; rw [fcell_end hg hb ha, oct_fIJ]
theorem near_back : g.Near a b ↔ g.Back a b 0 0 := by
  unfold Near Back; rw [fcell_zero, oct_fIJ]; simp
theorem on_back_near (hg : g.ok) (hb : b < g.n) (ha : a < g.n) {i j : Nat} (h1 : g.On a b i j) (h2 : g.Back a b i j) : g.Near a b := by
  have := Walk.trans h1 h2
  unfold Near
  rw [oct_fIJ]
  have e : C.add ⟨(j : Int), (i : Int)⟩ ⟨(g.fJ a b : Int) - j, (g.fI a b : Int) - i⟩ = ⟨(g.fJ a b : Int), (g.fI a b : Int)⟩ := C.ext' (by simp only [C.add]; omega) (by simp only [C.add]; omega)
  rwa [e] at this
/-- What lies on a way that costs what octile says. -/
theorem mid_iff (hg : g.ok) (hb : b < g.n) (ha : a < g.n) {v : Nat} : (∃ p q, Walk g.E a v p ∧ Walk g.E v b q ∧ C.add p q = g.oct a b) ↔
    ∃ i j, i ≤ g.fI a b ∧ j ≤ g.fJ a b ∧ v = g.fcell a b i j ∧ g.On a b i j ∧ g.Back a b i j := by
  constructor
  · rintro ⟨p, q, h1, h2, h3⟩
    rw [oct_fIJ] at h3
    obtain ⟨f0, f1, x1, x2, y1, y2, z1, z2, z3, z4⟩ := walk_far h1
    obtain ⟨f0', f1', x1', x2', y1', y2', z1', z2', z3', z4'⟩ := walk_far h2
    have e1 := congrArg C.s h3; have e2 := congrArg C.d h3
    simp only [C.add] at e1 e2
    obtain ⟨d1, d2⟩ := g.fend a b
    have hdx : g.fdx a b = (g.X b : Int) - g.X a := rfl
    have hdy : g.fdy a b = (g.Y b : Int) - g.Y a := rfl
    obtain ⟨m1, m2⟩ := mid_place (g.fDirs a b) (px := (g.X v : Int) - g.X a) (py := (g.Y v : Int) - g.Y a) (s := p.s) (d := p.d) (u := q.s) (v := q.d) e1 e2 f0 f1 f0' f1' d1 d2
      (by omega) (by omega) (by omega) (by omega) (by omega) (by omega) (by omega) (by omega)
      (by omega) (by omega) (by omega) (by omega) (by omega) (by omega) (by omega) (by omega)
    obtain ⟨i, hi⟩ := Int.eq_ofNat_of_zero_le f1
    obtain ⟨j, hj⟩ := Int.eq_ofNat_of_zero_le f0
    rw [hi, hj] at m1 m2
    have hv : v = g.fcell a b i j := eq_fcell hg hb ha (by omega) (by omega) (by unfold fx; omega) (by unfold fy; omega)
    refine ⟨i, j, by omega, by omega, hv, ?_, ?_⟩
    · unfold On; rw [← hv, show (⟨(j : Int), (i : Int)⟩ : C) = p from C.ext' (by simp only; omega) (by simp only; omega)]; exact h1
    · unfold Back; rw [← hv, show (⟨(g.fJ a b : Int) - j, (g.fI a b : Int) - i⟩ : C) = q from C.ext' (by simp only; omega) (by simp only; omega)]; exact h2
  · rintro ⟨i, j, h1, h2, rfl, h3, h4⟩
    refine ⟨_, _, h3, h4, ?_⟩
    rw [oct_fIJ]
    exact C.ext' (by simp only [C.add]; omega) (by simp only [C.add]; omega)
theorem near_symm : g.Near a b ↔ g.Near b a := by
  have key : ∀ a b, g.Near a b → g.Near b a := by
    intro a b h; unfold Near at *; rw [oct_symm]; exact Walk.rev (E := g.E) (fun _ _ _ he => E_symm he) h
  exact ⟨key a b, key b a⟩
end G
end FR
