/- Plain mathematics: a cell that changes far from two corners changes nothing between them. -/
import Derived.Test.YtjejkadaafmdcaaGreatGA
set_option linter.unusedVariables false
set_option linter.unusedSimpArgs false
namespace FR
namespace G
/-- what lies on the field lies in the box of its ends -/
theorem f_box {g : G} {a b : Nat} (i j : Nat) (hi : i ≤ g.fI a b) (hj : j ≤ g.fJ a b) :
    ((g.X a : Int) ≤ g.fx a b i j ∨ (g.X b : Int) ≤ g.fx a b i j) ∧ (g.fx a b i j ≤ g.X a ∨ g.fx a b i j ≤ g.X b) ∧
    ((g.Y a : Int) ≤ g.fy a b i j ∨ (g.Y b : Int) ≤ g.fy a b i j) ∧ (g.fy a b i j ≤ g.Y a ∨ g.fy a b i j ≤ g.Y b) := by
  obtain ⟨e1, e2⟩ := g.fend a b
  have H := g.fDirs a b
  unfold fx fy
  unfold fdx at e1; unfold fdy at e2
  generalize g.fax a b = ax at *; generalize g.fay a b = ay at *; generalize g.fbx a b = bx at *; generalize g.fby a b = by_ at *
  generalize g.fI a b = I at *; generalize g.fJ a b = J at *
  rcases H.cases with ⟨q1, q2⟩ | ⟨e, h⟩ | ⟨e, h⟩ | h
  · have : i = 0 := by omega
    have : j = 0 := by omega
    subst i; subst j; simp only [Int.natCast_zero, Int.zero_mul]; omega
  · have : i = 0 := by omega
    subst i; subst e
    rcases h with ⟨rfl, rfl⟩ | ⟨rfl, rfl⟩ | ⟨rfl, rfl⟩ | ⟨rfl, rfl⟩ <;> simp only [Int.natCast_zero, Int.zero_mul] at * <;> omega
  · have : j = 0 := by omega
    subst j; subst e
    rcases h with ⟨rfl, rfl⟩ | ⟨rfl, rfl⟩ | ⟨rfl, rfl⟩ | ⟨rfl, rfl⟩ <;> simp only [Int.natCast_zero, Int.zero_mul] at * <;> omega
  · rcases h with ⟨rfl, rfl, rfl, rfl⟩ | ⟨rfl, rfl, rfl, rfl⟩ | ⟨rfl, rfl, rfl, rfl⟩ | ⟨rfl, rfl, rfl, rfl⟩ | ⟨rfl, rfl, rfl, rfl⟩ | ⟨rfl, rfl, rfl, rfl⟩ | ⟨rfl, rfl, rfl, rfl⟩ | ⟨rfl, rfl, rfl, rfl⟩ <;> omega
/-- a place between two cells, or next to there -/
def Btw (g : G) (a b : Nat) (x y : Int) : Prop :=
  ((g.X a : Int) - 1 ≤ x ∨ (g.X b : Int) - 1 ≤ x) ∧ (x ≤ g.X a + 1 ∨ x ≤ g.X b + 1) ∧ ((g.Y a : Int) - 1 ≤ y ∨ (g.Y b : Int) - 1 ≤ y) ∧ (y ≤ g.Y a + 1 ∨ y ≤ g.Y b + 1)
/-- another grid that differs at one place alone -/
structure But (g g' : G) (x y : Int) : Prop where
  w : g'.w = g.w
  h : g'.h = g.h
  op : ∀ u v : Int, ¬ (u = x ∧ v = y) → g'.op u v = g.op u v
theorem But.symm {g g' : G} {x y : Int} (h : But g g' x y) : But g' g x y := ⟨h.w.symm, h.h.symm, fun u v k => (h.op u v k).symm⟩
theorem But.X {g g' : G} {x y : Int} (h : But g g' x y) (c : Nat) : g'.X c = g.X c := by unfold G.X; rw [h.w]
theorem But.Y {g g' : G} {x y : Int} (h : But g g' x y) (c : Nat) : g'.Y c = g.Y c := by unfold G.Y; rw [h.w]
theorem But.n {g g' : G} {x y : Int} (h : But g g' x y) : g'.n = g.n := by unfold G.n; rw [h.w, h.h]
theorem But.ok {g g' : G} {x y : Int} (h : But g g' x y) (k : g.ok) : g'.ok := by unfold G.ok at *; rw [h.w, h.h]; exact k
theorem But.oct {g g' : G} {x y : Int} (h : But g g' x y) (a b : Nat) : g'.oct a b = g.oct a b := by unfold G.oct; rw [h.X, h.X, h.Y, h.Y]
theorem But.to {g g' : G} {x y : Int} (h : But g g' x y) (a d : Nat) : g'.to a d = g.to a d := by unfold G.to G.toI; rw [h.w]
theorem But.btw {g g' : G} {x y : Int} (h : But g g' x y) (a b : Nat) (u v : Int) : g'.Btw a b u v ↔ g.Btw a b u v := by unfold Btw; rw [h.X, h.X, h.Y, h.Y]
theorem but_set {g : G} {z : Nat} {t : Bool} (hz : z < g.n) : But g ⟨g.w, g.h, upd g.b z t⟩ (g.X z) (g.Y z) := by
  refine ⟨rfl, rfl, fun u v h => ?_⟩
  unfold G.op
  simp only
  by_cases hd : 0 ≤ u ∧ u < g.w ∧ 0 ≤ v ∧ v < g.h
  · rw [decide_eq_true hd]
    simp only [Bool.true_and]
    congr 1
    refine upd_ne _ _ ?_
    intro e
    apply h
    obtain ⟨p, hp⟩ : ∃ p : Nat, u = p := ⟨u.toNat, by omega⟩
    obtain ⟨q, hq⟩ : ∃ q : Nat, v = q := ⟨v.toNat, by omega⟩
    subst hp; subst hq
    simp only [Int.toNat_natCast] at e
    have hpw : p < g.w := by omega
    have e1 := X_cell (g := g) (y := q) hpw
    have e2 := Y_cell (g := g) (y := q) hpw
    unfold cell at e1 e2
    rw [e] at e1 e2
    rw [e1, e2]
    exact ⟨rfl, rfl⟩
  · rw [decide_eq_false hd]
    simp
/-- a corner hangs on the cells beside it -/
theorem corner_far {g g' : G} {x y : Int} (h : But g g' x y) {c : Nat} (hf : ¬ ((g.X c : Int) - 1 ≤ x ∧ x ≤ g.X c + 1 ∧ (g.Y c : Int) - 1 ≤ y ∧ y ≤ g.Y c + 1)) : g'.Corner c ↔ g.Corner c := by
  have key : ∀ u v : Int, -1 ≤ u → u ≤ 1 → -1 ≤ v → v ≤ 1 → g'.op ((g.X c : Int) + u) ((g.Y c : Int) + v) = g.op ((g.X c : Int) + u) ((g.Y c : Int) + v) := fun u v h1 h2 h3 h4 => h.op _ _ (by omega)
  have k0 := key 0 0 (by omega) (by omega) (by omega) (by omega)
  rw [Int.add_zero, Int.add_zero] at k0
  unfold Corner
  rw [h.n, h.X, h.Y, k0]
  refine and_congr_right fun _ => and_congr_right fun _ => exists_congr fun u => exists_congr fun v => and_congr_right fun hu => and_congr_right fun hv => ?_
  have k1 := key u v (by omega) (by omega) (by omega) (by omega)
  have k2 := key u 0 (by omega) (by omega) (by omega) (by omega)
  have k3 := key 0 v (by omega) (by omega) (by omega) (by omega)
  rw [Int.add_zero] at k2 k3
  rw [k1, k2, k3]
/-- cells on ways as short as can be lie in the box -/
theorem mid_box {g : G} (hg : g.ok) {a b : Nat} (hb : b < g.n) (ha : a < g.n) {k : Nat} (h : g.Mid a b k) :
    ((g.X a : Int) ≤ g.X k ∨ (g.X b : Int) ≤ g.X k) ∧ ((g.X k : Int) ≤ g.X a ∨ (g.X k : Int) ≤ g.X b) ∧
    ((g.Y a : Int) ≤ g.Y k ∨ (g.Y b : Int) ≤ g.Y k) ∧ ((g.Y k : Int) ≤ g.Y a ∨ (g.Y k : Int) ≤ g.Y b) := by
  obtain ⟨i, j, h1, h2, rfl, _, _⟩ := (mid_iff hg hb ha).1 h
  obtain ⟨_, e1, e2⟩ := fcell_XY hg hb ha h1 h2
  rw [e1, e2]
  exact f_box i j h1 h2
theorem walk_far_keeps {g g' : G} (hg : g.ok) {x y : Int} (h : But g g' x y) {a b : Nat} (hb : b < g.n) (ha : a < g.n) (hf : ¬ g.Btw a b x y) {k : Nat} {p : C} (h1 : Walk g.E a k p) :
    ∀ q, Walk g.E k b q → C.add p q = g.oct a b → Walk g'.E a k p := by
  induction h1 with
  | nil => intro _ _ _; exact .nil _
  | @snoc m k p e hw he ih =>
    intro q hq hpq
    have hm : Walk g'.E a m p := ih (C.add e q) (Walk.cons he hq) (by rw [← C.add_assoc]; exact hpq)
    have b1 := mid_box hg hb ha ⟨p, C.add e q, hw, Walk.cons he hq, by rw [← C.add_assoc]; exact hpq⟩
    have b2 := mid_box hg hb ha ⟨C.add p e, q, hw.snoc he, hq, hpq⟩
    refine hm.snoc ?_
    obtain ⟨e1, d, e2, e3, e4, e5⟩ := he
    obtain ⟨_, x1, y1⟩ := mayC_to e3
    rw [← e4] at x1 y1
    refine ⟨by rw [h.n]; exact e1, d, e2, ?_, by rw [h.to]; exact e4, e5⟩
    unfold mayC at e3 ⊢
    rw [may_iff] at e3 ⊢
    rw [h.X, h.Y]
    obtain ⟨o1, o2, o3, o4⟩ := e3
    unfold Btw at hf
    refine ⟨?_, ?_, ?_, ?_⟩
    · rw [h.op _ _ (by omega)]; exact o1
    · rw [h.op _ _ (by omega)]; exact o2
    · rw [h.op _ _ (by omega)]; exact o3
    · rw [h.op _ _ (by omega)]; exact o4
theorem btw_symm {g : G} {a b : Nat} {x y : Int} : g.Btw a b x y ↔ g.Btw b a x y := by unfold Btw; omega
theorem mid_far {g g' : G} (hg : g.ok) {x y : Int} (h : But g g' x y) {a b : Nat} (hb : b < g.n) (ha : a < g.n) (hf : ¬ g.Btw a b x y) {k : Nat} (hm : g.Mid a b k) : g'.Mid a b k := by
  obtain ⟨p, q, h1, h2, h3⟩ := hm
  refine ⟨p, q, walk_far_keeps hg h hb ha hf h1 q h2 h3, ?_, by rw [h.oct]; exact h3⟩
  have r1 := Walk.rev (E := g.E) (fun _ _ _ he => E_symm he) h2
  have r2 := Walk.rev (E := g.E) (fun _ _ _ he => E_symm he) h1
  have r3 := walk_far_keeps hg h ha hb (fun hh => hf (btw_symm.1 hh)) r1 p r2 (by rw [C.add_comm, h3, oct_symm])
  exact Walk.rev (E := g'.E) (fun _ _ _ he => E_symm he) r3
theorem near_far {g g' : G} (hg : g.ok) {x y : Int} (h : But g g' x y) {a b : Nat} (hb : b < g.n) (ha : a < g.n) (hf : ¬ g.Btw a b x y) (hm : g.Near a b) : g'.Near a b := by
  unfold Near at *
  rw [h.oct]
  exact walk_far_keeps hg h hb ha hf hm C.zero (.nil b) (C.add_zero _)
/-- far from the cell nothing changes -/
theorem direct_far {g g' : G} (hg : g.ok) {x y : Int} (h : But g g' x y) {a b : Nat} (hb : b < g.n) (ha : a < g.n) (hf : ¬ g.Btw a b x y) : g'.Direct a b ↔ g.Direct a b := by
  have key : ∀ {g g' : G}, g.ok → But g g' x y → b < g.n → a < g.n → ¬ g.Btw a b x y → g.Direct a b → g'.Direct a b := by
    rintro g g' hg h hb ha hf ⟨h1, h2⟩
    have hg' := h.ok hg
    have hf' : ¬ g'.Btw a b x y := fun hh => hf ((h.btw a b x y).1 hh)
    refine ⟨near_far hg h hb ha hf h1, fun k hk n1 n2 hm => ?_⟩
    have hm' := mid_far hg' h.symm (by rw [h.n]; exact hb) (by rw [h.n]; exact ha) hf' hm
    have bx := mid_box hg hb ha hm'
    refine h2 k ((corner_far h ?_).1 hk) n1 n2 hm'
    unfold Btw at hf
    omega
  exact ⟨key (h.ok hg) h.symm (by rw [h.n]; exact hb) (by rw [h.n]; exact ha) (fun hh => hf ((h.btw a b x y).1 hh)), key hg h hb ha hf⟩
end G
end FR
