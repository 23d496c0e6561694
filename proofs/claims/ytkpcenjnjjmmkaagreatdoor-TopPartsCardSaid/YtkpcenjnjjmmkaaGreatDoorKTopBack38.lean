/- Lemmas of this claim: MathAsk2, MathAsk3, HntA, SrG, MathAsk4, MathAsk5. -/
import Derived.Test.YtkpcenjnjjmmkaaGreatDoorKTopBack11
import Derived.Test.YtkpcenjnjjmmkaaGreatDoorKTopBack24
import Derived.Test.YtkpcenjnjjmmkaaGreatDoorSr7
import Derived.Test.YtkpcenjnjjmmkaaGreatDoorKTopBack19
set_option linter.unusedVariables false
set_option linter.unusedSimpArgs false
/- What the search tells, as a way from stop to stop (plain). -/
namespace Go.Proofs.YtkpcenjnjjmmkaaGreatDoor
open FR
theorem corner_open {g : G} (hok : g.ok) {c : Nat} (h : g.Corner c) : g.b c = false := by
  have := G.op_cell hok h.1
  rw [h.2.1] at this
  simpa using this.symm
theorem ge_nr {g : G} (hok : g.ok) {a b : Nat} {c : C} (h : g.GE a b c) : NrE g a b c := ⟨h.1.1, h.2.1.1, corner_open hok h.1, corner_open hok h.2.1, h.2.2.2.1.1, h.2.2.2.2⟩
theorem nr_walk {g : G} {a b : Nat} {c : C} (h : NrE g a b c) : Walk g.E a b c := by
  obtain ⟨_, _, _, _, h, rfl⟩ := h
  exact h
theorem lw_map {E F : Nat → Nat → C → Prop} (hE : ∀ a b c, E a b c → F a b c) : ∀ {W : List Nat} {c : C}, LS.LW E W c → LS.LW F W c
  | _, _, .one a => .one a
  | _, _, .cons he h => .cons (hE _ _ _ he) (lw_map hE h)
theorem lw_nr_walk {g : G} : ∀ {W : List Nat} {a b : Nat} {c : C}, LS.LW (NrE g) (a :: W) c → (a :: W).getLast? = some b → Walk g.E a b c
  | [], a, b, c, h, hb => by cases h; simp at hb; subst hb; exact .nil _
  | x :: l, a, b, c, h, hb => by
    cases h with
    | cons he h => exact (nr_walk he).trans (lw_nr_walk h (by simpa using hb))
theorem last_cons (x : Nat) (W : List Nat) (y : Nat) : (x :: (W ++ [y])).getLast? = some y := by
  rw [show x :: (W ++ [y]) = (x :: W) ++ [y] from rfl, List.getLast?_append]; rfl
theorem best_dist {g : G} {x y : Nat} {b : C} (h : BestIs g (eAt g x) (eAt g y) b true) (hn : ¬ g.Near x y) : Dist g.E x y b := by
  have hw := tot_walk (h.2 rfl).1
  obtain ⟨d, hd⟩ := Dist.exist (fun _ _ _ he => G.E_nn he) hw
  have ht : TotL g (eAt g x) (eAt g y) d := eAt_tot.2 (G2.by_corners hd hn)
  obtain rfl : b = d := C.le_antisymm ((h.2 rfl).2 _ ht) (hd.2 _ hw)
  exact hd
theorem best_none {g : G} {x y : Nat} {b : C} (h : BestIs g (eAt g x) (eAt g y) b false) (hn : ¬ g.Near x y) (c : C) : ¬ Walk g.E x y c := fun hw => by
  obtain ⟨d, hd⟩ := Dist.exist (fun _ _ _ he => G.E_nn he) hw
  exact (h.1 rfl).2 _ (eAt_tot.2 (G2.by_corners hd hn))
theorem stops_of {g : G} (hok : g.ok) {x y : Nat} (hx : x < g.n) (hy : y < g.n) (fx : g.b x = false) (fy : g.b y = false) {cT : C} {Wy : List Nat} {f : Int → Option C} (hB : BestIs g (eAt g x) (eAt g y) cT true)
    (hF : FinK (eAt g y) (eAt g y).length f) (hW : WayIs g (srF f) (eAt g x) cT Wy) (hn : ¬ g.Near x y) : LS.LW (NrE g) (x :: (Wy ++ [y])) cT := by
  obtain ⟨s, t, d, cw, e, h1, h2, h3, h4, h5, h6⟩ := hW
  obtain ⟨q1, q2, rfl⟩ := eAt_src.1 h1
  obtain ⟨e', he', hto, rfl⟩ := hF.some_ _ _ (show f (t : Nat) = some e from h5)
  obtain ⟨z, r1, _, r2, rfl⟩ := mem_eUp.1 he'
  obtain rfl : z = t := Int.ofNat_inj.1 hto
  have l1 : LS.LW (NrE g) Wy cw := lw_map (fun _ _ _ => ge_nr hok) h4
  have n1 : NrE g x s (g.oct x s) := ⟨hx, q1.1, fx, corner_open hok q1, q2.1, rfl⟩
  have n2 : NrE g z y (g.oct y z) := ⟨r1.1, hy, corner_open hok r1, fy, G.near_symm.1 r2.1, G.oct_symm ..⟩
  have l2 : LS.LW (NrE g) (Wy ++ [y]) (C.add cw (g.oct y z)) := by
    have := lw_join l1 h3 (LS.LW.cons n2 (LS.LW.one y))
    rwa [C.add_zero] at this
  have l3 : LS.LW (NrE g) (x :: (Wy ++ [y])) (C.add (g.oct x s) (C.add cw (g.oct y z))) := by
    cases Wy with
    | nil => simp at h2
    | cons w l =>
      simp at h2; subst h2
      exact LS.LW.cons n1 l2
  have hw : Walk g.E x y (C.add (g.oct x s) (C.add cw (g.oct y z))) := lw_nr_walk l3 (last_cons ..)
  have e : C.add (g.oct x s) (C.add cw (g.oct y z)) = cT := C.le_antisymm h6 ((best_dist hB hn).2 _ hw)
  rw [← e]; exact l3
/-- what an ask is answered -/
def AskIs (g : G) (x y : Int) (W : List Nat) (c : C) (e : Nat) : Prop :=
  (flt2 g x y ≠ 0 ∧ e = flt2 g x y ∧ W = [] ∧ c = C.zero) ∨
  ∃ a b : Nat, x = (a : Nat) ∧ y = (b : Nat) ∧ a < g.n ∧ b < g.n ∧ g.b a = false ∧ g.b b = false ∧
    (((∀ d, ¬ Walk g.E a b d) ∧ e = 5 ∧ W = [] ∧ c = C.zero) ∨ (Dist g.E a b c ∧ e = 0 ∧ LS.LW g.E W c ∧ W.head? = some a ∧ W.getLast? = some b))
end Go.Proofs.YtkpcenjnjjmmkaaGreatDoor
/- Answers to asks, against each other (plain). -/
namespace Go.Proofs.YtkpcenjnjjmmkaaGreatDoor
open FR
theorem flt2_both {g : G} {x y : Int} (h1 : g.fault x = 0) (h2 : g.fault y = 0) : flt2 g x y = 0 := by
  unfold flt2; rw [if_neg (by simp [h1]), h2]
theorem AskIs.cells {g : G} {x y : Int} {W : List Nat} {c : C} {e : Nat} (h : AskIs g x y W c e) (h0 : flt2 g x y = 0) :
    ∃ a b : Nat, x = (a : Nat) ∧ y = (b : Nat) ∧ a < g.n ∧ b < g.n ∧ g.b a = false ∧ g.b b = false ∧
      (((∀ d, ¬ Walk g.E a b d) ∧ e = 5 ∧ W = [] ∧ c = C.zero) ∨ (Dist g.E a b c ∧ e = 0 ∧ LS.LW g.E W c ∧ W.head? = some a ∧ W.getLast? = some b)) := by
  rcases h with ⟨h, _⟩ | h
  · exact absurd h0 h
  · exact h
theorem AskIs.ok {g : G} {x y : Int} {W : List Nat} {c : C} {e : Nat} (h : AskIs g x y W c e) (he : e = 0) :
    ∃ a b : Nat, x = (a : Nat) ∧ y = (b : Nat) ∧ a < g.n ∧ b < g.n ∧ g.b a = false ∧ g.b b = false ∧ Dist g.E a b c ∧ LS.LW g.E W c ∧ W.head? = some a ∧ W.getLast? = some b := by
  rcases h with ⟨h1, h2, _⟩ | ⟨a, b, h1, h2, h3, h4, h5, h6, h7 | ⟨h7, _, h8⟩⟩
  · exact absurd (h2.symm.trans he) h1
  · omega
  · exact ⟨a, b, h1, h2, h3, h4, h5, h6, h7, h8⟩
/-- back it is as far as there -/
theorem ask_back {g : G} {x y : Int} {W W' : List Nat} {c c' : C} {e e' : Nat} (h : AskIs g x y W c e) (k : AskIs g y x W' c' e') : c = c' ∧ (e = 0 ↔ e' = 0) := by
  by_cases h0 : flt2 g x y = 0
  · obtain ⟨f1, f2⟩ := flt2_zero h0
    obtain ⟨a, b, rfl, rfl, _, _, _, _, hh⟩ := h.cells h0
    obtain ⟨a', b', e1, e2, _, _, _, _, kk⟩ := k.cells (flt2_both f2 f1)
    obtain rfl : b = a' := Int.ofNat_inj.1 e1
    obtain rfl : a = b' := Int.ofNat_inj.1 e2
    have hr : ∀ {a b : Nat} {d : C}, Walk g.E a b d → Walk g.E b a d := fun h => Walk.rev (E := g.E) (fun _ _ _ he => G.E_symm he) h
    rcases hh with ⟨h1, h2, _, h3⟩ | ⟨h1, h2, _⟩ <;> rcases kk with ⟨k1, k2, _, k3⟩ | ⟨k1, k2, _⟩
    · exact ⟨by rw [h3, k3], by omega⟩
    · exact absurd (hr k1.1) (h1 _)
    · exact absurd (hr h1.1) (k1 _)
    · exact ⟨Dist.unique h1 (G2.dist_rev k1), by omega⟩
  · have h0' : flt2 g y x ≠ 0 := fun q => h0 (flt2_both (flt2_zero q).2 (flt2_zero q).1)
    rcases h with ⟨_, h2, _, h3⟩ | ⟨a, b, rfl, rfl, a1, a2, a3, a4, _⟩
    · rcases k with ⟨_, k2, _, k3⟩ | ⟨a, b, rfl, rfl, a1, a2, a3, a4, _⟩
      · exact ⟨by rw [h3, k3], by omega⟩
      · exact absurd (flt2_both (by rw [G.fault_in a1, a3]; rfl) (by rw [G.fault_in a2, a4]; rfl)) h0'
    · exact absurd (flt2_both (by rw [G.fault_in a1, a3]; rfl) (by rw [G.fault_in a2, a4]; rfl)) h0
/-- by a third cell it is never nearer -/
theorem ask_via {g : G} {x y z : Int} {W W1 W2 : List Nat} {c c1 c2 : C} {e : Nat} (h : AskIs g x y W c e) (h1 : AskIs g x z W1 c1 0) (h2 : AskIs g z y W2 c2 0) : e = 0 ∧ C.le c (C.add c1 c2) := by
  obtain ⟨a, m, rfl, rfl, a1, a2, a3, a4, hd1, _⟩ := h1.ok rfl
  obtain ⟨m', b, e1, rfl, b1, b2, b3, b4, hd2, _⟩ := h2.ok rfl
  obtain rfl : m = m' := Int.ofNat_inj.1 e1
  obtain ⟨a', b', e1, e2, _, _, _, _, hh⟩ := h.cells (flt2_both (by rw [G.fault_in a1, a3]; rfl) (by rw [G.fault_in b2, b4]; rfl))
  obtain rfl : a = a' := Int.ofNat_inj.1 e1
  obtain rfl : b = b' := Int.ofNat_inj.1 e2
  have hw : Walk g.E a b (C.add c1 c2) := hd1.1.trans hd2.1
  rcases hh with ⟨h1, _⟩ | ⟨h1, h2, _⟩
  · exact absurd hw (h1 _)
  · exact ⟨h2, h1.2 _ hw⟩
/-- a way in two parts -/
theorem lw_split {E : Nat → Nat → C → Prop} : ∀ {W : List Nat} {c : C} {a b z : Nat} {i : Nat}, LS.LW E W c → W.head? = some a → W.getLast? = some b → W[i]? = some z → ∃ c1 c2, Walk E a z c1 ∧ Walk E z b c2 ∧ c = C.add c1 c2
  | _, _, a, b, z, 0, h, ha, hb, hz => by
    cases h with
    | one x =>
      simp at ha hb hz; subst ha; subst hb; subst hz
      exact ⟨C.zero, C.zero, .nil _, .nil _, by rw [C.add_zero]⟩
    | cons he h =>
      simp at ha hz; subst ha; subst hz
      exact ⟨C.zero, _, .nil _, Walk.cons he (LS.LW.walk h (by simpa using hb)), by rw [C.zero_add]⟩
  | _, _, a, b, z, i + 1, h, ha, hb, hz => by
    cases h with
    | one x => simp at hz
    | cons he h =>
      simp at ha; subst ha
      obtain ⟨c1, c2, h1, h2, rfl⟩ := lw_split (i := i) h rfl (by simpa using hb) (by simpa using hz)
      exact ⟨_, c2, Walk.cons he h1, h2, by rw [C.add_assoc]⟩
end Go.Proofs.YtkpcenjnjjmmkaaGreatDoor
/- hunts: the closed fact of chapter 11: plain; guesses. -/
namespace Go.Proofs.YtkpcenjnjjmmkaaGreatDoor
open Go.RowKit Go.Sort FR Go.Lib
theorem callEnter {f : FuncId} {fn : Func} {c : Code} (hf : Tryz.prog.funcs[f]? = some fn) (hname : (fn.name == "runtime.NumGoroutine") = false) (hb : fn.body = some c) (args : Array Value) (w : World) : (callFunc f args).run Tryz.prog w = .ok (.enter f args) w := by
  have h1 : fn.name ≠ "runtime.NumGoroutine" := by simpa using hname
  simp [callFunc, hf, h1, hb]
end Go.Proofs.YtkpcenjnjjmmkaaGreatDoor
/- The guess as if nothing were in the way. -/
namespace Go.Proofs.YtkpcenjnjjmmkaaGreatDoor
open Go.RowKit Go.Sort FR Go.Lib
def octH (g : G) (x : Nat) (n : Nat) : C := if n = 256 then C.zero else g.oct n x
theorem octH_256 (g : G) (x : Nat) : octH g x 256 = C.zero := if_pos rfl
theorem octH_at {g : G} (hok : g.ok) (x : Nat) {n : Nat} (hn : n < g.n) : octH g x n = g.oct n x := if_neg (by have := G.n_le hok; omega)
theorem octH_small {g : G} (hok : g.ok) {x : Nat} (hx : x < g.n) : ∀ j, g.Corner j → 0 ≤ (octH g x j).s ∧ (octH g x j).s ≤ 1000 ∧ 0 ≤ (octH g x j).d ∧ (octH g x j).d ≤ 1000 := fun j hj => by
  rw [octH_at hok x hj.1]
  have := G.oct_small hok hx hj.1
  omega
/-- a walk over levels to the end, as one over the graph -/
theorem srE_walk {g : G} {tp : Nat} {S : LS} (H : LS.Fin g tp S) {mark : Nat → Bool} {fin : Nat → Option C} {a b : Nat} {p : C} (hw : Walk (srE S tp mark fin) a b p) (ha : a ≠ 256) : (b ≠ 256 → Walk g.GE a b p) ∧ (b = 256 → ∃ t d e, Walk g.GE a t d ∧ fin t = some e ∧ p = C.add d e) := by
  induction hw with
  | nil => exact ⟨fun _ => .nil _, fun e => absurd e ha⟩
  | @snoc m b d e hw he ih =>
    rcases he with ⟨m1, b1, _, k, hk⟩ | ⟨m1, b1, hf⟩
    · exact ⟨fun _ => (ih.1 m1).trans (H.walk _ _ _ _ hk), fun e => absurd e b1⟩
    · exact ⟨fun e => absurd b1 e, fun _ => ⟨m, d, e, ih.1 m1, hf, rfl⟩⟩
theorem srE_from {S : LS} {tp : Nat} {mark : Nat → Bool} {fin : Nat → Option C} {b : Nat} {p : C} (hw : Walk (srE S tp mark fin) 256 b p) : p = C.zero ∧ b = 256 := by
  induction hw with
  | nil => exact ⟨rfl, rfl⟩
  | @snoc m b d e hw he ih =>
    rcases he with ⟨m1, _⟩ | ⟨m1, _⟩
    · exact absurd ih.2 m1
    · exact absurd ih.2 m1
theorem hh_oct {g : G} (hok : g.ok) {tp : Nat} {S : LS} (H : LS.Fin g tp S) {inn : List Ed} {x : Nat} (hi : ∀ e ∈ inn, ∀ t : Nat, e.to_ = t → C.le (g.oct t x) e.c) (mkB : Nat → Bool) (f : Int → Option C) (hf : FinK inn inn.length f) : ∀ j t d, Walk (srE S tp mkB (srF f)) j t d → t = 256 → C.le (octH g x j) d := by
  intro j t d hw ht
  by_cases hj : j = 256
  · subst hj
    rw [octH_256, (srE_from hw).1]
    exact C.le_refl _
  · obtain ⟨t', d1, e, h1, h2, rfl⟩ := (srE_walk H hw hj).2 ht
    obtain ⟨y, hy, h3, rfl⟩ := hf.some_ _ _ h2
    have h4 := hi y hy t' h3
    have h5 : octH g x j = g.oct j x := if_neg hj
    rw [h5]
    exact C.le_trans (G.oct_tri g j t' x) (C.add_le_add (G.oct_le (G.GE_walk h1)) h4)
end Go.Proofs.YtkpcenjnjjmmkaaGreatDoor
/- How long a way is (plain). -/
namespace Go.Proofs.YtkpcenjnjjmmkaaGreatDoor
open FR
theorem lw_len {g : G} : ∀ {W : List Nat} {c : C}, LS.LW g.E W c → (W.length : Int) = c.s + c.d + 1
  | _, _, .one a => by simp [C.zero]
  | _, _, .cons (l := l) (b := b) he h => by
    have ih := lw_len h
    obtain ⟨_, d, _, _, _, e⟩ := he
    rw [e]
    simp only [List.length_cons] at ih ⊢
    unfold stepC C.add
    split <;> simp only <;> omega
theorem AskIs.len {g : G} (hok : g.ok) {x y : Int} {W : List Nat} {c : C} {e : Nat} (h : AskIs g x y W c e) (he : e = 0) : W.length ≤ 1025 ∧ 0 < W.length ∧ 0 ≤ c.s ∧ c.s ≤ 512 ∧ 0 ≤ c.d ∧ c.d ≤ 512 := by
  obtain ⟨a, b, _, _, h1, _, _, _, hd, hl, hh, _⟩ := h.ok he
  have := lw_len hl
  obtain ⟨q1, q2, q3, q4⟩ := G.dist_small hok h1 hd
  refine ⟨by omega, by omega, q1, q2, q3, q4⟩
theorem AskIs.zero {g : G} {x y : Int} {W : List Nat} {c : C} {e : Nat} (h : AskIs g x y W c e) (he : e ≠ 0) : W = [] ∧ c = C.zero := by
  rcases h with ⟨_, _, h1, h2⟩ | ⟨_, _, _, _, _, _, _, _, ⟨_, _, h1, h2⟩ | ⟨_, h0, _⟩⟩
  · exact ⟨h1, h2⟩
  · exact ⟨h1, h2⟩
  · exact absurd h0 he
theorem AskIs.wout {g : G} (hok : g.ok) {x y : Int} {W : List Nat} {c : C} {e : Nat} (h : AskIs g x y W c e) (he : e = 0) : g.wout (fun i => (natI W).getD i 0) W.length = (c, 0) := by
  obtain ⟨a, b, _, _, h1, _, h3, _, hd, hl, hh, _⟩ := h.ok he
  exact lw_wout hok hl hh h1 h3
end Go.Proofs.YtkpcenjnjjmmkaaGreatDoor
/- Parts of ways that are answered (plain). -/
namespace Go.Proofs.YtkpcenjnjjmmkaaGreatDoor
open FR
theorem walk_open {g : G} (hok : g.ok) {a b : Nat} {c : C} (h : Walk g.E a b c) (ha : a < g.n) (fa : g.b a = false) : b < g.n ∧ g.b b = false := by
  cases h with
  | nil => exact ⟨ha, fa⟩
  | snoc h he => exact ⟨G.E_lt he, (G.E_open hok he).2⟩
/-- each part of a way that is answered is itself as short as can be -/
theorem ask_part {g : G} (hok : g.ok) {x y : Int} {z i : Nat} {W W1 W2 : List Nat} {c c1 c2 : C} {e e1 e2 : Nat} (h : AskIs g x y W c e) (hz : W[i]? = some z) (h1 : AskIs g x (z : Nat) W1 c1 e1) (h2 : AskIs g (z : Nat) y W2 c2 e2) :
    e1 = 0 ∧ e2 = 0 ∧ C.add c1 c2 = c ∧ e = 0 := by
  have he : e = 0 := Classical.byContradiction fun k => by
    rw [(h.zero k).1] at hz
    cases hz
  obtain ⟨a, b, rfl, rfl, a1, a2, a3, a4, hd, hl, hh, ht⟩ := h.ok he
  obtain ⟨d1, d2, w1, w2, rfl⟩ := lw_split hl hh ht hz
  obtain ⟨z1, z2⟩ := walk_open hok w1 a1 a3
  obtain ⟨a', z', e1', e2', _, _, _, _, hh1⟩ := h1.cells (flt2_both (by rw [G.fault_in a1, a3]; rfl) (by rw [G.fault_in z1, z2]; rfl))
  obtain rfl : a = a' := Int.ofNat_inj.1 e1'
  obtain rfl : z = z' := Int.ofNat_inj.1 e2'
  obtain ⟨z', b', e1', e2', _, _, _, _, hh2⟩ := h2.cells (flt2_both (by rw [G.fault_in z1, z2]; rfl) (by rw [G.fault_in a2, a4]; rfl))
  obtain rfl : z = z' := Int.ofNat_inj.1 e1'
  obtain rfl : b = b' := Int.ofNat_inj.1 e2'
  rcases hh1 with ⟨k, _⟩ | ⟨k1, k2, _⟩
  · exact absurd w1 (k _)
  rcases hh2 with ⟨k, _⟩ | ⟨l1, l2, _⟩
  · exact absurd w2 (k _)
  refine ⟨k2, l2, C.le_antisymm (C.add_le_add (k1.2 _ w1) (l1.2 _ w2)) (hd.2 _ (k1.1.trans l1.1)), he⟩
end Go.Proofs.YtkpcenjnjjmmkaaGreatDoor
