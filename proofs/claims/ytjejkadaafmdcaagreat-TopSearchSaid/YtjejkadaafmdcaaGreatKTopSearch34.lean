/- Lemmas of this claim: HntA, SrG, TopSrG. -/
import Derived.Test.YtjejkadaafmdcaaGreatSr7
import Derived.Test.YtjejkadaafmdcaaGreatKTopSearch25
import Derived.Test.YtjejkadaafmdcaaGreatKTopSearch15
import Derived.Test.YtjejkadaafmdcaaGreatKTopSearch12
import Derived.Test.YtjejkadaafmdcaaGreatKTopSearch10
import Derived.Test.YtjejkadaafmdcaaGreatKTopSearch14
set_option linter.unusedVariables false
set_option linter.unusedSimpArgs false
/- hunts: the closed fact of chapter 11: plain; guesses. -/
namespace Go.Proofs.YtjejkadaafmdcaaGreat
open Go.RowKit Go.Sort FR Go.Lib
theorem w25 : Walk g33.E 2 5 ⟨1, 0⟩ := Walk.single ⟨by decide +kernel, 4, by decide, by decide +kernel, by decide +kernel, rfl⟩
theorem w58 : Walk g33.E 5 8 ⟨1, 0⟩ := Walk.single ⟨by decide +kernel, 4, by decide, by decide +kernel, by decide +kernel, rfl⟩
theorem direct28 : g33.Direct 2 8 := by
  obtain ⟨x0, y0, x2, y2, x6, y6, x8, y8⟩ := xy33
  have ho : g33.oct 2 8 = ⟨2, 0⟩ := C.ext' (by decide +kernel) (by decide +kernel)
  refine ⟨?_, fun k hk h0 h2 hm => ?_⟩
  · unfold G.Near
    rw [ho]
    exact Walk.trans w25 w58
  · obtain ⟨p, q, h1, h2', h3⟩ := hm
    have f1 := far33 h1
    have f2 := far33 h2'
    rw [ho] at h3
    have e1 : p.s + q.s = 2 := congrArg C.s h3
    have e2 : p.d + q.d = 0 := congrArg C.d h3
    rcases g33_corner.1 hk with rfl | rfl | rfl | rfl
    · rw [x0, y0, x2, y2] at f1; rw [x0, y0, x8, y8] at f2; omega
    · exact absurd rfl h0
    · rw [x6, y6, x2, y2] at f1; rw [x6, y6, x8, y8] at f2; omega
    · exact absurd rfl h2
theorem ge02 : g33.GE 0 2 ⟨2, 0⟩ := ⟨g33_corner.2 (by simp), g33_corner.2 (by simp), by decide, direct02, (C.ext' (by decide +kernel) (by decide +kernel) : (⟨2, 0⟩ : C) = g33.oct 0 2)⟩
theorem ge28 : g33.GE 2 8 ⟨2, 0⟩ := ⟨g33_corner.2 (by simp), g33_corner.2 (by simp), by decide, direct28, (C.ext' (by decide +kernel) (by decide +kernel) : (⟨2, 0⟩ : C) = g33.oct 2 8)⟩
theorem le22 : C.le ⟨2, 0⟩ ⟨0, 2⟩ := C.cmp_nonneg.1 (by decide +kernel)
/-- each edge costs two at least -/
theorem ge33_two {a b : Nat} {c : C} (h : g33.GE a b c) : C.le ⟨2, 0⟩ c := by
  obtain ⟨h1, h2, h3, _, rfl⟩ := h
  have key : ∀ a b : Nat, (a = 0 ∨ a = 2 ∨ a = 6 ∨ a = 8) → (b = 0 ∨ b = 2 ∨ b = 6 ∨ b = 8) → a ≠ b → g33.oct a b = ⟨2, 0⟩ ∨ g33.oct a b = ⟨0, 2⟩ := by
    rintro a b (rfl | rfl | rfl | rfl) (rfl | rfl | rfl | rfl) h <;> first
      | exact absurd rfl h
      | exact .inl (C.ext' (by decide +kernel) (by decide +kernel))
      | exact .inr (C.ext' (by decide +kernel) (by decide +kernel))
  rcases key a b (g33_corner.1 h1) (g33_corner.1 h2) h3 with e | e
  · rw [e]; exact C.le_refl _
  · rw [e]; exact le22
theorem walk33 {a b : Nat} {c : C} (h : Walk g33.GE a b c) : (b = a ∧ c = C.zero) ∨ (g33.GE a b c) ∨ C.le ⟨4, 0⟩ c := by
  induction h with
  | nil => exact .inl ⟨rfl, rfl⟩
  | @snoc m t d e hw he ih =>
    right
    rcases ih with ⟨rfl, rfl⟩ | h | h
    · left; rw [C.zero_add]; exact he
    · right
      have h1 := C.add_le_add (ge33_two h) (ge33_two he)
      exact C.le_trans (C.le_of_eq rfl) h1
    · right
      have h1 := C.add_le_add h (ge33_two he)
      exact C.le_trans (C.le_of_parts (by simp [C.add]) (by simp [C.add])) h1
theorem far08 {c : C} (h : Walk g33.GE 0 8 c) : C.le ⟨4, 0⟩ c := by
  rcases walk33 h with ⟨h, _⟩ | h | h
  · cases h
  · exact absurd h.2.2.2.1 ndirect08
  · exact h
abbrev eO : List Ed := [⟨0, ⟨0, 0⟩, 0⟩]
abbrev eI : List Ed := [⟨8, ⟨0, 0⟩, 0⟩]
theorem best33 : BestIs g33 eO eI ⟨4, 0⟩ true := by
  refine ⟨(fun h => nomatch h), fun _ => ⟨⟨8, ⟨4, 0⟩, ⟨8, ⟨0, 0⟩, 0⟩, ⟨0, C.zero, ⟨4, 0⟩, ⟨g33_corner.2 (by simp), 0, ⟨0, ⟨0, 0⟩, 0⟩, by decide, rfl, rfl, rfl⟩, ?_, (C.zero_add _).symm⟩, by simp, rfl, rfl⟩, ?_⟩⟩
  · exact Walk.trans (Walk.single ge02) (Walk.single ge28)
  · rintro c ⟨t, c1, e, ⟨s, c0, d, ⟨_, i, x, hi, hx, hs, hc⟩, hw, rfl⟩, he, ht, rfl⟩
    have e1 : i = 0 := by simp at hi; omega
    subst e1
    simp at hx he
    subst hx; subst he
    simp only at hs ht hc
    obtain rfl : s = 0 := by omega
    obtain rfl : t = 8 := by omega
    subst hc
    have := far08 hw
    refine C.le_trans this (C.le_of_eq ?_)
    exact C.ext' (by simp [C.add]) (by simp [C.add])
/-- nothing is a guess that holds -/
theorem hh_zero {g : G} {tp : Nat} {S : LS} {inn : List Ed} (H : LS.Fin g tp S) (hi : EdsOk inn) (mkB : Nat → Bool) (f : Int → Option C) (hf : FinK inn inn.length f) : ∀ j t d, Walk (srE S tp mkB (srF f)) j t d → t = 256 → C.le ((fun _ => C.zero : Nat → C) j) d := by
  intro j t d hw _
  have hnn : C.Nn d := hw.nn (fun a b c he => by
    rcases he with ⟨_, _, _, m, h⟩ | ⟨_, _, h⟩
    · have := H.small _ _ _ _ h; exact ⟨this.1, this.2.2.1⟩
    · obtain ⟨y, hy, _, e2⟩ := hf.some_ _ _ h
      have := hi y hy
      rw [e2] at this
      exact ⟨this.1, this.2.2.1⟩)
  exact C.le_of_parts hnn.1 hnn.2
theorem callEnter {f : FuncId} {fn : Func} {c : Code} (hf : Tryz.prog.funcs[f]? = some fn) (hname : (fn.name == "runtime.NumGoroutine") = false) (hb : fn.body = some c) (args : Array Value) (w : World) : (callFunc f args).run Tryz.prog w = .ok (.enter f args) w := by
  have h1 : fn.name ≠ "runtime.NumGoroutine" := by simpa using hname
  simp [callFunc, hf, h1, hb]
theorem edsOk_eO : EdsOk eO := fun e he => by simp at he; subst he; decide
theorem edsOk_eI : EdsOk eI := fun e he => by simp at he; subst he; decide
theorem eds_new (w : World) (x : Int) : EdsAt (w.alloc (.cells #[.int .i64 x, .int .i64 0, .int .i64 0, .int .i64 0] 70)) (some ⟨w.heap.size, 0, none⟩) [⟨x, ⟨0, 0⟩, 0⟩] := fun _ => by
  refine ⟨w.heap.size, rfl, by simp, fun j v hv => ?_⟩
  have h0 := heap_alloc_new w (.cells #[.int .i64 x, .int .i64 0, .int .i64 0, .int .i64 0] 70)
  simp [edL] at hv
  match j, hv with
  | 0, hv => cases hv; go_simp
  | 1, hv => cases hv; go_simp
  | 2, hv => cases hv; go_simp
  | 3, hv => cases hv; go_simp
end Go.Proofs.YtjejkadaafmdcaaGreat
/- The guess as if nothing were in the way. -/
namespace Go.Proofs.YtjejkadaafmdcaaGreat
open Go.RowKit Go.Sort FR Go.Lib
def octH (g : G) (x : Nat) (n : Nat) : C := if n = 256 then C.zero else g.oct n x
theorem octH_256 (g : G) (x : Nat) : octH g x 256 = C.zero := if_pos rfl
theorem octH_at {g : G} (hok : g.ok) (x : Nat) {n : Nat} (hn : n < g.n) : octH g x n = g.oct n x := if_neg (by have := G.n_le hok; omega)
theorem octH_small {g : G} (hok : g.ok) {x : Nat} (hx : x < g.n) : ∀ j, g.Corner j → 0 ≤ (octH g x j).s ∧ (octH g x j).s ≤ 1000 ∧ 0 ≤ (octH g x j).d ∧ (octH g x j).d ≤ 1000 := fun j hj => by
  rw [octH_at hok x hj.1]
  have := G.oct_small hok hx hj.1
  omega
/-- a walk over levels to the end, as one over the graph -/
theorem srE_walk {g : G} {tp : Nat} {S : LS} (H : LS.Fin g tp S) {mark : Nat → Bool} {fin : Nat → Option C} {a b : Nat} {p : C} (hw : Walk (srE S tp mark fin) a b p) (ha : a ≠ 256) : (b ≠ 256 → Walk g.GE a b p) ∧ (b = 256 → ∃ t d e, Walk g.GE a t d ∧ fin t = some e ∧ p = C.add d e) := by
  induction hw with
  | nil => exact ⟨fun _ => .nil _, fun e => absurd e ha⟩
  | @snoc m b d e hw he ih =>
    rcases he with ⟨m1, b1, _, k, hk⟩ | ⟨m1, b1, hf⟩
    · exact ⟨fun _ => (ih.1 m1).trans (H.walk _ _ _ _ hk), fun e => absurd e b1⟩
    · exact ⟨fun e => absurd b1 e, fun _ => ⟨m, d, e, ih.1 m1, hf, rfl⟩⟩
theorem srE_from {S : LS} {tp : Nat} {mark : Nat → Bool} {fin : Nat → Option C} {b : Nat} {p : C} (hw : Walk (srE S tp mark fin) 256 b p) : p = C.zero ∧ b = 256 := by
  induction hw with
  | nil => exact ⟨rfl, rfl⟩
  | @snoc m b d e hw he ih =>
    rcases he with ⟨m1, _⟩ | ⟨m1, _⟩
    · exact absurd ih.2 m1
    · exact absurd ih.2 m1
theorem hh_oct {g : G} (hok : g.ok) {tp : Nat} {S : LS} (H : LS.Fin g tp S) {inn : List Ed} {x : Nat} (hi : ∀ e ∈ inn, ∀ t : Nat, e.to_ = t → C.le (g.oct t x) e.c) (mkB : Nat → Bool) (f : Int → Option C) (hf : FinK inn inn.length f) : ∀ j t d, Walk (srE S tp mkB (srF f)) j t d → t = 256 → C.le (octH g x j) d := by
  intro j t d hw ht
  by_cases hj : j = 256
  · subst hj
    rw [octH_256, (srE_from hw).1]
    exact C.le_refl _
  · obtain ⟨t', d1, e, h1, h2, rfl⟩ := (srE_walk H hw hj).2 ht
    obtain ⟨y, hy, h3, rfl⟩ := hf.some_ _ _ h2
    have h4 := hi y hy t' h3
    have h5 : octH g x j = g.oct j x := if_neg hj
    rw [h5]
    exact C.le_trans (G.oct_tri g j t' x) (C.add_le_add (G.oct_le (G.GE_walk h1)) h4)
/-- a guess, as a closure over a grid and a cell -/
def GuessAt (W : World) (b1 b2 q : Nat) (g : G) (v : Int) (x : Nat) : Prop := x < g.n ∧ W.cell? ⟨b1, 0, none⟩ = some (.pointer (some ⟨q, 0, none⟩)) ∧ W.cell? ⟨b2, 0, none⟩ = some (.int .i64 (x : Nat)) ∧ q < W.heap.size ∧ RGridAt W q g v
end Go.Proofs.YtjejkadaafmdcaaGreat
/- TopSearch's two guesses. -/
namespace Go.Proofs.YtjejkadaafmdcaaGreat
open Go.RowKit Go.Sort FR Go.Lib
set_option maxRecDepth 100000 in
set_option maxHeartbeats 1600000 in
theorem guessTop (W0 : World) (b1 b2 q : Nat) (g : G) (v : Int) (x : Nat) (hg : GuessAt W0 b1 b2 q g v x) : GuessOk W0 39 #[.pointer (some ⟨b1, 0, none⟩), .pointer (some ⟨b2, 0, none⟩)] g (octH g x) := by
  refine ⟨callEnter Tryz.func39 (by kernel_rfl) rfl, fun w hw n hn => ?_⟩
  show Calls Tryz.prog _ #[.int .i64 (n : Nat), .pointer (some ⟨b1, 0, none⟩), .pointer (some ⟨b2, 0, none⟩)] w _
  obtain ⟨hx, k1, k2, hq, hR⟩ := hg
  have h := hR.below hw hq
  have ha := hn.1
  obtain ⟨y, hy⟩ : ∃ y, octH g x n = y := ⟨_, rfl⟩
  have cO := fun w => topOct w g n x y h.1 ha hx (by rw [← hy, octH_at h.1 x ha])
  have cO := Lib.hid cO
  have kw := h.size.1
  have k1 := bel_cell hw k1
  have k2 := bel_cell hw k2
  rw [hy]
  obtain ⟨xs, xd⟩ := y
  clear h hy hR hw hq
  go_enter Tryz.func39, Tryz.ntmps39
  go_upto_region 1 with (fail)
  refine wp_name ?_
  intro W hW
  have HW : Below w.heap.size w W := by rw [hW]; (repeat' (first | exact Below.refl _ _ | assumption | apply bel_drewN | apply bel_drew | apply bel_alloc | (refine bel_trans ?_ (by assumption))))
  have q0 : W.cell? ⟨w.heap.size, 0, none⟩ = some (.int .i64 0) := by rw [hW]; go_simp
  have q1 : W.cell? ⟨w.heap.size, 1, none⟩ = some (.int .i64 0) := by rw [hW]; go_simp
  have f0 : W.frozen? ⟨w.heap.size, 0, none⟩ = false := by rw [hW]; go_simp
  have f1 : W.frozen? ⟨w.heap.size, 1, none⟩ = false := by rw [hW]; go_simp
  have hs : w.heap.size < W.heap.size := by rw [hW]; simp
  have kw := bel_cell HW kw
  have k1 := bel_cell HW k1
  have k2 := bel_cell HW k2
  have H2 := Lib.hid (And.intro q0 (And.intro q1 (And.intro f0 f1)))
  clear hW q0 q1 f0 f1
  have hd := bel_drew (Below.refl W.heap.size W)
  have j1 : W.drew.cell? ⟨b1, 0, none⟩ = some (.pointer (some ⟨q, 0, none⟩)) := bel_cell hd k1
  have j2 : W.drew.cell? ⟨b2, 0, none⟩ = some (.int .i64 (x : Nat)) := bel_cell hd k2
  have j3 : W.drew.cell? ⟨q, 0, none⟩ = some (.int .i64 g.w) := bel_cell hd kw
  go_region_with
    (first
      | (go_at_call 40
         (with_reducible refine (cO.out _).mono ?_)
         rintro e wA ⟨rfl, hbA⟩
         have q0 := bel_cell (bel_trans hd hbA) H2.out.1
         have q1 := bel_cell (bel_trans hd hbA) H2.out.2.1
         have f0 := ((bel_trans hd hbA).frozen (p := ⟨w.heap.size, 0, none⟩) hs).trans H2.out.2.2.1
         have f1 := ((bel_trans hd hbA).frozen (p := ⟨w.heap.size, 1, none⟩) hs).trans H2.out.2.2.2))
  all_goals
    go_wp2
    have e5 := set_two (x := .int .i64 xs) (y := .int .i64 xd) q0 q1
    refine bodyPost_ret (v := .agg #[.int .i64 xs, .int .i64 xd]) (by simp [results, Tryz.results39, go_sem, e5]) rfl ?_
    exact ⟨rfl, ((bel_trans HW (bel_trans (bel_drew (Below.refl _ _)) hbA)).setCell (by simp) _).setCell (by simp) _⟩
theorem guessZ_top (W : World) (g : G) : GuessOk W 36 #[] g (fun _ => C.zero) := by
  refine ⟨callEnter Tryz.func36 (by kernel_rfl) rfl, fun w _ n _ => ?_⟩
  rw [Array.append_empty]
  go_enter Tryz.func36, Tryz.ntmps36
  go_wp2
  refine bodyPost_ret (v := .agg #[.int .i64 0, .int .i64 0]) (by simp [results, Tryz.results36, go_sem]) rfl ?_
  exact ⟨rfl, by (repeat' (first | exact Below.refl _ _ | assumption | apply bel_drewN | apply bel_drew | apply bel_alloc | (refine bel_trans ?_ (by assumption))))⟩
end Go.Proofs.YtjejkadaafmdcaaGreat
