/- Lemmas of this claim: HntA, Hnt, SrG. -/
import Derived.Test.YtjejkadaafmdcaaGreatSr7
import Derived.Test.YtjejkadaafmdcaaGreatKSearchSays24
import Derived.Test.YtjejkadaafmdcaaGreatKSearchSays14
set_option linter.unusedVariables false
set_option linter.unusedSimpArgs false
/- hunts: the closed fact of chapter 11: plain; guesses. -/
namespace Go.Proofs.YtjejkadaafmdcaaGreat
open Go.RowKit Go.Sort FR Go.Lib
theorem w25 : Walk g33.E 2 5 ⟨1, 0⟩ := Walk.single ⟨by decide +kernel, 4, by decide, by decide +kernel, by decide +kernel, rfl⟩
theorem w58 : Walk g33.E 5 8 ⟨1, 0⟩ := Walk.single ⟨by decide +kernel, 4, by decide, by decide +kernel, by decide +kernel, rfl⟩
theorem direct28 : g33.Direct 2 8 := by
  obtain ⟨x0, y0, x2, y2, x6, y6, x8, y8⟩ := xy33
  have ho : g33.oct 2 8 = ⟨2, 0⟩ := C.ext' (by decide +kernel) (by decide +kernel)
  refine ⟨?_, fun k hk h0 h2 hm => ?_⟩
  · unfold G.Near
    rw [ho]
    exact Walk.trans w25 w58
  · obtain ⟨p, q, h1, h2', h3⟩ := hm
    have f1 := far33 h1
    have f2 := far33 h2'
    rw [ho] at h3
    have e1 : p.s + q.s = 2 := congrArg C.s h3
    have e2 : p.d + q.d = 0 := congrArg C.d h3
    rcases g33_corner.1 hk with rfl | rfl | rfl | rfl
    · rw [x0, y0, x2, y2] at f1; rw [x0, y0, x8, y8] at f2; omega
    · exact absurd rfl h0
    · rw [x6, y6, x2, y2] at f1; rw [x6, y6, x8, y8] at f2; omega
    · exact absurd rfl h2
theorem ge02 : g33.GE 0 2 ⟨2, 0⟩ := ⟨g33_corner.2 (by simp), g33_corner.2 (by simp), by decide, direct02, (C.ext' (by decide +kernel) (by decide +kernel) : (⟨2, 0⟩ : C) = g33.oct 0 2)⟩
theorem ge28 : g33.GE 2 8 ⟨2, 0⟩ := ⟨g33_corner.2 (by simp), g33_corner.2 (by simp), by decide, direct28, (C.ext' (by decide +kernel) (by decide +kernel) : (⟨2, 0⟩ : C) = g33.oct 2 8)⟩
theorem le22 : C.le ⟨2, 0⟩ ⟨0, 2⟩ := C.cmp_nonneg.1 (by decide +kernel)
/-- each edge costs two at least -/
theorem ge33_two {a b : Nat} {c : C} (h : g33.GE a b c) : C.le ⟨2, 0⟩ c := by
  obtain ⟨h1, h2, h3, _, rfl⟩ := h
  have key : ∀ a b : Nat, (a = 0 ∨ a = 2 ∨ a = 6 ∨ a = 8) → (b = 0 ∨ b = 2 ∨ b = 6 ∨ b = 8) → a ≠ b → g33.oct a b = ⟨2, 0⟩ ∨ g33.oct a b = ⟨0, 2⟩ := by
    rintro a b (rfl | rfl | rfl | rfl) (rfl | rfl | rfl | rfl) h <;> first
      | exact absurd rfl h
      | exact .inl (C.ext' (by decide +kernel) (by decide +kernel))
      | exact .inr (C.ext' (by decide +kernel) (by decide +kernel))
  rcases key a b (g33_corner.1 h1) (g33_corner.1 h2) h3 with e | e
  · rw [e]; exact C.le_refl _
  · rw [e]; exact le22
theorem lw33 {W : List Nat} {c : C} (h : LS.LW g33.GE W c) : C.le ⟨2 * ((W.length : Int) - 1), 0⟩ c := by
  induction h with
  | one a => exact C.le_refl _
  | @cons a b l e c he _ ih =>
    have h1 := C.add_le_add (ge33_two he) ih
    refine C.le_trans (C.le_of_eq ?_) h1
    refine C.ext' ?_ rfl
    simp only [C.add, List.length_cons]
    omega
theorem walk33 {a b : Nat} {c : C} (h : Walk g33.GE a b c) : (b = a ∧ c = C.zero) ∨ (g33.GE a b c) ∨ C.le ⟨4, 0⟩ c := by
  induction h with
  | nil => exact .inl ⟨rfl, rfl⟩
  | @snoc m t d e hw he ih =>
    right
    rcases ih with ⟨rfl, rfl⟩ | h | h
    · left; rw [C.zero_add]; exact he
    · right
      have h1 := C.add_le_add (ge33_two h) (ge33_two he)
      exact C.le_trans (C.le_of_eq rfl) h1
    · right
      have h1 := C.add_le_add h (ge33_two he)
      exact C.le_trans (C.le_of_parts (by simp [C.add]) (by simp [C.add])) h1
theorem far08 {c : C} (h : Walk g33.GE 0 8 c) : C.le ⟨4, 0⟩ c := by
  rcases walk33 h with ⟨h, _⟩ | h | h
  · cases h
  · exact absurd h.2.2.2.1 ndirect08
  · exact h
abbrev eO : List Ed := [⟨0, ⟨0, 0⟩, 0⟩]
abbrev eI : List Ed := [⟨8, ⟨0, 0⟩, 0⟩]
theorem best33 : BestIs g33 eO eI ⟨4, 0⟩ true := by
  refine ⟨(fun h => nomatch h), fun _ => ⟨⟨8, ⟨4, 0⟩, ⟨8, ⟨0, 0⟩, 0⟩, ⟨0, C.zero, ⟨4, 0⟩, ⟨g33_corner.2 (by simp), 0, ⟨0, ⟨0, 0⟩, 0⟩, by decide, rfl, rfl, rfl⟩, ?_, (C.zero_add _).symm⟩, by simp, rfl, rfl⟩, ?_⟩⟩
  · exact Walk.trans (Walk.single ge02) (Walk.single ge28)
  · rintro c ⟨t, c1, e, ⟨s, c0, d, ⟨_, i, x, hi, hx, hs, hc⟩, hw, rfl⟩, he, ht, rfl⟩
    have e1 : i = 0 := by simp at hi; omega
    subst e1
    simp at hx he
    subst hx; subst he
    simp only at hs ht hc
    obtain rfl : s = 0 := by omega
    obtain rfl : t = 8 := by omega
    subst hc
    have := far08 hw
    refine C.le_trans this (C.le_of_eq ?_)
    exact C.ext' (by simp [C.add]) (by simp [C.add])
theorem way33 {f : Int → Option C} {W : List Nat} (hf : FinK eI eI.length f) (h : WayIs g33 (srF f) eO ⟨4, 0⟩ W) : W.length = 3 := by
  obtain ⟨s, t, d, cw, e, ⟨_, i, x, hi, hx, hs, hc⟩, h2, h3, h4, h5, h6⟩ := h
  have e1 : i = 0 := by simp at hi; omega
  subst e1
  simp at hx
  subst hx
  simp only at hs hc
  obtain rfl : s = 0 := by omega
  subst hc
  obtain ⟨y, hy, h7, h8⟩ := hf.some_ _ _ h5
  simp at hy
  subst hy
  simp only at h7 h8
  obtain rfl : t = 8 := by omega
  subst h8
  have h9 : C.le cw ⟨4, 0⟩ := by
    refine C.le_trans (C.le_of_eq ?_) h6
    exact C.ext' (by simp [C.add]) (by simp [C.add])
  have h10 := C.le_trans (lw33 h4) h9
  have h11 : (W.length : Int) ≤ 3 := by
    have h12 := C.parts_le' (a := ⟨2 * ((W.length : Int) - 1), 0⟩) (b := ⟨4, 0⟩) ⟨by simp only; cases W with | nil => cases h2 | cons a l => simp only [List.length_cons]; omega, Int.le_refl _⟩ ⟨by decide, by decide⟩ h10
    simp only at h12
    omega
  match W, h2, h3, h4, h11 with
  | [a], h2, h3, _, _ => simp at h2 h3; omega
  | [a, b], h2, h3, h4, _ =>
    simp at h2 h3
    subst h2; subst h3
    cases h4 with
    | cons he h4 =>
      exact absurd he.2.2.2.1 ndirect08
  | [a, b, c], _, _, _, _ => rfl
  | a :: b :: c :: d :: l, _, _, _, h => simp at h; omega
/-- nothing is a guess that holds -/
theorem hh_zero {g : G} {tp : Nat} {S : LS} {inn : List Ed} (H : LS.Fin g tp S) (hi : EdsOk inn) (mkB : Nat → Bool) (f : Int → Option C) (hf : FinK inn inn.length f) : ∀ j t d, Walk (srE S tp mkB (srF f)) j t d → t = 256 → C.le ((fun _ => C.zero : Nat → C) j) d := by
  intro j t d hw _
  have hnn : C.Nn d := hw.nn (fun a b c he => by
    rcases he with ⟨_, _, _, m, h⟩ | ⟨_, _, h⟩
    · have := H.small _ _ _ _ h; exact ⟨this.1, this.2.2.1⟩
    · obtain ⟨y, hy, _, e2⟩ := hf.some_ _ _ h
      have := hi y hy
      rw [e2] at this
      exact ⟨this.1, this.2.2.1⟩)
  exact C.le_of_parts hnn.1 hnn.2
theorem callEnter {f : FuncId} {fn : Func} {c : Code} (hf : Tryz.prog.funcs[f]? = some fn) (hname : (fn.name == "runtime.NumGoroutine") = false) (hb : fn.body = some c) (args : Array Value) (w : World) : (callFunc f args).run Tryz.prog w = .ok (.enter f args) w := by
  have h1 : fn.name ≠ "runtime.NumGoroutine" := by simpa using hname
  simp [callFunc, hf, h1, hb]
theorem guessZ_hunts (W : World) (g : G) : GuessOk W 67 #[] g (fun _ => C.zero) := by
  refine ⟨callEnter Tryz.func67 (by kernel_rfl) rfl, fun w _ n _ => ?_⟩
  rw [Array.append_empty]
  go_enter Tryz.func67, Tryz.ntmps67
  go_wp2
  refine bodyPost_ret (v := .agg #[.int .i64 0, .int .i64 0]) (by simp [results, Tryz.results67, go_sem]) rfl ?_
  exact ⟨rfl, by (repeat' (first | exact Below.refl _ _ | assumption | apply bel_drewN | apply bel_drew | apply bel_alloc | (refine bel_trans ?_ (by assumption))))⟩
theorem edsOk_eO : EdsOk eO := fun e he => by simp at he; subst he; decide
theorem edsOk_eI : EdsOk eI := fun e he => by simp at he; subst he; decide
theorem eds_new (w : World) (x : Int) : EdsAt (w.alloc (.cells #[.int .i64 x, .int .i64 0, .int .i64 0, .int .i64 0] 70)) (some ⟨w.heap.size, 0, none⟩) [⟨x, ⟨0, 0⟩, 0⟩] := fun _ => by
  refine ⟨w.heap.size, rfl, by simp, fun j v hv => ?_⟩
  have h0 := heap_alloc_new w (.cells #[.int .i64 x, .int .i64 0, .int .i64 0, .int .i64 0] 70)
  simp [edL] at hv
  match j, hv with
  | 0, hv => cases hv; go_simp
  | 1, hv => cases hv; go_simp
  | 2, hv => cases hv; go_simp
  | 3, hv => cases hv; go_simp
end Go.Proofs.YtjejkadaafmdcaaGreat
/- hunts: the closed fact of chapter 11: the walk. -/
namespace Go.Proofs.YtjejkadaafmdcaaGreat
open Go.RowKit Go.Sort FR Go.Lib
set_option maxRecDepth 100000 in
set_option maxHeartbeats 3200000 in
theorem hunts_true (w : World) : Calls Tryz.prog 25 #[] w fun e w' => e = .returned (.bool true) ∧ Below w.heap.size w w' := by
  go_enter Tryz.func25, Tryz.ntmps25
  go_wp2_with fail
  (with_reducible refine (gridNew_ex 3 3 _ (by decide)).mono ?_)
  rintro e w1 ⟨p0, rfl, hp0, hG, hb1⟩
  go_wp2_with fail
  refine (gridSet_new _ p0 _ _ 4 true hG (by decide) (by decide) (by decide)).mono ?_
  rintro e w2 ⟨rfl, hG2, hk2⟩
  have HB2 := Kept.below hb1 hk2 hb1.size (by simp; omega)
  have hG2 : GridAt w2 p0 g33 (0 + 1) := hG2
  have cN := Lib.hid (graphNew w2 p0 g33 _ hG2)
  have Hok := Lib.hid hG2.1
  clear hG hG2 hk2 hb1
  go_wp2_with fail
  (with_reducible refine cN.out.mono ?_)
  rintro e w3 ⟨b3, p3, mb3, S3, E3, rfl, hGr, hGs, _, hb3⟩
  have HB3 := bel_trans HB2 hb3
  have cL := Lib.hid (lvNew_ok w3 b3 p3 mb3 S3 g33 _ E3 3 hGr hGs (by decide) (by decide))
  clear hGr hGs hb3 HB2 cN
  go_wp2_with fail
  (refine cL.out.mono ?_)
  rintro e w4 ⟨b4, ml4, me4, Sb4, nl4, rfl, hLv, _, hb4⟩
  have HB4 := bel_trans HB3 hb4
  obtain ⟨HF, htp1, htp2⟩ := LS.all_fin Hok.out (cornersN g33) (fun n => mem_cornersN) (most := 3) (by decide) (by decide)
  obtain ⟨S, hS⟩ : ∃ S, (LS.all g33 (cornersN g33) 3).1 = S := ⟨_, rfl⟩
  obtain ⟨tp, htp⟩ : ∃ tp, (LS.all g33 (cornersN g33) 3).2 = tp := ⟨_, rfl⟩
  rw [hS, htp] at HF hLv
  rw [htp] at htp2
  have cB := fun (w' : World) (hb : Below w4.heap.size w4 w') A1 A2 (h1 : EdsO w' A1 eO) (h2 : EdsO w' A2 eI) => srBest w' b4 ml4 me4 nl4 Sb4 tp g33 S Hok.out HF (by omega) (hLv.below hb) A1 1 1 eO h1 rfl (by omega) edsOk_eO A2 1 1 eI h2 rfl (by omega) edsOk_eI 67 #[] (fun _ => C.zero) (guessZ_hunts w' g33) (fun _ _ => by decide) rfl (fun mkB f hf => hh_zero HF edsOk_eI mkB f hf)
  have cB := Lib.hid cB
  clear hLv HF htp1 htp2 hS htp cL HB3 hb4
  have hx1 := (eds_new w4 0).o
  have hx2 := (eds_new (w4.alloc (.cells #[.int .i64 0, .int .i64 0, .int .i64 0, .int .i64 0] 70)) 8).o
  have hbb := bel_alloc (bel_alloc (Below.refl w4.heap.size w4) (o := .cells #[.int .i64 0, .int .i64 0, .int .i64 0, .int .i64 0] 70)) (o := .cells #[.int .i64 8, .int .i64 0, .int .i64 0, .int .i64 0] 70)
  have hx1 := hx1.below (bel_alloc (Below.refl _ _) (o := .cells #[.int .i64 8, .int .i64 0, .int .i64 0, .int .i64 0] 70))
  rw [show (w4.alloc (.cells #[.int .i64 0, .int .i64 0, .int .i64 0, .int .i64 0] 70)).heap.size = w4.heap.size + 1 by simp] at hx2
  have cB2 := Lib.hid (cB.out _ hbb (some ⟨w4.heap.size, 0, none⟩) (some ⟨w4.heap.size + 1, 0, none⟩) hx1 hx2)
  have Hbb := Lib.hid hbb
  clear hx1 hx2 hbb cB
  go_wp2_with fail
  (with_reducible refine cB2.out.mono ?_)
  rintro e w5 ⟨v, c, fd, rfl, hbest, _, hb5, hway⟩
  obtain ⟨rfl, rfl⟩ := bestIs_one hbest best33
  obtain ⟨A, m, Wy, f, rfl, _, _, _, _, hf, hw⟩ := hway rfl
  have hl := way33 hf hw
  have HB5 := bel_trans (bel_trans HB4 Hbb.out) hb5
  rw [hl, show costV ⟨4, 0⟩ = .agg #[.int .i64 4, .int .i64 0] from rfl]
  clear hbest hway hf hw hl cB2 Hbb hb5
  go_wp2
  go_ret
  exact ⟨rfl, by (repeat' (first | exact Below.refl _ _ | assumption | apply bel_drewN | apply bel_drew | apply bel_alloc | (refine bel_trans ?_ (by assumption))))⟩
end Go.Proofs.YtjejkadaafmdcaaGreat
/- The guess as if nothing were in the way. -/
namespace Go.Proofs.YtjejkadaafmdcaaGreat
open Go.RowKit Go.Sort FR Go.Lib
def octH (g : G) (x : Nat) (n : Nat) : C := if n = 256 then C.zero else g.oct n x
theorem octH_256 (g : G) (x : Nat) : octH g x 256 = C.zero := if_pos rfl
theorem octH_at {g : G} (hok : g.ok) (x : Nat) {n : Nat} (hn : n < g.n) : octH g x n = g.oct n x := if_neg (by have := G.n_le hok; omega)
theorem octH_small {g : G} (hok : g.ok) {x : Nat} (hx : x < g.n) : ∀ j, g.Corner j → 0 ≤ (octH g x j).s ∧ (octH g x j).s ≤ 1000 ∧ 0 ≤ (octH g x j).d ∧ (octH g x j).d ≤ 1000 := fun j hj => by
  rw [octH_at hok x hj.1]
  have := G.oct_small hok hx hj.1
  omega
/-- a walk over levels to the end, as one over the graph -/
theorem srE_walk {g : G} {tp : Nat} {S : LS} (H : LS.Fin g tp S) {mark : Nat → Bool} {fin : Nat → Option C} {a b : Nat} {p : C} (hw : Walk (srE S tp mark fin) a b p) (ha : a ≠ 256) : (b ≠ 256 → Walk g.GE a b p) ∧ (b = 256 → ∃ t d e, Walk g.GE a t d ∧ fin t = some e ∧ p = C.add d e) := by
  induction hw with
  | nil => exact ⟨fun _ => .nil _, fun e => absurd e ha⟩
  | @snoc m b d e hw he ih =>
    rcases he with ⟨m1, b1, _, k, hk⟩ | ⟨m1, b1, hf⟩
    · exact ⟨fun _ => (ih.1 m1).trans (H.walk _ _ _ _ hk), fun e => absurd e b1⟩
    · exact ⟨fun e => absurd b1 e, fun _ => ⟨m, d, e, ih.1 m1, hf, rfl⟩⟩
theorem srE_from {S : LS} {tp : Nat} {mark : Nat → Bool} {fin : Nat → Option C} {b : Nat} {p : C} (hw : Walk (srE S tp mark fin) 256 b p) : p = C.zero ∧ b = 256 := by
  induction hw with
  | nil => exact ⟨rfl, rfl⟩
  | @snoc m b d e hw he ih =>
    rcases he with ⟨m1, _⟩ | ⟨m1, _⟩
    · exact absurd ih.2 m1
    · exact absurd ih.2 m1
theorem hh_oct {g : G} (hok : g.ok) {tp : Nat} {S : LS} (H : LS.Fin g tp S) {inn : List Ed} {x : Nat} (hi : ∀ e ∈ inn, ∀ t : Nat, e.to_ = t → C.le (g.oct t x) e.c) (mkB : Nat → Bool) (f : Int → Option C) (hf : FinK inn inn.length f) : ∀ j t d, Walk (srE S tp mkB (srF f)) j t d → t = 256 → C.le (octH g x j) d := by
  intro j t d hw ht
  by_cases hj : j = 256
  · subst hj
    rw [octH_256, (srE_from hw).1]
    exact C.le_refl _
  · obtain ⟨t', d1, e, h1, h2, rfl⟩ := (srE_walk H hw hj).2 ht
    obtain ⟨y, hy, h3, rfl⟩ := hf.some_ _ _ h2
    have h4 := hi y hy t' h3
    have h5 : octH g x j = g.oct j x := if_neg hj
    rw [h5]
    exact C.le_trans (G.oct_tri g j t' x) (C.add_le_add (G.oct_le (G.GE_walk h1)) h4)
/-- a guess, as a closure over a grid and a cell -/
def GuessAt (W : World) (b1 b2 q : Nat) (g : G) (v : Int) (x : Nat) : Prop := x < g.n ∧ W.cell? ⟨b1, 0, none⟩ = some (.pointer (some ⟨q, 0, none⟩)) ∧ W.cell? ⟨b2, 0, none⟩ = some (.int .i64 (x : Nat)) ∧ q < W.heap.size ∧ RGridAt W q g v
set_option maxRecDepth 100000 in
set_option maxHeartbeats 1600000 in
theorem guessSays (W0 : World) (b1 b2 q : Nat) (g : G) (v : Int) (x : Nat) (hg : GuessAt W0 b1 b2 q g v x) : GuessOk W0 31 #[.pointer (some ⟨b1, 0, none⟩), .pointer (some ⟨b2, 0, none⟩)] g (octH g x) := by
  refine ⟨callEnter Tryz.func31 (by kernel_rfl) rfl, fun w hw n hn => ?_⟩
  show Calls Tryz.prog _ #[.int .i64 (n : Nat), .pointer (some ⟨b1, 0, none⟩), .pointer (some ⟨b2, 0, none⟩)] w _
  obtain ⟨hx, k1, k2, hq, hR⟩ := hg
  have h := hR.below hw hq
  have ha := hn.1
  have hok := h.1
  obtain ⟨o1, o2, o3, o4⟩ := h.1
  have l1 := G.X_lt hok n
  have l2 := G.X_lt hok x
  have l3 := G.Y_lt ha
  have l4 := G.Y_lt hx
  have hnn := G.n_le hok
  have cO := fun w => refOctile (g.X n : Nat) (g.Y n : Nat) (g.X x : Nat) (g.Y x : Nat) w (by omega) (by omega) (by omega) (by omega)
  obtain ⟨y, hy⟩ : ∃ y, octH g x n = y := ⟨_, rfl⟩
  have hx2 : octI ((g.X n : Nat) - (g.X x : Nat)) ((g.Y n : Nat) - (g.Y x : Nat)) = y := by rw [← hy, octH_at hok x ha]; rfl
  rw [hx2] at cO
  have e1 : ((g.X n : Nat) : Int) = (n : Int) % g.w := by unfold G.X; simp
  have e2 : ((g.Y n : Nat) : Int) = (n : Int) / g.w := by unfold G.Y; simp
  have e3 : ((g.X x : Nat) : Int) = (x : Int) % g.w := by unfold G.X; simp
  have e4 : ((g.Y x : Nat) : Int) = (x : Int) / g.w := by unfold G.Y; simp
  have p1 : 0 ≤ (n : Int) / g.w := by omega
  have p2 : (n : Int) / g.w ≤ 256 := by omega
  have p3 : 0 ≤ (x : Int) / g.w := by omega
  have p4 : (x : Int) / g.w ≤ 256 := by omega
  have w1 : IntKind.i64.wrap ((n : Int) / g.w) = (n : Int) / g.w := IntWalk.i64_in _ (by omega)
  have w2 : IntKind.i64.wrap ((x : Int) / g.w) = (x : Int) / g.w := IntWalk.i64_in _ (by omega)
  have w3 : (x : Int).tmod g.w = (x : Int) % g.w := Int.tmod_eq_emod_of_nonneg (by omega)
  have w4 : (n : Int).tmod g.w = (n : Int) % g.w := Int.tmod_eq_emod_of_nonneg (by omega)
  rw [e1, e2, e3, e4] at cO
  have cO := Lib.hid cO
  have kw := h.size.1
  have k1 := bel_cell hw k1
  have k2 := bel_cell hw k2
  have hne : q ≠ w.heap.size := by have := h.lt; omega
  have hn1 : b1 ≠ w.heap.size := by have := World.block_lt_of_cell? _ _ k1; simp only at this; omega
  have hn2 : b2 ≠ w.heap.size := by have := World.block_lt_of_cell? _ _ k2; simp only at this; omega
  rw [hy]
  obtain ⟨xs, xd⟩ := y
  clear hx2 e1 e2 e3 e4 l1 l2 l3 l4 h hok hy hR hw hq
  go_enter Tryz.func31, Tryz.ntmps31
  go_upto_region 1 with (fail)
  refine wp_name ?_
  intro W hW
  have HW : Below w.heap.size w W := by rw [hW]; (repeat' (first | exact Below.refl _ _ | assumption | apply bel_drewN | apply bel_drew | apply bel_alloc | (refine bel_trans ?_ (by assumption))))
  have q0 : W.cell? ⟨w.heap.size, 0, none⟩ = some (.int .i64 0) := by rw [hW]; go_simp
  have q1 : W.cell? ⟨w.heap.size, 1, none⟩ = some (.int .i64 0) := by rw [hW]; go_simp
  have f0 : W.frozen? ⟨w.heap.size, 0, none⟩ = false := by rw [hW]; go_simp
  have f1 : W.frozen? ⟨w.heap.size, 1, none⟩ = false := by rw [hW]; go_simp
  have hs : w.heap.size < W.heap.size := by rw [hW]; simp
  have kw := bel_cell HW kw
  have k1 := bel_cell HW k1
  have k2 := bel_cell HW k2
  have H2 := Lib.hid (And.intro q0 (And.intro q1 (And.intro f0 f1)))
  clear hW q0 q1 f0 f1
  have z1 : ((g.w : Int) == 0) = false := by rw [beq_eq_false_iff_ne]; omega
  have z2 : (0 : Int) < g.w := by omega
  have z3 : (0 : Int) ≤ (n : Int) := by omega
  have z4 : (0 : Int) ≤ (x : Int) := by omega
  have z5 : ¬ (g.w : Int) = 0 := by omega
  have z6 : ¬ g.w = 0 := by omega
  have hd := bel_drew (Below.refl W.heap.size W)
  have kk : W.drew.cell? ⟨b1, 0, none⟩ = some (.pointer (some ⟨q, 0, none⟩)) ∧ W.drew.cell? ⟨b2, 0, none⟩ = some (.int .i64 (x : Nat)) ∧ W.drew.cell? ⟨q, 0, none⟩ = some (.int .i64 g.w) := ⟨bel_cell hd k1, bel_cell hd k2, bel_cell hd kw⟩
  go_region_held3 (fun w' => w'.cell? ⟨b1, 0, none⟩ = some (.pointer (some ⟨q, 0, none⟩)) ∧ w'.cell? ⟨b2, 0, none⟩ = some (.int .i64 (x : Nat)) ∧ w'.cell? ⟨q, 0, none⟩ = some (.int .i64 g.w))
    (first
      | exact kk
      | exact kA
      | exact ⟨keepset hn1 kA.1, keepset hn2 kA.2.1, keepset hne kA.2.2⟩)
    (first
      | (go_at_call 32
         (with_reducible refine (cO.out _).mono ?_)
         rintro e wA ⟨rfl, hbA⟩
         have q0 := bel_cell hbA H2.out.1
         have q1 := bel_cell hbA H2.out.2.1
         have f0 := (hbA.frozen (p := ⟨w.heap.size, 0, none⟩) hs).trans H2.out.2.2.1
         have f1 := (hbA.frozen (p := ⟨w.heap.size, 1, none⟩) hs).trans H2.out.2.2.2
         have kA : wA.cell? ⟨b1, 0, none⟩ = some (.pointer (some ⟨q, 0, none⟩)) ∧ wA.cell? ⟨b2, 0, none⟩ = some (.int .i64 (x : Nat)) ∧ wA.cell? ⟨q, 0, none⟩ = some (.int .i64 g.w) := ⟨bel_cell hbA kk.1, bel_cell hbA kk.2.1, bel_cell hbA kk.2.2⟩))
  all_goals
    go_wp2
    have e5 := set_two (x := .int .i64 xs) (y := .int .i64 xd) q0 q1
    refine bodyPost_ret (v := .agg #[.int .i64 xs, .int .i64 xd]) (by simp [results, Tryz.results31, go_sem, e5]) rfl ?_
    exact ⟨rfl, ((bel_trans HW (bel_trans (bel_drew (Below.refl _ _)) hbA)).setCell (by simp) _).setCell (by simp) _⟩
theorem guessZ_says (W : World) (g : G) : GuessOk W 29 #[] g (fun _ => C.zero) := by
  refine ⟨callEnter Tryz.func29 (by kernel_rfl) rfl, fun w _ n _ => ?_⟩
  rw [Array.append_empty]
  go_enter Tryz.func29, Tryz.ntmps29
  go_wp2
  refine bodyPost_ret (v := .agg #[.int .i64 0, .int .i64 0]) (by simp [results, Tryz.results29, go_sem]) rfl ?_
  exact ⟨rfl, by (repeat' (first | exact Below.refl _ _ | assumption | apply bel_drewN | apply bel_drew | apply bel_alloc | (refine bel_trans ?_ (by assumption))))⟩
end Go.Proofs.YtjejkadaafmdcaaGreat
