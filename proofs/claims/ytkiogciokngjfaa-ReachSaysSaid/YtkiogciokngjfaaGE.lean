/- Lemmas of this claim: Pend, Clear, Clear2, Flood, Flood2, Flood3, Flood4, ShRev, Flood5, Flood6, Flood7, RFlood, RWalk, TopOct. -/
import Derived.Test.YtkiogciokngjfaaGC
import Derived.Test.YtkiogciokngjfaaGD
import Derived.Test.YtkiogciokngjfaaGB
import Derived.Test.YtkiogciokngjfaaGA
import Derived.Deep.DeepCutAuto
import Derived.Deep.LoopGhost
import Derived.Deep.RegionHeld3
import Derived.StillTailTactics
import Derived.Shelf.Slices.Reverse
import Derived.Test.YtkiogciokngjfaaProg
import Derived.Sort.OwnSortedInts
import Derived.Deep.MidRow
import Derived.Deep.RegionWith
set_option linter.unusedVariables false
set_option linter.unusedSimpArgs false
/- The moves from a cell, one by one: what is still to come. -/
namespace Go.Proofs.Ytkiogciokngjfaa
open Go.RowKit Go.Sort FR
theorem Ints.blk' {w : World} {ad : Addr} {n : Nat} {f : Nat → Int} (h : Ints w (some ad) n f) (hn : 0 < n) : ad.block < w.heap.size := by
  obtain ⟨ad', e, h1, _⟩ := h hn
  injection e with e; subst e; exact h1
/-- the move of number j -/
theorem moves_at {g : G} {k j : Nat} (hj : j < (movesI g k).length) : ∃ d : Nat, d < 8 ∧ g.mayC k d = true ∧ (movesI g k).getD j 0 = (d : Int) ∧ (g.moves k)[j]? = some d := by
  have hl : (movesI g k).length = (g.moves k).length := by rw [movesI_eq, List.length_map]
  have hj' : j < (g.moves k).length := by omega
  have hm := List.getElem_mem hj'
  unfold G.moves at hm
  have := List.mem_filter.1 hm
  refine ⟨(g.moves k)[j], List.mem_range.1 this.1, this.2, ?_, List.getElem?_eq_getElem hj'⟩
  rw [movesI_eq]
  simp [List.getD, hj']
theorem bel_cell {w w' : World} {a : Addr} {v : Value} (h : Below w.heap.size w w') (hc : w.cell? a = some v) : w'.cell? a = some v := (h.cell (World.block_lt_of_cell? w _ hc)).trans hc
theorem alloc_some {w : World} {o : Obj} {a : Addr} {v : Value} (h : w.cell? a = some v) : (w.alloc o).cell? a = some v := by
  rw [World.cell?_alloc_old w _ _ (Nat.ne_of_lt (World.block_lt_of_cell? w _ h))]; exact h
/-- the parts of a step -/
theorem step_parts (d : Nat) : ∃ es ed : Int, stepC d = ⟨es, ed⟩ ∧ (d : Int).tmod 2 = ed ∧ 1 - ed = es ∧ 0 ≤ ed ∧ ed ≤ 1 := by
  refine ⟨1 - ((d % 2 : Nat) : Int), ((d % 2 : Nat) : Int), ?_, ?_, rfl, by omega, by omega⟩
  · unfold stepC
    rcases Nat.mod_two_eq_zero_or_one d with h | h <;> simp [h]
  · rw [Int.tmod_eq_emod_of_nonneg (by omega)]; simp
/-- the edges that are still to come -/
def PendM (g : G) (k j : Nat) (b : Nat) (e : C) : Prop := ∃ d, d ∈ (g.moves k).drop j ∧ b = g.to k d ∧ e = stepC d
theorem pend_next {g : G} {k j d tt : Nat} (hd : (g.moves k)[j]? = some d) (ht : g.to k d = tt) : ∀ b e, PendM g k j b e → PendM g k (j + 1) b e ∨ (b = tt ∧ e = stepC d) := by
  rintro b e ⟨d', hm, rfl, rfl⟩
  obtain ⟨hj, hd2⟩ := List.getElem?_eq_some_iff.1 hd
  rw [List.drop_eq_getElem_cons hj, hd2] at hm
  rcases List.mem_cons.1 hm with rfl | hm
  · exact .inr ⟨ht, rfl⟩
  · exact .inl ⟨d', hm, rfl, rfl⟩
theorem pend_done {g : G} {k nl : Nat} (h : (movesI g k).length = nl) : ∀ b e, PendM g k nl b e → False := by
  rintro b e ⟨d, hm, _⟩
  rw [movesI_eq, List.length_map] at h
  rw [List.drop_eq_nil_of_le (by omega)] at hm
  cases hm
theorem stepC_ne (d : Nat) : stepC d ≠ C.zero := by unfold stepC C.zero; split <;> simp
theorem stepC_le (d : Nat) : C.le (stepC d) ⟨0, 1⟩ := by unfold stepC; split <;> decide
end Go.Proofs.Ytkiogciokngjfaa
/- What the functions of package clear do to a table. -/
namespace Go.Proofs.Ytkiogciokngjfaa
open Go.RowKit Go.Sort FR
/-- the k-th cell of a table over the grid in block p -/
def tcell (p : Nat) (f : Nat → Nat → Int) (k : Nat) : Value := if k = 0 then .pointer (some ⟨p, 0, none⟩) else .int .i64 (f ((k - 1) / 8) ((k - 1) % 8))
def TabAt (w : World) (t p : Nat) (f : Nat → Nat → Int) : Prop := w.heap[t]? = some (.cells (rowOf (tcell p f) 2049) 151 (0, 0))
theorem TabAt.lt {w : World} {t p : Nat} {f : Nat → Nat → Int} (h : TabAt w t p f) : t < w.heap.size := (Array.getElem?_eq_some_iff.1 h).1
theorem TabAt.below {w w' : World} {t p B : Nat} {f : Nat → Nat → Int} (h : TabAt w t p f) (hb : Below B w w') (ht : t < B) : TabAt w' t p f := (hb.block t ht).trans h
theorem TabAt.kept {S : List Nat} {w w' : World} {t p : Nat} {f : Nat → Nat → Int} (h : TabAt w t p f) (hk : Kept S w w') (ht : t ∉ S) : TabAt w' t p f := (hk.block t h.lt ht).trans h
theorem TabAt.cell {w : World} {t p : Nat} {f : Nat → Nat → Int} (h : TabAt w t p f) (k : Nat) (hk : k < 2049) : w.cell? ⟨t, k, none⟩ = some (tcell p f k) := by
  unfold TabAt at h
  simp [World.cell?, h, rowOf_get _ _ _ hk]
theorem TabAt.ptr {w : World} {t p : Nat} {f : Nat → Nat → Int} (h : TabAt w t p f) : w.cell? ⟨t, 0, none⟩ = some (.pointer (some ⟨p, 0, none⟩)) := h.cell 0 (by decide)
theorem tcell_at (p : Nat) (f : Nat → Nat → Int) {c d : Nat} (hd : d < 8) : tcell p f (1 + c * 8 + d) = .int .i64 (f c d) := by
  unfold tcell
  rw [if_neg (by omega), show (1 + c * 8 + d - 1) / 8 = c by omega, show (1 + c * 8 + d - 1) % 8 = d by omega]
theorem TabAt.val {w : World} {t p : Nat} {f : Nat → Nat → Int} (h : TabAt w t p f) {c d : Nat} (hc : c < 256) (hd : d < 8) : w.cell? ⟨t, 1 + c * 8 + d, none⟩ = some (.int .i64 (f c d)) := by
  rw [h.cell _ (by omega), tcell_at p f hd]
theorem TabAt.frozen {w : World} {t p : Nat} {f : Nat → Nat → Int} (h : TabAt w t p f) (k : Nat) : w.frozen? ⟨t, k, none⟩ = false := by
  unfold TabAt at h
  simp [World.frozen?, h]
def fset (f : Nat → Nat → Int) (c d : Nat) (z : Int) : Nat → Nat → Int := fun c' d' => if c' = c ∧ d' = d then z else f c' d'
theorem set_heap1 (w : World) (p k : Nat) (cs : Array Value) (T : TypeId) (x : Value) (h : w.heap[p]? = some (.cells cs T (0, 0))) : (w.setCell ⟨p, k, none⟩ x).heap[p]? = some (.cells (cs.setIfInBounds k x) T (0, 0)) := by
  simp [World.setCell, Array.getElem?_modify, h]
theorem row_set (f f' : Nat → Value) (n k : Nat) (x : Value) (hk : f' k = x) (ho : ∀ i, i ≠ k → f' i = f i) : (rowOf f n).setIfInBounds k x = rowOf f' n := by
  apply Array.ext_getElem?
  intro i
  rw [Array.getElem?_setIfInBounds]
  by_cases h1 : i < n
  · rw [rowOf_get _ _ _ h1, rowOf_get _ _ _ h1]
    by_cases h2 : k = i
    · subst h2; rw [if_pos rfl, if_pos (by rw [rowOf_size]; exact h1), hk]
    · rw [if_neg h2, ho i (fun e => h2 e.symm)]
  · rw [Array.getElem?_eq_none (by rw [rowOf_size]; omega), Array.getElem?_eq_none (by rw [rowOf_size]; omega)]
    split
    · rw [if_neg (by rw [rowOf_size]; omega)]
    · rfl
theorem TabAt.set {w : World} {t p : Nat} {f : Nat → Nat → Int} (h : TabAt w t p f) {c d : Nat} (hc : c < 256) (hd : d < 8) (z : Int) : TabAt (w.setCell ⟨t, 1 + c * 8 + d, none⟩ (.int .i64 z)) t p (fset f c d z) := by
  unfold TabAt at h ⊢
  rw [set_heap1 _ _ _ _ _ _ h, row_set (tcell p f) (tcell p (fset f c d z)) 2049 (1 + c * 8 + d) _ (by rw [tcell_at p _ hd]; unfold fset; rw [if_pos ⟨rfl, rfl⟩])]
  intro i hi
  unfold tcell fset
  by_cases h3 : i = 0
  · rw [if_pos h3, if_pos h3]
  · rw [if_neg h3, if_neg h3, if_neg (by omega)]
theorem May_eq2 (w : World) (p : Nat) (g : G) (v x y : Int) (d : Nat) (t : Bool) (h : GridAt w p g v) (hd : d < 8) (hx : inP x) (hy : inP y) (e : g.may x y d = t) :
    Calls Try.prog 79 #[.pointer (some ⟨p, 0, none⟩), .int .i64 x, .int .i64 y, .int .i64 (d : Nat)] w fun e w' => e = .returned (.bool t) ∧ Below w.heap.size w w' := by
  rw [← e]; exact gridMay w p g v x y d h hd hx hy
/-- how far one may go from a cell -/
def clrC (g : G) (c d : Nat) : Int := (G.clr g d (g.X c : Nat) (g.Y c : Nat) : Nat)
set_option maxHeartbeats 1600000 in
theorem tabCount (w : World) (t p : Nat) (f : Nat → Nat → Int) (g : G) (v : Int) (c d : Nat) (hT : TabAt w t p f) (hG : GridAt w p g v) (htp : t ≠ p) (hc : c < g.n) (hd : d < 8) :
    Calls Try.prog 108 #[.pointer (some ⟨t, 0, none⟩), .int .i64 (c : Nat), .int .i64 (d : Nat)] w fun e w' => e = .returned (.tuple #[]) ∧ TabAt w' t p (fset f c d (clrC g c d)) ∧ GridAt w' p g v ∧ Kept [t] w w' := by
  have hn := G.n_le hG.1
  have hok := hG.1
  have hX : (g.X c : Int) < 16 := by have := G.X_lt hG.1 c; have := hG.1.2.1; omega
  have hY : (g.Y c : Int) < 16 := by have := G.Y_lt hc; have := hG.1.2.2.2; omega
  have htl := Lib.hid hT.lt
  have hpl := Lib.hid hG.lt
  have k0 := hT.ptr
  obtain ⟨b1, b2, b3, b4⟩ := dN_abs d
  have hst := Lib.hid (step_one d hd)
  have hmm := Lib.hid (fun (x y : Int) => (rfl : g.may x y d = g.may x y d))
  obtain ⟨dx, hdx⟩ : ∃ z, dxN d = z := ⟨_, rfl⟩
  obtain ⟨dy, hdy⟩ : ∃ z, dyN d = z := ⟨_, rfl⟩
  rw [hdx] at b1 b2
  rw [hdy] at b3 b4
  have hst' : ∀ w, Calls Try.prog 41 #[.int .i64 (d : Nat)] w fun e w' => e = .returned (.tuple #[.int .i64 dx, .int .i64 dy]) ∧ Below w.heap.size w w' := by
    rw [← hdx, ← hdy]; exact hst.out
  have hst' := Lib.hid hst'
  have Hdx := Lib.hid hdx
  have Hdy := Lib.hid hdy
  clear hdx hdy hst hmm
  go_enter Try.func108, Try.ntmps108
  go_wp2_with fail
  (with_reducible refine (gridPlace_in _ p g v c hG hc).mono ?_)
  rintro e w1 ⟨rfl, hb1⟩
  go_wp2_with fail
  (with_reducible refine (hst'.out _).mono ?_)
  rintro e w2 ⟨rfl, hb2⟩
  have HB2 := bel_trans hb1 hb2
  clear hb1 hb2 k0
  go_wp2_with fail
  go_loopw [6, 7, 11] (fun x y i wr => ∃ (k : Nat) (u z : Int), i = .int .i64 k ∧ x = .int .i64 u ∧ y = .int .i64 z ∧ u = (g.X c : Nat) + k * dx ∧ z = (g.Y c : Nat) + k * dy ∧ G.run g d (g.X c : Nat) (g.Y c : Nat) k ∧ Below w.heap.size w wr) (fun _ _ i _ => 20 - (intOf i).toNat)
  case atStart => exact ⟨0, _, _, rfl, rfl, rfl, by simp, by simp, G.run_zero _ _ _ _, HB2⟩
  case round =>
    obtain ⟨k, u, z, rfl, rfl, rfl, hu, hz, hr, HB⟩ := hrel
    have hk := G.run_bd hok hr
    have hu1 : -40 ≤ u ∧ u ≤ 40 := by
      rcases (show dx = -1 ∨ dx = 0 ∨ dx = 1 by omega) with e | e | e <;> rw [e] at hu <;> omega
    have hz1 : -40 ≤ z ∧ z ≤ 40 := by
      rcases (show dy = -1 ∨ dy = 0 ∨ dy = 1 by omega) with e | e | e <;> rw [e] at hz <;> omega
    obtain ⟨u1, u2⟩ := hu1
    obtain ⟨z1, z2⟩ := hz1
    have hT2 := hT.below HB htl.out
    have k0 := hT2.ptr
    have hr' := Lib.hid hr
    have Hu := Lib.hid hu
    have Hz := Lib.hid hz
    clear hr hu hz
    go_wp2_with fail
    cases hm : g.may u z d with
    | true =>
      (with_reducible refine (May_eq2 _ p g v u z d true (hG.below HB hpl.out) hd (by unfold inP; omega) (by unfold inP; omega) hm).mono ?_)
      rintro e w3 ⟨rfl, hb3⟩
      have HB3 := bel_trans HB hb3
      have hm' := Lib.hid hm
      clear hb3 hm k0
      go_wp2
      go_roundw
      case rel => exact ⟨k + 1, _, _, by go_num, rfl, rfl, by have := Hu.out; rw [Int.natCast_add, Int.add_mul]; omega, by have := Hz.out; rw [Int.natCast_add, Int.add_mul]; omega, G.run_succ hr'.out (by rw [Hdx.out, Hdy.out, ← Hu.out, ← Hz.out]; exact hm'.out), HB3⟩
      case measure => simp [intOf]; omega
    | false =>
      (with_reducible refine (May_eq2 _ p g v u z d false (hG.below HB hpl.out) hd (by unfold inP; omega) (by unfold inP; omega) hm).mono ?_)
      rintro e w3 ⟨rfl, hb3⟩
      have HB3 := bel_trans HB hb3
      have hT3 := hT.below HB3 htl.out
      have hG3 := hG.below HB3 hpl.out
      have e : (k : Int) = clrC g c d := by
        unfold clrC
        rw [G.clr_eq hok hr'.out (by rw [Hdx.out, Hdy.out, ← Hu.out, ← Hz.out]; exact hm)]
      have he := Lib.hid e
      clear hb3 hm k0 e
      have kv := hT3.val (c := c) (d := d) (by omega) hd
      have kf := hT3.frozen (1 + c * 8 + d)
      have q1 : (c : Int) < 256 := by omega
      have q2 : (d : Int) < 8 := by omega
      go_wp2
      go_end0
      refine ⟨rfl, ?_, ?_, ?_⟩
      · rw [← he.out]; exact hT3.set (by omega) hd _
      · exact hG3.kept (S := [t]) ((Kept.refl _ _).setCell (.inl (by simp))) (by simp; omega)
      · exact (Kept.of_below HB3).setCell (.inl (by simp))
end Go.Proofs.Ytkiogciokngjfaa
/- What New, Steps, line and Set of package clear do, and the reference's Clear. -/
namespace Go.Proofs.Ytkiogciokngjfaa
open Go.RowKit Go.Sort FR
/-- so far so many have been counted -/
def TabNew (W0 : World) (t p : Nat) (g : G) (v : Int) (P : Nat → Nat → Prop) (w : World) : Prop := ∃ f, TabAt w t p f ∧ GridAt w p g v ∧ (∀ c d, P c d → f c d = clrC g c d) ∧ Below W0.heap.size W0 w
theorem zero_row (p : Nat) : (Try.zeroCells151.setIfInBounds 0 (.pointer (some ⟨p, 0, none⟩))) = rowOf (tcell p (fun _ _ => 0)) 2049 := by kernel_rfl
set_option maxRecDepth 100000 in
theorem tabSteps_in (w : World) (t p : Nat) (f : Nat → Nat → Int) (g : G) (v : Int) (c d : Nat) (hT : TabAt w t p f) (hG : GridAt w p g v) (hc : c < g.n) (hd : d < 8) :
    Calls Try.prog 53 #[.pointer (some ⟨t, 0, none⟩), .int .i64 (c : Nat), .int .i64 (d : Nat)] w fun e w' => e = .returned (.tuple #[.int .i64 (f c d), .nilIface]) ∧ Below w.heap.size w w' := by
  have hn := G.n_le hG.1
  have htl := Lib.hid hT.lt
  have k0 := hT.ptr
  go_enter Try.func53, Try.ntmps53
  go_wp2_with fail
  (with_reducible refine (gridPlace_in _ p g v c hG hc).mono ?_)
  rintro e w1 ⟨rfl, hb1⟩
  have kv := (hT.below hb1 htl.out).val (c := c) (d := d) (by omega) hd
  have q1 : (c : Int) < 256 := by omega
  have q2 : (d : Int) < 8 := by omega
  clear k0
  go_wp2
  go_ret2
  exact ⟨rfl, hb1⟩
theorem tabSteps_cell (w : World) (t p : Nat) (f : Nat → Nat → Int) (g : G) (v c d : Int) (hT : TabAt w t p f) (hG : GridAt w p g v) (hc : c < 0 ∨ g.n ≤ c) :
    Calls Try.prog 53 #[.pointer (some ⟨t, 0, none⟩), .int .i64 c, .int .i64 d] w fun e w' => e = .returned (.tuple #[.int .i64 0, .iface 137 (.int .i64 1)]) ∧ Below w.heap.size w w' := by
  have k0 := hT.ptr
  go_enter Try.func53, Try.ntmps53
  go_wp2_with fail
  (with_reducible refine (gridPlace_out _ p g v c hG hc).mono ?_)
  rintro e w1 ⟨rfl, hb1⟩
  clear k0
  go_wp2
  go_ret2
  exact ⟨rfl, hb1⟩
theorem tabSteps_dir (w : World) (t p : Nat) (f : Nat → Nat → Int) (g : G) (v : Int) (c : Nat) (d : Int) (hT : TabAt w t p f) (hG : GridAt w p g v) (hc : c < g.n) (hd : d < 0 ∨ 8 ≤ d) :
    Calls Try.prog 53 #[.pointer (some ⟨t, 0, none⟩), .int .i64 (c : Nat), .int .i64 d] w fun e w' => e = .returned (.tuple #[.int .i64 0, .iface 137 (.int .i64 1)]) ∧ Below w.heap.size w w' := by
  have k0 := hT.ptr
  rcases (show d < 0 ∨ (0 ≤ d ∧ 8 ≤ d) by omega) with hd | ⟨hd1, hd2⟩
  all_goals
    go_enter Try.func53, Try.ntmps53
    go_wp2_with fail
    (with_reducible refine (gridPlace_in _ p g v c hG hc).mono ?_)
    rintro e w1 ⟨rfl, hb1⟩
    clear k0
    go_wp2
    go_ret2
    exact ⟨rfl, hb1⟩
/-- a new table, all counted -/
def TabMade (w : World) (g : G) (v : Int) (e : Ending) (w' : World) : Prop := ∃ t p, e = .returned (.pointer (some ⟨t, 0, none⟩)) ∧ w.heap.size ≤ p ∧ p < t ∧ TabNew w t p g v (fun c d => c < g.n ∧ d < 8) w'
set_option maxHeartbeats 1600000 in
theorem tabNew (w : World) (p0 : Nat) (g : G) (v : Int) (hG : GridAt w p0 g v) :
    Calls Try.prog 51 #[.pointer (some ⟨p0, 0, none⟩)] w (TabMade w g v) := by
  have hp0 := Lib.hid hG.lt
  have hn := G.n_le hG.1
  go_enter Try.func51, Try.ntmps51
  go_wp2_with fail
  (with_reducible refine (gridCopy _ p0 g v hG).mono ?_)
  rintro e w1 ⟨rfl, hC, hb1, hz1⟩
  obtain ⟨p, hpw⟩ : ∃ p, w.heap.size = p := ⟨_, rfl⟩
  rw [hpw] at hC ⊢
  have Hz1 := Lib.hid hz1
  have Hpw := Lib.hid hpw
  clear hz1 hpw
  go_upto_region 2 with (fail)
  obtain ⟨t, ht⟩ : ∃ t, w1.heap.size = t := ⟨_, rfl⟩
  rw [ht]
  have hpw := Hpw.out
  have htz : t = p + 1 := by have := Hz1.out; omega
  have hP := Lib.hid (show w.heap.size ≤ p by omega)
  refine wp_name ?_
  intro W2 hW2
  have hT2 : TabAt W2 t p (fun _ _ => 0) := by rw [hW2, ← ht]; unfold TabAt; rw [heap_alloc_new, zero_row]
  have hC2 : GridAt W2 p g v := by rw [hW2]; exact hC.below (Below.alloc (Below.refl _ _) (Nat.le_refl _) _) hC.lt
  have HB2 : Below w.heap.size w W2 := by rw [hW2]; exact bel_alloc hb1
  have hstart : TabNew w t p g v (fun c d => c < g.n ∧ d < 0) W2 := ⟨_, hT2, hC2, fun c d h => by omega, HB2⟩
  have Htz := Lib.hid htz
  clear hW2 hT2 hC2 HB2 hC hb1 ht hpw htz
  go_wp2_with fail
  go_loopw [10] (fun i wr => ∃ d : Nat, d ≤ 8 ∧ i = .int .i64 d ∧ TabNew w t p g v (fun c' d' => c' < g.n ∧ d' < d) wr) (fun i _ => 8 - (intOf i).toNat)
  case atStart => exact ⟨0, by omega, rfl, hstart⟩
  case round =>
    obtain ⟨d, hd, rfl, f, hT, hC, hf, HB⟩ := hrel
    clear hstart
    by_cases hlt : d < 8
    · go_wp2_with fail
      (with_reducible refine (gridCellsN _ p0 g v (hG.below HB hp0.out)).mono ?_)
      rintro e w3 ⟨rfl, hb3⟩
      have hin : TabNew w t p g v (fun c' d' => c' < g.n ∧ d' < d ∨ c' < 0 ∧ d' = d) w3 := ⟨f, hT.below hb3 hT.lt, hC.below hb3 hC.lt, fun c' d' h => hf c' d' (by omega), bel_trans HB hb3⟩
      clear hT hC hf HB hb3
      go_wp2_with fail
      obtain ⟨wo, rfl⟩ : ∃ wo : World, wo = wr := ⟨_, rfl⟩
      go_loopw [15] (fun i wr => ∃ c : Nat, c ≤ g.n ∧ i = .int .i64 c ∧ TabNew w t p g v (fun c' d' => c' < g.n ∧ d' < d ∨ c' < c ∧ d' = d) wr) (fun i _ => g.n - (intOf i).toNat)
      case atStart => exact ⟨0, by omega, rfl, hin⟩
      case round =>
        obtain ⟨c, hc, rfl, f, hT, hC, hf, HB⟩ := hrel
        clear hin
        by_cases hlc : c < g.n
        · have htp : t ≠ p := by have := Htz.out; omega
          go_wp2_with fail
          (with_reducible refine (tabCount _ t p f g v c d hT hC htp hlc hlt).mono ?_)
          rintro e w4 ⟨rfl, hT4, hC4, hk4⟩
          have HB4 := Kept.below HB hk4 HB.size (by simp; have := Htz.out; have := hP.out; omega)
          clear htp hT hC hk4
          go_wp2
          go_roundw
          case rel => exact ⟨c + 1, by omega, by go_num, _, hT4, hC4, fun c' d' h => by
            unfold fset
            by_cases e : c' = c ∧ d' = d
            · obtain ⟨rfl, rfl⟩ := e; rw [if_pos ⟨rfl, rfl⟩]
            · rw [if_neg e]; exact hf c' d' (by omega), HB4⟩
          case measure => simp [intOf]; omega
        · obtain rfl : c = g.n := by omega
          go_wp2
          go_roundw
          case rel => exact ⟨d + 1, by omega, by go_num, f, hT, hC, fun c' d' h => hf c' d' (by omega), HB⟩
          case measure => simp [intOf]; omega
    · obtain rfl : d = 8 := by omega
      go_wp2
      go_ret
      exact ⟨t, p, rfl, hP.out, by have := Htz.out; omega, f, hT, hC, hf, HB⟩
/-- what a line of counting leaves: some are counted, others are as they were -/
def Recount (g : G) (f f' : Nat → Nat → Int) : Prop := ∀ c d, f' c d = f c d ∨ f' c d = clrC g c d
theorem Recount.refl (g : G) (f : Nat → Nat → Int) : Recount g f f := fun _ _ => .inl rfl
theorem Recount.set {g : G} {f f' : Nat → Nat → Int} (h : Recount g f f') (c d : Nat) : Recount g f (fset f' c d (clrC g c d)) := by
  intro c' d'
  unfold fset
  by_cases e : c' = c ∧ d' = d
  · obtain ⟨rfl, rfl⟩ := e; rw [if_pos ⟨rfl, rfl⟩]; exact .inr rfl
  · rw [if_neg e]; exact h c' d'
theorem Recount.trans {g : G} {f f' f'' : Nat → Nat → Int} (h : Recount g f f') (k : Recount g f' f'') : Recount g f f'' := by
  intro c d
  rcases k c d with e | e
  · rw [e]; exact h c d
  · exact .inr e
/-- what is counted stays so -/
theorem Recount.keep {g : G} {f f' : Nat → Nat → Int} (h : Recount g f f') {c d : Nat} (e : f c d = clrC g c d) : f' c d = clrC g c d := by
  rcases h c d with h | h
  · rw [h, e]
  · exact h
/-- a cell lies k steps against direction d behind a place -/
def Behind (g : G) (x y : Int) (d c k : Nat) : Prop := c < g.n ∧ (g.X c : Int) = x - k * dxN d ∧ (g.Y c : Int) = y - k * dyN d
def inG (g : G) (x y : Int) : Prop := 0 ≤ x ∧ x < g.w ∧ 0 ≤ y ∧ y < g.h
/-- behind a line from a place: whatever lies behind that, in the grid all the way, is counted -/
def Lined (g : G) (f' : Nat → Nat → Int) (x y : Int) (d m : Nat) : Prop := ∀ c k : Nat, k < m → Behind g x y d c k → f' c d = clrC g c d
def LineR (W0 : World) (t p : Nat) (g : G) (v : Int) (f : Nat → Nat → Int) (x y : Int) (d m : Nat) (w : World) : Prop :=
  ∃ f', TabAt w t p f' ∧ GridAt w p g v ∧ Recount g f f' ∧ Lined g f' x y d m ∧ Kept [t] W0 w
/-- the whole line -/
def LineD (W0 : World) (t p : Nat) (g : G) (v : Int) (f : Nat → Nat → Int) (x y : Int) (d : Nat) (e : Ending) (w : World) : Prop :=
  e = .returned (.tuple #[]) ∧ ∃ f', TabAt w t p f' ∧ GridAt w p g v ∧ Recount g f f' ∧ (inG g x y → ∀ c k : Nat, Behind g x y d c k → f' c d = clrC g c d) ∧ Kept [t] W0 w
/-- in a grid, whatever lies between two places of it on a line lies in it -/
theorem inG_between {g : G} {x y : Int} {d k m : Nat} (h0 : inG g x y) (hk : inG g (x - k * dxN d) (y - k * dyN d)) (hm : m ≤ k) : inG g (x - m * dxN d) (y - m * dyN d) := by
  obtain ⟨b1, b2, b3, b4⟩ := dN_abs d
  unfold inG at *
  generalize dxN d = a at *
  generalize dyN d = b at *
  rcases (show a = -1 ∨ a = 0 ∨ a = 1 by omega) with rfl | rfl | rfl <;> rcases (show b = -1 ∨ b = 0 ∨ b = 1 by omega) with rfl | rfl | rfl <;> omega
theorem behind_in {g : G} (hg : g.ok) {x y : Int} {d c k : Nat} (h : Behind g x y d c k) : inG g (x - k * dxN d) (y - k * dyN d) := by
  obtain ⟨h1, h2, h3⟩ := h
  have := G.X_lt hg c
  have := G.Y_lt h1
  unfold inG; omega
theorem lined_succ {g : G} {f' : Nat → Nat → Int} {x y : Int} {d m c : Nat} (hL : Lined g f' x y d m) (hb : Behind g x y d c m) : Lined g (fset f' c d (clrC g c d)) x y d (m + 1) := by
  intro c' k hk h
  unfold fset
  by_cases e : c' = c ∧ d = d
  · rw [if_pos e, e.1]
  · rw [if_neg e]
    have hne : c' ≠ c := fun e' => e ⟨e', rfl⟩
    refine hL c' k ?_ h
    have : k ≠ m := by
      rintro rfl
      apply hne
      obtain ⟨_, h2, h3⟩ := h
      obtain ⟨_, b2, b3⟩ := hb
      rw [← G.cell_XY g c', ← G.cell_XY g c]
      rw [show g.X c' = g.X c by omega, show g.Y c' = g.Y c by omega]
    omega
theorem behind_at {g : G} (hg : g.ok) {x y : Int} {d m : Nat} (h : inG g (x - m * dxN d) (y - m * dyN d)) : ∃ c : Nat, (y - m * dyN d) * (g.w : Int) + (x - m * dxN d) = (c : Nat) ∧ Behind g x y d c m := by
  obtain ⟨h1, h2, h3, h4⟩ := h
  obtain ⟨i, hi⟩ := Int.eq_ofNat_of_zero_le h1
  obtain ⟨j, hj⟩ := Int.eq_ofNat_of_zero_le h3
  refine ⟨g.cell i j, ?_, G.cell_lt (by omega) (by omega), ?_, ?_⟩
  · rw [hi, hj]; unfold G.cell; simp
  · rw [G.X_cell (by omega)]; exact hi.symm
  · rw [G.Y_cell (by omega)]; exact hj.symm
theorem lined_end {g : G} (hg : g.ok) {f' : Nat → Nat → Int} {x y : Int} {d m : Nat} (hL : Lined g f' x y d m) (ho : ¬ inG g (x - m * dxN d) (y - m * dyN d)) : inG g x y → ∀ c k : Nat, Behind g x y d c k → f' c d = clrC g c d := by
  intro h0 c k h
  refine hL c k ?_ h
  rcases Nat.lt_or_ge k m with hlt | hge
  · exact hlt
  · exact absurd (inG_between h0 (behind_in hg h) hge) ho
theorem in_line_bd {g : G} (hg : g.ok) {x y : Int} {d m : Nat} (h0 : inG g x y) (h : inG g (x - m * dxN d) (y - m * dyN d)) : m ≤ 15 := by
  obtain ⟨_, o2, _, o4⟩ := hg
  unfold inG at *
  rcases G.dN_ne d with e | e | ⟨e, e' | e'⟩
  · rw [e] at h; omega
  · rw [e] at h; omega
  · rw [e, e'] at h; omega
  · rw [e, e'] at h; omega
set_option maxHeartbeats 1600000 in
theorem tabLine (w : World) (t p : Nat) (f : Nat → Nat → Int) (g : G) (v x y : Int) (d : Nat) (hT : TabAt w t p f) (hG : GridAt w p g v) (htp : t ≠ p) (hd : d < 8) (hx : -1 ≤ x ∧ x ≤ 16) (hy : -1 ≤ y ∧ y ≤ 16) :
    Calls Try.prog 109 #[.pointer (some ⟨t, 0, none⟩), .int .i64 x, .int .i64 y, .int .i64 (d : Nat)] w (LineD w t p g v f x y d) := by
  have hok := hG.1
  have htl := Lib.hid hT.lt
  have hpl := Lib.hid hG.lt
  have hne := Lib.hid htp
  obtain ⟨x1, x2⟩ := hx
  obtain ⟨y1, y2⟩ := hy
  clear htp
  obtain ⟨b1, b2, b3, b4⟩ := dN_abs d
  have hst := step_one d hd
  obtain ⟨dx, hdx⟩ : ∃ z, dxN d = z := ⟨_, rfl⟩
  obtain ⟨dy, hdy⟩ : ∃ z, dyN d = z := ⟨_, rfl⟩
  rw [hdx] at b1 b2 hst
  rw [hdy] at b3 b4 hst
  have hst := Lib.hid hst
  have Hdx := Lib.hid hdx
  have Hdy := Lib.hid hdy
  clear hdx hdy
  go_enter Try.func109, Try.ntmps109
  go_wp2_with fail
  (with_reducible refine (hst.out _).mono ?_)
  rintro e w1 ⟨rfl, hb1⟩
  have hstart : LineR w t p g v f x y d 0 w1 := ⟨f, hT.below hb1 htl.out, hG.below hb1 hpl.out, Recount.refl _ _, fun c k hk => by omega, .of_below hb1⟩
  clear hb1
  go_wp2_with fail
  go_loopg [1, 2] 20 (fun gk a b wr => ∃ (m : Nat) (u z : Int), gk + m = 20 ∧ m ≤ 16 ∧ a = .int .i64 u ∧ b = .int .i64 z ∧ u = x - m * dx ∧ z = y - m * dy ∧ (0 < m → inG g x y) ∧ LineR w t p g v f x y d m wr)
  case atStart => exact ⟨0, x, y, by omega, by omega, rfl, rfl, by simp, by simp, fun h => by omega, hstart⟩
  case round =>
    obtain ⟨m, u, z, hgm, hm16, rfl, rfl, hu, hz, hin, f', hT', hG', hrc, hL, hk⟩ := hrel
    clear hstart
    have hu1 : -40 ≤ u ∧ u ≤ 40 := by
      rcases (show dx = -1 ∨ dx = 0 ∨ dx = 1 by omega) with e | e | e <;> rw [e] at hu <;> omega
    have hz1 : -40 ≤ z ∧ z ≤ 40 := by
      rcases (show dy = -1 ∨ dy = 0 ∨ dy = 1 by omega) with e | e | e <;> rw [e] at hz <;> omega
    obtain ⟨u1, u2⟩ := hu1
    obtain ⟨z1, z2⟩ := hz1
    have k0 := hT'.ptr
    have Hu := Lib.hid hu
    have Hz := Lib.hid hz
    have Hgm := Lib.hid hgm
    have Hin := Lib.hid hin
    clear hu hz hgm hin
    by_cases hg : inG g u z
    · have hg' : inG g (x - m * dxN d) (y - m * dyN d) := by rw [Hdx.out, Hdy.out, ← Hu.out, ← Hz.out]; exact hg
      have hxy : inG g x y := by
        rcases Nat.eq_zero_or_pos m with h0 | h0
        · have e1 := Hu.out; have e2 := Hz.out
          rw [h0] at e1 e2
          simp at e1 e2
          rw [← e1, ← e2]; exact hg
        · exact Hin.out h0
      have hm15 := in_line_bd hok hxy hg'
      obtain ⟨c, hc, hbe⟩ := behind_at hok hg'
      rw [Hdx.out, Hdy.out, ← Hu.out, ← Hz.out] at hc
      have cC := gridCell_in wr p g v u z hG' hg.1 hg.2.1 hg.2.2.1 hg.2.2.2
      rw [hc] at cC
      have cC := Lib.hid cC
      have Hbe := Lib.hid hbe
      have hcn := hbe.1
      clear hc hbe hg hg'
      have Hxy := Lib.hid hxy
      clear hxy
      go_wp2_with fail
      (with_reducible refine (cC.out).mono ?_)
      rintro e w' ⟨rfl, rfl⟩
      go_wp2_with fail
      (with_reducible refine (tabCount _ t p f' g v c d hT' hG' hne.out hcn hd).mono ?_)
      rintro e w4 ⟨rfl, hT4, hG4, hk4⟩
      clear k0
      go_wp2
      go_roundg (gk - 1)
      case measure => have := Hgm.out; omega
      case rel => exact ⟨m + 1, _, _, by have := Hgm.out; omega, by omega, rfl, rfl, by have := Hu.out; rw [Int.natCast_add, Int.add_mul]; omega, by have := Hz.out; rw [Int.natCast_add, Int.add_mul]; omega, fun _ => Hxy.out, _, hT4, hG4, hrc.set c d, lined_succ hL Hbe.out, hk.trans hk4⟩
    · have ho : ¬ inG g (x - m * dxN d) (y - m * dyN d) := by rw [Hdx.out, Hdy.out, ← Hu.out, ← Hz.out]; exact hg
      have cC := Lib.hid (gridCell_out wr p g v u z hG' (fun h => hg h))
      have Ho := Lib.hid ho
      clear ho hg
      go_wp2_with fail
      (with_reducible refine (cC.out).mono ?_)
      rintro e w' ⟨rfl, rfl⟩
      clear k0
      go_wp2
      go_end0
      exact ⟨rfl, f', hT', hG', hrc, lined_end hok hL Ho.out, hk⟩
end Go.Proofs.Ytkiogciokngjfaa
/- What a flood holds in memory, and what its readers hand back. -/
namespace Go.Proofs.Ytkiogciokngjfaa
open Go.RowKit Go.Sort FR
/-- a function of numbers not below 0, as one of whole numbers -/
def mapI (f : Nat → Option Value) (z : Int) : Option Value := if 0 ≤ z then f z.toNat else none
theorem mapI_nat (f : Nat → Option Value) (n : Nat) : mapI f (n : Nat) = f n := by unfold mapI; rw [if_pos (by omega)]; rfl
theorem mapI_upd (f : Nat → Option Value) (n : Nat) (v : Option Value) : updK (mapI f) (n : Nat) v = mapI (upd f n v) := by
  funext z
  unfold updK mapI upd
  by_cases h : 0 ≤ z
  · rw [if_pos h, if_pos h]
    by_cases e : z = (n : Nat)
    · rw [if_pos e, if_pos (by omega)]
    · rw [if_neg e, if_neg (by omega)]
  · rw [if_neg h, if_neg h, if_neg (by omega)]
def costV (c : C) : Value := .agg #[.int .i64 c.s, .int .i64 c.d]
def doneV (d : Nat → Option C) (j : Nat) : Option Value := (d j).map costV
def backV (b : Nat → Option Nat) (j : Nat) : Option Value := (b j).map fun x => .int .i64 (x : Nat)
theorem doneV_upd (d : Nat → Option C) (k : Nat) (c : C) : upd (doneV d) k (some (costV c)) = doneV (upd d k (some c)) := by
  funext j; unfold upd doneV; split <;> simp_all
theorem backV_upd (b : Nat → Option Nat) (k x : Nat) : upd (backV b) k (some (.int .i64 (x : Nat))) = backV (upd b k (some x)) := by
  funext j; unfold upd backV; split <;> simp_all
def iKey (z : Int) : Value := .int .i64 z
/-- block b is a flood: its grid, what each costs, who each was come from -/
structure FloodIn (w : World) (b gp mc mb : Nat) (g : G) (v : Int) (done : Nat → Option C) (back : Nat → Option Nat) (nd nb : Nat) : Prop where
  hb : w.heap[b]? = some (.cells #[.pointer (some ⟨gp, 0, none⟩), .map (some mc), .map (some mb)] 181 (0, 0))
  grid : GridAt w gp g v
  mapC : MapAt (fun z : Int => Value.int .i64 z) w mc (mapI (doneV done)) nd
  mapB : MapAt (fun z : Int => Value.int .i64 z) w mb (mapI (backV back)) nb
  ne : b ≠ mc ∧ b ≠ mb ∧ gp ≠ mc ∧ gp ≠ mb ∧ mc ≠ mb
theorem FloodIn.lt {w : World} {b gp mc mb : Nat} {g : G} {v : Int} {done : Nat → Option C} {back : Nat → Option Nat} {nd nb : Nat} (h : FloodIn w b gp mc mb g v done back nd nb) : b < w.heap.size := (Array.getElem?_eq_some_iff.1 h.hb).1
theorem FloodIn.cells {w : World} {b gp mc mb : Nat} {g : G} {v : Int} {done : Nat → Option C} {back : Nat → Option Nat} {nd nb : Nat} (h : FloodIn w b gp mc mb g v done back nd nb) :
    w.cell? ⟨b, 0, none⟩ = some (.pointer (some ⟨gp, 0, none⟩)) ∧ w.cell? ⟨b, 1, none⟩ = some (.map (some mc)) ∧ w.cell? ⟨b, 2, none⟩ = some (.map (some mb)) := by
  simp [World.cell?, h.hb]
theorem GridAt.keptS {S : List Nat} {w w' : World} {p : Nat} {g : G} {v : Int} (h : GridAt w p g v) (hk : Kept S w w') (hp : p ∉ S) : GridAt w' p g v := by
  have hl := h.lt
  obtain ⟨h0, ws, h1, h2, h3⟩ := h
  exact ⟨h0, ws, h1, (hk.block p hl hp).trans h2, h3⟩
theorem FloodIn.kept {S : List Nat} {w w' : World} {b gp mc mb : Nat} {g : G} {v : Int} {done : Nat → Option C} {back : Nat → Option Nat} {nd nb : Nat} (h : FloodIn w b gp mc mb g v done back nd nb) (hk : Kept S w w') (hS : b ∉ S ∧ gp ∉ S ∧ mc ∉ S ∧ mb ∉ S) :
    FloodIn w' b gp mc mb g v done back nd nb :=
  ⟨(hk.block b h.lt hS.1).trans h.hb, h.grid.keptS hk hS.2.1, h.mapC.kept hk hS.2.2.1, h.mapB.kept hk hS.2.2.2, h.ne⟩
theorem FloodIn.below {w w' : World} {b gp mc mb : Nat} {g : G} {v : Int} {done : Nat → Option C} {back : Nat → Option Nat} {nd nb : Nat} (h : FloodIn w b gp mc mb g v done back nd nb) (hb : Below w.heap.size w w') : FloodIn w' b gp mc mb g v done back nd nb :=
  h.kept (S := []) (.of_below hb) (by simp)
/-- block b is a flood of a grid from a free cell -/
def FloodAt (w : World) (b : Nat) (g : G) (fr : Nat) (done : Nat → Option C) (back : Nat → Option Nat) : Prop := ∃ gp mc mb v nb, FloodIn w b gp mc mb g v done back (cntS done g.n) nb ∧ FloodOk g.E fr g.n done back ∧ g.b fr = false
theorem FloodAt.below {w w' : World} {b : Nat} {g : G} {fr : Nat} {done : Nat → Option C} {back : Nat → Option Nat} (h : FloodAt w b g fr done back) (hb : Below w.heap.size w w') : FloodAt w' b g fr done back := by
  obtain ⟨gp, mc, mb, v, nb, h1, h2⟩ := h
  exact ⟨gp, mc, mb, v, nb, h1.below hb, h2⟩
theorem FloodAt.lt {w : World} {b : Nat} {g : G} {fr : Nat} {done : Nat → Option C} {back : Nat → Option Nat} (h : FloodAt w b g fr done back) : b < w.heap.size := by
  obtain ⟨gp, mc, mb, v, nb, h1, h2⟩ := h
  exact h1.lt
theorem cost_zero (w : World) : (zeroValue 23).run Try.prog w = .ok (.agg #[.int .i64 0, .int .i64 0]) w := by kernel_rfl
theorem costLook_in {w : World} {b N : Nat} {m : Int → Option Value} (h : MapAt (fun z : Int => Value.int .i64 z) w b m N) {z : Int} {v : Value} (hz : m z = some v) :
    (Instr.lookup 117 (.map (some b)) (.int .i64 z) true).run Try.prog w = .ok (.tuple #[v, .bool true]) w := by
  have := (h.look (int_fit Try.underlying3) Try.underlying117 (cost_zero w) z).1
  rw [hz] at this; exact this
theorem costLook_out {w : World} {b N : Nat} {m : Int → Option Value} (h : MapAt (fun z : Int => Value.int .i64 z) w b m N) {z : Int} (hz : m z = none) :
    (Instr.lookup 117 (.map (some b)) (.int .i64 z) true).run Try.prog w = .ok (.tuple #[.agg #[.int .i64 0, .int .i64 0], .bool false]) w := by
  have := (h.look (int_fit Try.underlying3) Try.underlying117 (cost_zero w) z).1
  rw [hz] at this; exact this
theorem floodStep (w : World) (d : Nat) (hd : d < 8) :
    Calls Try.prog 125 #[.int .i64 (d : Nat)] w fun e w' => e = .returned (.agg #[.int .i64 (stepC d).s, .int .i64 (stepC d).d]) ∧ Below w.heap.size w w' := by
  rcases (show d = 0 ∨ d = 1 ∨ d = 2 ∨ d = 3 ∨ d = 4 ∨ d = 5 ∨ d = 6 ∨ d = 7 by omega) with rfl | rfl | rfl | rfl | rfl | rfl | rfl | rfl
  all_goals
    go_enter Try.func125, Try.ntmps125
    go_wp2
    first
      | (refine bodyPost_ret (v := .agg #[.int .i64 1, .int .i64 0]) (by simp [results, Try.results125, go_sem]) rfl ?_
         exact ⟨rfl, by (repeat' (first | exact Below.refl _ _ | assumption | apply bel_drewN | apply bel_drew | apply bel_alloc | (refine bel_trans ?_ (by assumption))))⟩)
      | (refine bodyPost_ret (v := .agg #[.int .i64 0, .int .i64 1]) (by simp [results, Try.results125, go_sem]) rfl ?_
         exact ⟨rfl, by (repeat' (first | exact Below.refl _ _ | assumption | apply bel_drewN | apply bel_drew | apply bel_alloc | (refine bel_trans ?_ (by assumption))))⟩)
theorem alloc_cell {w : World} {o : Obj} {a : Addr} {v : Value} (h : w.cell? a = some v) : (w.alloc o).cell? a = some v := by
  rw [World.cell?_alloc_old w _ _ (Nat.ne_of_lt (World.block_lt_of_cell? w _ h))]; exact h
theorem alloc_frozen {w : World} {o : Obj} {a : Addr} {t : Bool} (hl : a.block < w.heap.size) (h : w.frozen? a = t) : (w.alloc o).frozen? a = t := ((bel_alloc (Below.refl w.heap.size w)).frozen (by exact hl)).trans h
theorem set_two {w : World} {b : Nat} {x y u v : Value} (h1 : w.cell? ⟨b, 0, none⟩ = some u) (h2 : w.cell? ⟨b, 1, none⟩ = some v) :
    ((w.setCell ⟨b, 0, none⟩ x).setCell ⟨b, 1, none⟩ y).cell? ⟨b, 0, none⟩ = some x ∧ ((w.setCell ⟨b, 0, none⟩ x).setCell ⟨b, 1, none⟩ y).cell? ⟨b, 1, none⟩ = some y := two_set h1 h2
set_option maxRecDepth 100000 in
set_option maxHeartbeats 800000 in
theorem floodCost_out (w : World) (b : Nat) (g : G) (fr : Nat) (done : Nat → Option C) (back : Nat → Option Nat) (c : Int) (h : FloodAt w b g fr done back) (hc : c < 0 ∨ g.n ≤ c) :
    Calls Try.prog 76 #[.pointer (some ⟨b, 0, none⟩), .int .i64 c] w fun e w' => e = .returned (.tuple #[.agg #[.int .i64 0, .int .i64 0], .iface 137 (.int .i64 1)]) ∧ Below w.heap.size w w' := by
  obtain ⟨gp, mc, mb, v, nb, hF, _⟩ := h
  have hlt := hF.lt
  obtain ⟨k0, k1, k2⟩ := hF.cells
  have hG := hF.grid
  clear hF
  go_enter Try.func76, Try.ntmps76
  go_wp2_with fail
  (with_reducible refine (gridFree_out _ gp g v c (hG.below (bel_alloc (Below.refl _ _)) hG.lt) hc).mono ?_)
  rintro e w1 ⟨rfl, hb1⟩
  have hcell := (hb1.cell (p := ⟨w.heap.size, 0, none⟩) (by simp)).trans (show _ = some (.int .i64 0) by go_simp)
  have hcell2 := (hb1.cell (p := ⟨w.heap.size, 1, none⟩) (by simp)).trans (show _ = some (.int .i64 0) by go_simp)
  have hfr1 := (hb1.frozen (p := ⟨w.heap.size, 0, none⟩) (by simp)).trans (show _ = false by go_simp)
  have hfr2 := (hb1.frozen (p := ⟨w.heap.size, 1, none⟩) (by simp)).trans (show _ = false by go_simp)
  go_wp2
  have e2 := set_two (x := .int .i64 0) (y := .int .i64 0) (by first | exact hcell' | exact hcell) (by first | exact hcell2' | exact hcell2)
  refine bodyPost_ret (v := .tuple #[.agg #[.int .i64 0, .int .i64 0], .iface 137 (.int .i64 1)]) (by simp [results, Try.results76, go_sem, e2]) rfl ?_
  exact ⟨rfl, ((bel_trans (bel_alloc (Below.refl _ _)) hb1).setCell (by simp) _).setCell (by simp) _⟩
set_option maxRecDepth 100000 in
set_option maxHeartbeats 800000 in
theorem floodCost_none (w : World) (b : Nat) (g : G) (fr : Nat) (done : Nat → Option C) (back : Nat → Option Nat) (c : Nat) (h : FloodAt w b g fr done back) (hc : c < g.n) (hd : done c = none) :
    Calls Try.prog 76 #[.pointer (some ⟨b, 0, none⟩), .int .i64 (c : Nat)] w fun e w' => e = .returned (.tuple #[.agg #[.int .i64 0, .int .i64 0], .iface 137 (.int .i64 5)]) ∧ Below w.heap.size w w' := by
  obtain ⟨gp, mc, mb, v, nb, hF, _⟩ := h
  have hlt := hF.lt
  obtain ⟨k0, k1, k2⟩ := hF.cells
  have hG := hF.grid
  have hM := hF.mapC
  have hz : mapI (doneV done) (c : Nat) = none := by rw [mapI_nat]; unfold doneV; rw [hd]; rfl
  clear hF
  go_enter Try.func76, Try.ntmps76
  go_wp2_with fail
  (with_reducible refine (gridFree_in _ gp g v c (hG.below (bel_alloc (Below.refl _ _)) hG.lt) hc).mono ?_)
  rintro e w1 ⟨rfl, hb1⟩
  have hcell := (hb1.cell (p := ⟨w.heap.size, 0, none⟩) (by simp)).trans (show _ = some (.int .i64 0) by go_simp)
  have hcell2 := (hb1.cell (p := ⟨w.heap.size, 1, none⟩) (by simp)).trans (show _ = some (.int .i64 0) by go_simp)
  have hfr1 := (hb1.frozen (p := ⟨w.heap.size, 0, none⟩) (by simp)).trans (show _ = false by go_simp)
  have hfr2 := (hb1.frozen (p := ⟨w.heap.size, 1, none⟩) (by simp)).trans (show _ = false by go_simp)
  have HB := bel_trans (bel_alloc (Below.refl _ _)) hb1
  have hM1 := hM.below HB
  have hl := costLook_out hM1 hz
  have hs := hb1.size
  have q1 := (HB.cell (by exact hlt)).trans k1
  simp at hs
  have hcell' : (w1.alloc (.cells #[.int .i64 0, .int .i64 0] 23)).cell? ⟨w.heap.size, 0, none⟩ = some (.int .i64 0) := alloc_cell hcell
  have hcell2' : (w1.alloc (.cells #[.int .i64 0, .int .i64 0] 23)).cell? ⟨w.heap.size, 1, none⟩ = some (.int .i64 0) := alloc_cell hcell2
  have hfr1' : (w1.alloc (.cells #[.int .i64 0, .int .i64 0] 23)).frozen? ⟨w.heap.size, 0, none⟩ = false := alloc_frozen (World.block_lt_of_cell? _ _ hcell) hfr1
  have hfr2' : (w1.alloc (.cells #[.int .i64 0, .int .i64 0] 23)).frozen? ⟨w.heap.size, 1, none⟩ = false := alloc_frozen (World.block_lt_of_cell? _ _ hcell2) hfr2
  clear hM hM1 hz hG
  go_wp2
  have e2 := set_two (x := .int .i64 0) (y := .int .i64 0) (by first | exact hcell' | exact hcell) (by first | exact hcell2' | exact hcell2)
  refine bodyPost_ret (v := .tuple #[.agg #[.int .i64 0, .int .i64 0], .iface 137 (.int .i64 5)]) (by simp [results, Try.results76, go_sem, e2]) rfl ?_
  exact ⟨rfl, ((bel_alloc HB).setCell (by simp) _).setCell (by simp) _⟩
set_option maxRecDepth 100000 in
set_option maxHeartbeats 800000 in
theorem floodCost_some (w : World) (b : Nat) (g : G) (fr : Nat) (done : Nat → Option C) (back : Nat → Option Nat) (c : Nat) (ds dd : Int) (h : FloodAt w b g fr done back) (hd : done c = some ⟨ds, dd⟩) :
    Calls Try.prog 76 #[.pointer (some ⟨b, 0, none⟩), .int .i64 (c : Nat)] w fun e w' => e = .returned (.tuple #[.agg #[.int .i64 ds, .int .i64 dd], .nilIface]) ∧ Below w.heap.size w w' := by
  obtain ⟨gp, mc, mb, v, nb, hF, hO, _⟩ := h
  have hc : c < g.n := hO.rng c (by rw [hd]; simp)
  have hlt := hF.lt
  obtain ⟨k0, k1, k2⟩ := hF.cells
  have hG := hF.grid
  have hM := hF.mapC
  have hz : mapI (doneV done) (c : Nat) = some (.agg #[.int .i64 ds, .int .i64 dd]) := by rw [mapI_nat]; unfold doneV; rw [hd]; rfl
  clear hF hO
  go_enter Try.func76, Try.ntmps76
  go_wp2_with fail
  (with_reducible refine (gridFree_in _ gp g v c (hG.below (bel_alloc (Below.refl _ _)) hG.lt) hc).mono ?_)
  rintro e w1 ⟨rfl, hb1⟩
  have hcell := (hb1.cell (p := ⟨w.heap.size, 0, none⟩) (by simp)).trans (show _ = some (.int .i64 0) by go_simp)
  have hcell2 := (hb1.cell (p := ⟨w.heap.size, 1, none⟩) (by simp)).trans (show _ = some (.int .i64 0) by go_simp)
  have hfr1 := (hb1.frozen (p := ⟨w.heap.size, 0, none⟩) (by simp)).trans (show _ = false by go_simp)
  have hfr2 := (hb1.frozen (p := ⟨w.heap.size, 1, none⟩) (by simp)).trans (show _ = false by go_simp)
  have HB := bel_trans (bel_alloc (Below.refl _ _)) hb1
  have hM1 := hM.below HB
  have hl := costLook_in hM1 hz
  have hs := hb1.size
  have q1 := (HB.cell (by exact hlt)).trans k1
  simp at hs
  have hcell' : (w1.alloc (.cells #[.int .i64 ds, .int .i64 dd] 23)).cell? ⟨w.heap.size, 0, none⟩ = some (.int .i64 0) := alloc_cell hcell
  have hcell2' : (w1.alloc (.cells #[.int .i64 ds, .int .i64 dd] 23)).cell? ⟨w.heap.size, 1, none⟩ = some (.int .i64 0) := alloc_cell hcell2
  have hfr1' : (w1.alloc (.cells #[.int .i64 ds, .int .i64 dd] 23)).frozen? ⟨w.heap.size, 0, none⟩ = false := alloc_frozen (World.block_lt_of_cell? _ _ hcell) hfr1
  have hfr2' : (w1.alloc (.cells #[.int .i64 ds, .int .i64 dd] 23)).frozen? ⟨w.heap.size, 1, none⟩ = false := alloc_frozen (World.block_lt_of_cell? _ _ hcell2) hfr2
  clear hM hM1 hz hG
  go_wp2
  have e2 := set_two (x := .int .i64 ds) (y := .int .i64 dd) (by first | exact hcell' | exact hcell) (by first | exact hcell2' | exact hcell2)
  refine bodyPost_ret (v := .tuple #[.agg #[.int .i64 ds, .int .i64 dd], .nilIface]) (by simp [results, Try.results76, go_sem, e2]) rfl ?_
  exact ⟨rfl, ((bel_alloc HB).setCell (by simp) _).setCell (by simp) _⟩
theorem floodReached (w : World) (b : Nat) (g : G) (fr : Nat) (done : Nat → Option C) (back : Nat → Option Nat) (h : FloodAt w b g fr done back) :
    Calls Try.prog 78 #[.pointer (some ⟨b, 0, none⟩)] w fun e w' => e = .returned (.int .i64 (cntS done g.n : Nat)) ∧ w = w' := by
  obtain ⟨gp, mc, mb, v, nb, hF, _⟩ := h
  obtain ⟨k0, k1, k2⟩ := hF.cells
  have hl := hF.mapC.len (P := Try.prog) (mt := 117) Try.underlying117 3
  generalize cntS done g.n = nd at hl ⊢
  clear hF k0 k2
  go_enter Try.func78, Try.ntmps78
  go_wp2
  go_ret
  exact ⟨rfl, rfl⟩
end Go.Proofs.Ytkiogciokngjfaa
/- flood.From: what is under way, and what a step of the search does to it. -/
namespace Go.Proofs.Ytkiogciokngjfaa
open Go.RowKit Go.Sort FR
/-- what stands in a heap, of numbers not below 0 -/
def hpI (hp : Nat → Option C) (z : Int) : Option C := if 0 ≤ z then hp z.toNat else none
theorem hpI_nat (hp : Nat → Option C) (n : Nat) : hpI hp (n : Nat) = hp n := by unfold hpI; rw [if_pos (by omega)]; rfl
theorem hpI_set (hp : Nat → Option C) (n : Nat) (v : Option C) : hset (hpI hp) (n : Nat) v = hpI (upd hp n v) := by
  funext z
  unfold hset hpI upd
  by_cases h : 0 ≤ z
  · rw [if_pos h, if_pos h]
    by_cases e : z = (n : Nat)
    · rw [if_pos e, if_pos (by omega)]
    · rw [if_neg e, if_neg (by omega)]
  · rw [if_neg h, if_neg h, if_neg (by omega)]
theorem hpI_none : (fun _ => none : Int → Option C) = hpI (fun _ => none) := by funext z; unfold hpI; split <;> rfl
theorem cntS_none (N : Nat) : cntS (fun _ => none) N = 0 := by unfold cntS; exact cntN_none N
/-- what a push makes of what stands in the heap -/
def pushed (hp : Nat → Option C) (k : Nat) (c : C) (t : Bool) : Nat → Option C := if t = true then upd hp k (some c) else hp
def lower? (hp : Nat → Option C) (k : Nat) (c : C) : Bool := match hp k with | none => true | some d => decide (C.cmp c d < 0)
theorem lower_yes {hp : Nat → Option C} {k : Nat} {c : C} (h : lower? hp k c = true) : ∀ d, hp k = some d → C.lt c d := by
  intro d hd
  unfold lower? at h
  rw [hd] at h
  simp at h
  exact C.cmp_neg.1 h
theorem lower_no {hp : Nat → Option C} {k : Nat} {c : C} (h : lower? hp k c = false) : ∃ d, hp k = some d ∧ C.le d c := by
  unfold lower? at h
  cases hk : hp k with
  | none => rw [hk] at h; cases h
  | some d =>
    rw [hk] at h
    simp at h
    exact ⟨d, rfl, C.cmp_nonneg.1 h⟩
theorem heapPushN (w : World) (S : List Nat) (q N : Nat) (hp : Nat → Option C) (k : Nat) (ds dd : Int) (t : Bool) (h : HeapOf w S q (cntS hp N) (hpI hp)) (hk : k < N) (hN : N ≤ 1000000) (hc : inCC ⟨ds, dd⟩) (ht : lower? hp k ⟨ds, dd⟩ = t) :
    Calls Try.prog 59 #[.pointer (some ⟨q, 0, none⟩), .int .i64 (k : Nat), .agg #[.int .i64 ds, .int .i64 dd]] w (HeapD w S q (cntS (pushed hp k ⟨ds, dd⟩ t) N) (hpI (pushed hp k ⟨ds, dd⟩ t)) (.bool t)) := by
  cases hz : hp k with
  | none =>
    have e : t = true := by rw [← ht]; unfold lower?; rw [hz]
    subst e
    have := heapPush_new w S q (cntS hp N) (hpI hp) (k : Nat) ds dd h (by rw [hpI_nat]; exact hz) hc (Nat.le_trans (cntS_le _ _) hN)
    rw [hpI_set] at this
    unfold pushed
    rw [if_pos rfl, cntS_new hk hz]
    exact this
  | some d =>
    obtain ⟨es, ed⟩ := d
    have e : decide (C.cmp ⟨ds, dd⟩ ⟨es, ed⟩ < 0) = t := by rw [← ht]; unfold lower?; rw [hz]
    have := heapPush_old w S q (cntS hp N) (hpI hp) (k : Nat) ds dd es ed t h (by rw [hpI_nat]; exact hz) hc e
    have e2 : (if t = true then hset (hpI hp) (k : Nat) (some ⟨ds, dd⟩) else hpI hp) = hpI (pushed hp k ⟨ds, dd⟩ t) := by
      unfold pushed; split
      · rw [hpI_set]
      · rfl
    have e3 : cntS (pushed hp k ⟨ds, dd⟩ t) N = cntS hp N := by
      unfold pushed cntS; split
      · exact cnt_hkeep N (by rw [hz]; simp) _
      · rfl
    rw [e2] at this
    rw [e3]
    exact this
/-- what is popped: the least -/
def PopN (w : World) (S : List Nat) (q N : Nat) (hp : Nat → Option C) (e : Ending) (w' : World) : Prop :=
  ∃ k ds dd, hp k = some ⟨ds, dd⟩ ∧ (∀ j d, hp j = some d → C.le ⟨ds, dd⟩ d) ∧ e = .returned (.tuple #[.int .i64 (k : Nat), .agg #[.int .i64 ds, .int .i64 dd], .bool true]) ∧ HeapOf w' S q (cntS (upd hp k none) N) (hpI (upd hp k none)) ∧ Kept S w w'
theorem It.le_c {a b : It} (h : It.le a b) : C.le a.c b.c := by
  unfold It.le It.lt at h
  intro hl
  exact h (.inl hl)
theorem heapPopN (w : World) (S : List Nat) (q N : Nat) (hp : Nat → Option C) (h : HeapOf w S q (cntS hp N) (hpI hp)) (hr : ∀ j, hp j ≠ none → j < N) (hN : N ≤ 1000000) (h0 : cntS hp N ≠ 0) :
    Calls Try.prog 57 #[.pointer (some ⟨q, 0, none⟩)] w (PopN w S q N hp) := by
  obtain ⟨k, hk⟩ : ∃ k, cntS hp N = k + 1 := ⟨cntS hp N - 1, by omega⟩
  rw [hk] at h
  refine (heapPop_some w S q k (hpI hp) h (by have := cntS_le hp N; omega)).mono ?_
  rintro e w' ⟨id, ds, dd, h1, h2, h3, h4, h5⟩
  have hid : 0 ≤ id := by
    apply Classical.byContradiction
    intro hn
    unfold hpI at h1; rw [if_neg hn] at h1; cases h1
  obtain ⟨j, rfl⟩ := Int.eq_ofNat_of_zero_le hid
  have h1' : hp j = some ⟨ds, dd⟩ := by rw [← hpI_nat hp j]; exact h1
  have hj : j < N := hr j (by rw [h1']; simp)
  have hcnt : cntS hp N = cntS (upd hp j none) N + 1 := cnt_hpop hj (by rw [h1']; simp)
  refine ⟨j, ds, dd, h1', fun i d hi => ?_, h3, ?_, h5⟩
  · have := h2 (i : Nat) d (by rw [hpI_nat]; exact hi)
    exact It.le_c this
  · have h6 : HeapOf w' S q k (hset (hpI hp) (j : Nat) none) := h4
    rw [hpI_set, show k = cntS (upd hp j none) N by omega] at h6
    exact h6
theorem cellK {S : List Nat} {w w' : World} {b o : Nat} {v : Value} (h : Kept S w w') (hb : b ∉ S) (hc : w.cell? ⟨b, o, none⟩ = some v) : w'.cell? ⟨b, o, none⟩ = some v := by
  have hl := World.block_lt_of_cell? _ _ hc
  have e : w'.cell? ⟨b, o, none⟩ = w.cell? ⟨b, o, none⟩ := World.cell?_of_block (h.block b hl hb)
  rw [e]; exact hc
/-- what lies in memory while a flood is made -/
structure FlS (W w : World) (b gp mc mb q : Nat) (S : List Nat) (g : G) (v : Int) (done hp : Nat → Option C) (back : Nat → Option Nat) (nb : Nat) : Prop where
  fl : FloodIn w b gp mc mb g v done back (cntS done g.n) nb
  heap : HeapOf w S q (cntS hp g.n) (hpI hp)
  dis : b ∉ S ∧ gp ∉ S ∧ mc ∉ S ∧ mb ∉ S
  far : ∀ k ∈ S, W.heap.size ≤ k
  own : W.heap.size ≤ b ∧ W.heap.size ≤ gp ∧ W.heap.size ≤ mc ∧ W.heap.size ≤ mb
  bel : Below W.heap.size W w
theorem FlS.below {W w w' : World} {b gp mc mb q : Nat} {S : List Nat} {g : G} {v : Int} {done hp : Nat → Option C} {back : Nat → Option Nat} {nb : Nat} (h : FlS W w b gp mc mb q S g v done hp back nb) (hb : Below w.heap.size w w') : FlS W w' b gp mc mb q S g v done hp back nb :=
  ⟨h.fl.below hb, h.heap.below hb, h.dis, h.far, h.own, h.bel.trans (hb.mono h.bel.size)⟩
/-- behind a push -/
theorem FlS.pushed {W w w' : World} {b gp mc mb q : Nat} {S : List Nat} {g : G} {v : Int} {done hp hp2 : Nat → Option C} {back : Nat → Option Nat} {nb : Nat} (h : FlS W w b gp mc mb q S g v done hp back nb) {u : Value} {e : Ending} (hD : HeapD w S q (cntS hp2 g.n) (hpI hp2) u e w') :
    ∃ S', FlS W w' b gp mc mb q S' g v done hp2 back nb ∧ (∀ k ∈ S', k ∈ S ∨ w.heap.size ≤ k) ∧ Kept S w w' := by
  obtain ⟨_, S', h1, h2, h3⟩ := hD
  have hF := h.fl.kept h3 h.dis
  have l1 := h.fl.lt
  have l2 := h.fl.grid.lt
  have l3 := h.fl.mapC.lt
  have l4 := h.fl.mapB.lt
  refine ⟨S', ⟨hF, h1, ⟨fun hm => ?_, fun hm => ?_, fun hm => ?_, fun hm => ?_⟩, fun k hk => ?_, h.own, Kept.below h.bel h3 h.bel.size h.far⟩, h2, h3⟩
  · rcases h2 _ hm with x | x
    · exact h.dis.1 x
    · omega
  · rcases h2 _ hm with x | x
    · exact h.dis.2.1 x
    · omega
  · rcases h2 _ hm with x | x
    · exact h.dis.2.2.1 x
    · omega
  · rcases h2 _ hm with x | x
    · exact h.dis.2.2.2 x
    · omega
  · rcases h2 _ hk with x | x
    · exact h.far k x
    · exact Nat.le_trans h.bel.size x
theorem Kept.belowS {S : List Nat} {B : Nat} {a b c : World} (h : Below B a b) (k : Kept S b c) (hB : B ≤ b.heap.size) (hs : ∀ i ∈ S, B ≤ i) : Below B a c := Kept.below h k hB (fun i hi => hs i hi)
/-- behind a store into the ways back -/
theorem FlS.back {W w w' : World} {b gp mc mb q : Nat} {S : List Nat} {g : G} {v : Int} {done hp : Nat → Option C} {back : Nat → Option Nat} {nb nb' : Nat} {k x : Nat} (h : FlS W w b gp mc mb q S g v done hp back nb)
    (hM : MapAt (fun z : Int => Value.int .i64 z) w' mb (updK (mapI (backV back)) (k : Nat) (some (.int .i64 (x : Nat)))) nb') (hK : Kept [mb] w w') : FlS W w' b gp mc mb q S g v done hp (upd back k (some x)) nb' := by
  obtain ⟨n1, n2, n3, n4, n5⟩ := h.fl.ne
  rw [mapI_upd, backV_upd] at hM
  refine ⟨⟨(hK.block b h.fl.lt (by simpa using n2)).trans h.fl.hb, h.fl.grid.keptS hK (by simpa using n4), h.fl.mapC.kept hK (by simpa using n5), hM, h.fl.ne⟩, h.heap.kept hK ?_, h.dis, h.far, h.own, Kept.below h.bel hK h.bel.size ?_⟩
  · intro j hj e
    simp at e; subst e
    exact h.dis.2.2.2 hj
  · intro i hi
    simp at hi; subst hi
    exact h.own.2.2.2
/-- behind a store into what each costs -/
theorem FlS.done {W w w' : World} {b gp mc mb q : Nat} {S : List Nat} {g : G} {v : Int} {done hp : Nat → Option C} {back : Nat → Option Nat} {nb : Nat} {k : Nat} {ds dd : Int} (h : FlS W w b gp mc mb q S g v done hp back nb) (hk : k < g.n) (hn : done k = none)
    (hM : MapAt (fun z : Int => Value.int .i64 z) w' mc (updK (mapI (doneV done)) (k : Nat) (some (.agg #[.int .i64 ds, .int .i64 dd]))) (if (mapI (doneV done) (k : Nat)).isSome then cntS done g.n else cntS done g.n + 1)) (hK : Kept [mc] w w') :
    FlS W w' b gp mc mb q S g v (upd done k (some ⟨ds, dd⟩)) hp back nb := by
  obtain ⟨n1, n2, n3, n4, n5⟩ := h.fl.ne
  have e : (mapI (doneV done) (k : Nat)).isSome = false := by rw [mapI_nat]; unfold doneV; rw [hn]; rfl
  rw [mapI_upd, show (some (Value.agg #[.int .i64 ds, .int .i64 dd]) : Option Value) = some (costV ⟨ds, dd⟩) from rfl, doneV_upd, e] at hM
  simp only [Bool.false_eq_true, if_false] at hM
  rw [← cntS_new hk hn ⟨ds, dd⟩] at hM
  refine ⟨⟨(hK.block b h.fl.lt (by simpa using n1)).trans h.fl.hb, h.fl.grid.keptS hK (by simpa using n3), hM, h.fl.mapB.kept hK (by simpa using Ne.symm n5), h.fl.ne⟩, h.heap.kept hK ?_, h.dis, h.far, h.own, Kept.below h.bel hK h.bel.size ?_⟩
  · intro j hj e
    simp at e; subst e
    exact h.dis.2.2.1 hj
  · intro i hi
    simp at hi; subst hi
    exact h.own.2.2.1
end Go.Proofs.Ytkiogciokngjfaa
/- flood.From: the moves from one cell are gone over. -/
namespace Go.Proofs.Ytkiogciokngjfaa
open Go.RowKit Go.Sort FR
/-- what holds at a round's head, when the moves from one are gone over -/
def SpI (W : World) (b gp mc mb q eb : Nat) (g : G) (v : Int) (fr k nl : Nat) (A1 : Option Addr) (done : Nat → Option C) (cs cd : Int) (j : Nat) (wr : World) : Prop :=
  ∃ S hp back nb, FlS W wr b gp mc mb q S g v done hp back nb ∧ FS g.E fr g.n done hp back k (PendM g k j) ∧ Ints wr A1 nl (fun x => (movesI g k).getD x 0) ∧ (0 < nl → ∀ ad, A1 = some ad → ad.block ∉ S ∧ ad.block ≠ mb) ∧ eb ∉ S ∧ eb ≠ mb ∧
    wr.cell? ⟨eb, 0, none⟩ = some (.int .i64 cs) ∧ wr.cell? ⟨eb, 1, none⟩ = some (.int .i64 cd)
/-- behind the push, before it is noted who was come from -/
def SpC (W : World) (b gp mc mb q eb : Nat) (g : G) (v : Int) (k nl : Nat) (A1 : Option Addr) (done hp : Nat → Option C) (back : Nat → Option Nat) (nb : Nat) (cs cd : Int) (wr : World) : Prop :=
  ∃ S, FlS W wr b gp mc mb q S g v done hp back nb ∧ Ints wr A1 nl (fun x => (movesI g k).getD x 0) ∧ (0 < nl → ∀ ad, A1 = some ad → ad.block ∉ S ∧ ad.block ≠ mb) ∧ eb ∉ S ∧ eb ≠ mb ∧
    wr.cell? ⟨eb, 0, none⟩ = some (.int .i64 cs) ∧ wr.cell? ⟨eb, 1, none⟩ = some (.int .i64 cd)
def SpD (W : World) (b gp mc mb q : Nat) (g : G) (v : Int) (fr k : Nat) (done : Nat → Option C) (e : Ending) (w' : World) : Prop :=
  e = .returned (.tuple #[]) ∧ ∃ S hp back nb, FlS W w' b gp mc mb q S g v done hp back nb ∧ FS g.E fr g.n done hp back k (fun _ _ => False)
theorem SpC.of_push {W w w' : World} {b gp mc mb q eb : Nat} {S : List Nat} {g : G} {v : Int} {k nl : Nat} {A1 : Option Addr} {done hp hp2 : Nat → Option C} {back : Nat → Option Nat} {nb : Nat} {cs cd : Int} (h : FlS W w b gp mc mb q S g v done hp back nb)
    (hI : Ints w A1 nl (fun x => (movesI g k).getD x 0)) (hN : 0 < nl → ∀ ad, A1 = some ad → ad.block ∉ S ∧ ad.block ≠ mb) (he : eb ∉ S) (he2 : eb ≠ mb) (c0 : w.cell? ⟨eb, 0, none⟩ = some (.int .i64 cs)) (c1 : w.cell? ⟨eb, 1, none⟩ = some (.int .i64 cd))
    {u : Value} {e : Ending} (hD : HeapD w S q (cntS hp2 g.n) (hpI hp2) u e w') : SpC W b gp mc mb q eb g v k nl A1 done hp2 back nb cs cd w' := by
  obtain ⟨S', h1, h2, h3⟩ := h.pushed hD
  have l0 := World.block_lt_of_cell? _ _ c0
  simp only at l0
  refine ⟨S', h1, ?_, ?_, ?_, he2, cellK h3 he c0, cellK h3 he c1⟩
  · intro hn
    obtain ⟨ad, e, hlt, hc⟩ := hI hn
    have hb := h3.block ad.block hlt (hN hn ad e).1
    refine ⟨ad, e, Nat.lt_of_lt_of_le hlt h3.size, fun x hx => ?_⟩
    have e1 : w'.cell? (ad.add x) = w.cell? (ad.add x) := World.cell?_of_block (by rw [add_block]; exact hb)
    rw [e1]; exact hc x hx
  · intro hn ad e
    refine ⟨fun hm => ?_, (hN hn ad e).2⟩
    obtain ⟨ad', e', hlt, _⟩ := hI hn
    rw [e'] at e; injection e with e; subst e
    rcases h2 _ hm with x | x
    · exact (hN hn ad' e').1 x
    · omega
  · intro hm
    rcases h2 _ hm with x | x
    · exact he x
    · omega
theorem SpC.below {W w w' : World} {b gp mc mb q eb : Nat} {g : G} {v : Int} {k nl : Nat} {A1 : Option Addr} {done hp : Nat → Option C} {back : Nat → Option Nat} {nb : Nat} {cs cd : Int} (h : SpC W b gp mc mb q eb g v k nl A1 done hp back nb cs cd w) (hb : Below w.heap.size w w') :
    SpC W b gp mc mb q eb g v k nl A1 done hp back nb cs cd w' := by
  obtain ⟨S, h1, h2, h3, h4, h5, h6, h7⟩ := h
  exact ⟨S, h1.below hb, h2.below hb, h3, h4, h5, bel_cell hb h6, bel_cell hb h7⟩
theorem SpC.to {W w : World} {b gp mc mb q eb : Nat} {g : G} {v : Int} {fr k nl j : Nat} {A1 : Option Addr} {done hp : Nat → Option C} {back : Nat → Option Nat} {nb : Nat} {cs cd : Int} (h : SpC W b gp mc mb q eb g v k nl A1 done hp back nb cs cd w) (hF : FS g.E fr g.n done hp back k (PendM g k j)) :
    SpI W b gp mc mb q eb g v fr k nl A1 done cs cd j w := by
  obtain ⟨S, h1, h2, h3, h4, h5, h6, h7⟩ := h
  exact ⟨S, hp, back, nb, h1, hF, h2, h3, h4, h5, h6, h7⟩
theorem SpC.stored {W w w' : World} {b gp mc mb q eb : Nat} {g : G} {v : Int} {k nl : Nat} {A1 : Option Addr} {done hp : Nat → Option C} {back : Nat → Option Nat} {nb nb' : Nat} {cs cd : Int} {t x : Nat} (h : SpC W b gp mc mb q eb g v k nl A1 done hp back nb cs cd w)
    (hM : MapAt (fun z : Int => Value.int .i64 z) w' mb (updK (mapI (backV back)) (t : Nat) (some (.int .i64 (x : Nat)))) nb') (hK : Kept [mb] w w') : SpC W b gp mc mb q eb g v k nl A1 done hp (upd back t (some x)) nb' cs cd w' := by
  obtain ⟨S, h1, h2, h3, h4, h5, h6, h7⟩ := h
  refine ⟨S, h1.back hM hK, ?_, h3, h4, h5, cellK hK (by simpa using h5) h6, cellK hK (by simpa using h5) h7⟩
  intro hn
  obtain ⟨ad, e, hlt, hc⟩ := h2 hn
  have hb := hK.block ad.block hlt (by simpa using (h3 hn ad e).2)
  refine ⟨ad, e, Nat.lt_of_lt_of_le hlt hK.size, fun x hx => ?_⟩
  have e1 : w'.cell? (ad.add x) = w.cell? (ad.add x) := World.cell?_of_block (by rw [add_block]; exact hb)
  rw [e1]; exact hc x hx
theorem step_inC (d : Nat) : 0 ≤ (stepC d).s ∧ (stepC d).s ≤ 1 ∧ 0 ≤ (stepC d).d ∧ (stepC d).d ≤ 1 := by unfold stepC; split <;> simp
set_option maxRecDepth 100000 in
set_option maxHeartbeats 1600000 in
theorem floodSpread (W w : World) (b gp mc mb q : Nat) (S : List Nat) (g : G) (v : Int) (fr k : Nat) (done hp : Nat → Option C) (back : Nat → Option Nat) (nb : Nat) (cs cd : Int) (h : FlS W w b gp mc mb q S g v done hp back nb)
    (hF : FS g.E fr g.n done hp back k (g.E k)) (hk : done k = some ⟨cs, cd⟩) (hok : g.ok) :
    Calls Try.prog 126 #[.pointer (some ⟨b, 0, none⟩), .pointer (some ⟨q, 0, none⟩), .int .i64 (k : Nat), .agg #[.int .i64 cs, .int .i64 cd]] w (SpD W b gp mc mb q g v fr k done) := by
  have hn := G.n_le hok
  have hkn : k < g.n := hF.rngD k (by rw [hk]; simp)
  have hcb := hF.small (fun _ _ _ => G.E_nn) hn (.inl hk)
  simp only at hcb
  obtain ⟨cb1, cb2, cb3, cb4⟩ := hcb
  have hSl := h.heap.lt
  have l1 := h.fl.lt
  have l2 := h.fl.grid.lt
  have l3 := h.fl.mapC.lt
  have l4 := h.fl.mapB.lt
  go_enter Try.func126, Try.ntmps126
  go_upto_region 1 with (fail)
  refine wp_name ?_
  intro W1 hW1
  have HW1 : Below w.heap.size w W1 := by rw [hW1]; (repeat' (first | exact Below.refl _ _ | assumption | apply bel_drewN | apply bel_drew | apply bel_alloc | (refine bel_trans ?_ (by assumption))))
  have hs1 : w.heap.size < W1.heap.size := by rw [hW1]; simp
  have e0 : W1.cell? ⟨w.heap.size, 0, none⟩ = some (.int .i64 cs) := by rw [hW1]; go_simp
  have e1 : W1.cell? ⟨w.heap.size, 1, none⟩ = some (.int .i64 cd) := by rw [hW1]; go_simp
  obtain ⟨eb, heb⟩ : ∃ eb, w.heap.size = eb := ⟨_, rfl⟩
  have heS : eb ∉ S := fun hm => by have := hSl _ hm; omega
  have hem : eb ≠ mb := by omega
  have h1 := h.below HW1
  clear hW1
  rw [heb] at e0 e1 hs1 ⊢
  have HFl := Lib.hid h1
  obtain ⟨k0, k1, k2⟩ := h1.fl.cells
  have hHF := Lib.hid hF
  have Hk := Lib.hid hk
  clear h h1 hF hk HW1 heb hSl
  go_wp2_with fail
  (with_reducible refine (gridMovesN _ gp g v k HFl.out.fl.grid hkn).mono ?_)
  rintro e w2 ⟨A1, m1, rfl, hI1, hN1, hb2⟩
  have hS2 := HFl.out.below hb2
  have e0 := bel_cell hb2 e0
  have e1 := bel_cell hb2 e1
  obtain ⟨nl, hnl⟩ : ∃ nl, (movesI g k).length = nl := ⟨_, rfl⟩
  rw [hnl] at hI1 ⊢
  have hnl8 : nl ≤ 8 := by rw [← hnl]; exact upTo_len _ _
  have Hnl := Lib.hid hnl
  have hin : SpI W b gp mc mb q eb g v fr k nl A1 done cs cd 0 w2 := by
    refine ⟨S, hp, back, nb, hS2, hHF.out.weaken ?_, hI1, ?_, heS, hem, e0, e1⟩
    · rintro b e ⟨_, d, hd, hm, rfl, rfl⟩
      exact ⟨d, by simpa [G.moves] using ⟨hd, hm⟩, rfl, rfl⟩
    · intro _ ad ha
      have := hN1 ad ha
      exact ⟨fun hm => by have := HFl.out.heap.lt _ hm; omega, by have := HFl.out.fl.mapB.lt; omega⟩
  clear hI1 hN1 hb2 hS2 e0 e1 HFl hHF heS hem k0 k1 k2 hnl l1 l2 l3 l4
  go_wp2_with fail
  go_loopw [26] (fun kv wr => ∃ j : Nat, j ≤ nl ∧ kv = .int .i64 j ∧ SpI W b gp mc mb q eb g v fr k nl A1 done cs cd j wr) (fun kv _ => nl - (intOf kv).toNat)
  case atStart => exact ⟨0, by omega, rfl, hin⟩
  case round =>
    obtain ⟨j, hj, rfl, S, hp, back, nb, hS, hF, hI, hN, heS, hem, e0, e1⟩ := hrel
    clear hin
    have HS := Lib.hid hS
    have HF := Lib.hid hF
    have HN := Lib.hid hN
    by_cases hlj : j < nl
    · have HI := Lib.hid hI
      obtain ⟨ad1, hA1⟩ := hI.addr (by omega)
      have hIb := hI
      rw [hA1] at hIb
      have hix1 := fun wx => idx_run (m := m1) hA1 hlj wx
      have hE1 := hIb.cell (Below.refl _ _) hlj
      obtain ⟨d, hd8, hmay, hgd, hnth⟩ := moves_at (g := g) (k := k) (j := j) (by rw [Hnl.out]; exact hlj)
      rw [hgd] at hE1
      obtain ⟨ht1, ht2⟩ := to_eq hmay
      obtain ⟨tt, hto⟩ : ∃ tt, g.to k d = tt := ⟨_, rfl⟩
      rw [hto] at ht1 ht2
      have cT := Lib.hid (fun w' h' => To_eq w' gp g v k d (tt : Nat) h' hkn hd8 ht1)
      have Hd := Lib.hid (And.intro hmay (And.intro hto hnth))
      obtain ⟨k0, k1, k2⟩ := hS.fl.cells
      have lb := hS.fl.lt
      have hE : g.E k tt (stepC d) := ⟨hkn, d, hd8, hmay, hto.symm, rfl⟩
      have HE := Lib.hid hE
      clear hA1 hI hIb hgd ht1 hmay hto hnth hS hF hN hE
      go_wp2_with fail
      (with_reducible refine (cT.out _ HS.out.fl.grid).mono ?_)
      rintro e w4 ⟨rfl, hb4⟩
      have k1 := bel_cell hb4 k1
      have k2 := bel_cell hb4 k2
      have e0 := bel_cell hb4 e0
      have e1 := bel_cell hb4 e1
      have hS4 := Lib.hid (HS.out.below hb4)
      have hI4 := Lib.hid (HI.out.below hb4)
      have le0 := World.block_lt_of_cell? _ _ e0
      have lb4 := World.block_lt_of_cell? _ _ k1
      clear HS HI hb4 k0 hE1 hix1 cT
      cases hdt : done tt with
      | some x =>
        obtain ⟨xs, xd⟩ := x
        have hl := costLook_in hS4.out.fl.mapC (z := (tt : Nat)) (v := .agg #[.int .i64 xs, .int .i64 xd]) (by rw [mapI_nat]; unfold doneV; rw [hdt]; rfl)
        have hP : SpC W b gp mc mb q eb g v k nl A1 done hp back nb cs cd w4 := ⟨S, hS4.out, hI4.out, HN.out, heS, hem, e0, e1⟩
        have hP := Lib.hid hP
        have hFn := Lib.hid (HF.out.skip (pend' := PendM g k (j + 1)) (b := tt) (by rw [hdt]; simp) (fun b' e' h => (pend_next Hd.out.2.2 Hd.out.2.1 b' e' h).imp_right And.left))
        clear hdt hS4 hI4 e0 e1
        go_upto_region 7 with (fail)
        go_quiet (fail)
        go_wp2
        go_roundw
        case rel => exact ⟨j + 1, by omega, by go_num, (hP.out.below (by (repeat' (first | exact Below.refl _ _ | assumption | apply bel_drewN | apply bel_drew | apply bel_alloc | (refine bel_trans ?_ (by assumption)))))).to hFn.out⟩
        case measure => simp [intOf]; omega
      | none =>
        have hl := costLook_out hS4.out.fl.mapC (z := (tt : Nat)) (by rw [mapI_nat]; unfold doneV; rw [hdt]; rfl)
        go_upto_region 7 with (fail)
        refine wp_name ?_
        intro W4 hW4
        have HW4 : Below w4.heap.size w4 W4 := by rw [hW4]; (repeat' (first | exact Below.refl _ _ | assumption | apply bel_drewN | apply bel_drew | apply bel_alloc | (refine bel_trans ?_ (by assumption))))
        have e0 := bel_cell HW4 e0
        have e1 := bel_cell HW4 e1
        have HS4 := Lib.hid (hS4.out.below HW4)
        have HI4 := Lib.hid (hI4.out.below HW4)
        clear hW4 hS4 hI4 hl k1 k2 HW4 le0 lb4
        obtain ⟨es, ed, hst, _, _, hr3, hr4⟩ := step_parts d
        have hr5 := step_inC d
        rw [hst] at hr5
        simp only at hr5
        obtain ⟨hr5, hr6, hr7, hr8⟩ := hr5
        have cS := Lib.hid (fun w => floodStep w d hd8)
        rw [hst] at cS
        have cA := Lib.hid (fun w => costAdd cs cd es ed w (by unfold inC; omega) (by unfold inC; omega) (by unfold inC; omega) (by unfold inC; omega))
        obtain ⟨t, ht⟩ : ∃ t, lower? hp tt ⟨cs + es, cd + ed⟩ = t := ⟨_, rfl⟩
        have cP := Lib.hid (fun w' h' => heapPushN w' S q g.n hp tt (cs + es) (cd + ed) t h' ht2 (by omega) ⟨by unfold inC; simp only; omega, by unfold inC; simp only; omega⟩ ht)
        have Ht := Lib.hid ht
        have Hst := Lib.hid hst
        have Hdt := Lib.hid hdt
        clear ht hst hdt hr3 hr4 hr5 hr6 hr7 hr8
        go_cut [56] (fun s wx => s = .bool t ∧ SpC W b gp mc mb q eb g v k nl A1 done (pushed hp tt ⟨cs + es, cd + ed⟩ t) back nb cs cd wx)
        case first =>
          go_region_held3 (fun w' => w'.cell? ⟨eb, 0, none⟩ = some (.int .i64 cs) ∧ w'.cell? ⟨eb, 1, none⟩ = some (.int .i64 cd))
            (first
              | (go_keep; done)
              | (go_split_ands
                 first
                 | exact ⟨cellK hKh heS (by assumption), cellK hKh heS (by assumption)⟩
                 | exact ⟨bel_cell hbA (by assumption), bel_cell hbA (by assumption)⟩
                 | exact ⟨bel_cell hbS (by assumption), bel_cell hbS (by assumption)⟩))
            (first
              | (go_at_call 125
                 refine (cS.out _).mono ?_
                 rintro e wS ⟨rfl, hbS⟩)
              | (go_at_call 28
                 refine (cA.out _).mono ?_
                 rintro e wA ⟨rfl, hbA⟩)
              | (go_at_call 59
                 refine (cP.out _ (((HS4.out.below (bel_drew (Below.refl _ _))).below hbS).below hbA).heap).mono ?_
                 rintro e wh ⟨rfl, S1, hh1, hh2, hKh⟩))
          have hd4 := bel_drew (Below.refl W4.heap.size W4)
          have hXX := Lib.hid (SpC.of_push (((HS4.out.below hd4).below hbS).below hbA) (((HI4.out.below hd4).below hbS).below hbA) HN.out heS hem (bel_cell hbA (bel_cell hbS (bel_cell hd4 e0))) (bel_cell hbA (bel_cell hbS (bel_cell hd4 e1))) (u := .bool t) (e := .returned (.bool t)) (⟨rfl, S1, hh1, hh2, hKh⟩ : HeapD wA S q _ _ _ _ wh))
          clear hh1 hh2 hKh hd4 hbS hbA e0 e1
          go_wp2
          go_meet
          case rel => exact ⟨rfl, hXX.out⟩
        case rest =>
          obtain ⟨rfl, hC⟩ := hcut
          have HC := Lib.hid hC
          have hadd : C.add ⟨cs, cd⟩ (stepC d) = ⟨cs + es, cd + ed⟩ := by rw [Hst.out]; rfl
          clear cS cA cP HS4 HI4 e0 e1
          cases t with
          | false =>
            obtain ⟨dd, hd1, hd2⟩ := lower_no Ht.out
            have hFn := Lib.hid (HF.out.keep (pend' := PendM g k (j + 1)) (b := tt) (e := stepC d) Hk.out hd1 (by rw [hadd]; exact hd2) (pend_next Hd.out.2.2 Hd.out.2.1))
            clear hd1 hd2 hadd hC
            go_wp2
            go_roundw
            case rel => first | exact ⟨j + 1, by omega, by go_num, HC.out.to hFn.out⟩ | ((repeat apply Exists.intro); exact ⟨⟨j + 1, by omega, by go_num, HC.out.to hFn.out⟩, rfl⟩)
            case measure => simp [intOf]; omega
          | true =>
            have hFn := HF.out.push (fun _ _ _ => G.E_nn) (pend' := PendM g k (j + 1)) (b := tt) (e := stepC d) Hk.out HE.out (stepC_le d) ht2 Hdt.out (by rw [hadd]; exact lower_yes Ht.out) (pend_next Hd.out.2.2 Hd.out.2.1)
            rw [hadd] at hFn
            have hFn := Lib.hid hFn
            obtain ⟨S2, hS2, _⟩ := hC
            obtain ⟨k0, k1, k2⟩ := hS2.fl.cells
            have lb2 := hS2.fl.lt
            obtain ⟨w5, hrun, hM5, hK5⟩ := hS2.fl.mapB.store (P := Try.prog) (mt := 154) (int_fit Try.underlying3) Try.underlying154 (tt : Nat) (.int .i64 (k : Nat))
            have hIn := Lib.hid ((HC.out.stored hM5 hK5).to hFn.out)
            clear hS2 hM5 hK5 hadd k0 k1
            go_wp2
            go_roundw
            case rel => first | exact ⟨j + 1, by omega, by go_num, hIn.out⟩ | ((repeat apply Exists.intro); exact ⟨⟨j + 1, by omega, by go_num, hIn.out⟩, rfl⟩)
            case measure => simp [intOf]; omega
    · obtain rfl : j = nl := by omega
      have hfin : SpD W b gp mc mb q g v fr k done (.returned (.tuple #[])) wr := ⟨rfl, S, hp, back, nb, hS, hF.weaken (pend_done Hnl.out)⟩
      go_wp2
      go_end0
      exact hfin
end Go.Proofs.Ytkiogciokngjfaa
/- flood.From: what is handed back. -/
namespace Go.Proofs.Ytkiogciokngjfaa
open Go.RowKit Go.Sort FR
def FromD (w : World) (g : G) (fr : Nat) (e : Ending) (w' : World) : Prop := ∃ b done back, e = .returned (.tuple #[.pointer (some ⟨b, 0, none⟩), .nilIface]) ∧ FloodAt w' b g fr done back ∧ w.heap.size ≤ b ∧ Below w.heap.size w w' ∧ (∀ S w2, Kept S w' w2 → (∀ s ∈ S, s < w.heap.size) → FloodAt w2 b g fr done back)
/-- what holds at a round's head -/
def FrI (W : World) (b gp mc mb q : Nat) (g : G) (v : Int) (fr gk : Nat) (wr : World) : Prop := ∃ S done hp back nb k0, FlS W wr b gp mc mb q S g v done hp back nb ∧ FS g.E fr g.n done hp back k0 (fun _ _ => False) ∧ g.n - cntS done g.n ≤ gk
theorem mapI_none {f : Nat → Option Value} (h : ∀ j, f j = none) : mapI f = fun _ => none := by
  funext z; unfold mapI; split
  · exact h _
  · rfl
theorem made_flood {w2 W3 : World} {gp mc mb b : Nat} {g : G} {v : Int} (hG : GridAt w2 gp g v) (h1 : w2.heap.size = mc) (h2 : mc + 1 = mb) (h3 : mb + 1 = b) (hW : W3 = ((w2.alloc (.map #[] 0)).alloc (.map #[] 0)).alloc (.cells #[.pointer (some ⟨gp, 0, none⟩), .map (some mc), .map (some mb)] 181)) :
    FloodIn W3 b gp mc mb g v (fun _ => none) (fun _ => none) (cntS (fun _ => none) g.n) 0 := by
  have hl := hG.lt
  subst h1; subst h2; subst h3
  have b1 : Below w2.heap.size w2 W3 := by rw [hW]; (repeat' (first | exact Below.refl _ _ | assumption | apply bel_drewN | apply bel_drew | apply bel_alloc | (refine bel_trans ?_ (by assumption))))
  have hm1 : MapAt (fun z : Int => Value.int .i64 z) (w2.alloc (.map #[] 0)) w2.heap.size (fun _ => none) 0 := MapAt.made w2
  have hm2 : MapAt (fun z : Int => Value.int .i64 z) ((w2.alloc (.map #[] 0)).alloc (.map #[] 0)) (w2.alloc (.map #[] 0)).heap.size (fun _ => none) 0 := MapAt.made _
  rw [cntS_none]
  refine ⟨?_, hG.below b1 hl, ?_, ?_, ?_⟩
  · rw [hW]
    have := heap_alloc_new ((w2.alloc (.map #[] 0)).alloc (.map #[] 0)) (.cells #[.pointer (some ⟨gp, 0, none⟩), .map (some w2.heap.size), .map (some (w2.heap.size + 1))] 181 (0, 0))
    simpa using this
  · rw [mapI_none (f := doneV fun _ => none) (fun _ => rfl), hW]
    exact (hm1.below (bel_alloc (Below.refl _ _))).below (bel_alloc (Below.refl _ _))
  · rw [mapI_none (f := backV fun _ => none) (fun _ => rfl), hW]
    have := hm2.below (w' := ((w2.alloc (.map #[] 0)).alloc (.map #[] 0)).alloc (.cells #[.pointer (some ⟨gp, 0, none⟩), .map (some w2.heap.size), .map (some (w2.heap.size + 1))] 181)) (bel_alloc (Below.refl _ _))
    simpa using this
  · omega
theorem cntS_zero {hp : Nat → Option C} {N : Nat} (h : cntS hp N = 0) (hr : ∀ j, hp j ≠ none → j < N) : ∀ j, hp j = none := by
  intro j
  cases hj : hp j with
  | none => rfl
  | some c =>
    have := cntN_zero h j (hr j (by rw [hj]; simp))
    rw [hj] at this; cases this
set_option maxHeartbeats 800000 in
theorem floodFrom_out (w : World) (p : Nat) (g : G) (v c : Int) (h : GridAt w p g v) (hc : c < 0 ∨ g.n ≤ c) :
    Calls Try.prog 74 #[.pointer (some ⟨p, 0, none⟩), .int .i64 c] w fun e w' => e = .returned (.tuple #[.pointer none, .iface 137 (.int .i64 1)]) ∧ Below w.heap.size w w' := by
  go_enter Try.func74, Try.ntmps74
  go_wp2_with fail
  (with_reducible refine (gridFree_out _ p g v c h hc).mono ?_)
  rintro e w1 ⟨rfl, hb1⟩
  go_wp2
  go_ret2
  exact ⟨rfl, hb1⟩
set_option maxHeartbeats 800000 in
theorem floodFrom_blocked (w : World) (p : Nat) (g : G) (v : Int) (c : Nat) (h : GridAt w p g v) (hc : c < g.n) (hbl : g.b c = true) :
    Calls Try.prog 74 #[.pointer (some ⟨p, 0, none⟩), .int .i64 (c : Nat)] w fun e w' => e = .returned (.tuple #[.pointer none, .iface 137 (.int .i64 4)]) ∧ Below w.heap.size w w' := by
  have cF := gridFree_in w p g v c h hc
  rw [hbl] at cF
  go_enter Try.func74, Try.ntmps74
  go_wp2_with fail
  (with_reducible refine cF.mono ?_)
  rintro e w1 ⟨rfl, hb1⟩
  go_wp2
  go_ret2
  exact ⟨rfl, hb1⟩
set_option maxRecDepth 100000 in
set_option maxHeartbeats 1600000 in
theorem floodFrom_ok (w : World) (p : Nat) (g : G) (v : Int) (fr : Nat) (h : GridAt w p g v) (hc : fr < g.n) (hbl : g.b fr = false) :
    Calls Try.prog 74 #[.pointer (some ⟨p, 0, none⟩), .int .i64 (fr : Nat)] w (FromD w g fr) := by
  have hok := h.1
  have hn := G.n_le hok
  have cF := gridFree_in w p g v fr h hc
  rw [hbl] at cF
  have hmm := @run_makeMap Try.prog
  go_enter Try.func74, Try.ntmps74
  go_wp2_with fail
  (with_reducible refine cF.mono ?_)
  rintro e w1 ⟨rfl, hb1⟩
  have h1 := h.below hb1 h.lt
  clear h cF
  go_wp2_with fail
  (with_reducible refine (gridCopy w1 p g v h1).mono ?_)
  rintro e w2 ⟨rfl, hG2, hb2, hs2⟩
  go_upto_region 7 with (fail)
  refine wp_name ?_
  intro W3 hW3
  have HW3 : Below w.heap.size w W3 := by rw [hW3]; exact bel_trans hb1 (bel_trans hb2 (by (repeat' (first | exact Below.refl _ _ | assumption | apply bel_drewN | apply bel_drew | apply bel_alloc | (refine bel_trans ?_ (by assumption))))))
  obtain ⟨gp, hgp⟩ : ∃ gp, w1.heap.size = gp := ⟨_, rfl⟩
  obtain ⟨mc, hmc⟩ : ∃ mc, gp + 1 = mc := ⟨_, rfl⟩
  obtain ⟨mb, hmb⟩ : ∃ mb, mc + 1 = mb := ⟨_, rfl⟩
  obtain ⟨b, hb⟩ : ∃ b, mb + 1 = b := ⟨_, rfl⟩
  rw [hgp] at hW3 hG2 hs2 ⊢
  rw [hmc] at hW3 hs2 ⊢
  rw [hmb] at hW3 ⊢
  rw [hb] at ⊢
  have hF3 := Lib.hid (made_flood hG2 hs2 hmb hb hW3)
  have hgpw : w.heap.size ≤ gp := by have := hb1.size; omega
  have hs3 : W3.heap.size = b + 1 := by rw [hW3]; simp; omega
  clear hW3 hb1 h1 hG2 hb2
  go_wp2_with fail
  (with_reducible refine (heapNew W3).mono ?_)
  rintro e w4 ⟨q, S, rfl, hH, hSf, hb4⟩
  rw [hpI_none, show (0 : Nat) = cntS (fun _ => none) g.n from (cntS_none _).symm] at hH
  have hS4 : FlS w w4 b gp mc mb q S g v (fun _ => none) (fun _ => none) (fun _ => none) 0 := by
    refine ⟨hF3.out.below hb4, hH, ⟨fun hm => ?_, fun hm => ?_, fun hm => ?_, fun hm => ?_⟩, fun k hk => ?_, by omega, bel_trans HW3 hb4⟩
    · have := hSf _ hm; omega
    · have := hSf _ hm; omega
    · have := hSf _ hm; omega
    · have := hSf _ hm; omega
    · have := hSf _ hk; omega
  have HS4 := Lib.hid hS4
  have cP := Lib.hid (fun w' h' => heapPushN w' S q g.n (fun _ => none) fr 0 0 true h' hc (by omega) ⟨by unfold inC; simp only; omega, by unfold inC; simp only; omega⟩ rfl)
  clear hF3 hH hSf hb4 hS4 HW3
  go_wp2_with fail
  (with_reducible refine (cP.out _ HS4.out.heap).mono ?_)
  rintro e w5 hD
  have hD := Lib.hid hD
  obtain ⟨rfl, _⟩ := hD.out
  obtain ⟨S5, hS5, _⟩ := HS4.out.pushed hD.out
  have hF0 : FS g.E fr g.n (fun _ => none) (pushed (fun _ => none) fr ⟨0, 0⟩ true) (fun _ => none) fr (fun _ _ => False) := FS.start hc fr
  obtain ⟨N0, hN0⟩ : ∃ N0, N0 = g.n := ⟨_, rfl⟩
  have hstart : FrI w b gp mc mb q g v fr N0 w5 := ⟨S5, _, _, _, _, fr, hS5, hF0, by omega⟩
  clear hD HS4 hS5 hF0 cP hN0
  go_wp2_with fail
  go_loopg [] N0 (fun gk wr => FrI w b gp mc mb q g v fr gk wr)
  case atStart => exact hstart
  case round =>
    obtain ⟨S, done, hp, back, nb, k0, hS, hF, hgk⟩ := hrel
    clear hstart
    have HS := Lib.hid hS
    have HF := Lib.hid hF
    by_cases h0 : cntS hp g.n = 0
    · have hH := hS.heap
      rw [h0] at hH
      go_wp2_with fail
      (with_reducible refine (heapPop_none _ S q (hpI hp) hH).mono ?_)
      rintro e w6 ⟨rfl, hb6⟩
      have hS6 := HS.out.below hb6
      have hS7 := hS6.below (w' := w6.alloc (.cells #[.int .i64 0, .int .i64 0] 23)) (bel_alloc (Below.refl _ _))
      have hok2 := HF.out.fin (fun _ _ _ => G.E_nn) hn (cntS_zero h0 HF.out.rngH)
      have hfin : FromD w g fr (.returned (.tuple #[.pointer (some ⟨b, 0, none⟩), .nilIface])) (w6.alloc (.cells #[.int .i64 0, .int .i64 0] 23)) :=
        ⟨b, done, back, rfl, ⟨gp, mc, mb, v, nb, hS7.fl, hok2, hbl⟩, hS6.own.1, bel_alloc hS6.bel,
          fun S w2 hK hlt => ⟨gp, mc, mb, v, nb, hS7.fl.kept hK ⟨fun hm => by have := hlt _ hm; have := hS6.own.1; omega, fun hm => by have := hlt _ hm; have := hS6.own.2.1; omega, fun hm => by have := hlt _ hm; have := hS6.own.2.2.1; omega, fun hm => by have := hlt _ hm; have := hS6.own.2.2.2; omega⟩, hok2, hbl⟩⟩
      clear hS hF hH HS HF hb6 hS6 hS7 hok2
      go_wp2
      go_ret2
      exact hfin
    · go_wp2_with fail
      (with_reducible refine (heapPopN _ S q g.n hp hS.heap hF.rngH (by omega) h0).mono ?_)
      rintro e w6 ⟨k, ds, dd, hk1, hk2, rfl, hk4, hk5⟩
      have hkn : k < g.n := HF.out.rngH k (by rw [hk1]; simp)
      have hdn : done k = none := (HF.out.dij.i2 _ _ hk1).1
      have hS6 : FlS w w6 b gp mc mb q S g v done (upd hp k none) back nb :=
        ⟨hS.fl.kept hk5 hS.dis, hk4, hS.dis, hS.far, hS.own, Kept.below hS.bel hk5 hS.bel.size hS.far⟩
      have hF6 := Lib.hid (HF.out.pop (fun _ _ _ => G.E_nn) hk1 hk2)
      have HS6 := Lib.hid hS6
      clear hk1 hk2 hk4 hk5 hS hF HS HF hS6 h0
      go_upto_region 12 with (fail)
      refine wp_name ?_
      intro W6 hW6
      have HW6 : Below w6.heap.size w6 W6 := by rw [hW6]; (repeat' (first | exact Below.refl _ _ | assumption | apply bel_drewN | apply bel_drew | apply bel_alloc | (refine bel_trans ?_ (by assumption))))
      have d0 : W6.cell? ⟨w6.heap.size, 0, none⟩ = some (.int .i64 ds) := by rw [hW6]; go_simp
      have d1 : W6.cell? ⟨w6.heap.size, 1, none⟩ = some (.int .i64 dd) := by rw [hW6]; go_simp
      have hS7 := HS6.out.below HW6
      have l6 : w6.heap.size ≠ mc := by have := HS6.out.fl.mapC.lt; omega
      obtain ⟨eb, heb⟩ : ∃ eb, w6.heap.size = eb := ⟨_, rfl⟩
      rw [heb] at d0 d1 l6 ⊢
      clear hW6 HS6 HW6 heb
      obtain ⟨k0', k1, k2⟩ := hS7.fl.cells
      have lb := hS7.fl.lt
      have HS7 := Lib.hid hS7
      clear hS7
      go_still_tail 6, (by kernel_rfl)
      change wpList _ _ _ _ _ W6.drew
      have hS8 := HS7.out.below (bel_drew (Below.refl _ _))
      have d0 : W6.drew.cell? ⟨eb, 0, none⟩ = some (.int .i64 ds) := d0
      have d1 : W6.drew.cell? ⟨eb, 1, none⟩ = some (.int .i64 dd) := d1
      clear k0' k1 k2 lb HS7
      generalize W6.drew = w7 at *
      refine wpList_storeM rfl _ _ _ rfl (int_fit Try.underlying3) Try.underlying117 hS8.fl.mapC rfl (k : Nat) rfl (.agg #[.int .i64 ds, .int .i64 dd]) rfl ?_
      intro w8 hm8 hk8
      have hS9 := hS8.done hkn hdn hm8 hk8
      have d0 := cellK hk8 (by simpa using l6) d0
      have d1 := cellK hk8 (by simpa using l6) d1
      have hcnt := cntS_new hkn hdn ⟨ds, dd⟩
      have hcle := cntS_le (upd done k (some ⟨ds, dd⟩)) g.n
      have HS9 := Lib.hid hS9
      clear hS8 hm8 hk8 hS9
      go_wp2_with fail
      (with_reducible refine (floodSpread w _ b gp mc mb q S g v fr k (upd done k (some ⟨ds, dd⟩)) (upd hp k none) back nb ds dd HS9.out hF6.out (upd_same _ _ _) hok).mono ?_)
      rintro e w9 ⟨rfl, S2, hp2, back2, nb2, hS10, hF10⟩
      have hin : FrI w b gp mc mb q g v fr (g.n - cntS (upd done k (some ⟨ds, dd⟩)) g.n) w9 := ⟨S2, _, hp2, back2, nb2, k, hS10, hF10, Nat.le_refl _⟩
      have hin := Lib.hid hin
      clear HS9 hF6 hS10 hF10 d0 d1
      go_wp2
      go_roundg (g.n - cntS (upd done k (some ⟨ds, dd⟩)) g.n)
      case measure => omega
      case rel => exact hin.out
end Go.Proofs.Ytkiogciokngjfaa
/- Contracts of Go's library, laid at this program by the kit's tools. -/
namespace Go.Proofs
open Go.Shelf
def Try.lays112_ren : Go.Shelf.Ren := ⟨fun | 112 => 127 | n => n, fun | 28 => 33 | 3 => 3 | 4 => 4 | 0 => 0 | n => n, fun | n => n⟩
theorem Try.lays112 : Go.Proofs.Lays.n112 Try.prog Try.lays112_ren := {
  mixed := by kernel_rfl
  f112 := Try.func127.trans (congrArg some (by kernel_rfl))
  t0 := Try.underlying0
  a0 := Try.isAgg0
  z0 := Try.sizeOf0
  v0 := Try.zeroValue0
  t3 := Try.underlying3
  a3 := Try.isAgg3
  z3 := Try.sizeOf3
  v3 := Try.zeroValue3
  t4 := Try.underlying4
  a4 := Try.isAgg4
  z4 := Try.sizeOf4
  v4 := Try.zeroValue4
  t28 := Try.underlying33
  a28 := Try.isAgg33
  z28 := Try.sizeOf33
  v28 := Try.zeroValue33 }
open Go.RowKit Go.Lib Go.Sort in
theorem Try.slices_Reverse_int_arr (blk off cap : Nat) (d : Array Int) (w : World) (hH : Holds encI w blk off d) (hsz : d.size ≤ 9223372036854775807) :
    Calls Try.prog 127 #[.slice (some ⟨blk, off, none⟩) d.size cap] w fun e w' => e = .returned (.tuple #[]) ∧ ∃ n, w' = putRow encI (Sort.ahead w n) blk off d.reverse := Any.slices_Reverse_int_arr Try.lays112 blk off cap d w hH hsz
open Go.RowKit Go.Lib Go.Sort in
theorem Try.slices_Reverse_int (blk off cap : Nat) (zs : List Int) (w : World) (hH : Holds (Value.int .i64) w blk off zs.toArray) (hsz : zs.length ≤ 9223372036854775807) :
    Calls Try.prog 127 #[.slice (some ⟨blk, off, none⟩) zs.length cap] w fun e w' => e = .returned (.tuple #[]) ∧ ∃ n, w' = putRow (Value.int .i64) (Sort.ahead w n) blk off zs.reverse.toArray := Any.slices_Reverse_int Try.lays112 blk off cap zs w hH hsz
open Go.RowKit Go.Lib Go.Sort in
theorem Try.slices_Reverse_int_empty (a : Option Addr) (cap : Nat) (w : World) :
    Calls Try.prog 127 #[.slice a 0 cap] w fun e w' => e = .returned (.tuple #[]) ∧ w' = w := Any.slices_Reverse_int_empty Try.lays112 a cap w
end Go.Proofs
/- (*Flood).Way: the way back to the first one, turned round. -/
namespace Go.Proofs.Ytkiogciokngjfaa
open Go.RowKit Go.Sort FR
/-- behind slices.Reverse the same list owns what it held, turned round -/
theorem intsReverse (w : World) (B : Nat) (v : Value) (zs : List Int) (hown : OwnI w B v zs) (hl : zs.length ≤ 1000000000) (hB : B ≤ w.heap.size) :
    Calls Try.prog 127 #[v] w fun e w' => e = .returned (.tuple #[]) ∧ OwnI w' B v zs.reverse ∧ Below B w w' := by
  rcases hown.2 with ⟨rfl, hn⟩ | ⟨g, cap, cur, rfl, hg, hh, hc, hm, hs, ht⟩
  · have : zs = [] := List.eq_nil_of_length_eq_zero hn
    subst this
    refine (Try.slices_Reverse_int_empty none 0 w).mono ?_
    rintro e w' ⟨h1, h2⟩
    subst h2
    exact ⟨h1, OwnI.nil _ _, Below.refl _ _⟩
  · have ht1 : cur.toList.take zs.length = zs.map (Value.int .i64) := by rw [Nat.mul_one] at ht; exact ht
    refine (Try.slices_Reverse_int g 0 cap zs w (holds_of_blockI hh ht1) (by omega)).mono ?_
    rintro e w' ⟨h1, n, h2⟩
    have e0 : w' = grow (putRow (Value.int .i64) (Sort.ahead w n) g 0 zs.reverse.toArray) #[] := by rw [grow_empty]; exact h2
    have h3 := ownsRow_sortedI (w := w) (n := n) (os := #[]) (ss := zs) (ts := zs.reverse) (by simp) hg hh hc hm hs
    have h4 := grownBy_sortedI (w := w) (g := g) (n := n) (os := #[]) zs.reverse.toArray
    rw [← e0] at h3 h4
    refine ⟨h1, ?_, ⟨h4.os, h4.tape, h4.output, h4.size, fun k hk => ?_⟩⟩
    · unfold OwnI; rw [List.length_reverse]; exact h3
    · by_cases hkw : k < w.heap.size
      · exact h4.block k hkw (by intro e; injection e with e; omega)
      · omega
set_option maxHeartbeats 800000 in
theorem floodWay_out (w : World) (b : Nat) (g : G) (fr : Nat) (done : Nat → Option C) (back : Nat → Option Nat) (c : Int) (h : FloodAt w b g fr done back) (hc : c < 0 ∨ g.n ≤ c) :
    Calls Try.prog 77 #[.pointer (some ⟨b, 0, none⟩), .int .i64 c] w fun e w' => e = .returned (.tuple #[.slice none 0 0, .iface 137 (.int .i64 1)]) ∧ Below w.heap.size w w' := by
  go_enter Try.func77, Try.ntmps77
  go_wp2_with fail
  (with_reducible refine (floodCost_out _ b g fr done back c h hc).mono ?_)
  rintro e w1 ⟨rfl, hb1⟩
  go_wp2
  go_ret2
  exact ⟨rfl, by (repeat' (first | exact Below.refl _ _ | assumption | apply bel_drewN | apply bel_drew | apply bel_alloc | (refine bel_trans ?_ (by assumption))))⟩
set_option maxHeartbeats 800000 in
theorem floodWay_none (w : World) (b : Nat) (g : G) (fr : Nat) (done : Nat → Option C) (back : Nat → Option Nat) (c : Nat) (h : FloodAt w b g fr done back) (hc : c < g.n) (hd : done c = none) :
    Calls Try.prog 77 #[.pointer (some ⟨b, 0, none⟩), .int .i64 (c : Nat)] w fun e w' => e = .returned (.tuple #[.slice none 0 0, .iface 137 (.int .i64 5)]) ∧ Below w.heap.size w w' := by
  go_enter Try.func77, Try.ntmps77
  go_wp2_with fail
  (with_reducible refine (floodCost_none _ b g fr done back c h hc hd).mono ?_)
  rintro e w1 ⟨rfl, hb1⟩
  go_wp2
  go_ret2
  exact ⟨rfl, by (repeat' (first | exact Below.refl _ _ | assumption | apply bel_drewN | apply bel_drew | apply bel_alloc | (refine bel_trans ?_ (by assumption))))⟩
def WayD (w : World) (back : Nat → Option Nat) (fr c : Nat) (e : Ending) (w' : World) : Prop := ∃ (l : List Nat) (A : Option Addr) (m : Nat), e = .returned (.tuple #[.slice A l.length m, .nilIface]) ∧ Ints w' A l.length (fun k => (l.reverse.map fun n : Nat => (n : Int)).getD k 0) ∧ BackWay back c l ∧ (∃ l', l = l' ++ [fr]) ∧ l.length ≤ 1000000 ∧ Below w.heap.size w w'
/-- what holds at a round's head -/
def WyI (W : World) (b gp mc mb : Nat) (g : G) (v0 : Int) (done : Nat → Option C) (back : Nat → Option Nat) (nb c gk : Nat) (sl : Value) (wr : World) : Prop :=
  ∃ (l : List Nat) (x : Nat) (d : C), OwnI wr W.heap.size sl ((l ++ [x]).map fun n : Nat => (n : Int)) ∧ BackWay back c (l ++ [x]) ∧ done x = some d ∧ rk 512 d ≤ gk ∧ l.length + rk 512 d ≤ 300000 ∧ Below W.heap.size W wr
set_option maxRecDepth 100000 in
set_option maxHeartbeats 1600000 in
theorem floodWay_ok (w : World) (b : Nat) (g : G) (fr : Nat) (done : Nat → Option C) (back : Nat → Option Nat) (c : Nat) (ds dd : Int) (h : FloodAt w b g fr done back) (hd : done c = some ⟨ds, dd⟩) :
    Calls Try.prog 77 #[.pointer (some ⟨b, 0, none⟩), .int .i64 (c : Nat)] w (WayD w back fr c) := by
  go_enter Try.func77, Try.ntmps77
  go_wp2_with fail
  (with_reducible refine (floodCost_some _ b g fr done back c ds dd h hd).mono ?_)
  rintro e w1 ⟨rfl, hb1⟩
  go_upto_region 5 with (fail)
  refine wp_name ?_
  intro W hW
  have HW : Below w.heap.size w W := by rw [hW]; (repeat' (first | exact Below.refl _ _ | assumption | apply bel_drewN | apply bel_drew | apply bel_alloc | (refine bel_trans ?_ (by assumption))))
  have hO : OwnI W w.heap.size (.slice (some ⟨w1.heap.size + 1, 0, none⟩) 1 1) ((([] : List Nat) ++ [c]).map fun n : Nat => (n : Int)) := by
    rw [hW]
    refine ⟨rfl, .inr ⟨w1.heap.size + 1, 1, #[.int .i64 (c : Nat)], rfl, by have := hb1.size; omega, ?_, by simp, by decide, rfl, rfl⟩⟩
    have := heap_alloc_new (w1.alloc (.cells #[.int .i64 ds, .int .i64 dd] 23)) (.cells #[.int .i64 (c : Nat)] 3 (0, 0))
    simpa using this
  obtain ⟨gp, mc, mb, v0, nb, hF, hok, hbl⟩ := h
  have hok := Lib.hid hok
  have hrk : rk 512 ⟨ds, dd⟩ ≤ 263169 := rk_le 512 _
  obtain ⟨N0, hN0⟩ : ∃ N0, N0 = rk 512 ⟨ds, dd⟩ := ⟨_, rfl⟩
  have hstart : WyI w b gp mc mb g v0 done back nb c N0 (.slice (some ⟨w1.heap.size + 1, 0, none⟩) 1 1) W := ⟨[], c, ⟨ds, dd⟩, hO, BackWay.one back c, hd, by omega, by simp; omega, HW⟩
  have HF := Lib.hid hF
  have hlt := hF.lt
  obtain ⟨k0, k1, k2⟩ := hF.cells
  clear hW hO hF hN0 hb1 HW k0 k1
  go_wp2_with fail
  go_loopg [8] N0 (fun gk sl wr => WyI w b gp mc mb g v0 done back nb c gk sl wr)
  case atStart => exact hstart
  case round =>
    obtain ⟨l, x, d, hown, hbw, hdx, hgk, hlr, HB⟩ := hrel
    have Hlr := Lib.hid hlr
    clear hstart
    obtain ⟨A, m, rfl, hI⟩ := hown.ints
    obtain ⟨nt, hnt⟩ : ∃ nt, ((l ++ [x]).map fun n : Nat => (n : Int)).length = nt := ⟨_, rfl⟩
    have hnt2 : nt = l.length + 1 := by rw [← hnt]; simp
    rw [hnt] at hI hown ⊢
    obtain ⟨ad, hA⟩ := hI.addr (by omega)
    have hIb := hI
    rw [hA] at hIb
    have hix := fun wx => idx_run (m := m) (n := nt) (k := nt - 1) hA (by omega) wx
    have hE := hIb.cell (Below.refl _ _) (k := nt - 1) (by omega)
    have hg : ((l ++ [x]).map fun n : Nat => (n : Int)).getD (nt - 1) 0 = (x : Nat) := by rw [hnt2]; simp
    rw [hg] at hE
    have e1 : ((nt - 1 : Nat) : Int) = (nt : Int) - 1 := by omega
    rw [e1] at hix
    have k2 := (HB.cell (by exact hlt)).trans k2
    have hM := HF.out.mapB.kept (Kept.of_below HB) (by simp : mb ∉ ([] : List Nat))
    have hnt3 : nt ≤ 300001 := by omega
    have hnt1 : 1 ≤ nt := by omega
    have hwr : IntKind.i64.wrap ((nt : Int) - 1) = (nt : Int) - 1 := IntWalk.i64_in _ (by omega)
    have Hnt := Lib.hid hnt
    have Hnt2 := Lib.hid hnt2
    have Hown := Lib.hid hown
    have Hbw := Lib.hid hbw
    clear hA hI hIb hown hbw hnt hnt2 hg e1 hlr
    cases hbx : back x with
    | none =>
      have hlq : ∀ n, (Instr.lookup 154 (.map (some mb)) (.int .i64 (x : Nat)) true).run Try.prog (wr.drewN n) = .ok (.tuple #[.int .i64 0, .bool false]) (wr.drewN n) := fun n => mapLook_out (hM.below (bel_drewN (Below.refl _ _))) (by rw [mapI_nat]; unfold backV; rw [hbx]; rfl)
      have hl0 := mapLook_out hM (z := (x : Nat)) (by rw [mapI_nat]; unfold backV; rw [hbx]; rfl)
      go_upto_region 5 with (fail)
      go_quiet (fail)
      have hx : x = fr := by
        rcases hok.out.b0 x hbx with h | h
        · rw [hdx] at h; cases h
        · exact h
      have hbl2 := Hbw.out
      subst hx
      have hO2 := Hown.out.below (B' := 0) (bel_drewN (n := nq) (Below.refl wr.heap.size wr))
      have HB2 : Below w.heap.size w (wr.drewN nq) := bel_drewN HB
      clear hbx hlq hl0 hE k2 hM hix Hown HB
      generalize wr.drewN nq = w8 at *
      have cR := Lib.hid (intsReverse w8 w.heap.size _ _ hO2 (by rw [Hnt.out]; omega) HB2.size)
      go_wp2_with fail
      (with_reducible refine (cR.out).mono ?_)
      rintro e w9 ⟨rfl, hO9, hB9⟩
      have hfin : WayD w back x c (.returned (.tuple #[.slice A nt m, .nilIface])) w9 := by
        obtain ⟨A', m', hv, hi, hf⟩ := hO9.intsN
        have hl9 : (((l ++ [x]).map fun n : Nat => (n : Int)).reverse).length = (l ++ [x]).length := by simp
        have hll : (l ++ [x]).length = nt := by rw [Hnt2.out]; simp
        rw [hl9, hll] at hv hi
        injection hv with h1 h2 h3
        subst h1; subst h3
        refine ⟨l ++ [x], A, m, by rw [hll], ?_, hbl2, ⟨l, rfl⟩, by omega, ?_⟩
        · rw [hll]
          rw [← List.map_reverse] at hi
          exact hi
        · exact HB2.trans hB9
      clear hO9 hB9 HB2 hO2 hbl2
      go_wp2
      go_ret2
      exact hfin
    | some y =>
      have hlq : ∀ n, (Instr.lookup 154 (.map (some mb)) (.int .i64 (x : Nat)) true).run Try.prog (wr.drewN n) = .ok (.tuple #[.int .i64 (y : Nat), .bool true]) (wr.drewN n) := fun n => mapLook_in (hM.below (bel_drewN (Below.refl _ _))) (by rw [mapI_nat]; unfold backV; rw [hbx]; rfl)
      have hl0 := mapLook_in hM (z := (x : Nat)) (v := .int .i64 (y : Nat)) (by rw [mapI_nat]; unfold backV; rw [hbx]; rfl)
      obtain ⟨c1, d1, q1, q2, q3⟩ := hok.out.lower hbx
      have hd1 : c1 = d := by rw [hdx] at q1; injection q1 with q1; exact q1.symm
      subst hd1
      have Hbw2 := Lib.hid (Hbw.out.snoc hbx)
      have Q := Lib.hid (And.intro q2 q3)
      clear q1 q2 q3 hdx hbx
      go_upto_region 5 with (fail)
      go_quiet (fail)
      have hO2 := Hown.out.below (B' := 0) (bel_drewN (n := nq) (Below.refl wr.heap.size wr))
      have HB2 : Below w.heap.size w (wr.drewN nq) := bel_drewN HB
      clear hlq hl0 hE k2 hM hix Hown HB
      generalize wr.drewN nq = w8 at *
      have hs8 := HB2.size
      have hml : ((l ++ [x]).map fun n : Nat => (n : Int)).length < 1099511627776 := by rw [Hnt.out]; omega
      go_wp2_with (at_builtin; (refine wpList_append_int _ rfl _ _ rfl w.heap.size _ _ _ rfl (hO2.alloc _) ⟨w8.heap.size, 0, none⟩ rfl (cell1_new _ _ _) hml (by simp; omega) ?_); intro v' w9 hown9 hgrow)
      have HB9 := below_grown (HB2.alloc (by omega) _) (by simp; omega) (hO2.alloc _) hgrow
      have hin : WyI w b gp mc mb g v0 done back nb c (rk 512 d1) v' w9 := ⟨l ++ [x], y, d1, by simpa using hown9, Hbw2.out, Q.out.1, Nat.le_refl _, by have := Hlr.out; have := Q.out.2; simp; omega, HB9⟩
      have hin := Lib.hid hin
      have Q2 := Q.out.2
      clear hown9 hgrow HB9 hO2 HB2 hml
      go_wp2
      go_roundg (rk 512 d1)
      case measure => omega
      case rel => exact hin.out
end Go.Proofs.Ytkiogciokngjfaa
/- flood.Walk: what a way costs. -/
namespace Go.Proofs.Ytkiogciokngjfaa
open Go.RowKit Go.Sort FR
/-- the closure in Walk: does a direction lead from the one before to this one? -/
theorem walkCl (w : World) (b1 b2 b3 b4 gp : Nat) (g : G) (v : Int) (A : Option Addr) (n m : Nat) (f : Nat → Int) (i iv k d : Nat) (cell z : Int) (t : Bool) (hG : GridAt w gp g v) (hI : Ints w A n f) (hin : i < n) (hiv : iv = i + 1) (hi9 : iv ≤ 1000000) (hfk : f i = (k : Nat)) (hkn : k < g.n) (hd : d < 8)
    (hz : g.toI k d = z) (ht : (z == cell) = t)
    (c1 : w.cell? ⟨b1, 0, none⟩ = some (.pointer (some ⟨gp, 0, none⟩))) (c2 : w.cell? ⟨b2, 0, none⟩ = some (.slice A n m)) (c3 : w.cell? ⟨b3, 0, none⟩ = some (.int .i64 (iv : Nat))) (c4 : w.cell? ⟨b4, 0, none⟩ = some (.int .i64 cell)) :
    Calls Try.prog 124 #[.int .i64 (d : Nat), .pointer (some ⟨b1, 0, none⟩), .pointer (some ⟨b2, 0, none⟩), .pointer (some ⟨b3, 0, none⟩), .pointer (some ⟨b4, 0, none⟩)] w fun e w' => e = .returned (.bool t) ∧ Below w.heap.size w w' := by
  obtain ⟨ad, hA⟩ := hI.addr (by omega)
  have hIb := hI
  rw [hA] at hIb
  have hix := fun wx => idx_run (m := m) hA hin wx
  have hE := hIb.cell (Below.refl _ _) hin
  rw [hfk] at hE
  have hwr : IntKind.i64.wrap ((iv : Int) - 1) = (i : Int) := by
    rw [show (iv : Int) - 1 = (i : Int) by omega]; exact IntWalk.i64_in _ (by omega)
  have hp := Lib.hid hG.lt
  have c1q := cell_regrown c1
  have c2q := cell_regrown c2
  have c3q := cell_regrown c3
  have c4q := cell_regrown c4
  have hEq := cell_regrown hE
  have HB := Below.refl w.heap.size w
  have hbv : ∀ wx wy, Ending.returned (Value.bool (z == cell)) = .returned (.bool t) ∧ Below w.heap.size wx wy ↔ Below w.heap.size wx wy := fun _ _ => by rw [ht]; simp
  have hbv := Lib.hid hbv
  have HG := Lib.hid hG
  have Hz := Lib.hid hz
  clear hA hI hIb hfk hG hiv ht hz
  go_enter Try.func124, Try.ntmps124
  go_wp2_with fail
  refine wp_region_quiet_below (by kernel_rfl) (by kernel_rfl) ?_
  repeat (first | go_big_quiet_step ((with_reducible exact Calls.regrown_of (To_eq _ gp g v k d _ (HG.out.below (HB.trans ((below_regrown w _ _).mono HB.size)) hp.out) hkn hd Hz.out))) | quiet_step ((with_reducible exact Calls.regrown_of (To_eq _ gp g v k d _ (HG.out.below (HB.trans ((below_regrown w _ _).mono HB.size)) hp.out) hkn hd Hz.out))))
  refine wpQuiet_nil ?_
  intro _ hw'
  obtain ⟨⟨dq, osq⟩, hw''⟩ := hw'
  have HB2 := bel_trans HB (below_regrown w dq osq)
  have hb2 := below_regrown w dq osq
  subst hw''
  generalize grow (redrawn w dq) osq = w2 at HB2 hb2 ⊢
  go_wp2
  go_ret
  exact (hbv.out _ _).2 HB2
/-- which of the moves leads there: its number, or -1 -/
def idxR (o : Option Nat) : Int := match o with | some i => (i : Nat) | none => -1
set_option maxRecDepth 100000 in
set_option maxHeartbeats 1600000 in
theorem idxFunc (w : World) (b1 b2 b3 b4 gp : Nat) (g : G) (v : Int) (A A1 : Option Addr) (n m m1 nl : Nat) (f : Nat → Int) (i iv k c : Nat) (hG : GridAt w gp g v) (hI : Ints w A n f) (hin : i < n) (hiv : iv = i + 1) (hi9 : iv ≤ 1000000) (hfk : f i = (k : Nat)) (hkn : k < g.n)
    (hI1 : Ints w A1 nl (fun x => (movesI g k).getD x 0)) (hnl : (movesI g k).length = nl)
    (c1 : w.cell? ⟨b1, 0, none⟩ = some (.pointer (some ⟨gp, 0, none⟩))) (c2 : w.cell? ⟨b2, 0, none⟩ = some (.slice A n m)) (c3 : w.cell? ⟨b3, 0, none⟩ = some (.int .i64 (iv : Nat))) (c4 : w.cell? ⟨b4, 0, none⟩ = some (.int .i64 (c : Nat))) :
    Calls Try.prog 123 #[.slice A1 nl m1, .func (.func 124) #[] #[.pointer (some ⟨b1, 0, none⟩), .pointer (some ⟨b2, 0, none⟩), .pointer (some ⟨b3, 0, none⟩), .pointer (some ⟨b4, 0, none⟩)]] w fun e w' => e = .returned (.int .i64 (idxR (g.widx k c))) ∧ Below w.heap.size w w' := by
  have hnl8 : nl ≤ 8 := by rw [← hnl]; exact upTo_len _ _
  have Hnl := Lib.hid hnl
  have cC := Lib.hid (fun w' (hb : Below w.heap.size w w') d z t hd hz ht => walkCl w' b1 b2 b3 b4 gp g v A n m f i iv k d (c : Nat) z t (hG.below hb hG.lt) (hI.below hb) hin hiv hi9 hfk hkn hd hz ht (bel_cell hb c1) (bel_cell hb c2) (bel_cell hb c3) (bel_cell hb c4))
  have HI1 := Lib.hid hI1
  clear hG hI hin hiv hi9 hfk c1 c2 c3 c4 hI1 hnl
  go_enter Try.func123, Try.ntmps123
  go_wp2_with fail
  go_loopw [8] (fun kv wr => ∃ j : Nat, j ≤ nl ∧ kv = .int .i64 j ∧ (∀ j' d : Nat, j' < j → (g.moves k)[j']? = some d → g.to k d ≠ c) ∧ Below w.heap.size w wr) (fun kv _ => nl - (intOf kv).toNat)
  case atStart => exact ⟨0, by omega, rfl, fun j' d h => by omega, Below.refl _ _⟩
  case round =>
    obtain ⟨j, hj, rfl, hno, HB⟩ := hrel
    have hno := Lib.hid hno
    by_cases hlj : j < nl
    · obtain ⟨ad1, hA1⟩ := HI1.out.addr (by omega)
      have hIb := HI1.out
      rw [hA1] at hIb
      have hix1 := fun wx => idx_run (m := m1) hA1 hlj wx
      have hE1 := hIb.cell HB hlj
      obtain ⟨d, hd8, hmay, hgd, hnth⟩ := moves_at (g := g) (k := k) (j := j) (by rw [Hnl.out]; exact hlj)
      rw [hgd] at hE1
      obtain ⟨ht1, ht2⟩ := to_eq hmay
      obtain ⟨t, ht⟩ : ∃ t, (((g.to k d : Nat) : Int) == (c : Nat)) = t := ⟨_, rfl⟩
      have cD := Lib.hid (cC.out wr HB d _ t hd8 ht1 ht)
      have Ht := Lib.hid ht
      have Hnth := Lib.hid hnth
      clear hA1 hIb hgd ht1 ht hnth hmay ht2
      go_wp2_with fail
      (with_reducible refine (cD.out).mono ?_)
      rintro e w2 ⟨rfl, hb2⟩
      have HB2 := bel_trans HB hb2
      clear cD HB hb2 hE1
      cases t with
      | true =>
        have hr : idxR (g.widx k c) = (j : Nat) := by
          have htc : g.to k d = c := by have := Ht.out; simp at this; omega
          cases hw : g.widx k c with
          | none => exact absurd htc (G.widx_none hw j d Hnth.out)
          | some i' =>
            obtain ⟨d', h1, h2, h3⟩ := G.widx_some hw
            rw [(h3 j d Hnth.out).1 htc]; rfl
        have Hr := Lib.hid hr
        clear hr
        go_wp2
        go_ret
        exact ⟨by rw [Hr.out]; rfl, HB2⟩
      | false =>
        have hno2 : ∀ j' d' : Nat, j' < j + 1 → (g.moves k)[j']? = some d' → g.to k d' ≠ c := by
          intro j' d' h1 h2
          by_cases e : j' = j
          · subst e
            have := Hnth.out
            rw [h2] at this; injection this with this; subst this
            have := Ht.out
            simp at this; omega
          · exact hno.out j' d' (by omega) h2
        have hno2 := Lib.hid hno2
        go_wp2
        go_roundw
        case rel => exact ⟨j + 1, by omega, by go_num, hno2.out, HB2⟩
        case measure => simp [intOf]; omega
    · obtain rfl : j = nl := by omega
      have hr : idxR (g.widx k c) = -1 := by
        cases hw : g.widx k c with
        | none => rfl
        | some i' =>
          obtain ⟨d', h1, h2, h3⟩ := G.widx_some hw
          have hlt := (List.getElem?_eq_some_iff.1 h1).1
          have hln : (g.moves k).length = j := by rw [← Hnl.out, movesI_eq, List.length_map]
          exact absurd h2 (hno.out i' d' (by omega) h1)
      have Hr := Lib.hid hr
      clear hr
      go_wp2
      go_ret
      exact ⟨by rw [Hr.out]; rfl, HB⟩
end Go.Proofs.Ytkiogciokngjfaa
/- flood.Walk: the walk. -/
namespace Go.Proofs.Ytkiogciokngjfaa
open Go.RowKit Go.Sort FR
def errV (k : Nat) : Value := if k = 0 then .nilIface else .iface 137 (.int .i64 (k : Nat))
def costWE (x : C × Nat) : Value := .tuple #[.agg #[.int .i64 x.1.s, .int .i64 x.1.d], errV x.2]
/-- what holds at a round's head: what the first cells cost -/
def WkI (W : World) (b6 : Nat) (g : G) (f : Nat → Int) (i : Nat) (wr : World) : Prop := ∃ cs cd, g.wres f i = .inr ⟨cs, cd⟩ ∧ wr.cell? ⟨b6, 0, none⟩ = some (.int .i64 cs) ∧ wr.cell? ⟨b6, 1, none⟩ = some (.int .i64 cd) ∧ wr.frozen? ⟨b6, 0, none⟩ = false ∧ wr.frozen? ⟨b6, 1, none⟩ = false ∧ Kept [b6] W wr
def WkD (w : World) (x : C × Nat) (e : Ending) (w' : World) : Prop := e = .returned (costWE x) ∧ Below w.heap.size w w'
theorem kframe {S : List Nat} {w w' : World} {b o : Nat} (h : Kept S w w') (hb : b ∉ S) (hl : b < w.heap.size) {t : Bool} (hf : w.frozen? ⟨b, o, none⟩ = t) : w'.frozen? ⟨b, o, none⟩ = t := by
  have e : w'.frozen? ⟨b, o, none⟩ = w.frozen? ⟨b, o, none⟩ := by simp only [World.frozen?, h.block b hl hb]
  rw [e]; exact hf
theorem Ints.kept0 {S : List Nat} {w w' : World} {A : Option Addr} {n : Nat} {f : Nat → Int} (h : Ints w A n f) (hk : Kept S w w') (hS : 0 < n → ∀ ad, A = some ad → ad.block ∉ S) : Ints w' A n f := by
  intro hn
  obtain ⟨ad, h1, h2, h3⟩ := h hn
  exact ⟨ad, h1, Nat.lt_of_lt_of_le h2 hk.size, fun k hk' => by
    have e : w'.cell? (ad.add k) = w.cell? (ad.add k) := World.cell?_of_block (by rw [add_block]; exact hk.block _ h2 (hS hn ad h1))
    rw [e]; exact h3 k hk'⟩
theorem WkI.of_set {W w7 wA : World} {b6 i : Nat} {g : G} {f : Nat → Int} {x y : Int} {u v : Value} (hK7 : Kept [b6] W w7) (hb : Below w7.heap.size w7 wA) (hres : g.wres f i = .inr ⟨x, y⟩) (c60 : wA.cell? ⟨b6, 0, none⟩ = some u) (c61 : wA.cell? ⟨b6, 1, none⟩ = some v)
    (r60 : wA.frozen? ⟨b6, 0, none⟩ = false) (r61 : wA.frozen? ⟨b6, 1, none⟩ = false) : WkI W b6 g f i ((wA.setCell ⟨b6, 0, none⟩ (.int .i64 x)).setCell ⟨b6, 1, none⟩ (.int .i64 y)) := by
  have e := set_two (x := .int .i64 x) (y := .int .i64 y) c60 c61
  refine ⟨x, y, hres, e.1, e.2, by simpa using r60, by simpa using r61, ?_⟩
  exact hK7.trans (((Kept.of_below hb).setCell (.inl (by simp))).setCell (.inl (by simp)))
theorem bframe {w w' : World} {a : Addr} {t : Bool} (h : Below w.heap.size w w') (hl : a.block < w.heap.size) (hf : w.frozen? a = t) : w'.frozen? a = t := (h.frozen hl).trans hf
set_option maxRecDepth 100000 in
set_option maxHeartbeats 3200000 in
theorem floodWalk (w : World) (p : Nat) (g : G) (v : Int) (A : Option Addr) (n m : Nat) (f : Nat → Int) (hG : GridAt w p g v) (hI : Ints w A n f) (hn : n ≤ 1000000) :
    Calls Try.prog 72 #[.pointer (some ⟨p, 0, none⟩), .slice A n m] w (WkD w (g.wout f n)) := by
  go_enter Try.func72, Try.ntmps72
  go_upto_region 2 with (fail)
  refine wp_name ?_
  intro W hW
  have HW : Below w.heap.size w W := by rw [hW]; (repeat' (first | exact Below.refl _ _ | assumption | apply bel_drewN | apply bel_drew | apply bel_alloc | (refine bel_trans ?_ (by assumption))))
  obtain ⟨b2, hb2⟩ : ∃ b, w.heap.size = b := ⟨_, rfl⟩
  have hWs : W.heap.size = b2 + 1 + 1 + 1 + 1 := by rw [hW]; simp; omega
  have q2 : W.cell? ⟨b2, 0, none⟩ = some (.pointer (some ⟨p, 0, none⟩)) := by rw [hW, ← hb2]; go_simp
  have q3 : W.cell? ⟨b2 + 1, 0, none⟩ = some (.slice A n m) := by rw [hW, ← hb2]; go_simp
  have q40 : W.cell? ⟨b2 + 1 + 1, 0, none⟩ = some (.int .i64 0) := by rw [hW, ← hb2]; go_simp
  have q41 : W.cell? ⟨b2 + 1 + 1, 1, none⟩ = some (.int .i64 0) := by rw [hW, ← hb2]; go_simp
  have r40 : W.frozen? ⟨b2 + 1 + 1, 0, none⟩ = false := by rw [hW, ← hb2]; go_simp
  have r41 : W.frozen? ⟨b2 + 1 + 1, 1, none⟩ = false := by rw [hW, ← hb2]; go_simp
  have q60 : W.cell? ⟨b2 + 1 + 1 + 1, 0, none⟩ = some (.int .i64 0) := by rw [hW, ← hb2]; go_simp
  have q61 : W.cell? ⟨b2 + 1 + 1 + 1, 1, none⟩ = some (.int .i64 0) := by rw [hW, ← hb2]; go_simp
  have r60 : W.frozen? ⟨b2 + 1 + 1 + 1, 0, none⟩ = false := by rw [hW, ← hb2]; go_simp
  have r61 : W.frozen? ⟨b2 + 1 + 1 + 1, 1, none⟩ = false := by rw [hW, ← hb2]; go_simp
  have hGW := Lib.hid (hG.below HW hG.lt)
  have hIW := Lib.hid (hI.below HW)
  have hpl := hG.lt
  rw [hb2] at hpl ⊢
  obtain ⟨b3, hb3⟩ : ∃ b, b2 + 1 = b := ⟨_, rfl⟩
  rw [hb3] at hWs q3 q40 q41 r40 r41 q60 q61 r60 r61 ⊢
  obtain ⟨b4, hb4⟩ : ∃ b, b3 + 1 = b := ⟨_, rfl⟩
  rw [hb4] at hWs q40 q41 r40 r41 q60 q61 r60 r61 ⊢
  obtain ⟨b6, hb6⟩ : ∃ b, b4 + 1 = b := ⟨_, rfl⟩
  rw [hb6] at hWs q60 q61 r60 r61 ⊢
  have hok := hG.1
  have hNn := G.n_le hok
  clear hW hG
  have hAd : 0 < n → ∀ ad, A = some ad → ad.block < b2 := fun h0 ad e => by
    obtain ⟨ad', e', hlt, _⟩ := hI h0
    rw [e'] at e; injection e with e; subst e; omega
  have hAd := Lib.hid hAd
  clear hI
  have hstart : WkI W b6 g f 0 W := ⟨0, 0, rfl, q60, q61, r60, r61, Kept.refl _ _⟩
  go_wp2_with fail
  go_loopw [16] (fun kv wr => ∃ i : Nat, i ≤ n ∧ kv = .int .i64 i ∧ WkI W b6 g f i wr) (fun kv _ => n - (intOf kv).toNat)
  case atStart => exact ⟨0, by omega, rfl, hstart⟩
  case round =>
    obtain ⟨i, hi, rfl, cs, cd, hres, c60, c61, r60, r61, hK⟩ := hrel
    clear hstart q60 q61
    have q2 := cellK hK (by simp; omega) q2
    have q3 := cellK hK (by simp; omega) q3
    have q40 := cellK hK (by simp; omega) q40
    have q41 := cellK hK (by simp; omega) q41
    have r40 := kframe hK (by simp; omega) (by omega) r40
    have r41 := kframe hK (by simp; omega) (by omega) r41
    have hGr := Lib.hid (hGW.out.keptS hK (by simp; omega))
    have hIr := Lib.hid (hIW.out.kept0 hK (fun h0 ad e => by have := hAd.out h0 ad e; simp; omega))
    have hBr : Below w.heap.size w wr := Kept.below HW hK HW.size (by simp; omega)
    have hBr := Lib.hid hBr
    have HK := Lib.hid hK
    have hsz := hK.size
    clear hK
    by_cases hlt : i < n
    · obtain ⟨ad, hA⟩ := hIr.out.addr (by omega)
      have hIb := hIr.out
      rw [hA] at hIb
      have hix := fun wx => idx_run (m := m) hA hlt wx
      have hE := hIb.cell (Below.refl _ _) hlt
      have Hres := Lib.hid hres
      clear hA hIb hres
      obtain ⟨fi, hfi⟩ : ∃ fi, f i = fi := ⟨_, rfl⟩
      rw [hfi] at hE
      have Hfi := Lib.hid hfi
      clear hfi
      go_upto_region 5 with (fail)
      refine wp_name ?_
      intro W5 hW5
      have HW5 : Below wr.heap.size wr W5 := by rw [hW5]; (repeat' (first | exact Below.refl _ _ | assumption | apply bel_drewN | apply bel_drew | apply bel_alloc | (refine bel_trans ?_ (by assumption))))
      obtain ⟨b7, hb7⟩ : ∃ b, wr.heap.size = b := ⟨_, rfl⟩
      have hs5 : W5.heap.size = b7 + 1 + 1 := by rw [hW5]; simp; omega
      have q7 : W5.cell? ⟨b7, 0, none⟩ = some (.int .i64 (i : Nat)) := by rw [hW5, ← hb7]; go_simp
      have q8 : W5.cell? ⟨b7 + 1, 0, none⟩ = some (.int .i64 fi) := by rw [hW5, ← hb7]; go_simp
      rw [hb7] at ⊢
      obtain ⟨b8, hb8⟩ : ∃ b, b7 + 1 = b := ⟨_, rfl⟩
      rw [hb8] at hs5 q8 ⊢
      have q2 := bel_cell HW5 q2
      have q3 := bel_cell HW5 q3
      have q40 := bel_cell HW5 q40
      have q41 := bel_cell HW5 q41
      have r40 := bframe HW5 (by simp only; omega) r40
      have r41 := bframe HW5 (by simp only; omega) r41
      have c60 := bel_cell HW5 c60
      have c61 := bel_cell HW5 c61
      have r60 := bframe HW5 (by simp only; omega) r60
      have r61 := bframe HW5 (by simp only; omega) r61
      have hE := bel_cell HW5 hE
      have hG5 := Lib.hid (hGr.out.below HW5 hGr.out.lt)
      have hI5 := Lib.hid (hIr.out.below HW5)
      have hB5 := Lib.hid (bel_trans hBr.out HW5)
      have hK5 := Lib.hid (HK.out.trans (Kept.of_below HW5))
      clear hW5 HW5 hGr hIr hBr HK hix hE
      by_cases hin : 0 ≤ fi ∧ fi < g.n
      · obtain ⟨hin0, hin1⟩ := hin
        obtain ⟨c, hc⟩ := Int.eq_ofNat_of_zero_le hin0
        subst hc
        have hcn : c < g.n := by omega
        have cF := gridFree_in W5 p g v c hG5.out hcn
        cases hbl : g.b c with
        | true =>
          rw [hbl] at cF
          have hwo : g.wout f n = (C.zero, 4) := by
            have hf4 : g.fault (f i) = 4 := by rw [Hfi.out, G.fault_in hcn, hbl]; rfl
            have := G.wout_bad (G.wres_fault Hres.out (by rw [hf4]; decide)) (n := n) (by omega)
            rw [hf4] at this; exact this
          have hwo := Lib.hid hwo
          go_wp2_with fail
          (with_reducible refine cF.mono ?_)
          rintro e w6 ⟨rfl, hb6'⟩
          have q40 := bel_cell hb6' q40
          have q41 := bel_cell hb6' q41
          have r40 := bframe hb6' (by simp only; omega) r40
          have r41 := bframe hb6' (by simp only; omega) r41
          clear cF
          go_wp2
          have e2 := set_two (x := .int .i64 0) (y := .int .i64 0) q40 q41
          refine bodyPost_ret (v := .tuple #[.agg #[.int .i64 0, .int .i64 0], .iface 137 (.int .i64 4)]) (by simp [results, Try.results72, go_sem, e2]) rfl ?_
          exact ⟨by rw [hwo.out]; rfl, ((bel_trans hB5.out hb6').setCell (by simp only; omega) _).setCell (by simp only; omega) _⟩
        | false =>
          rw [hbl] at cF
          have hf0 : g.fault (f i) = 0 := by rw [Hfi.out, G.fault_in hcn, hbl]; rfl
          have Hf0 := Lib.hid hf0
          clear hf0
          go_wp2_with fail
          (with_reducible refine cF.mono ?_)
          rintro e w6 ⟨rfl, hb6'⟩
          have hs6 := hb6'.size
          have q2 := bel_cell hb6' q2
          have q3 := bel_cell hb6' q3
          have q40 := bel_cell hb6' q40
          have q41 := bel_cell hb6' q41
          have q7 := bel_cell hb6' q7
          have q8 := bel_cell hb6' q8
          have r40 := bframe hb6' (by simp only; omega) r40
          have r41 := bframe hb6' (by simp only; omega) r41
          have c60 := bel_cell hb6' c60
          have c61 := bel_cell hb6' c61
          have r60 := bframe hb6' (by simp only; omega) r60
          have r61 := bframe hb6' (by simp only; omega) r61
          have hG6 := Lib.hid (hG5.out.below hb6' hG5.out.lt)
          have hI6 := Lib.hid (hI5.out.below hb6')
          have hB6 := Lib.hid (bel_trans hB5.out hb6')
          have hK6 := Lib.hid (hK5.out.trans (Kept.of_below hb6'))
          clear cF hb6' hG5 hI5 hB5 hK5
          rcases Nat.eq_zero_or_pos i with hi0 | hi0
          · subst hi0
            have hz : cs = 0 ∧ cd = 0 := by
              have h := Hres.out
              unfold G.wres at h
              injection h with h
              unfold C.zero at h
              injection h with h1 h2
              exact ⟨h1.symm, h2.symm⟩
            obtain ⟨rfl, rfl⟩ := hz
            have hin : WkI W b6 g f 1 w6 := ⟨0, 0, G.wres_first Hf0.out, c60, c61, r60, r61, hK6.out⟩
            have hin := Lib.hid hin
            clear c60 c61 r60 r61 q40 q41 r40 r41
            go_wp2
            go_roundw
            case rel => exact ⟨1, by omega, by go_num, hin.out⟩
            case measure => simp [intOf]; omega
          · obtain ⟨i', hii⟩ : ∃ i', i = i' + 1 := ⟨i - 1, by omega⟩
            have hii' : i' < n := by omega
            have hne : ((i : Int) == 0) = false := by simp; omega
            have Hres2 := Hres.out
            rw [hii] at Hres2
            obtain ⟨k, hfk, hkn, hkb⟩ := G.wres_ok Hres2
            have hbd := G.wres_bd Hres2
            simp only at hbd
            obtain ⟨bd1, bd2, bd3, bd4⟩ := hbd
            have Hres3 := Lib.hid Hres2
            have Hf1 : g.fault (f (i' + 1)) = 0 := by rw [← hii]; exact Hf0.out
            have Hf1 := Lib.hid Hf1
            have Hc : f (i' + 1) = (c : Nat) := by rw [← hii]; exact Hfi.out
            have Hc := Lib.hid Hc
            obtain ⟨ad, hA⟩ := hI6.out.addr (by omega)
            have hIb := hI6.out
            rw [hA] at hIb
            have hix := fun wx => idx_run (m := m) hA hii' wx
            have hE := hIb.cell (Below.refl _ _) hii'
            rw [hfk] at hE
            have hwr : IntKind.i64.wrap ((i : Int) - 1) = (i' : Int) := by
              rw [show (i : Int) - 1 = (i' : Int) by omega]; exact IntWalk.i64_in _ (by omega)
            have Hii := Lib.hid hii
            have Hfk := Lib.hid hfk
            clear hA hIb Hres2 hfk hii
            go_upto_region 11 with (fail)
            go_region_held3 (fun w' => w'.cell? ⟨b2, 0, none⟩ = some (.pointer (some ⟨p, 0, none⟩)) ∧ w'.cell? ⟨b3, 0, none⟩ = some (.slice A n m) ∧ w'.cell? ⟨b7, 0, none⟩ = some (.int .i64 (i : Nat)) ∧ w'.cell? (ad.add i') = some (.int .i64 (k : Nat)))
              (first
                | (go_keep; done)
                | (go_split_ands
                   exact ⟨bel_cell hbM (by assumption), bel_cell hbM (by assumption), bel_cell hbM (by assumption), bel_cell hbM (by assumption)⟩))
              (first
                | (go_at_call 81
                   refine (gridMovesN _ p g v k (hG6.out.below (bel_drew (Below.refl _ _)) hG6.out.lt) hkn).mono ?_
                   rintro e wM ⟨A1, m1, rfl, hI1, hN1, hbM⟩))
            have HbM : Below w6.heap.size w6 wM := bel_trans (bel_drew (Below.refl _ _)) hbM
            have hsM := HbM.size
            have q2 := bel_cell HbM q2
            have q3 := bel_cell HbM q3
            have q40 := bel_cell HbM q40
            have q41 := bel_cell HbM q41
            have q7 := bel_cell HbM q7
            have q8 := bel_cell HbM q8
            have r40 := bframe HbM (by simp only; omega) r40
            have r41 := bframe HbM (by simp only; omega) r41
            have c60 := bel_cell HbM c60
            have c61 := bel_cell HbM c61
            have r60 := bframe HbM (by simp only; omega) r60
            have r61 := bframe HbM (by simp only; omega) r61
            have hBM := Lib.hid (bel_trans hB6.out HbM)
            have hKM := Lib.hid (hK6.out.trans (Kept.of_below HbM))
            obtain ⟨nl, hnl⟩ : ∃ nl, (movesI g k).length = nl := ⟨_, rfl⟩
            rw [hnl] at hI1 ⊢
            obtain ⟨r, hr⟩ : ∃ r, idxR (g.widx k c) = r := ⟨_, rfl⟩
            have cI := idxFunc wM b2 b3 b7 b8 p g v A A1 n m m1 nl f i' i k c (hG6.out.below HbM hG6.out.lt) (hI6.out.below HbM) hii' Hii.out (by omega) Hfk.out hkn hI1 hnl q2 q3 q7 q8
            rw [hr] at cI
            have cI := Lib.hid cI
            have HI1 := Lib.hid hI1
            have Hnl := Lib.hid hnl
            clear hG6 hI6 hB6 hK6 HbM hbM hix hE hI1 hN1 hnl q2 q3 q7 q8
            go_wp2_with fail
            (with_reducible refine cI.out.mono ?_)
            rintro e w7 ⟨rfl, hb7'⟩
            have hs7 := hb7'.size
            have q40 := bel_cell hb7' q40
            have q41 := bel_cell hb7' q41
            have r40 := bframe hb7' (by simp only; omega) r40
            have r41 := bframe hb7' (by simp only; omega) r41
            have c60 := bel_cell hb7' c60
            have c61 := bel_cell hb7' c61
            have r60 := bframe hb7' (by simp only; omega) r60
            have r61 := bframe hb7' (by simp only; omega) r61
            have hB7 := Lib.hid (bel_trans hBM.out hb7')
            have hK7 := Lib.hid (hKM.out.trans (Kept.of_below hb7'))
            have HI7 := Lib.hid (HI1.out.below hb7')
            clear hBM hKM HI1 hb7' cI
            cases hw : g.widx k c with
            | none =>
              rw [hw] at hr
              have hr1 : r = -1 := hr.symm
              subst hr1
              have hwo := Lib.hid (G.wout_bad (G.wres_none Hres3.out Hf1.out Hfk.out Hc.out hw) (n := n) (by have := Hii.out; omega))
              clear hr hw c60 c61 r60 r61
              go_wp2
              have e2 := set_two (x := .int .i64 0) (y := .int .i64 0) q40 q41
              refine bodyPost_ret (v := .tuple #[.agg #[.int .i64 0, .int .i64 0], .iface 137 (.int .i64 7)]) (by simp [results, Try.results72, go_sem, e2]) rfl ?_
              exact ⟨by rw [hwo.out]; rfl, (hB7.out.setCell (by simp only; omega) _).setCell (by simp only; omega) _⟩
            | some kk =>
              rw [hw] at hr
              have hr1 : r = (kk : Nat) := hr.symm
              subst hr1
              obtain ⟨d', hd1, hd2, _⟩ := G.widx_some hw
              have hkl : kk < nl := by
                have h1 := (List.getElem?_eq_some_iff.1 hd1).1
                have h2 : (g.moves k).length = nl := by rw [← Hnl.out, movesI_eq, List.length_map]
                omega
              obtain ⟨d, hd8, hmay, hgd, hnth⟩ := moves_at (g := g) (k := k) (j := kk) (by rw [Hnl.out]; exact hkl)
              have hwst : g.wst k kk = stepC d := by unfold G.wst; rw [List.getD_eq_getElem?_getD, hnth]; rfl
              have hnew := G.wres_some Hres3.out Hf1.out Hfk.out Hc.out hw
              rw [hwst] at hnew
              obtain ⟨es, ed, hst, _, _, hr3, hr4⟩ := step_parts d
              have hr5 := step_inC d
              rw [hst] at hr5 hnew
              simp only at hr5
              obtain ⟨hr5, hr6, hr7, hr8⟩ := hr5
              have cS := Lib.hid (fun w => floodStep w d hd8)
              rw [hst] at cS
              have cA := Lib.hid (fun w => costAdd cs cd es ed w (by unfold inC; omega) (by unfold inC; omega) (by unfold inC; omega) (by unfold inC; omega))
              obtain ⟨ad1, hA1⟩ := HI7.out.addr (by omega)
              have hIb := HI7.out
              rw [hA1] at hIb
              have hix := fun wx => idx_run (m := m1) hA1 hkl wx
              have hE := hIb.cell (Below.refl _ _) hkl
              rw [hgd] at hE
              have Hnew := Lib.hid hnew
              have hq0 : ((kk : Int) < 0) = False := by simp
              clear hr hw hd1 hd2 hmay hgd hnth hwst hnew hst hA1 hIb HI7
              go_upto_region 15 with (fail)
              clear q40 q41 r40 r41
              go_region_with (first
                | (go_at_call 125
                   refine (cS.out _).mono ?_
                   rintro e wS ⟨rfl, hbS⟩
                   have c60 := bel_cell hbS c60
                   have c61 := bel_cell hbS c61
                   have r60 := bframe hbS (by simp only; simp; omega) r60
                   have r61 := bframe hbS (by simp only; simp; omega) r61)
                | (go_at_call 28
                   refine (cA.out _).mono ?_
                   rintro e wA ⟨rfl, hbA⟩
                   have c60 := bel_cell hbA c60
                   have c61 := bel_cell hbA c61
                   have r60 := bframe hbA (by simp only; have := hbS.size; simp at this; omega) r60
                   have r61 := bframe hbA (by simp only; have := hbS.size; simp at this; omega) r61))
              all_goals
                have hbw : Below w7.heap.size w7 wA := bel_trans (bel_trans (bel_drew (Below.refl w7.heap.size w7)) hbS) hbA
                have hin := Lib.hid (WkI.of_set hK7.out hbw (by rw [Hii.out]; exact Hnew.out : g.wres f (i + 1) = .inr ⟨cs + es, cd + ed⟩) c60 c61 r60 r61)
                clear c60 c61 r60 r61 hbS hbA hbw
                go_wp2
                go_roundw
                case rel => first | exact ⟨i + 1, by omega, by go_num, hin.out⟩ | ((repeat apply Exists.intro); exact ⟨⟨i + 1, by omega, by go_num, hin.out⟩, rfl⟩)
                case measure => simp [intOf]; omega
      · have hwo : g.wout f n = (C.zero, 1) := by
          have hf1 : g.fault (f i) = 1 := by rw [Hfi.out]; exact G.fault_out (by omega)
          have := G.wout_bad (G.wres_fault Hres.out (by rw [hf1]; decide)) (n := n) (by omega)
          rw [hf1] at this; exact this
        have hwo := Lib.hid hwo
        go_wp2_with fail
        (with_reducible refine (gridFree_out _ p g v fi hG5.out (by omega)).mono ?_)
        rintro e w6 ⟨rfl, hb6'⟩
        have q40 := bel_cell hb6' q40
        have q41 := bel_cell hb6' q41
        have r40 := bframe hb6' (by simp only; omega) r40
        have r41 := bframe hb6' (by simp only; omega) r41
        go_wp2
        have e2 := set_two (x := .int .i64 0) (y := .int .i64 0) q40 q41
        refine bodyPost_ret (v := .tuple #[.agg #[.int .i64 0, .int .i64 0], .iface 137 (.int .i64 1)]) (by simp [results, Try.results72, go_sem, e2]) rfl ?_
        exact ⟨by rw [hwo.out]; rfl, ((bel_trans hB5.out hb6').setCell (by simp only; omega) _).setCell (by simp only; omega) _⟩
    · obtain rfl : i = n := by omega
      rcases Nat.eq_zero_or_pos i with hi0 | hi0
      · subst hi0
        go_wp2
        have e2 := set_two (x := .int .i64 0) (y := .int .i64 0) q40 q41
        refine bodyPost_ret (v := .tuple #[.agg #[.int .i64 0, .int .i64 0], .iface 137 (.int .i64 7)]) (by simp [results, Try.results72, go_sem, e2]) rfl ?_
        exact ⟨rfl, (hBr.out.setCell (by simp only; omega) _).setCell (by simp only; omega) _⟩
      · have hne : ((i : Int) == 0) = false := by simp; omega
        have hwo := Lib.hid (G.wout_ok hres hi0)
        clear hres
        go_wp2
        have e2 := set_two (x := .int .i64 cs) (y := .int .i64 cd) q40 q41
        refine bodyPost_ret (v := .tuple #[.agg #[.int .i64 cs, .int .i64 cd], .nilIface]) (by simp [results, Try.results72, go_sem, e2]) rfl ?_
        exact ⟨by rw [hwo.out]; rfl, (hBr.out.setCell (by simp only; omega) _).setCell (by simp only; omega) _⟩
end Go.Proofs.Ytkiogciokngjfaa
/- What the reference's Flood hands back: what each cell costs from one. -/
namespace Go.Proofs.Ytkiogciokngjfaa
open Go.RowKit Go.Sort FR
/-- the cells of a row of costs, of a row of bools -/
def ccell (c : Nat → C) (k : Nat) : Value := if k % 2 = 0 then .int .i64 (c (k / 2)).s else .int .i64 (c (k / 2)).d
def icell (b : Nat → Bool) (k : Nat) : Value := .bool (b k)
theorem zero_costs : Try.zeroCells106 = rowOf (ccell fun _ => C.zero) 512 := by kernel_rfl
theorem zero_bools : Try.zeroCells66 = rowOf (icell fun _ => false) 256 := by kernel_rfl
theorem alloc_old (w : World) (o : Obj) {k : Nat} {x : Option Obj} (hk : k < w.heap.size) (h : w.heap[k]? = x) : (w.alloc o).heap[k]? = x := (Below.heap_alloc _ _ _ hk).trans h
theorem alloc_at (w : World) (o : Obj) {k : Nat} (hk : k = w.heap.size) : (w.alloc o).heap[k]? = some o := by rw [hk]; exact heap_alloc_new w o
theorem alloc4_0 (w : World) (a b c d : Obj) : ((((w.alloc a).alloc b).alloc c).alloc d).heap[w.heap.size]? = some a :=
  alloc_old _ _ (by simp; omega) (alloc_old _ _ (by simp; omega) (alloc_old _ _ (by simp) (alloc_at _ _ rfl)))
theorem alloc4_1 (w : World) (a b c d : Obj) : ((((w.alloc a).alloc b).alloc c).alloc d).heap[w.heap.size + 1]? = some b :=
  alloc_old _ _ (by simp) (alloc_old _ _ (by simp) (alloc_at _ _ (by simp)))
theorem alloc4_2 (w : World) (a b c d : Obj) : ((((w.alloc a).alloc b).alloc c).alloc d).heap[w.heap.size + 1 + 1]? = some c :=
  alloc_old _ _ (by simp) (alloc_at _ _ (by simp))
theorem alloc4_3 (w : World) (a b c d : Obj) : ((((w.alloc a).alloc b).alloc c).alloc d).heap[w.heap.size + 1 + 1 + 1]? = some d := alloc_at _ _ (by simp)
/-- what the cells cost from one -/
def FloodIs (g : G) (fr : Nat) (c : Nat → C) (is : Nat → Bool) : Prop := ∀ t, (is t = true → Dist g.E fr t (c t) ∧ t < g.n) ∧ (is t = false → ∀ d, ¬ Walk g.E fr t d)
def FloodD (w : World) (g : G) (fr : Nat) (e : Ending) (w' : World) : Prop := ∃ c is, e = .returned (.tuple #[.agg (rowOf (ccell c) 512), .agg (rowOf (icell is) 256)]) ∧ FloodIs g fr c is ∧ Below w.heap.size w w'
theorem OwnI.keptAt {w w' : World} {B : Nat} {v : Value} {zs : List Int} {S : List Nat} (h : OwnI w B v zs) (hk : Kept S w w') (hS : ∀ s ∈ S, s < B) : OwnI w' B v zs := by
  refine ⟨h.1, ?_⟩
  rcases h.2 with hn | ⟨g, cap, cur, rfl, hb, hgg, rest⟩
  · exact .inl hn
  · refine .inr ⟨g, cap, cur, rfl, hb, ?_, rest⟩
    rw [hk.block g (Array.getElem?_eq_some_iff.1 hgg).1 (fun hm => by have := hS g hm; omega)]
    exact hgg
/-- what lies in memory: the labels, and the list of what is to be looked at -/
structure LabM (W wr : World) (bc bi : Nat) (v : Value) (c : Nat → C) (is : Nat → Bool) (todo : List Nat) : Prop where
  hc : wr.heap[bc]? = some (.cells (rowOf (ccell c) 512) 106 (0, 0))
  hi : wr.heap[bi]? = some (.cells (rowOf (icell is) 256) 66 (0, 0))
  own : OwnI wr W.heap.size v (todo.map fun n : Nat => (n : Int))
  kept : Kept [bc, bi] W wr
theorem LabM.below {W wr w' : World} {bc bi : Nat} {v : Value} {c : Nat → C} {is : Nat → Bool} {todo : List Nat} (h : LabM W wr bc bi v c is todo) (hb : Below wr.heap.size wr w') : LabM W w' bc bi v c is todo :=
  ⟨(hb.block bc (Array.getElem?_eq_some_iff.1 h.hc).1).trans h.hc, (hb.block bi (Array.getElem?_eq_some_iff.1 h.hi).1).trans h.hi, h.own.below (B' := 0) hb, h.kept.trans (Kept.of_below hb)⟩
theorem LabM.cell {W wr : World} {bc bi : Nat} {v : Value} {c : Nat → C} {is : Nat → Bool} {todo : List Nat} (h : LabM W wr bc bi v c is todo) {t : Nat} (ht : t < 256) :
    wr.cell? ⟨bc, t * 2, none⟩ = some (.int .i64 (c t).s) ∧ wr.cell? ⟨bc, t * 2 + 1, none⟩ = some (.int .i64 (c t).d) ∧ wr.cell? ⟨bi, t, none⟩ = some (.bool (is t)) := by
  refine ⟨?_, ?_, ?_⟩
  · simp only [World.cell?, h.hc, rowOf_get _ _ _ (show t * 2 < 512 by omega)]
    simp [ccell]
  · simp only [World.cell?, h.hc, rowOf_get _ _ _ (show t * 2 + 1 < 512 by omega)]
    have h1 : (t * 2 + 1) % 2 = 1 := by omega
    have h2 : (t * 2 + 1) / 2 = t := by omega
    simp [ccell, h1, h2]
  · simp [World.cell?, h.hi, rowOf_get _ _ _ ht, icell]
theorem LabM.free {W wr : World} {bc bi : Nat} {v : Value} {c : Nat → C} {is : Nat → Bool} {todo : List Nat} (h : LabM W wr bc bi v c is todo) (k : Nat) : wr.frozen? ⟨bc, k, none⟩ = false ∧ wr.frozen? ⟨bi, k, none⟩ = false := by
  simp [World.frozen?, h.hc, h.hi]
theorem ccell_set (c : Nat → C) (t : Nat) (x : C) : ccell (upd c t x) = upd (upd (ccell c) (t * 2) (.int .i64 x.s)) (t * 2 + 1) (.int .i64 x.d) := by
  funext k
  unfold ccell
  by_cases h1 : k = t * 2 + 1
  · subst h1
    rw [upd_same, if_neg (by omega), show (t * 2 + 1) / 2 = t by omega, upd_same]
  · rw [upd_ne _ _ h1]
    by_cases h2 : k = t * 2
    · subst h2
      rw [upd_same, if_pos (by omega), show t * 2 / 2 = t by omega, upd_same]
    · rw [upd_ne _ _ h2, upd_ne _ _ (by omega)]
/-- a label is set -/
theorem LabM.set {W wr : World} {bc bi : Nat} {v : Value} {c : Nat → C} {is : Nat → Bool} {todo : List Nat} (h : LabM W wr bc bi v c is todo) (hne : bc ≠ bi) {t : Nat} (x : C) (hB : bc < W.heap.size) (hB2 : bi < W.heap.size) :
    LabM W (((wr.setCell ⟨bc, t * 2, none⟩ (.int .i64 x.s)).setCell ⟨bc, t * 2 + 1, none⟩ (.int .i64 x.d)).setCell ⟨bi, t, none⟩ (.bool true)) bc bi v (upd c t x) (upd is t true) todo := by
  have hK : Kept [bc, bi] wr (((wr.setCell ⟨bc, t * 2, none⟩ (.int .i64 x.s)).setCell ⟨bc, t * 2 + 1, none⟩ (.int .i64 x.d)).setCell ⟨bi, t, none⟩ (.bool true)) := (((Kept.refl _ _).setCell (.inl (by simp))).setCell (.inl (by simp))).setCell (.inl (by simp))
  refine ⟨?_, ?_, ?_, h.kept.trans hK⟩
  · rw [Below.heap_setCell _ _ _ _ (by simpa using hne), set_heap1 _ _ _ _ _ _ (set_heap1 _ _ _ _ _ _ h.hc), ccell_set,
      row_set (ccell c) (upd (ccell c) (t * 2) (.int .i64 x.s)) 512 (t * 2) _ (upd_same _ _ _) (fun i hi => upd_ne _ _ hi),
      row_set (upd (ccell c) (t * 2) (.int .i64 x.s)) (upd (upd (ccell c) (t * 2) (.int .i64 x.s)) (t * 2 + 1) (.int .i64 x.d)) 512 (t * 2 + 1) _ (upd_same _ _ _) (fun i hi => upd_ne _ _ hi)]
  · have h1 : ((wr.setCell ⟨bc, t * 2, none⟩ (.int .i64 x.s)).setCell ⟨bc, t * 2 + 1, none⟩ (.int .i64 x.d)).heap[bi]? = some (.cells (rowOf (icell is) 256) 66 (0, 0)) := by
      rw [Below.heap_setCell _ _ _ _ (by simpa using Ne.symm hne), Below.heap_setCell _ _ _ _ (by simpa using Ne.symm hne)]; exact h.hi
    rw [set_heap1 _ _ _ _ _ _ h1, row_set (icell is) (icell (upd is t true)) 256 t _ (by unfold icell; rw [upd_same]) (fun i hi => by unfold icell; rw [upd_ne _ _ hi])]
  · exact h.own.keptAt hK (by simp; omega)
theorem Lab.weaken {E : Nat → Nat → C → Prop} {from_ n : Nat} {c : Nat → C} {is : Nat → Bool} {todo : List Nat} {i k : Nat} {pend pend' : Nat → C → Prop} (H : Lab E from_ n c is todo i k pend) (hp : ∀ b e, pend b e → pend' b e) : Lab E from_ n c is todo i k pend' :=
  ⟨H.i0, H.i1, H.i2, fun a b e ha he => (H.i3 a b e ha he).imp_right (fun h => h.imp_left fun ⟨x, y⟩ => ⟨x, hp _ _ y⟩), H.i4⟩
/-- what holds at a round's head; gk: what is still to come, at most -/
def FlR (W : World) (g : G) (fr bc bi M0 gk : Nat) (v : Value) (i : Nat) (wr : World) : Prop := ∃ c is todo k0, i ≤ todo.length ∧ LabM W wr bc bi v c is todo ∧ Lab g.E fr g.n c is todo i k0 (fun _ _ => False) ∧ todo.length + Lab.meas g.n c is ≤ M0 ∧ 2 * Lab.meas g.n c is + (todo.length - i) ≤ gk
theorem lab_bd {g : G} {fr : Nat} {c : Nat → C} {is : Nat → Bool} {todo : List Nat} {i k0 : Nat} {pend : Nat → C → Prop} (H : Lab g.E fr g.n c is todo i k0 pend) (hn : g.n ≤ 256) {k : Nat} (hk : is k = true) : 0 ≤ (c k).s ∧ (c k).s ≤ 512 ∧ 0 ≤ (c k).d ∧ (c k).d ≤ 512 := by
  have h1 := H.i4 k hk
  have h2 := G.wnn (H.i1 k hk).1
  have h3 := cntN_le is g.n
  have h4 := C.parts_le' h2 (b := ⟨0, cntN is g.n⟩) ⟨by simp, by simp⟩ h1
  obtain ⟨h5, h6⟩ := h4
  obtain ⟨h7, h8⟩ := h2
  simp only at h5 h6
  omega
theorem lab_inC {g : G} {fr : Nat} {c : Nat → C} {is : Nat → Bool} {todo : List Nat} {i k0 : Nat} {pend : Nat → C → Prop} (H : Lab g.E fr g.n c is todo i k0 pend) (hn : g.n ≤ 256) {k : Nat} (hk : is k = true) : inCC (c k) := by
  have h1 := H.i4 k hk
  have h2 := G.wnn (H.i1 k hk).1
  have h3 := cntN_le is g.n
  have h4 := C.parts_le' h2 (b := ⟨0, cntN is g.n⟩) ⟨by simp, by simp⟩ h1
  obtain ⟨h5, h6⟩ := h4
  obtain ⟨h7, h8⟩ := h2
  simp only at h5 h6
  refine ⟨?_, ?_⟩ <;> unfold inC <;> omega
theorem alloc_swap {w : World} {o o' : Obj} {a : Addr} {v : Value} (hne : a.block ≠ w.heap.size) (h : (w.alloc o).cell? a = some v) : (w.alloc o').cell? a = some v := by
  rw [World.cell?_alloc_old w _ _ hne] at h
  rw [World.cell?_alloc_old w _ _ hne]; exact h
theorem bcell {W w1 : World} (hb : Below W.heap.size W w1) : (∀ b o, b < W.heap.size → w1.cell? ⟨b, o, none⟩ = W.cell? ⟨b, o, none⟩) ∧ (∀ b o, b < W.heap.size → w1.frozen? ⟨b, o, none⟩ = W.frozen? ⟨b, o, none⟩) :=
  ⟨fun b o h => hb.cell (p := ⟨b, o, none⟩) h, fun b o h => hb.frozen (p := ⟨b, o, none⟩) h⟩
theorem Lab.weaken' {g : G} {fr n : Nat} {c : Nat → C} {is : Nat → Bool} {todo : List Nat} {i k : Nat} {kk : Nat} (H : Lab g.E fr n c is todo i kk (g.E kk)) (e : kk = k) : Lab g.E fr n c is todo i k (PendM g k 0) := by
  subst e
  refine Lab.weaken H ?_
  rintro b e ⟨_, d, hd, hm, rfl, rfl⟩
  exact ⟨d, by simpa [G.moves] using ⟨hd, hm⟩, rfl, rfl⟩
theorem row_one {f : Nat → Value} (h : ∀ k, (f k).oneCell' = true) (n : Nat) : ∀ v ∈ (rowOf f n).toList, v.oneCell' = true := by
  intro v hv
  simp [rowOf] at hv
  obtain ⟨k, _, rfl⟩ := hv
  exact h k
theorem range_row {w : World} {b n : Nat} {f : Nat → Value} {T : TypeId} (h : w.heap[b]? = some (.cells (rowOf f n) T (0, 0))) : w.rangeAt b 0 (rowOf f n).toList := by
  intro j v hv
  simp only [World.cell?, h, Nat.zero_add]
  simpa using hv
theorem there_row {w : World} {b n : Nat} {f : Nat → Value} {T : TypeId} (h : w.heap[b]? = some (.cells (rowOf f n) T (0, 0))) : w.there b 0 n := by
  intro j hj
  simp only [World.cell?, World.frozen?, h, Nat.zero_add, rowOf_get _ _ _ hj]
  simp
theorem below_setCells' {B b : Nat} {a : World} (hb : B ≤ b) : ∀ (vs : List Value) (o : Nat) (w : World), Below B a w → Below B a (w.setCells b o vs)
  | [], _, _, h => h
  | v :: r, o, w, h => below_setCells' hb r (o + 1) _ (h.setCell hb v)
/-- what holds at the head of a round within a round -/
def FlI (W : World) (g : G) (fr bc bi M0 gk k i : Nat) (A1 : Option Addr) (nl : Nat) (v : Value) (j : Nat) (wr : World) : Prop := ∃ c is todo, LabM W wr bc bi v c is todo ∧ Lab g.E fr g.n c is todo i k (PendM g k j) ∧ i ≤ todo.length ∧ todo.length + Lab.meas g.n c is ≤ M0 ∧ 2 * Lab.meas g.n c is + (todo.length - i) < gk ∧ Ints wr A1 nl (fun x => (movesI g k).getD x 0) ∧ (0 < nl → ∀ ad, A1 = some ad → v.ownBlock ≠ some ad.block ∧ ad.block ∉ [bc, bi]) ∧ is k = true
theorem LabM.grown {W w7 w9 : World} {bc bi : Nat} {v v' : Value} {c : Nat → C} {is : Nat → Bool} {todo : List Nat} {o : Obj} {b : Nat} (h : LabM W w7 bc bi v c is todo) (ho : OwnI w9 W.heap.size v' (todo.map (fun n : Nat => (n : Int)) ++ [(b : Int)])) (hg : (w7.alloc o).grownBy w9 v.ownBlock)
    (hb1 : bc < W.heap.size) (hb2 : bi < W.heap.size) : LabM W w9 bc bi v' c is (todo ++ [b]) := by
  have hs := h.kept.size
  have hne : ∀ k, k < W.heap.size → some k ≠ v.ownBlock := fun k hk e => by have := (World.ownsRow.lt h.own k e.symm).1; omega
  have hbl : ∀ k, k < W.heap.size → w9.heap[k]? = w7.heap[k]? := fun k hk => (hg.block k (by simp; omega) (hne k hk)).trans (Below.heap_alloc _ _ _ (by omega))
  refine ⟨(hbl bc hb1).trans h.hc, (hbl bi hb2).trans h.hi, by simpa using ho, ?_⟩
  exact ⟨hg.os.trans h.kept.os, hg.tape.trans h.kept.tape, hg.output.trans h.kept.output, Nat.le_trans hs (Nat.le_trans (by simp) hg.size), fun k hk hn => (hbl k hk).trans (h.kept.block k hk hn)⟩
theorem FlI.push {W w7 w9 : World} {g : G} {fr bc bi M0 gk k i nl j b : Nat} {A1 : Option Addr} {v v' : Value} {c c2 : Nat → C} {is is2 : Nat → Bool} {todo : List Nat} {o : Obj} (h : LabM W w7 bc bi v c2 is2 todo) (ho : OwnI w9 W.heap.size v' (todo.map (fun n : Nat => (n : Int)) ++ [(b : Int)])) (hg : (w7.alloc o).grownBy w9 v.ownBlock)
    (hat : v'.ownBlock = v.ownBlock ∨ v'.ownBlock = some (w7.alloc o).heap.size) (hb1 : bc < W.heap.size) (hb2 : bi < W.heap.size) (hlab : Lab g.E fr g.n c2 is2 (todo ++ [b]) i k (PendM g k (j + 1))) (hm : Lab.meas g.n c2 is2 < Lab.meas g.n c is)
    (hi : i ≤ todo.length) (hTM : todo.length + Lab.meas g.n c is ≤ M0) (hgk : 2 * Lab.meas g.n c is + (todo.length - i) < gk) (hI : Ints w7 A1 nl (fun x => (movesI g k).getD x 0)) (hN : 0 < nl → ∀ ad, A1 = some ad → v.ownBlock ≠ some ad.block ∧ ad.block ∉ [bc, bi]) (hk : is2 k = true) :
    FlI W g fr bc bi M0 gk k i A1 nl v' (j + 1) w9 := by
  refine ⟨c2, is2, todo ++ [b], h.grown ho hg hb1 hb2, hlab, by simp; omega, by simp; omega, by simp; omega, ?_, ?_, hk⟩
  · intro hn
    obtain ⟨ad, e, hlt, hc⟩ := hI hn
    refine ⟨ad, e, Nat.lt_of_lt_of_le hlt (Nat.le_trans (by simp) hg.size), fun x hx => ?_⟩
    have e1 : w9.cell? (ad.add x) = (w7.alloc o).cell? (ad.add x) := hg.cell_far _ (by rw [add_block]; simp; omega) (by rw [add_block]; exact Ne.symm (hN hn ad e).1)
    rw [e1, World.cell?_alloc_old w7 _ _ (by rw [add_block]; omega)]
    exact hc x hx
  · intro hn ad e
    refine ⟨?_, (hN hn ad e).2⟩
    rcases hat with h' | h'
    · rw [h']; exact (hN hn ad e).1
    · rw [h']
      intro e2
      injection e2 with e2
      obtain ⟨ad', e', hlt, _⟩ := hI hn
      rw [e'] at e
      injection e with e
      subst e
      simp at e2
      omega
set_option maxRecDepth 100000 in
set_option maxHeartbeats 3200000 in
theorem rFlood (w : World) (p : Nat) (g : G) (v : Int) (fr : Nat) (h : RGridAt w p g v) (hf : fr < g.n) :
    Calls Try.prog 75 #[.pointer (some ⟨p, 0, none⟩), .int .i64 (fr : Nat)] w (FloodD w g fr) := by
  have hn := G.n_le h.1
  go_enter Try.func75, Try.ntmps75
  go_upto_region 3 with (fail)
  refine wp_name ?_
  intro W hW
  have HW : Below w.heap.size w W := by rw [hW]; (repeat' (first | exact Below.refl _ _ | assumption | apply bel_drewN | apply bel_drew | apply bel_alloc | (refine bel_trans ?_ (by assumption))))
  have hWs : W.heap.size = w.heap.size + 4 := by rw [hW]; simp
  have b0 : W.heap[w.heap.size]? = some (.cells (rowOf (ccell fun _ => C.zero) 512) 106 (0, 0)) := by rw [hW, zero_costs]; exact alloc4_0 _ _ _ _ _
  have b1 : W.heap[w.heap.size + 1]? = some (.cells (rowOf (icell fun _ => false) 256) 66 (0, 0)) := by rw [hW, zero_bools]; exact alloc4_1 _ _ _ _ _
  have b2 : W.heap[w.heap.size + 1 + 1]? = some (.cells (rowOf (ccell fun _ => C.zero) 512) 106 (0, 0)) := by rw [hW, zero_costs]; exact alloc4_2 _ _ _ _ _
  have b3 : W.heap[w.heap.size + 1 + 1 + 1]? = some (.cells (rowOf (icell fun _ => false) 256) 66 (0, 0)) := by rw [hW, zero_bools]; exact alloc4_3 _ _ _ _ _
  have hp := h.lt
  have hRW := Lib.hid (h.below HW h.lt)
  clear hW h
  obtain ⟨bc, hbc⟩ : ∃ bc, w.heap.size + 1 + 1 = bc := ⟨_, rfl⟩
  rw [hbc] at b2 b3 ⊢
  obtain ⟨bi, hbi⟩ : ∃ bi, bc + 1 = bi := ⟨_, rfl⟩
  rw [hbi] at b3 ⊢
  have k3 : W.cell? ⟨bi, fr, none⟩ = some (.bool false) := by simp [World.cell?, b3, rowOf_get _ _ _ (show fr < 256 by omega), icell]
  have f3 : W.frozen? ⟨bi, fr, none⟩ = false := by simp [World.frozen?, b3]
  have hK : Kept [bc, bi] W (W.setCell ⟨bi, fr, none⟩ (.bool true)) := (Kept.refl _ _).setCell (.inl (by simp))
  have hC : (W.setCell ⟨bi, fr, none⟩ (.bool true)).heap[bc]? = some (.cells (rowOf (ccell fun _ => C.zero) 512) 106 (0, 0)) := (Below.heap_setCell W ⟨bi, fr, none⟩ (.bool true) bc (by simp; omega)).trans b2
  have hI : (W.setCell ⟨bi, fr, none⟩ (.bool true)).heap[bi]? = some (.cells (rowOf (icell (upd (fun _ => false) fr true)) 256) 66 (0, 0)) := by
    rw [set_heap1 _ _ _ _ _ _ b3, row_set (icell fun _ => false) (icell (upd (fun _ => false) fr true)) 256 fr _ (by unfold icell; rw [upd_same]) (fun i hi => by unfold icell; rw [upd_ne _ _ hi])]
  have hw1s : (W.setCell ⟨bi, fr, none⟩ (.bool true)).heap.size = w.heap.size + 4 := by simp [World.setCell, hWs]
  have hK := Lib.hid hK
  have hC := Lib.hid hC
  have hI := Lib.hid hI
  have B0 := Lib.hid b0
  have B1 := Lib.hid b1
  have q0 : (fr : Int) < 256 := by omega
  clear b0 b1 b2 b3
  go_upto_region 5 with (fail)
  clear k3 f3
  generalize (W.setCell ⟨bi, fr, none⟩ (.bool true)) = w1 at *
  have hw1s : w1.heap.size = w.heap.size + 4 := hw1s
  refine wp_name ?_
  intro w2 hw2
  have hb12 : Below w1.heap.size w1 w2 := by rw [hw2]; (repeat' (first | exact Below.refl _ _ | assumption | apply bel_drewN | apply bel_drew | apply bel_alloc | (refine bel_trans ?_ (by assumption))))
  have hO : OwnI w2 W.heap.size (.slice (some ⟨w.heap.size + 4, 0, none⟩) 1 1) (([fr] : List Nat).map fun n : Nat => (n : Int)) := by
    rw [hw2]
    refine ⟨rfl, .inr ⟨w.heap.size + 4, 1, #[.int .i64 (fr : Nat)], rfl, by omega, alloc_at _ _ hw1s.symm, by simp, by decide, rfl, rfl⟩⟩
  have hL : LabM W w2 bc bi (.slice (some ⟨w.heap.size + 4, 0, none⟩) 1 1) (fun _ => C.zero) (upd (fun _ => false) fr true) [fr] :=
    ⟨(hb12.block bc (by omega)).trans hC.out, (hb12.block bi (by omega)).trans hI.out, hO, hK.out.trans (Kept.of_below hb12)⟩
  have hlab : Lab g.E fr g.n (fun _ => C.zero) (upd (fun _ => false) fr true) [fr] 0 0 (fun _ _ => False) := Lab.start hf
  obtain ⟨M0, hM0⟩ : ∃ M0, M0 = 1 + Lab.meas g.n (fun _ => C.zero) (upd (fun _ => false) fr true) := ⟨_, rfl⟩
  have hM0b : M0 ≤ 67371521 := by
    have := Lab.meas_le g.n (fun _ => C.zero) (upd (fun _ => false) fr true)
    have h2 : g.n * ((Lab.BX + 1) * (Lab.BX + 1) + 1) ≤ 256 * ((Lab.BX + 1) * (Lab.BX + 1) + 1) := Nat.mul_le_mul_right _ hn
    have h3 : 256 * ((Lab.BX + 1) * (Lab.BX + 1) + 1) = 67371520 := by decide
    omega
  obtain ⟨N0, hN0⟩ : ∃ N0, N0 = 2 * Lab.meas g.n (fun _ => C.zero) (upd (fun _ => false) fr true) + 1 := ⟨_, rfl⟩
  have hstart : FlR W g fr bc bi M0 N0 (.slice (some ⟨w.heap.size + 4, 0, none⟩) 1 1) 0 w2 := ⟨_, _, [fr], 0, by simp, hL, hlab, by rw [hM0]; simp, by rw [hN0]; simp⟩
  clear hw2 hb12 hO hL hlab hM0 hN0 hC hI hK
  go_wp2_with fail
  go_loopg [8, 9] N0 (fun gk v iv wr => ∃ i, iv = .int .i64 (i : Nat) ∧ FlR W g fr bc bi M0 gk v i wr)
  case atStart => exact ⟨0, rfl, hstart⟩
  case round =>
    obtain ⟨i, rfl, c, is, todo, k0, hi, hL, hlab, hTM, hgk⟩ := hrel
    clear hstart
    obtain ⟨A, m, rfl, hInts⟩ := hL.own.ints
    obtain ⟨nt, hnt⟩ : ∃ nt, todo.length = nt := ⟨_, rfl⟩
    have hnt' : (todo.map fun n : Nat => (n : Int)).length = nt := by rw [List.length_map, hnt]
    rw [hnt'] at hInts hL ⊢
    rw [hnt] at hi hTM hgk
    have Hnt := Lib.hid hnt
    have Hnt' := Lib.hid hnt'
    have hL := Lib.hid hL
    have hlab := Lib.hid hlab
    clear hnt hnt'
    have hi40 : nt ≤ 67371521 := by omega
    by_cases hlt : i < nt
    · obtain ⟨ad, hA⟩ := hInts.addr (by omega)
      have hIa := hInts
      rw [hA] at hIa
      have hix := fun wx => idx_run (m := m) hA hlt wx
      have hE := hIa.cell (Below.refl _ _) hlt
      obtain ⟨k, hk⟩ : ∃ k, todo[i]'(by rw [Hnt.out]; exact hlt) = k := ⟨_, rfl⟩
      have hgd : (todo.map fun n : Nat => (n : Int)).getD i 0 = (k : Nat) := by simp [List.getD, show i < todo.length by rw [Hnt.out]; exact hlt, hk]
      rw [hgd] at hE
      have hisk : is k = true := hlab.out.i2 k (by rw [← hk]; exact List.getElem_mem _)
      have hkn : k < g.n := (hlab.out.i1 k (hlab.out.i2 k (by rw [← hk]; exact List.getElem_mem _))).2
      have hn2 := Lib.hid (hlab.out.next (by rw [Hnt.out]; exact hlt))
      have Hk := Lib.hid hk
      have hpS : p ∉ [bc, bi] := by simp; omega
      have hR := hRW.out.kept hL.out.kept hpS
      clear hA hIa hInts hgd hk
      go_wp2_with fail
      (with_reducible refine (rMovesN _ p g v k hR hkn).mono ?_)
      rintro e w3 ⟨A1, m1, rfl, hI1, hN1, hb3⟩
      have hL3 := hL.out.below hb3
      have hN1' : 0 < (movesI g k).length → ∀ ad, A1 = some ad → (Value.slice A nt m).ownBlock ≠ some ad.block ∧ ad.block ∉ [bc, bi] := fun _ ad e => by
        have h1 := hN1 ad e
        have h2 := hL.out.kept.size
        refine ⟨fun e2 => ?_, by simp; omega⟩
        have := (World.ownsRow.lt hL.out.own _ e2).2
        omega
      clear hN1
      obtain ⟨nl, hnl⟩ : ∃ nl, (movesI g k).length = nl := ⟨_, rfl⟩
      rw [hnl] at hI1 hN1' ⊢
      have hnl8 : nl ≤ 8 := by rw [← hnl]; exact upTo_len _ _
      have Hnl := Lib.hid hnl
      have hin : FlI W g fr bc bi M0 gk k (i + 1) A1 nl (.slice A nt m) 0 w3 := ⟨c, is, todo, hL3, Lab.weaken' hn2.out Hk.out, by rw [Hnt.out]; omega, by rw [Hnt.out]; omega, by rw [Hnt.out]; omega, hI1, hN1', hisk⟩
      clear hL hlab hN1' hnl hb3 hn2 hE hix hL3 hisk hI1
      go_wp2_with fail
      obtain ⟨wo, rfl⟩ : ∃ wo : World, wo = wr := ⟨_, rfl⟩
      go_loopw [8, 12] (fun v kv wr => ∃ j : Nat, j ≤ nl ∧ kv = .int .i64 j ∧ FlI W g fr bc bi M0 gk k (i + 1) A1 nl v j wr) (fun _ kv _ => nl - (intOf kv).toNat)
      case atStart => exact ⟨0, by omega, rfl, hin⟩
      case round =>
        obtain ⟨j, hj, rfl, c, is, todo, hL, hlab, hi1, hTM, hgk2, hI2, hN2, hisk⟩ := hrel
        have HN2 := Lib.hid hN2
        clear hN2
        have hisk := Lib.hid hisk
        clear hin
        have hL := Lib.hid hL
        have hlab := Lib.hid hlab
        by_cases hlj : j < nl
        · have hI20 := Lib.hid hI2
          obtain ⟨ad1, hA1⟩ := hI2.addr (by omega)
          have hIb := hI2
          rw [hA1] at hIb
          have hix1 := fun wx => idx_run (m := m1) hA1 hlj wx
          have hE1 := hIb.cell (Below.refl _ _) hlj
          have hb1 := hIb.blk' (by omega)
          obtain ⟨d, hd8, hmay, hgd, hnth⟩ := moves_at (g := g) (k := k) (j := j) (by rw [Hnl.out]; exact hlj)
          rw [hgd] at hE1
          obtain ⟨ht1, ht2⟩ := to_eq hmay
          obtain ⟨tt, hto⟩ : ∃ tt, g.to k d = tt := ⟨_, rfl⟩
          rw [hto] at ht1 ht2
          have cT := Lib.hid (fun w' h' => rTo_eq w' p g v k d (tt : Nat) h' hkn hd8 ht1)
          have Hd := Lib.hid (And.intro hmay (And.intro hto hnth))
          have hR2 := hRW.out.kept hL.out.kept hpS
          have HI := Lib.hid hIb
          clear hA1 hI2 hIb hgd ht1 hmay hto hnth
          go_wp2_with fail
          (with_reducible refine (cT.out _ hR2).mono ?_)
          rintro e w4 ⟨rfl, hb4⟩
          have hL4 := Lib.hid (hL.out.below hb4)
          have hI4 := Lib.hid (hI20.out.below hb4)
          have hE2 := (hb4.cell (by rw [add_block]; exact hb1)).trans hE1
          obtain ⟨k1, k2, _⟩ := hL4.out.cell (t := k) (by omega)
          go_upto_region 14 with (fail)
          have ick := lab_inC hlab.out hn hisk.out
          obtain ⟨⟨cs, cd⟩, hck⟩ : ∃ x, c k = x := ⟨_, rfl⟩
          have hbd := lab_bd hlab.out hn hisk.out
          rw [hck] at ick k1 k2 hbd
          obtain ⟨bd1, bd2, bd3, bd4⟩ := hbd
          simp only at k1 k2 bd1 bd2 bd3 bd4
          have Hck := Lib.hid hck
          obtain ⟨es, ed, hst, hr1, hr2, hr3, hr4⟩ := step_parts d
          have cP := Lib.hid (fun w => refPlus cs cd es ed w ick.1 ick.2 (by unfold inC; omega) (by unfold inC; omega))
          have Hst := Lib.hid hst
          have hkq : (k : Int) < 256 := by omega
          have hwr : IntKind.i64.wrap (1 - ed) = es := by rw [← hr2]; exact IntWalk.i64_in _ (by omega)
          have jq0 : (0 : Int) ≤ (j : Int) := by omega
          have jq1 : (j : Int) < (nl : Int) := by omega
          have kq0 : (0 : Int) ≤ (k : Int) := by omega
          have ixs : inC (cs + es) := by unfold inC; omega
          have ixd : inC (cd + ed) := by unfold inC; omega
          clear hr2 hr3 hr4 bd1 bd2 bd3 bd4
          have d0 : (0 : Int) ≤ (d : Int) := by omega
          clear hck hst
          have lbc : bc < w4.heap.size := World.block_lt_of_cell? _ _ k1
          have lad : ad1.block < w4.heap.size := Nat.lt_of_lt_of_le hb1 hb4.size
          have n1 := World.new_ne w4 _ k1
          have n2 := World.new_ne w4 _ hE2
          have k1a := fun o => alloc_some (o := o) k1
          have k2a := fun o => alloc_some (o := o) k2
          have hE2a := fun o => alloc_some (o := o) hE2
          go_cut [14] (fun s wx => ∃ D, s = .pointer (some ⟨D, 0, none⟩) ∧ w4.heap.size ≤ D ∧ wx.cell? ⟨D, 0, none⟩ = some (.int .i64 (cs + es)) ∧ wx.cell? ⟨D, 1, none⟩ = some (.int .i64 (cd + ed)) ∧ Below w4.heap.size w4 wx)
          case first =>
            go_region_held3 (fun w' => w'.cell? ⟨bc, k * 2, none⟩ = some (.int .i64 cs) ∧ w'.cell? ⟨bc, k * 2 + 1, none⟩ = some (.int .i64 cd) ∧ w'.cell? (ad1.add j) = some (.int .i64 (d : Nat)))
              (first
                | (go_keep; done)
                | (go_split_ands
                   exact ⟨bel_cell hbP (by assumption), bel_cell hbP (by assumption), bel_cell hbP (by assumption)⟩)
                | (go_split_ands
                   exact ⟨alloc_swap (by have := hbP.size; simp; simp at this; omega) (by assumption), alloc_swap (by have := hbP.size; simp; simp at this; omega) (by assumption), alloc_swap (by have := hbP.size; rw [add_block]; simp at this; omega) (by assumption)⟩)
                | (go_split_ands
                   refine ⟨?_, ?_, ?_⟩ <;> (go_keep; done)))
              (first
                | (go_at_call 29
                   refine (cP.out _).mono ?_
                   rintro e wP ⟨rfl, hbP⟩
                   obtain ⟨hcP, hfP⟩ := bcell hbP))
            · have HbP := Lib.hid hbP
              clear hcP hfP hbP k1a k2a hE2a
              go_wp2
              go_meet
              case rel => exact ⟨_, rfl, HbP.out.size, by go_simp, by go_simp, bel_alloc (bel_trans (bel_drew (Below.refl _ _)) HbP.out)⟩
            · have HbP := Lib.hid hbP
              have q1 : wP.cell? ⟨w4.heap.size, 0, none⟩ = some (.int .i64 0) := bel_cell hbP (by go_simp)
              have q2 : wP.cell? ⟨w4.heap.size, 1, none⟩ = some (.int .i64 0) := bel_cell hbP (by go_simp)
              have Q := Lib.hid (two_set (x := .int .i64 (cs + es)) (y := .int .i64 (cd + ed)) q1 q2)
              clear hcP hfP hbP q1 q2 k1a k2a hE2a
              go_wp2
              go_meet
              case rel => exact ⟨_, rfl, Nat.le_refl _, Q.out.1, Q.out.2, ((bel_trans (bel_drew (bel_alloc (Below.refl _ _))) HbP.out).setCell (by simp) _).setCell (by simp) _⟩
          case rest =>
            obtain ⟨D, rfl, hD4, hD1, hD2, hbc⟩ := hcut
            have hL5 := Lib.hid (hL4.out.below hbc)
            have hI5 := Lib.hid (hI4.out.below hbc)
            have hDl := World.block_lt_of_cell? _ _ hD1
            clear k1 k2 k1a k2a hE2a hE2 n1 n2 hL4 hbc cP
            obtain ⟨k3, k4, k5⟩ := hL5.out.cell (t := tt) (by omega)
            have htq : (tt : Int) < 256 := by omega
            go_upto_region 15 with (fail)
            obtain ⟨⟨xs, xd⟩, hct⟩ : ∃ x, c tt = x := ⟨_, rfl⟩
            rw [hct] at k3 k4
            simp only at k3 k4
            have Hct := Lib.hid hct
            obtain ⟨ist, hist⟩ : ∃ b, is tt = b := ⟨_, rfl⟩
            rw [hist] at k5
            have Hist := Lib.hid hist
            obtain ⟨t, ht⟩ : ∃ t, (!ist || decide (C.cmp ⟨cs + es, cd + ed⟩ ⟨xs, xd⟩ < 0)) = t := ⟨_, rfl⟩
            have Ht := Lib.hid ht
            clear hct hist ht
            go_cut [72] (fun s wx => s = .bool t ∧ Below wc.heap.size wc wx)
            case first =>
              cases ist with
              | false =>
                have ht : t = true := by rw [← Ht.out]; rfl
                subst ht
                go_quiet (fail)
                go_wp2
                go_meet
                case rel => exact ⟨rfl, by (repeat' (first | exact Below.refl _ _ | assumption | apply bel_drewN | apply bel_drew | apply bel_alloc | (refine bel_trans ?_ (by assumption))))⟩
              | true =>
                have hix := lab_inC hlab.out hn Hist.out
                rw [Hct.out] at hix
                have cC := refCompare (cs + es) (cd + ed) xs xd
                obtain ⟨cv, hcv⟩ : ∃ cv, C.cmp ⟨cs + es, cd + ed⟩ ⟨xs, xd⟩ = cv := ⟨_, rfl⟩
                have ht : t = decide (cv < 0) := by rw [← Ht.out, hcv]; rfl
                rw [hcv] at cC
                have cC := Lib.hid (fun w => cC w ixs ixd hix.1 hix.2)
                have Ht2 := Lib.hid ht
                have HB := Below.refl wc.heap.size wc
                have k3q := cell_regrown k3
                have k4q := cell_regrown k4
                have k5q := cell_regrown k5
                have d1q := cell_regrown hD1
                have d2q := cell_regrown hD2
                clear hcv hix ht
                refine wp_region_quiet_below (by kernel_rfl) (by kernel_rfl) ?_
                repeat (first | go_big_quiet_step (with_reducible exact Calls.regrown_of (cC.out _)) | quiet_step (with_reducible exact Calls.regrown_of (cC.out _)))
                refine wpQuiet_nil ?_
                intro _ hw'
                obtain ⟨⟨dq, osq⟩, hw''⟩ := hw'
                have HB2 := bel_trans HB (below_regrown wc dq osq)
                have hb2 := below_regrown wc dq osq
                subst hw''
                generalize grow (redrawn wc dq) osq = w8 at HB2 hb2 ⊢
                go_wp2
                go_meet
                case rel => exact ⟨by rw [Ht2.out], HB2⟩
            case rest =>
              obtain ⟨rfl, hbc⟩ := hcut
              have hL6 := Lib.hid (hL5.out.below hbc)
              have hI6 := Lib.hid (hI5.out.below hbc)
              have d1 := (hbc.cell (by exact hDl)).trans hD1
              have d2 := (hbc.cell (by exact hDl)).trans hD2
              clear hL5 hbc hD1 hD2 k3 k4 k5
              cases t with
              | false =>
                have hle : is tt = true ∧ C.le (c tt) (C.add (c k) (stepC d)) := by
                  have h := Ht.out
                  cases ist with
                  | false => simp at h
                  | true =>
                    refine ⟨Hist.out, ?_⟩
                    rw [Hct.out, Hck.out, Hst.out]
                    intro hlt
                    have := C.cmp_neg.2 hlt
                    simp at h
                    unfold C.add at this
                    simp only at this
                    omega
                have hF : FlI W g fr bc bi M0 gk k (i + 1) A1 nl _ (j + 1) _ := ⟨c, is, todo, hL6.out, hlab.out.keep hle.1 hle.2 (pend_next Hd.out.2.2 Hd.out.2.1), hi1, hTM, hgk2, hI6.out, HN2.out, hisk.out⟩
                have hF := Lib.hid hF
                clear hle d1 d2
                go_wp2
                go_roundw
                case rel => first | exact ⟨j + 1, by omega, by go_num, hF.out⟩ | ((repeat apply Exists.intro); exact ⟨⟨j + 1, by omega, by go_num, hF.out⟩, rfl⟩)
                case measure => simp [intOf]; omega
              | true =>
                have hlt : is tt = true → C.lt (C.add (c k) (stepC d)) (c tt) := by
                  intro h1
                  have h := Ht.out
                  rw [Hist.out] at h1
                  rw [h1] at h
                  simp at h
                  rw [Hct.out, Hck.out, Hst.out]
                  exact C.cmp_neg.1 (by unfold C.add; exact h)
                have hlow := Lab.lower (fun _ _ _ => G.E_nn) hlab.out hi1 hisk.out (b := tt) (e := stepC d) ⟨hkn, d, hd8, Hd.out.1, Hd.out.2.1.symm, rfl⟩ ht2 hn (stepC_ne d) (stepC_le d) hlt (pend_next Hd.out.2.2 Hd.out.2.1)
                have hadd : C.add (c k) (stepC d) = ⟨cs + es, cd + ed⟩ := by rw [Hck.out, Hst.out]; rfl
                rw [hadd] at hlow
                have hlow := Lib.hid hlow
                have hL7 := Lib.hid (hL6.out.set (by omega) (t := tt) ⟨cs + es, cd + ed⟩ (by omega) (by omega))
                obtain ⟨k3, k4, k5⟩ := hL6.out.cell (t := tt) (by omega)
                have f1 := (hL6.out.free (tt * 2)).1
                have f2 := (hL6.out.free (tt * 2 + 1)).1
                have f3 := (hL6.out.free tt).2
                clear hlt hadd
                have hIn7 : Ints (((wc.setCell ⟨bc, tt * 2, none⟩ (.int .i64 (cs + es))).setCell ⟨bc, tt * 2 + 1, none⟩ (.int .i64 (cd + ed))).setCell ⟨bi, tt, none⟩ (.bool true)) A1 nl (fun x => (movesI g k).getD x 0) :=
                  hI6.out.kept (S := [bc, bi]) ((((Kept.refl _ _).setCell (.inl (by simp))).setCell (.inl (by simp))).setCell (.inl (by simp))) (fun ad e => (HN2.out (by omega) ad e).2)
                have hIn7 := Lib.hid hIn7
                have htl : todo.length ≤ 67371521 := by omega
                have hml : (todo.map fun n : Nat => (n : Int)).length < 1099511627776 := by rw [List.length_map]; omega
                have hW7 := hL7.out.kept.size
                go_upto_region 18 with (fail)
                clear k3 k4 k5 f1 f2 f3 d1 d2 hL6 hI6
                generalize (((wc.setCell ⟨bc, tt * 2, none⟩ (.int .i64 (cs + es))).setCell ⟨bc, tt * 2 + 1, none⟩ (.int .i64 (cd + ed))).setCell ⟨bi, tt, none⟩ (.bool true)) = w7 at *
                go_wp2_with (at_builtin; (refine wpList_append_int2 _ rfl _ _ rfl W.heap.size _ _ _ rfl (hL7.out.own.alloc _) ⟨w7.heap.size, 0, none⟩ rfl (cell1_new _ _ _) hml (by simp; omega) ?_); intro v' w9 hown9 hgrow hat)
                have hF : FlI W g fr bc bi M0 gk k (i + 1) A1 nl v' (j + 1) w9 := FlI.push hL7.out hown9 hgrow hat (by omega) (by omega) hlow.out.1 hlow.out.2 hi1 hTM hgk2 hIn7.out HN2.out (by unfold upd; split; rfl; exact hisk.out)
                have hF := Lib.hid hF
                clear hown9 hgrow hat hL7 hIn7 hml
                go_wp2
                go_roundw
                case rel => first | exact ⟨j + 1, by omega, by go_num, hF.out⟩ | ((repeat apply Exists.intro); exact ⟨⟨j + 1, by omega, by go_num, hF.out⟩, rfl⟩)
                case measure => simp [intOf]; omega
        · obtain rfl : j = nl := by omega
          have hF : FlR W g fr bc bi M0 (2 * Lab.meas g.n c is + (todo.length - (i + 1))) _ (i + 1) _ := ⟨c, is, todo, k, hi1, hL.out, Lab.weaken hlab.out (pend_done Hnl.out), hTM, Nat.le_refl _⟩
          have hF := Lib.hid hF
          go_wp2
          go_roundg (2 * Lab.meas g.n c is + (todo.length - (i + 1)))
          case measure => exact hgk2
          case rel => exact ⟨i + 1, by go_num, hF.out⟩
    · obtain rfl : i = nt := by omega
      have hfin := Lib.hid (Lab.fin hlab.out (by rw [Hnt.out]; exact Nat.le_refl _))
      obtain ⟨L1, hL1⟩ : ∃ L1, (rowOf (ccell c) 512).toList = L1 := ⟨_, rfl⟩
      obtain ⟨L2, hL2⟩ : ∃ L2, (rowOf (icell is) 256).toList = L2 := ⟨_, rfl⟩
      have l1 : L1.length = 512 := by rw [← hL1]; simp [rowOf]
      have l2 : L2.length = 256 := by rw [← hL2]; simp [rowOf]
      have o1 : ∀ v ∈ L1, v.oneCell' = true := by rw [← hL1]; exact row_one (fun k => by unfold ccell; split <;> rfl) 512
      have o2 : ∀ v ∈ L2, v.oneCell' = true := by rw [← hL2]; exact row_one (fun k => rfl) 256
      have u1 := Try.underlying106
      have u2 := Try.underlying66
      have s1 : (Try.prog.info? 106).map (·.size) = some L1.length := by rw [l1]; kernel_rfl
      have s2 : (Try.prog.info? 66).map (·.size) = some L2.length := by rw [l2]; kernel_rfl
      have hz : w.heap.size ≠ bc ∧ w.heap.size ≠ bi ∧ w.heap.size + 1 ≠ bc ∧ w.heap.size + 1 ≠ bi := by omega
      have r1 : wr.rangeAt bc 0 L1 := by rw [← hL1]; exact range_row hL.out.hc
      have r2 : wr.rangeAt bi 0 L2 := by rw [← hL2]; exact range_row hL.out.hi
      have t1 : wr.there w.heap.size 0 512 := there_row ((hL.out.kept.block w.heap.size (by omega) (by simp; omega)).trans B0.out)
      have t2 : wr.there (w.heap.size + 1) 0 256 := there_row ((hL.out.kept.block (w.heap.size + 1) (by omega) (by simp; omega)).trans B1.out)
      have HL1 := Lib.hid hL1
      have HL2 := Lib.hid hL2
      clear hL1 hL2
      go_upto_region 19 with (fail)
      have z1 : L1.toArray.size = 512 := l1
      have z2 : L2.toArray.size = 256 := l2
      refine wp_region_noPanic ?_
      refine wp_region_held_drew (S := fun w' => w'.rangeAt bi 0 L2 ∧ w'.rangeAt bc 0 L1 ∧ w'.there w.heap.size 0 512 ∧ w'.there (w.heap.size + 1) 0 256) (by kernel_rfl) ⟨r2, r1, t1, t2⟩ (fun hHeld => ?_)
      refine' wpAnyH_take (i := 0) (oi := { dst := some 82, op := .load 106 (.tmp 6), type := 106, pos := "parts.go:393", after := #[], guard := none }) (v := _) rfl (by kernel_rfl) (by kernel_rfl) (by kernel_rfl) (fun _ _ _ h => h) (yieldsIf_load_mid (by rfl) 106 (.tmp 6) rfl bc 0 rfl L1 _ (fun w h => h.2.1) u1 rfl s1) (by assumption) ?_
      simp only [Act.put, List.setIfInBounds_toArray, List.set_cons_zero, List.set_cons_succ]
      refine' wpAnyH_take (i := 1) (oi := { dst := some 83, op := .load 66 (.tmp 7), type := 66, pos := "parts.go:393", after := #[{ on := 2, ground := .gcOnly .lateStores }], guard := none }) (v := _) rfl (by kernel_rfl) (by kernel_rfl) (by kernel_rfl) (fun _ _ _ h => h) (yieldsIf_load_mid (by rfl) 66 (.tmp 7) rfl bi 0 rfl L2 _ (fun w h => h.1) u2 rfl s2) (by assumption) ?_
      simp only [Act.put, List.setIfInBounds_toArray, List.set_cons_zero, List.set_cons_succ]
      refine wpAnyH_ready (rs := [2]) (by kernel_rfl) (by simp) ?_
      refine AllReadyH.cons rfl (fun K hK => ?_) .nil
      rw [if_pos (by rfl)]
      refine wp_store_mid _ _ _ rfl w.heap.size 0 L1.toArray rfl rfl (by rw [z1]; exact t1) (by rw [z1, ← l1]; exact s1) (all_oneCell_toArray o1) ?_
      simp only [Act.put, List.setIfInBounds_toArray, List.set_cons_zero, List.set_cons_succ, List.toList_toArray]
      refine hK.out _ _ (by go_keep_ranges) (fun hHeld2 => ?_)
      clear hK K
      refine wpAnyH_ready (rs := [3]) (by kernel_rfl) (by simp) ?_
      refine AllReadyH.cons rfl (fun K hK => ?_) .nil
      rw [if_pos (by rfl)]
      refine wp_store_mid _ _ _ rfl (w.heap.size + 1) 0 L2.toArray rfl rfl (by rw [z2]; exact hHeld2.2.2.2) (by rw [z2, ← l2]; exact s2) (all_oneCell_toArray o2) ?_
      simp only [Act.put, List.setIfInBounds_toArray, List.set_cons_zero, List.set_cons_succ, List.toList_toArray]
      refine hK.out _ _ (by go_keep_ranges) (fun hHeld3 => ?_)
      clear hK K
      refine wpAnyH_done (by kernel_rfl) ?_ _
      refine NoPanic.normal ?_
      have g1 : (wr.drew.setCells w.heap.size 0 L1).rangeAt w.heap.size 0 L1 := World.rangeAt_setCells_same _ _ _ _ (by rw [l1]; exact t1)
      have g2 : ((wr.drew.setCells w.heap.size 0 L1).setCells (w.heap.size + 1) 0 L2).rangeAt (w.heap.size + 1) 0 L2 := World.rangeAt_setCells_same _ _ _ _ (by rw [l2]; exact hHeld2.2.2.2)
      go_wp2
      have g3 : ((wr.drew.setCells w.heap.size 0 L1).setCells (w.heap.size + 1) 0 L2).rangeAt w.heap.size 0 L1 := World.rangeAt_setCells_apart g1 _ _ _ (.inl (by omega))
      have lv1 := run_loadVar_mid (P := Try.prog) _ w.heap.size 0 106 L1 _ g3 u1 rfl s1
      have lv2 := run_loadVar_mid (P := Try.prog) _ (w.heap.size + 1) 0 66 L2 _ g2 u2 rfl s2
      have hBE : Below w.heap.size w ((wr.drew.setCells w.heap.size 0 L1).setCells (w.heap.size + 1) 0 L2) :=
        below_setCells' (Nat.le_succ _) _ _ _ (below_setCells' (Nat.le_refl _) _ _ _ (bel_drew (Kept.below HW hL.out.kept (by omega) (by simp; omega))))
      generalize (wr.drew.setCells w.heap.size 0 L1).setCells (w.heap.size + 1) 0 L2 = wE at *
      refine bodyPost_ret (v := .tuple #[.agg L1.toArray, .agg L2.toArray]) (by simp [results, Try.results75, Sem.run_bind, Sem.run_pure, Result.andThen_ok, asAddr, lv1, lv2]) rfl ?_
      refine ⟨c, is, ?_, fun t => ⟨fun h => ⟨(hfin.out t).1 h, (hlab.out.i1 t h).2⟩, (hfin.out t).2⟩, hBE⟩
      rw [← HL1.out, ← HL2.out]
end Go.Proofs.Ytkiogciokngjfaa
/- R.Walk: what a way costs, by the document's words. -/
namespace Go.Proofs.Ytkiogciokngjfaa
open Go.RowKit Go.Sort FR
set_option maxRecDepth 100000 in
theorem rFault (w : World) (p : Nat) (g : G) (v x : Int) (h : RGridAt w p g v) :
    Calls Try.prog 67 #[.pointer (some ⟨p, 0, none⟩), .int .i64 x] w fun e w' => e = .returned (.int .i64 (g.fault x : Nat)) ∧ Below w.heap.size w w' := by
  by_cases hin : 0 ≤ x ∧ x < g.n
  · obtain ⟨h0, h1⟩ := hin
    obtain ⟨c, rfl⟩ := Int.eq_ofNat_of_zero_le h0
    have hc : c < g.n := by omega
    have hn := G.n_le h.1
    have hb := fun w' (hb : Below w.heap.size w w') => (h.below hb h.lt).bit c (by omega)
    rw [G.fault_in hc]
    obtain ⟨t, ht⟩ : ∃ t, g.b c = t := ⟨_, rfl⟩
    rw [ht] at hb ⊢
    have hb := Lib.hid hb
    have hc256 : (c : Int) < 256 := by omega
    go_enter Try.func67, Try.ntmps67
    go_wp2_with fail
    (with_reducible refine (rIs_in _ p g v c h hc).mono ?_)
    rintro e w1 ⟨rfl, hb1⟩
    have k := hb.out _ hb1
    cases t with
    | true =>
      go_wp2
      go_ret
      exact ⟨rfl, hb1⟩
    | false =>
      go_wp2
      go_ret
      exact ⟨rfl, hb1⟩
  · rw [G.fault_out (by omega)]
    go_enter Try.func67, Try.ntmps67
    go_wp2_with fail
    (with_reducible refine (rIs_out _ p g v x h (by omega)).mono ?_)
    rintro e w1 ⟨rfl, hb1⟩
    go_wp2
    go_ret
    exact ⟨rfl, hb1⟩
def costWI (x : C × Nat) : Value := .tuple #[.agg #[.int .i64 x.1.s, .int .i64 x.1.d], .int .i64 (x.2 : Nat)]
def RWkD (w : World) (x : C × Nat) (e : Ending) (w' : World) : Prop := e = .returned (costWI x) ∧ Below w.heap.size w w'
/-- the cost, when so many moves have been looked at -/
def cAt (g : G) (k : Nat) (c : C) (o : Option Nat) (j : Nat) : C := match o with | some kk => if kk < j then C.add c (g.wst k kk) else c | none => c
def fAt (o : Option Nat) (j : Nat) : Bool := match o with | some kk => decide (kk < j) | none => false
theorem at_zero (g : G) (k : Nat) (c : C) (o : Option Nat) : cAt g k c o 0 = c ∧ fAt o 0 = false := by
  unfold cAt fAt
  cases o <;> simp
theorem at_miss {g : G} {k j : Nat} {c : C} {o : Option Nat} (h : o ≠ some j) : cAt g k c o (j + 1) = cAt g k c o j ∧ fAt o (j + 1) = fAt o j := by
  unfold cAt fAt
  cases o with
  | none => simp
  | some kk =>
    have : kk ≠ j := fun e => h (by rw [e])
    have e1 : (kk < j + 1) = (kk < j) := by simp; omega
    simp only [e1, and_self]
theorem at_hit {g : G} {k j : Nat} {c : C} {o : Option Nat} (h : o = some j) : cAt g k c o (j + 1) = C.add c (g.wst k j) ∧ fAt o (j + 1) = true ∧ cAt g k c o j = c := by
  subst h; simp [cAt, fAt]
/-- what holds at a round's head: what the first cells cost -/
def RWI (W : World) (b6 : Nat) (g : G) (f : Nat → Int) (i : Nat) (wr : World) : Prop := WkI W b6 g f i wr
/-- and at the head of a round within a round -/
def RWJ (W : World) (b6 : Nat) (x : C) (wr : World) : Prop := wr.cell? ⟨b6, 0, none⟩ = some (.int .i64 x.s) ∧ wr.cell? ⟨b6, 1, none⟩ = some (.int .i64 x.d) ∧ wr.frozen? ⟨b6, 0, none⟩ = false ∧ wr.frozen? ⟨b6, 1, none⟩ = false ∧ Kept [b6] W wr
theorem adK {S : List Nat} {w w' : World} {ad : Addr} {k : Nat} {v : Value} (h : Kept S w w') (hb : ad.block ∉ S) (hc : w.cell? (ad.add k) = some v) : w'.cell? (ad.add k) = some v := by
  have hl := World.block_lt_of_cell? _ _ hc
  rw [add_block] at hl
  have e : w'.cell? (ad.add k) = w.cell? (ad.add k) := World.cell?_of_block (by rw [add_block]; exact h.block _ hl hb)
  rw [e]; exact hc
theorem RWJ.below {W w w' : World} {b6 : Nat} {x : C} (h : RWJ W b6 x w) (hb : Below w.heap.size w w') : RWJ W b6 x w' := by
  obtain ⟨h1, h2, h3, h4, h5⟩ := h
  have l := World.block_lt_of_cell? _ _ h1
  exact ⟨bel_cell hb h1, bel_cell hb h2, bframe hb l h3, bframe hb l h4, h5.trans (Kept.of_below hb)⟩
theorem RWJ.of_set {W w7 wA : World} {b6 : Nat} {x y : Int} {u v : Value} (hK7 : Kept [b6] W w7) (hb : Below w7.heap.size w7 wA) (c60 : wA.cell? ⟨b6, 0, none⟩ = some u) (c61 : wA.cell? ⟨b6, 1, none⟩ = some v)
    (r60 : wA.frozen? ⟨b6, 0, none⟩ = false) (r61 : wA.frozen? ⟨b6, 1, none⟩ = false) : RWJ W b6 ⟨x, y⟩ ((wA.setCell ⟨b6, 0, none⟩ (.int .i64 x)).setCell ⟨b6, 1, none⟩ (.int .i64 y)) := by
  have e := set_two (x := .int .i64 x) (y := .int .i64 y) c60 c61
  refine ⟨e.1, e.2, by simpa using r60, by simpa using r61, ?_⟩
  exact hK7.trans (((Kept.of_below hb).setCell (.inl (by simp))).setCell (.inl (by simp)))
set_option maxRecDepth 100000 in
set_option maxHeartbeats 3200000 in
theorem rWalk (w : World) (p : Nat) (g : G) (v : Int) (A : Option Addr) (n m : Nat) (f : Nat → Int) (hG : RGridAt w p g v) (hI : Ints w A n f) (hn : n ≤ 1000000) :
    Calls Try.prog 73 #[.pointer (some ⟨p, 0, none⟩), .slice A n m] w (RWkD w (g.wout f n)) := by
  go_enter Try.func73, Try.ntmps73
  go_upto_region 2 with (fail)
  refine wp_name ?_
  intro W hW
  have HW : Below w.heap.size w W := by rw [hW]; (repeat' (first | exact Below.refl _ _ | assumption | apply bel_drewN | apply bel_drew | apply bel_alloc | (refine bel_trans ?_ (by assumption))))
  obtain ⟨b4, hb4⟩ : ∃ b, w.heap.size = b := ⟨_, rfl⟩
  have hWs : W.heap.size = b4 + 1 + 1 := by rw [hW]; simp; omega
  have q40 : W.cell? ⟨b4, 0, none⟩ = some (.int .i64 0) := by rw [hW, ← hb4]; go_simp
  have q41 : W.cell? ⟨b4, 1, none⟩ = some (.int .i64 0) := by rw [hW, ← hb4]; go_simp
  have r40 : W.frozen? ⟨b4, 0, none⟩ = false := by rw [hW, ← hb4]; go_simp
  have r41 : W.frozen? ⟨b4, 1, none⟩ = false := by rw [hW, ← hb4]; go_simp
  have q60 : W.cell? ⟨b4 + 1, 0, none⟩ = some (.int .i64 0) := by rw [hW, ← hb4]; go_simp
  have q61 : W.cell? ⟨b4 + 1, 1, none⟩ = some (.int .i64 0) := by rw [hW, ← hb4]; go_simp
  have r60 : W.frozen? ⟨b4 + 1, 0, none⟩ = false := by rw [hW, ← hb4]; go_simp
  have r61 : W.frozen? ⟨b4 + 1, 1, none⟩ = false := by rw [hW, ← hb4]; go_simp
  have hGW := Lib.hid (hG.below HW hG.lt)
  have hIW := Lib.hid (hI.below HW)
  have hpl := hG.lt
  rw [hb4] at hpl ⊢
  obtain ⟨b6, hb6⟩ : ∃ b, b4 + 1 = b := ⟨_, rfl⟩
  rw [hb6] at hWs q60 q61 r60 r61 ⊢
  have hok := hG.1
  have hNn := G.n_le hok
  have hAd : 0 < n → ∀ ad, A = some ad → ad.block < b4 := fun h0 ad e => by
    obtain ⟨ad', e', hlt, _⟩ := hI h0
    rw [e'] at e; injection e with e; subst e; omega
  have hAd := Lib.hid hAd
  clear hW hG hI
  have hstart : WkI W b6 g f 0 W := ⟨0, 0, rfl, q60, q61, r60, r61, Kept.refl _ _⟩
  go_wp2_with fail
  go_loopw [7] (fun kv wr => ∃ i : Nat, i ≤ n ∧ kv = .int .i64 i ∧ WkI W b6 g f i wr) (fun kv _ => n - (intOf kv).toNat)
  case atStart => exact ⟨0, by omega, rfl, hstart⟩
  case round =>
    obtain ⟨i, hi, rfl, cs, cd, hres, c60, c61, r60, r61, hK⟩ := hrel
    clear hstart q60 q61
    have q40 := cellK hK (by simp; omega) q40
    have q41 := cellK hK (by simp; omega) q41
    have r40 := kframe hK (by simp; omega) (by omega) r40
    have r41 := kframe hK (by simp; omega) (by omega) r41
    have hGr := Lib.hid (hGW.out.kept hK (by simp; omega))
    have hIr := Lib.hid (hIW.out.kept0 hK (fun h0 ad e => by have := hAd.out h0 ad e; simp; omega))
    have hBr : Below w.heap.size w wr := Kept.below HW hK HW.size (by simp; omega)
    have hBr := Lib.hid hBr
    have HK := Lib.hid hK
    have hsz := hK.size
    clear hK
    by_cases hlt : i < n
    · obtain ⟨ad, hA⟩ := hIr.out.addr (by omega)
      have hIb := hIr.out
      rw [hA] at hIb
      have hix := fun wx => idx_run (m := m) hA hlt wx
      have hE := hIb.cell (Below.refl _ _) hlt
      have Hres := Lib.hid hres
      clear hA hIb hres
      obtain ⟨fi, hfi⟩ : ∃ fi, f i = fi := ⟨_, rfl⟩
      rw [hfi] at hE
      have cF := Lib.hid (fun w' h' => rFault w' p g v fi h')
      obtain ⟨fa, hfa⟩ : ∃ fa, g.fault fi = fa := ⟨_, rfl⟩
      rw [hfa] at cF
      have Hfi := Lib.hid hfi
      have Hfa := Lib.hid hfa
      clear hfi hfa
      go_wp2_with fail
      (with_reducible refine (cF.out _ hGr.out).mono ?_)
      rintro e w6 ⟨rfl, hb6'⟩
      have hs6 := hb6'.size
      have q40 := bel_cell hb6' q40
      have q41 := bel_cell hb6' q41
      have r40 := bframe hb6' (by simp only; omega) r40
      have r41 := bframe hb6' (by simp only; omega) r41
      have c60 := bel_cell hb6' c60
      have c61 := bel_cell hb6' c61
      have r60 := bframe hb6' (by simp only; omega) r60
      have r61 := bframe hb6' (by simp only; omega) r61
      have hG6 := Lib.hid (hGr.out.below hb6' hGr.out.lt)
      have hI6 := Lib.hid (hIr.out.below hb6')
      have hB6 := Lib.hid (bel_trans hBr.out hb6')
      have hK6 := Lib.hid (HK.out.trans (Kept.of_below hb6'))
      have hE := bel_cell hb6' hE
      clear cF hb6' hGr hIr hBr HK
      rcases Nat.eq_zero_or_pos fa with hfa | hfa
      · subst hfa
        obtain ⟨c, hc, hcn, hbl⟩ := G.fault_zero Hfa.out
        subst hc
        have Hf0 : g.fault (f i) = 0 := by rw [Hfi.out]; exact Hfa.out
        have Hf0 := Lib.hid Hf0
        rcases Nat.eq_zero_or_pos i with hi0 | hi0
        · subst hi0
          have hz : cs = 0 ∧ cd = 0 := by
            have h := Hres.out
            unfold G.wres at h
            injection h with h
            unfold C.zero at h
            injection h with h1 h2
            exact ⟨h1.symm, h2.symm⟩
          obtain ⟨rfl, rfl⟩ := hz
          have hin : WkI W b6 g f 1 w6 := ⟨0, 0, G.wres_first Hf0.out, c60, c61, r60, r61, hK6.out⟩
          have hin := Lib.hid hin
          clear c60 c61 r60 r61 q40 q41 r40 r41
          go_wp2
          go_roundw
          case rel => exact ⟨1, by omega, by go_num, hin.out⟩
          case measure => simp [intOf]; omega
        · obtain ⟨i', hii⟩ : ∃ i', i = i' + 1 := ⟨i - 1, by omega⟩
          have hii' : i' < n := by omega
          have hne : ((i : Int) == 0) = false := by simp; omega
          have Hres2 := Hres.out
          rw [hii] at Hres2
          obtain ⟨k, hfk, hkn, hkb⟩ := G.wres_ok Hres2
          have hbd := G.wres_bd Hres2
          simp only at hbd
          obtain ⟨bd1, bd2, bd3, bd4⟩ := hbd
          have Hres3 := Lib.hid Hres2
          have Hf1 : g.fault (f (i' + 1)) = 0 := by rw [← hii]; exact Hf0.out
          have Hf1 := Lib.hid Hf1
          have Hc : f (i' + 1) = (c : Nat) := by rw [← hii]; exact Hfi.out
          have Hc := Lib.hid Hc
          obtain ⟨ad, hA⟩ := hI6.out.addr (by omega)
          have hIb := hI6.out
          rw [hA] at hIb
          have hix2 := fun wx => idx_run (m := m) hA hii' wx
          have hE2 := hIb.cell (Below.refl _ _) hii'
          have hbad := hIb.blk' (by omega)
          have hA6 : ad.block < b4 := hAd.out (by omega) ad hA
          rw [hfk] at hE2
          have hwr : IntKind.i64.wrap ((i : Int) - 1) = (i' : Int) := by
            rw [show (i : Int) - 1 = (i' : Int) by omega]; exact IntWalk.i64_in _ (by omega)
          have hE3 := hIb.cell (Below.refl _ _) hlt
          rw [Hfi.out] at hE3
          have hix3 := fun wx => idx_run (m := m) hA hlt wx
          have Hii := Lib.hid hii
          have Hfk := Lib.hid hfk
          clear hA hIb Hres2 hfk hii hE hix
          go_wp2_with fail
          (with_reducible refine (rMovesN _ p g v k hG6.out hkn).mono ?_)
          rintro e w7 ⟨A1, m1, rfl, hI1, hN1, hb7'⟩
          have hs7 := hb7'.size
          have Q40 := Lib.hid (bel_cell hb7' q40)
          have Q41 := Lib.hid (bel_cell hb7' q41)
          have R40 := Lib.hid (bframe hb7' (by simp only; omega) r40)
          have R41 := Lib.hid (bframe hb7' (by simp only; omega) r41)
          have c60 := bel_cell hb7' c60
          have c61 := bel_cell hb7' c61
          have r60 := bframe hb7' (by simp only; omega) r60
          have r61 := bframe hb7' (by simp only; omega) r61
          have hG7 := Lib.hid (hG6.out.below hb7' hG6.out.lt)
          have hB7 := Lib.hid (bel_trans hB6.out hb7')
          have hK7 := Lib.hid (hK6.out.trans (Kept.of_below hb7'))
          have HE2 := Lib.hid (bel_cell hb7' hE2)
          have HE3 := Lib.hid (bel_cell hb7' hE3)
          obtain ⟨nl, hnl⟩ : ∃ nl, (movesI g k).length = nl := ⟨_, rfl⟩
          rw [hnl] at hI1 ⊢
          have hnl8 : nl ≤ 8 := by rw [← hnl]; exact upTo_len _ _
          have hN1 : 0 < nl → ∀ ad, A1 = some ad → ad.block ∉ [b6] := fun _ ad e => by have := hN1 ad e; simp; omega
          have HN1 := Lib.hid hN1
          have HI1 := Lib.hid hI1
          have Hnl := Lib.hid hnl
          obtain ⟨o, ho⟩ : ∃ o, g.widx k c = o := ⟨_, rfl⟩
          have Ho := Lib.hid ho
          have hAb6 : ad.block ≠ b6 := by omega
          have hpb6 : p ≠ b6 := by omega
          clear hE2 hE3 q40 q41 r40 r41 hG6 hI6 hB6 hK6 hb7' hI1 hN1 hnl ho hbad
          have hstart2 : RWJ w7 b6 (cAt g k ⟨cs, cd⟩ o 0) w7 := by rw [(at_zero g k ⟨cs, cd⟩ o).1]; exact ⟨c60, c61, r60, r61, Kept.refl _ _⟩
          have hf0 := (at_zero g k ⟨cs, cd⟩ o).2
          clear c60 c61 r60 r61
          go_wp2_with fail
          obtain ⟨wo, rfl⟩ : ∃ wo : World, wo = wr := ⟨_, rfl⟩
          go_loopw [10, 11] (fun fv kv wr => ∃ j : Nat, j ≤ nl ∧ fv = .bool (fAt o j) ∧ kv = .int .i64 j ∧ RWJ w7 b6 (cAt g k ⟨cs, cd⟩ o j) wr) (fun _ kv _ => nl - (intOf kv).toNat)
          case atStart => exact ⟨0, by omega, by rw [hf0], rfl, hstart2⟩
          case round =>
            obtain ⟨j, hj, rfl, rfl, hJ⟩ := hrel
            clear hstart2 hf0
            obtain ⟨c60, c61, r60, r61, hKj⟩ := hJ
            have hE2 := adK hKj (by simpa using hAb6) HE2.out
            have hE3 := adK hKj (by simpa using hAb6) HE3.out
            have q40 := cellK hKj (by simp; omega) Q40.out
            have q41 := cellK hKj (by simp; omega) Q41.out
            have r40 := kframe hKj (by simp; omega) (by omega) R40.out
            have r41 := kframe hKj (by simp; omega) (by omega) R41.out
            have hGj := Lib.hid (hG7.out.kept hKj (by simpa using hpb6))
            have hIj := Lib.hid (HI1.out.kept0 hKj HN1.out)
            have hsj := hKj.size
            have HKj := Lib.hid hKj
            obtain ⟨⟨xs, xd⟩, hx⟩ : ∃ x, cAt g k ⟨cs, cd⟩ o j = x := ⟨_, rfl⟩
            obtain ⟨fb, hfb⟩ : ∃ x, fAt o j = x := ⟨_, rfl⟩
            rw [hx] at c60 c61
            rw [hfb] at ⊢
            simp only at c60 c61
            have Hx := Lib.hid hx
            have Hfb := Lib.hid hfb
            clear hKj hx hfb
            by_cases hlj : j < nl
            · obtain ⟨ad1, hA1⟩ := hIj.out.addr (by omega)
              have hIb := hIj.out
              rw [hA1] at hIb
              have hix1 := fun wx => idx_run (m := m1) hA1 hlj wx
              have hE1 := hIb.cell (Below.refl _ _) hlj
              obtain ⟨d, hd8, hmay, hgd, hnth⟩ := moves_at (g := g) (k := k) (j := j) (by rw [Hnl.out]; exact hlj)
              rw [hgd] at hE1
              obtain ⟨ht1, ht2⟩ := to_eq hmay
              obtain ⟨tt, hto⟩ : ∃ tt, g.to k d = tt := ⟨_, rfl⟩
              rw [hto] at ht1 ht2
              obtain ⟨t, ht⟩ : ∃ t, ((tt : Int) == (c : Int)) = t := ⟨_, rfl⟩
              have hto2 : t = true ↔ o = some j := by
                have e1 : t = true ↔ g.to k d = c := by rw [← ht, hto]; simp; omega
                rw [e1, ← Ho.out]
                cases hw : g.widx k c with
                | none => simp; exact G.widx_none hw j d hnth
                | some i2 =>
                  obtain ⟨d2, z1, z2, z3⟩ := G.widx_some hw
                  rw [z3 j d hnth]; simp; omega
              have hwst : g.wst k j = stepC d := by unfold G.wst; rw [List.getD_eq_getElem?_getD, hnth]; rfl
              have cT := Lib.hid (fun w' h' => rTo_eq w' p g v k d (tt : Nat) h' hkn hd8 ht1)
              have Ht := Lib.hid hto2
              have Hwst := Lib.hid hwst
              have hp := hGj.out.lt
              have HB := Below.refl wr.heap.size wr
              have hE1q := cell_regrown hE1
              have hE2q := cell_regrown hE2
              have hE3q := cell_regrown hE3
              clear hA1 hIb hgd ht1 hto2 hto hmay hnth hwst
              go_upto_region 14 with (fail)
              refine wp_region_quiet_below (by kernel_rfl) (by kernel_rfl) ?_
              repeat (first | go_big_quiet_step ((with_reducible exact Calls.regrown_of (cT.out _ (hGj.out.below (HB.trans ((below_regrown wr _ _).mono HB.size)) hp)))) | quiet_step ((with_reducible exact Calls.regrown_of (cT.out _ (hGj.out.below (HB.trans ((below_regrown wr _ _).mono HB.size)) hp)))))
              refine wpQuiet_nil ?_
              intro _ hw'
              obtain ⟨⟨dq, osq⟩, hw''⟩ := hw'
              have HB8 := bel_trans HB (below_regrown wr dq osq)
              have hb2 := below_regrown wr dq osq
              subst hw''
              generalize grow (redrawn wr dq) osq = w8 at HB8 hb2 ⊢
              have hs8 := HB8.size
              have k60 := bel_cell HB8 c60
              have k61 := bel_cell HB8 c61
              have f60 := bframe HB8 (by simp only; omega) r60
              have f61 := bframe HB8 (by simp only; omega) r61
              have hK8 := Lib.hid (HKj.out.trans (Kept.of_below HB8))
              have hE1 := bel_cell HB8 hE1
              clear hE1q hE2q hE3q hE2 hE3 c60 c61 r60 r61 q40 q41 r40 r41 HKj hIj hGj hb2 HB8 cT
              cases t with
              | false =>
                have hnj : o ≠ some j := fun e => by have := Ht.out.2 e; cases this
                obtain ⟨m1', m2'⟩ := at_miss (g := g) (k := k) (c := ⟨cs, cd⟩) hnj
                have hJ : RWJ w7 b6 (cAt g k ⟨cs, cd⟩ o (j + 1)) w8 := by rw [m1', Hx.out]; exact ⟨k60, k61, f60, f61, hK8.out⟩
                have hJ := Lib.hid hJ
                have hf := Lib.hid (m2'.trans Hfb.out)
                clear hnj m1' m2' k60 k61 f60 f61
                go_wp2
                go_roundw
                case rel => first | exact ⟨j + 1, by omega, by rw [hf.out], by go_num, hJ.out⟩ | ((repeat apply Exists.intro); exact ⟨⟨j + 1, by omega, by rw [hf.out], by go_num, hJ.out⟩, rfl⟩)
                case measure => simp [intOf]; omega
              | true =>
                obtain ⟨m1', m2', m3'⟩ := at_hit (g := g) (k := k) (c := ⟨cs, cd⟩) (Ht.out.1 rfl)
                have hxx := Hx.out
                rw [m3'] at hxx
                injection hxx with hx1 hx2
                subst hx1
                subst hx2
                obtain ⟨es, ed, hst, hr1, hr2, hr3, hr4⟩ := step_parts d
                have cP := Lib.hid (fun w => refPlus cs cd es ed w (by unfold inC; omega) (by unfold inC; omega) (by unfold inC; omega) (by unfold inC; omega))
                have hwr2 : IntKind.i64.wrap (1 - ed) = es := by rw [← hr2]; exact IntWalk.i64_in _ (by omega)
                have hnew : cAt g k ⟨cs, cd⟩ o (j + 1) = ⟨cs + es, cd + ed⟩ := by rw [m1', Hwst.out, hst]; rfl
                have hnew := Lib.hid hnew
                have hf := Lib.hid m2'
                have d0 : (0 : Int) ≤ (d : Int) := by omega
                have jq0 : (0 : Int) ≤ (j : Int) := by omega
                have jq1 : (j : Int) < (nl : Int) := by omega
                clear m1' m2' m3' hst hr2 hr3 hr4
                go_upto_region 15 with (fail)
                go_cut [] (fun wx => RWJ w7 b6 ⟨cs + es, cd + ed⟩ wx)
                case first =>
                  go_region_with (go_at_call 29; refine (cP.out _).mono ?_; rintro e wA ⟨rfl, hbA⟩; have k60 := bel_cell hbA k60; have k61 := bel_cell hbA k61; have f60 := bframe hbA (by simp only; simp; omega) f60; have f61 := bframe hbA (by simp only; simp; omega) f61)
                  all_goals
                    have hbw : Below w8.heap.size w8 wA := bel_trans (bel_drew (Below.refl w8.heap.size w8)) hbA
                    have hin := Lib.hid (RWJ.of_set (x := cs + es) (y := cd + ed) hK8.out hbw k60 k61 f60 f61)
                    clear k60 k61 f60 f61 hbA hbw hE1 hix1
                    go_wp2
                    go_meet
                    case rel => exact hin.out
                case rest =>
                  have hJ : RWJ w7 b6 (cAt g k ⟨cs, cd⟩ o (j + 1)) wc := by rw [hnew.out]; exact hcut
                  have hJ := Lib.hid hJ
                  clear hcut cP k60 k61 f60 f61 hE1 hix1
                  go_wp2
                  go_roundw
                  case rel => first | exact ⟨j + 1, by omega, by rw [hf.out], by go_num, hJ.out⟩ | ((repeat apply Exists.intro); exact ⟨⟨j + 1, by omega, by rw [hf.out], by go_num, hJ.out⟩, rfl⟩)
                  case measure => simp [intOf]; omega
            · obtain rfl : j = nl := by omega
              have hK8 := HKj.out
              cases o with
              | none =>
                have hb0 : fb = false := by rw [← Hfb.out]; rfl
                subst hb0
                have hwo := Lib.hid (G.wout_bad (G.wres_none Hres3.out Hf1.out Hfk.out Hc.out Ho.out) (n := n) (by have := Hii.out; omega))
                have hBj : Below w.heap.size w wr := Kept.below hB7.out hK8 hB7.out.size (by simp; omega)
                clear c60 c61 r60 r61 hE2 hE3
                go_wp2
                have e2 := set_two (x := .int .i64 0) (y := .int .i64 0) q40 q41
                refine bodyPost_ret (v := .tuple #[.agg #[.int .i64 0, .int .i64 0], .int .i64 7]) (by simp [results, Try.results73, go_sem, e2]) rfl ?_
                exact ⟨by rw [hwo.out]; rfl, (hBj.setCell (by simp only; omega) _).setCell (by simp only; omega) _⟩
              | some kk =>
                have hkl : kk < j := by
                  obtain ⟨d', hd1, _, _⟩ := G.widx_some Ho.out
                  have h1 := (List.getElem?_eq_some_iff.1 hd1).1
                  have h2 : (g.moves k).length = j := by rw [← Hnl.out, movesI_eq, List.length_map]
                  omega
                have hb1 : fb = true := by rw [← Hfb.out]; simp [fAt, hkl]
                subst hb1
                have hxx : C.add ⟨cs, cd⟩ (g.wst k kk) = ⟨xs, xd⟩ := by rw [← Hx.out]; simp [cAt, hkl]
                have hnew := G.wres_some Hres3.out Hf1.out Hfk.out Hc.out Ho.out
                rw [hxx] at hnew
                have hin : WkI W b6 g f (i + 1) wr := ⟨xs, xd, by rw [Hii.out]; exact hnew, c60, c61, r60, r61, hK7.out.trans hK8⟩
                have hin := Lib.hid hin
                clear c60 c61 r60 r61 hE2 hE3 q40 q41 r40 r41 hxx hnew hK8
                go_wp2
                go_roundw
                case rel => first | exact ⟨i + 1, by omega, by go_num, hin.out⟩ | ((repeat apply Exists.intro); exact ⟨⟨i + 1, by omega, by go_num, hin.out⟩, rfl⟩)
                case measure => simp [intOf]; omega
      · have hwo := G.wout_bad (G.wres_fault Hres.out (by rw [Hfi.out, Hfa.out]; omega)) (n := n) (by omega)
        rw [Hfi.out, Hfa.out] at hwo
        have hwo := Lib.hid hwo
        have hfp : ((0 : Int) < (fa : Int)) := by omega
        clear c60 c61 r60 r61
        go_wp2
        have e2 := set_two (x := .int .i64 0) (y := .int .i64 0) q40 q41
        refine bodyPost_ret (v := .tuple #[.agg #[.int .i64 0, .int .i64 0], .int .i64 (fa : Nat)]) (by simp [results, Try.results73, go_sem, e2]) rfl ?_
        exact ⟨by rw [hwo.out]; rfl, (hB6.out.setCell (by simp only; omega) _).setCell (by simp only; omega) _⟩
    · obtain rfl : i = n := by omega
      rcases Nat.eq_zero_or_pos i with hi0 | hi0
      · subst hi0
        go_wp2
        have e2 := set_two (x := .int .i64 0) (y := .int .i64 0) q40 q41
        refine bodyPost_ret (v := .tuple #[.agg #[.int .i64 0, .int .i64 0], .int .i64 7]) (by simp [results, Try.results73, go_sem, e2]) rfl ?_
        exact ⟨rfl, (hBr.out.setCell (by simp only; omega) _).setCell (by simp only; omega) _⟩
      · have hne : ((i : Int) == 0) = false := by simp; omega
        have hwo := Lib.hid (G.wout_ok hres hi0)
        clear hres
        go_wp2
        have e2 := set_two (x := .int .i64 cs) (y := .int .i64 cd) q40 q41
        refine bodyPost_ret (v := .tuple #[.agg #[.int .i64 cs, .int .i64 cd], .int .i64 0]) (by simp [results, Try.results73, go_sem, e2]) rfl ?_
        exact ⟨by rw [hwo.out]; rfl, (hBr.out.setCell (by simp only; omega) _).setCell (by simp only; omega) _⟩
end Go.Proofs.Ytkiogciokngjfaa
/- What the statements' own octile cost hands back. -/
namespace Go.Proofs.Ytkiogciokngjfaa
open Go.RowKit Go.Sort FR
set_option maxRecDepth 100000 in
set_option maxHeartbeats 1600000 in
theorem topOct (w : World) (g : G) (a b : Nat) (x : C) (hok : g.ok) (ha : a < g.n) (hb : b < g.n) (hx : g.oct a b = x) :
    Calls Try.prog 86 #[.int .i64 g.w, .int .i64 (a : Nat), .int .i64 (b : Nat)] w fun e w' => e = .returned (.agg #[.int .i64 x.s, .int .i64 x.d]) ∧ Below w.heap.size w w' := by
  obtain ⟨o1, o2, o3, o4⟩ := hok
  have l1 := G.X_lt ⟨o1, o2, o3, o4⟩ a
  have l2 := G.X_lt ⟨o1, o2, o3, o4⟩ b
  have l3 := G.Y_lt ha
  have l4 := G.Y_lt hb
  have hnn := G.n_le (⟨o1, o2, o3, o4⟩ : g.ok)
  have cO := fun w => refOctile (g.X a : Nat) (g.Y a : Nat) (g.X b : Nat) (g.Y b : Nat) w (by omega) (by omega) (by omega) (by omega)
  have hx2 : octI ((g.X a : Nat) - (g.X b : Nat)) ((g.Y a : Nat) - (g.Y b : Nat)) = x := hx
  rw [hx2] at cO
  have e1 : ((g.X a : Nat) : Int) = (a : Int) % g.w := by unfold G.X; simp
  have e2 : ((g.Y a : Nat) : Int) = (a : Int) / g.w := by unfold G.Y; simp
  have e3 : ((g.X b : Nat) : Int) = (b : Int) % g.w := by unfold G.X; simp
  have e4 : ((g.Y b : Nat) : Int) = (b : Int) / g.w := by unfold G.Y; simp
  have p1 : 0 ≤ (a : Int) / g.w := by omega
  have p2 : (a : Int) / g.w ≤ 256 := by omega
  have p3 : 0 ≤ (b : Int) / g.w := by omega
  have p4 : (b : Int) / g.w ≤ 256 := by omega
  have w1 : IntKind.i64.wrap ((a : Int) / g.w) = (a : Int) / g.w := IntWalk.i64_in _ (by omega)
  have w2 : IntKind.i64.wrap ((b : Int) / g.w) = (b : Int) / g.w := IntWalk.i64_in _ (by omega)
  have w3 : (b : Int).tmod g.w = (b : Int) % g.w := Int.tmod_eq_emod_of_nonneg (by omega)
  have w4 : (a : Int).tmod g.w = (a : Int) % g.w := Int.tmod_eq_emod_of_nonneg (by omega)
  rw [e1, e2, e3, e4] at cO
  have cO := Lib.hid cO
  obtain ⟨xs, xd⟩ := x
  clear hx hx2 e1 e2 e3 e4 l1 l2 l3 l4
  go_enter Try.func86, Try.ntmps86
  go_upto_region 1 with (fail)
  refine wp_name ?_
  intro W hW
  have HW : Below w.heap.size w W := by rw [hW]; (repeat' (first | exact Below.refl _ _ | assumption | apply bel_drewN | apply bel_drew | apply bel_alloc | (refine bel_trans ?_ (by assumption))))
  have q0 : W.cell? ⟨w.heap.size, 0, none⟩ = some (.int .i64 0) := by rw [hW]; go_simp
  have q1 : W.cell? ⟨w.heap.size, 1, none⟩ = some (.int .i64 0) := by rw [hW]; go_simp
  have f0 : W.frozen? ⟨w.heap.size, 0, none⟩ = false := by rw [hW]; go_simp
  have f1 : W.frozen? ⟨w.heap.size, 1, none⟩ = false := by rw [hW]; go_simp
  have hs : w.heap.size < W.heap.size := by rw [hW]; simp
  clear hW
  go_region_with (go_at_call 31; (with_reducible refine (cO.out _).mono ?_); rintro e wA ⟨rfl, hbA⟩; have q0 := bel_cell hbA q0; have q1 := bel_cell hbA q1; have f0 := (hbA.frozen (p := ⟨w.heap.size, 0, none⟩) hs).trans f0; have f1 := (hbA.frozen (p := ⟨w.heap.size, 1, none⟩) hs).trans f1)
  all_goals
    go_wp2
    have e5 := set_two (x := .int .i64 xs) (y := .int .i64 xd) q0 q1
    refine bodyPost_ret (v := .agg #[.int .i64 xs, .int .i64 xd]) (by simp [results, Try.results86, go_sem, e5]) rfl ?_
    exact ⟨rfl, ((bel_trans HW (bel_trans (bel_drew (Below.refl _ _)) hbA)).setCell (by simp) _).setCell (by simp) _⟩
end Go.Proofs.Ytkiogciokngjfaa
