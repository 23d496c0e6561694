/- What a flood holds in memory, and what its readers hand back. -/
import Derived.Test.YtkiogciokngjfaaHeap8
import Derived.Test.YtkiogciokngjfaaMoves
import Derived.Test.YtkiogciokngjfaaMathWay
import Derived.Test.YtkiogciokngjfaaMathBF
set_option linter.unusedVariables false
set_option linter.unusedSimpArgs false
namespace Go.Proofs.Ytkiogciokngjfaa
open Go.RowKit Go.Sort FR
/-- a function of numbers not below 0, as one of whole numbers -/
def mapI (f : Nat → Option Value) (z : Int) : Option Value := if 0 ≤ z then f z.toNat else none
theorem mapI_nat (f : Nat → Option Value) (n : Nat) : mapI f (n : Nat) = f n := by unfold mapI; rw [if_pos (by omega)]; rfl
theorem mapI_upd (f : Nat → Option Value) (n : Nat) (v : Option Value) : updK (mapI f) (n : Nat) v = mapI (upd f n v) := by
  funext z
  unfold updK mapI upd
  by_cases h : 0 ≤ z
  · rw [if_pos h, if_pos h]
    by_cases e : z = (n : Nat)
    · rw [if_pos e, if_pos (by omega)]
    · rw [if_neg e, if_neg (by omega)]
  · rw [if_neg h, if_neg h, if_neg (by omega)]
def costV (c : C) : Value := .agg #[.int .i64 c.s, .int .i64 c.d]
def doneV (d : Nat → Option C) (j : Nat) : Option Value := (d j).map costV
def backV (b : Nat → Option Nat) (j : Nat) : Option Value := (b j).map fun x => .int .i64 (x : Nat)
theorem doneV_upd (d : Nat → Option C) (k : Nat) (c : C) : upd (doneV d) k (some (costV c)) = doneV (upd d k (some c)) := by
  funext j; unfold upd doneV; split <;> simp_all
theorem backV_upd (b : Nat → Option Nat) (k x : Nat) : upd (backV b) k (some (.int .i64 (x : Nat))) = backV (upd b k (some x)) := by
  funext j; unfold upd backV; split <;> simp_all
def iKey (z : Int) : Value := .int .i64 z
/-- block b is a flood: its grid, what each costs, who each was come from -/
structure FloodIn (w : World) (b gp mc mb : Nat) (g : G) (v : Int) (done : Nat → Option C) (back : Nat → Option Nat) (nd nb : Nat) : Prop where
  hb : w.heap[b]? = some (.cells #[.pointer (some ⟨gp, 0, none⟩), .map (some mc), .map (some mb)] 181 (0, 0))
  grid : GridAt w gp g v
  mapC : MapAt (fun z : Int => Value.int .i64 z) w mc (mapI (doneV done)) nd
  mapB : MapAt (fun z : Int => Value.int .i64 z) w mb (mapI (backV back)) nb
  ne : b ≠ mc ∧ b ≠ mb ∧ gp ≠ mc ∧ gp ≠ mb ∧ mc ≠ mb
theorem FloodIn.lt {w : World} {b gp mc mb : Nat} {g : G} {v : Int} {done : Nat → Option C} {back : Nat → Option Nat} {nd nb : Nat} (h : FloodIn w b gp mc mb g v done back nd nb) : b < w.heap.size := (Array.getElem?_eq_some_iff.1 h.hb).1
theorem FloodIn.cells {w : World} {b gp mc mb : Nat} {g : G} {v : Int} {done : Nat → Option C} {back : Nat → Option Nat} {nd nb : Nat} (h : FloodIn w b gp mc mb g v done back nd nb) :
    w.cell? ⟨b, 0, none⟩ = some (.pointer (some ⟨gp, 0, none⟩)) ∧ w.cell? ⟨b, 1, none⟩ = some (.map (some mc)) ∧ w.cell? ⟨b, 2, none⟩ = some (.map (some mb)) := by
  simp [World.cell?, h.hb]
theorem GridAt.keptS {S : List Nat} {w w' : World} {p : Nat} {g : G} {v : Int} (h : GridAt w p g v) (hk : Kept S w w') (hp : p ∉ S) : GridAt w' p g v := by
  have hl := h.lt
  obtain ⟨h0, ws, h1, h2, h3⟩ := h
  exact ⟨h0, ws, h1, (hk.block p hl hp).trans h2, h3⟩
theorem FloodIn.kept {S : List Nat} {w w' : World} {b gp mc mb : Nat} {g : G} {v : Int} {done : Nat → Option C} {back : Nat → Option Nat} {nd nb : Nat} (h : FloodIn w b gp mc mb g v done back nd nb) (hk : Kept S w w') (hS : b ∉ S ∧ gp ∉ S ∧ mc ∉ S ∧ mb ∉ S) :
    FloodIn w' b gp mc mb g v done back nd nb :=
  ⟨(hk.block b h.lt hS.1).trans h.hb, h.grid.keptS hk hS.2.1, h.mapC.kept hk hS.2.2.1, h.mapB.kept hk hS.2.2.2, h.ne⟩
theorem FloodIn.below {w w' : World} {b gp mc mb : Nat} {g : G} {v : Int} {done : Nat → Option C} {back : Nat → Option Nat} {nd nb : Nat} (h : FloodIn w b gp mc mb g v done back nd nb) (hb : Below w.heap.size w w') : FloodIn w' b gp mc mb g v done back nd nb :=
  h.kept (S := []) (.of_below hb) (by simp)
/-- block b is a flood of a grid from a free cell -/
def FloodAt (w : World) (b : Nat) (g : G) (fr : Nat) (done : Nat → Option C) (back : Nat → Option Nat) : Prop := ∃ gp mc mb v nb, FloodIn w b gp mc mb g v done back (cntS done g.n) nb ∧ FloodOk g.E fr g.n done back ∧ g.b fr = false
theorem FloodAt.below {w w' : World} {b : Nat} {g : G} {fr : Nat} {done : Nat → Option C} {back : Nat → Option Nat} (h : FloodAt w b g fr done back) (hb : Below w.heap.size w w') : FloodAt w' b g fr done back := by
  obtain ⟨gp, mc, mb, v, nb, h1, h2⟩ := h
  exact ⟨gp, mc, mb, v, nb, h1.below hb, h2⟩
theorem FloodAt.lt {w : World} {b : Nat} {g : G} {fr : Nat} {done : Nat → Option C} {back : Nat → Option Nat} (h : FloodAt w b g fr done back) : b < w.heap.size := by
  obtain ⟨gp, mc, mb, v, nb, h1, h2⟩ := h
  exact h1.lt
theorem cost_zero (w : World) : (zeroValue 23).run Try.prog w = .ok (.agg #[.int .i64 0, .int .i64 0]) w := by kernel_rfl
theorem costLook_in {w : World} {b N : Nat} {m : Int → Option Value} (h : MapAt (fun z : Int => Value.int .i64 z) w b m N) {z : Int} {v : Value} (hz : m z = some v) :
    (Instr.lookup 117 (.map (some b)) (.int .i64 z) true).run Try.prog w = .ok (.tuple #[v, .bool true]) w := by
  have := (h.look (int_fit Try.underlying3) Try.underlying117 (cost_zero w) z).1
  rw [hz] at this; exact this
theorem costLook_out {w : World} {b N : Nat} {m : Int → Option Value} (h : MapAt (fun z : Int => Value.int .i64 z) w b m N) {z : Int} (hz : m z = none) :
    (Instr.lookup 117 (.map (some b)) (.int .i64 z) true).run Try.prog w = .ok (.tuple #[.agg #[.int .i64 0, .int .i64 0], .bool false]) w := by
  have := (h.look (int_fit Try.underlying3) Try.underlying117 (cost_zero w) z).1
  rw [hz] at this; exact this
theorem floodStep (w : World) (d : Nat) (hd : d < 8) :
    Calls Try.prog 125 #[.int .i64 (d : Nat)] w fun e w' => e = .returned (.agg #[.int .i64 (stepC d).s, .int .i64 (stepC d).d]) ∧ Below w.heap.size w w' := by
  rcases (show d = 0 ∨ d = 1 ∨ d = 2 ∨ d = 3 ∨ d = 4 ∨ d = 5 ∨ d = 6 ∨ d = 7 by omega) with rfl | rfl | rfl | rfl | rfl | rfl | rfl | rfl
  all_goals
    go_enter Try.func125, Try.ntmps125
    go_wp2
    first
      | (refine bodyPost_ret (v := .agg #[.int .i64 1, .int .i64 0]) (by simp [results, Try.results125, go_sem]) rfl ?_
         exact ⟨rfl, by (repeat' (first | exact Below.refl _ _ | assumption | apply bel_drewN | apply bel_drew | apply bel_alloc | (refine bel_trans ?_ (by assumption))))⟩)
      | (refine bodyPost_ret (v := .agg #[.int .i64 0, .int .i64 1]) (by simp [results, Try.results125, go_sem]) rfl ?_
         exact ⟨rfl, by (repeat' (first | exact Below.refl _ _ | assumption | apply bel_drewN | apply bel_drew | apply bel_alloc | (refine bel_trans ?_ (by assumption))))⟩)
theorem alloc_cell {w : World} {o : Obj} {a : Addr} {v : Value} (h : w.cell? a = some v) : (w.alloc o).cell? a = some v := by
  rw [World.cell?_alloc_old w _ _ (Nat.ne_of_lt (World.block_lt_of_cell? w _ h))]; exact h
theorem alloc_frozen {w : World} {o : Obj} {a : Addr} {t : Bool} (hl : a.block < w.heap.size) (h : w.frozen? a = t) : (w.alloc o).frozen? a = t := ((bel_alloc (Below.refl w.heap.size w)).frozen (by exact hl)).trans h
theorem set_two {w : World} {b : Nat} {x y u v : Value} (h1 : w.cell? ⟨b, 0, none⟩ = some u) (h2 : w.cell? ⟨b, 1, none⟩ = some v) :
    ((w.setCell ⟨b, 0, none⟩ x).setCell ⟨b, 1, none⟩ y).cell? ⟨b, 0, none⟩ = some x ∧ ((w.setCell ⟨b, 0, none⟩ x).setCell ⟨b, 1, none⟩ y).cell? ⟨b, 1, none⟩ = some y := two_set h1 h2
set_option maxRecDepth 100000 in
set_option maxHeartbeats 800000 in
theorem floodCost_out (w : World) (b : Nat) (g : G) (fr : Nat) (done : Nat → Option C) (back : Nat → Option Nat) (c : Int) (h : FloodAt w b g fr done back) (hc : c < 0 ∨ g.n ≤ c) :
    Calls Try.prog 76 #[.pointer (some ⟨b, 0, none⟩), .int .i64 c] w fun e w' => e = .returned (.tuple #[.agg #[.int .i64 0, .int .i64 0], .iface 137 (.int .i64 1)]) ∧ Below w.heap.size w w' := by
  obtain ⟨gp, mc, mb, v, nb, hF, _⟩ := h
  have hlt := hF.lt
  obtain ⟨k0, k1, k2⟩ := hF.cells
  have hG := hF.grid
  clear hF
  go_enter Try.func76, Try.ntmps76
  go_wp2_with fail
  (with_reducible refine (gridFree_out _ gp g v c (hG.below (bel_alloc (Below.refl _ _)) hG.lt) hc).mono ?_)
  rintro e w1 ⟨rfl, hb1⟩
  have hcell := (hb1.cell (p := ⟨w.heap.size, 0, none⟩) (by simp)).trans (show _ = some (.int .i64 0) by go_simp)
  have hcell2 := (hb1.cell (p := ⟨w.heap.size, 1, none⟩) (by simp)).trans (show _ = some (.int .i64 0) by go_simp)
  have hfr1 := (hb1.frozen (p := ⟨w.heap.size, 0, none⟩) (by simp)).trans (show _ = false by go_simp)
  have hfr2 := (hb1.frozen (p := ⟨w.heap.size, 1, none⟩) (by simp)).trans (show _ = false by go_simp)
  go_wp2
  have e2 := set_two (x := .int .i64 0) (y := .int .i64 0) (by first | exact hcell' | exact hcell) (by first | exact hcell2' | exact hcell2)
  refine bodyPost_ret (v := .tuple #[.agg #[.int .i64 0, .int .i64 0], .iface 137 (.int .i64 1)]) (by simp [results, Try.results76, go_sem, e2]) rfl ?_
  exact ⟨rfl, ((bel_trans (bel_alloc (Below.refl _ _)) hb1).setCell (by simp) _).setCell (by simp) _⟩
set_option maxRecDepth 100000 in
set_option maxHeartbeats 800000 in
theorem floodCost_none (w : World) (b : Nat) (g : G) (fr : Nat) (done : Nat → Option C) (back : Nat → Option Nat) (c : Nat) (h : FloodAt w b g fr done back) (hc : c < g.n) (hd : done c = none) :
    Calls Try.prog 76 #[.pointer (some ⟨b, 0, none⟩), .int .i64 (c : Nat)] w fun e w' => e = .returned (.tuple #[.agg #[.int .i64 0, .int .i64 0], .iface 137 (.int .i64 5)]) ∧ Below w.heap.size w w' := by
  obtain ⟨gp, mc, mb, v, nb, hF, _⟩ := h
  have hlt := hF.lt
  obtain ⟨k0, k1, k2⟩ := hF.cells
  have hG := hF.grid
  have hM := hF.mapC
  have hz : mapI (doneV done) (c : Nat) = none := by rw [mapI_nat]; unfold doneV; rw [hd]; rfl
  clear hF
  go_enter Try.func76, Try.ntmps76
  go_wp2_with fail
  (with_reducible refine (gridFree_in _ gp g v c (hG.below (bel_alloc (Below.refl _ _)) hG.lt) hc).mono ?_)
  rintro e w1 ⟨rfl, hb1⟩
  have hcell := (hb1.cell (p := ⟨w.heap.size, 0, none⟩) (by simp)).trans (show _ = some (.int .i64 0) by go_simp)
  have hcell2 := (hb1.cell (p := ⟨w.heap.size, 1, none⟩) (by simp)).trans (show _ = some (.int .i64 0) by go_simp)
  have hfr1 := (hb1.frozen (p := ⟨w.heap.size, 0, none⟩) (by simp)).trans (show _ = false by go_simp)
  have hfr2 := (hb1.frozen (p := ⟨w.heap.size, 1, none⟩) (by simp)).trans (show _ = false by go_simp)
  have HB := bel_trans (bel_alloc (Below.refl _ _)) hb1
  have hM1 := hM.below HB
  have hl := costLook_out hM1 hz
  have hs := hb1.size
  have q1 := (HB.cell (by exact hlt)).trans k1
  simp at hs
  have hcell' : (w1.alloc (.cells #[.int .i64 0, .int .i64 0] 23)).cell? ⟨w.heap.size, 0, none⟩ = some (.int .i64 0) := alloc_cell hcell
  have hcell2' : (w1.alloc (.cells #[.int .i64 0, .int .i64 0] 23)).cell? ⟨w.heap.size, 1, none⟩ = some (.int .i64 0) := alloc_cell hcell2
  have hfr1' : (w1.alloc (.cells #[.int .i64 0, .int .i64 0] 23)).frozen? ⟨w.heap.size, 0, none⟩ = false := alloc_frozen (World.block_lt_of_cell? _ _ hcell) hfr1
  have hfr2' : (w1.alloc (.cells #[.int .i64 0, .int .i64 0] 23)).frozen? ⟨w.heap.size, 1, none⟩ = false := alloc_frozen (World.block_lt_of_cell? _ _ hcell2) hfr2
  clear hM hM1 hz hG
  go_wp2
  have e2 := set_two (x := .int .i64 0) (y := .int .i64 0) (by first | exact hcell' | exact hcell) (by first | exact hcell2' | exact hcell2)
  refine bodyPost_ret (v := .tuple #[.agg #[.int .i64 0, .int .i64 0], .iface 137 (.int .i64 5)]) (by simp [results, Try.results76, go_sem, e2]) rfl ?_
  exact ⟨rfl, ((bel_alloc HB).setCell (by simp) _).setCell (by simp) _⟩
set_option maxRecDepth 100000 in
set_option maxHeartbeats 800000 in
theorem floodCost_some (w : World) (b : Nat) (g : G) (fr : Nat) (done : Nat → Option C) (back : Nat → Option Nat) (c : Nat) (ds dd : Int) (h : FloodAt w b g fr done back) (hd : done c = some ⟨ds, dd⟩) :
    Calls Try.prog 76 #[.pointer (some ⟨b, 0, none⟩), .int .i64 (c : Nat)] w fun e w' => e = .returned (.tuple #[.agg #[.int .i64 ds, .int .i64 dd], .nilIface]) ∧ Below w.heap.size w w' := by
  obtain ⟨gp, mc, mb, v, nb, hF, hO, _⟩ := h
  have hc : c < g.n := hO.rng c (by rw [hd]; simp)
  have hlt := hF.lt
  obtain ⟨k0, k1, k2⟩ := hF.cells
  have hG := hF.grid
  have hM := hF.mapC
  have hz : mapI (doneV done) (c : Nat) = some (.agg #[.int .i64 ds, .int .i64 dd]) := by rw [mapI_nat]; unfold doneV; rw [hd]; rfl
  clear hF hO
  go_enter Try.func76, Try.ntmps76
  go_wp2_with fail
  (with_reducible refine (gridFree_in _ gp g v c (hG.below (bel_alloc (Below.refl _ _)) hG.lt) hc).mono ?_)
  rintro e w1 ⟨rfl, hb1⟩
  have hcell := (hb1.cell (p := ⟨w.heap.size, 0, none⟩) (by simp)).trans (show _ = some (.int .i64 0) by go_simp)
  have hcell2 := (hb1.cell (p := ⟨w.heap.size, 1, none⟩) (by simp)).trans (show _ = some (.int .i64 0) by go_simp)
  have hfr1 := (hb1.frozen (p := ⟨w.heap.size, 0, none⟩) (by simp)).trans (show _ = false by go_simp)
  have hfr2 := (hb1.frozen (p := ⟨w.heap.size, 1, none⟩) (by simp)).trans (show _ = false by go_simp)
  have HB := bel_trans (bel_alloc (Below.refl _ _)) hb1
  have hM1 := hM.below HB
  have hl := costLook_in hM1 hz
  have hs := hb1.size
  have q1 := (HB.cell (by exact hlt)).trans k1
  simp at hs
  have hcell' : (w1.alloc (.cells #[.int .i64 ds, .int .i64 dd] 23)).cell? ⟨w.heap.size, 0, none⟩ = some (.int .i64 0) := alloc_cell hcell
  have hcell2' : (w1.alloc (.cells #[.int .i64 ds, .int .i64 dd] 23)).cell? ⟨w.heap.size, 1, none⟩ = some (.int .i64 0) := alloc_cell hcell2
  have hfr1' : (w1.alloc (.cells #[.int .i64 ds, .int .i64 dd] 23)).frozen? ⟨w.heap.size, 0, none⟩ = false := alloc_frozen (World.block_lt_of_cell? _ _ hcell) hfr1
  have hfr2' : (w1.alloc (.cells #[.int .i64 ds, .int .i64 dd] 23)).frozen? ⟨w.heap.size, 1, none⟩ = false := alloc_frozen (World.block_lt_of_cell? _ _ hcell2) hfr2
  clear hM hM1 hz hG
  go_wp2
  have e2 := set_two (x := .int .i64 ds) (y := .int .i64 dd) (by first | exact hcell' | exact hcell) (by first | exact hcell2' | exact hcell2)
  refine bodyPost_ret (v := .tuple #[.agg #[.int .i64 ds, .int .i64 dd], .nilIface]) (by simp [results, Try.results76, go_sem, e2]) rfl ?_
  exact ⟨rfl, ((bel_alloc HB).setCell (by simp) _).setCell (by simp) _⟩
theorem floodReached (w : World) (b : Nat) (g : G) (fr : Nat) (done : Nat → Option C) (back : Nat → Option Nat) (h : FloodAt w b g fr done back) :
    Calls Try.prog 78 #[.pointer (some ⟨b, 0, none⟩)] w fun e w' => e = .returned (.int .i64 (cntS done g.n : Nat)) ∧ w = w' := by
  obtain ⟨gp, mc, mb, v, nb, hF, _⟩ := h
  obtain ⟨k0, k1, k2⟩ := hF.cells
  have hl := hF.mapC.len (P := Try.prog) (mt := 117) Try.underlying117 3
  generalize cntS done g.n = nd at hl ⊢
  clear hF k0 k2
  go_enter Try.func78, Try.ntmps78
  go_wp2
  go_ret
  exact ⟨rfl, rfl⟩
end Go.Proofs.Ytkiogciokngjfaa
