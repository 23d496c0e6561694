/- Lemmas of this claim: Flood, Pend, Flood2, Flood3, Flood4, ShRev, Flood5, Flood6, Flood7, Clear, Clear2, RFlood, RWalk. -/
import Derived.Test.YtjejkadaafmdcaaKTopLevels6
import Derived.Test.YtjejkadaafmdcaaKTopLevels2
import Derived.Test.YtjejkadaafmdcaaKTopLevels7
import Derived.Test.YtjejkadaafmdcaaKTopLevels4
import Derived.Deep.DeepCutAuto
import Derived.Deep.LoopGhost
import Derived.Deep.RegionHeld3
import Derived.StillTailTactics
import Derived.Shelf.Slices.Reverse
import Derived.Test.YtjejkadaafmdcaaProg
import Derived.Sort.OwnSortedInts
import Derived.Test.YtjejkadaafmdcaaKTopLevels1
import Derived.Deep.MidRow
import Derived.Deep.RegionWith
set_option linter.unusedVariables false
set_option linter.unusedSimpArgs false
/- What a flood holds in memory, and what its readers hand back. -/
namespace Go.Proofs.Ytjejkadaafmdcaa
open Go.RowKit Go.Sort FR
/-- a function of numbers not below 0, as one of whole numbers -/
def mapI (f : Nat → Option Value) (z : Int) : Option Value := if 0 ≤ z then f z.toNat else none
theorem mapI_nat (f : Nat → Option Value) (n : Nat) : mapI f (n : Nat) = f n := by unfold mapI; rw [if_pos (by omega)]; rfl
theorem mapI_upd (f : Nat → Option Value) (n : Nat) (v : Option Value) : updK (mapI f) (n : Nat) v = mapI (upd f n v) := by
  funext z
  unfold updK mapI upd
  by_cases h : 0 ≤ z
  · rw [if_pos h, if_pos h]
    by_cases e : z = (n : Nat)
    · rw [if_pos e, if_pos (by omega)]
    · rw [if_neg e, if_neg (by omega)]
  · rw [if_neg h, if_neg h, if_neg (by omega)]
def costV (c : C) : Value := .agg #[.int .i64 c.s, .int .i64 c.d]
def doneV (d : Nat → Option C) (j : Nat) : Option Value := (d j).map costV
theorem doneV_upd (d : Nat → Option C) (k : Nat) (c : C) : upd (doneV d) k (some (costV c)) = doneV (upd d k (some c)) := by
  funext j; unfold upd doneV; split <;> simp_all
theorem GridAt.keptS {S : List Nat} {w w' : World} {p : Nat} {g : G} {v : Int} (h : GridAt w p g v) (hk : Kept S w w') (hp : p ∉ S) : GridAt w' p g v := by
  have hl := h.lt
  obtain ⟨h0, ws, h1, h2, h3⟩ := h
  exact ⟨h0, ws, h1, (hk.block p hl hp).trans h2, h3⟩
theorem cost_zero (w : World) : (zeroValue 59).run Try.prog w = .ok (.agg #[.int .i64 0, .int .i64 0]) w := by kernel_rfl
theorem costLook_in {w : World} {b N : Nat} {m : Int → Option Value} (h : MapAt (fun z : Int => Value.int .i64 z) w b m N) {z : Int} {v : Value} (hz : m z = some v) :
    (Instr.lookup 84 (.map (some b)) (.int .i64 z) true).run Try.prog w = .ok (.tuple #[v, .bool true]) w := by
  have := (h.look (int_fit Try.underlying3) Try.underlying84 (cost_zero w) z).1
  rw [hz] at this; exact this
theorem costLook_out {w : World} {b N : Nat} {m : Int → Option Value} (h : MapAt (fun z : Int => Value.int .i64 z) w b m N) {z : Int} (hz : m z = none) :
    (Instr.lookup 84 (.map (some b)) (.int .i64 z) true).run Try.prog w = .ok (.tuple #[.agg #[.int .i64 0, .int .i64 0], .bool false]) w := by
  have := (h.look (int_fit Try.underlying3) Try.underlying84 (cost_zero w) z).1
  rw [hz] at this; exact this
theorem set_two {w : World} {b : Nat} {x y u v : Value} (h1 : w.cell? ⟨b, 0, none⟩ = some u) (h2 : w.cell? ⟨b, 1, none⟩ = some v) :
    ((w.setCell ⟨b, 0, none⟩ x).setCell ⟨b, 1, none⟩ y).cell? ⟨b, 0, none⟩ = some x ∧ ((w.setCell ⟨b, 0, none⟩ x).setCell ⟨b, 1, none⟩ y).cell? ⟨b, 1, none⟩ = some y := two_set h1 h2
end Go.Proofs.Ytjejkadaafmdcaa
/- The moves from a cell, one by one: what is still to come. -/
namespace Go.Proofs.Ytjejkadaafmdcaa
open Go.RowKit Go.Sort FR
theorem Ints.blk' {w : World} {ad : Addr} {n : Nat} {f : Nat → Int} (h : Ints w (some ad) n f) (hn : 0 < n) : ad.block < w.heap.size := by
  obtain ⟨ad', e, h1, _⟩ := h hn
  injection e with e; subst e; exact h1
theorem bel_cell {w w' : World} {a : Addr} {v : Value} (h : Below w.heap.size w w') (hc : w.cell? a = some v) : w'.cell? a = some v := (h.cell (World.block_lt_of_cell? w _ hc)).trans hc
theorem alloc_some {w : World} {o : Obj} {a : Addr} {v : Value} (h : w.cell? a = some v) : (w.alloc o).cell? a = some v := by
  rw [World.cell?_alloc_old w _ _ (Nat.ne_of_lt (World.block_lt_of_cell? w _ h))]; exact h
/-- the edges that are still to come -/
def PendM (g : G) (k j : Nat) (b : Nat) (e : C) : Prop := ∃ d, d ∈ (g.moves k).drop j ∧ b = g.to k d ∧ e = stepC d
end Go.Proofs.Ytjejkadaafmdcaa
/- flood.From: what is under way, and what a step of the search does to it. -/
namespace Go.Proofs.Ytjejkadaafmdcaa
open Go.RowKit Go.Sort FR
/-- what stands in a heap, of numbers not below 0 -/
def hpI (hp : Nat → Option C) (z : Int) : Option C := if 0 ≤ z then hp z.toNat else none
theorem hpI_nat (hp : Nat → Option C) (n : Nat) : hpI hp (n : Nat) = hp n := by unfold hpI; rw [if_pos (by omega)]; rfl
theorem hpI_set (hp : Nat → Option C) (n : Nat) (v : Option C) : hset (hpI hp) (n : Nat) v = hpI (upd hp n v) := by
  funext z
  unfold hset hpI upd
  by_cases h : 0 ≤ z
  · rw [if_pos h, if_pos h]
    by_cases e : z = (n : Nat)
    · rw [if_pos e, if_pos (by omega)]
    · rw [if_neg e, if_neg (by omega)]
  · rw [if_neg h, if_neg h, if_neg (by omega)]
theorem hpI_none : (fun _ => none : Int → Option C) = hpI (fun _ => none) := by funext z; unfold hpI; split <;> rfl
theorem cntS_none (N : Nat) : cntS (fun _ => none) N = 0 := by unfold cntS; exact cntN_none N
/-- what a push makes of what stands in the heap -/
def pushed (hp : Nat → Option C) (k : Nat) (c : C) (t : Bool) : Nat → Option C := if t = true then upd hp k (some c) else hp
def lower? (hp : Nat → Option C) (k : Nat) (c : C) : Bool := match hp k with | none => true | some d => decide (C.cmp c d < 0)
theorem lower_yes {hp : Nat → Option C} {k : Nat} {c : C} (h : lower? hp k c = true) : ∀ d, hp k = some d → C.lt c d := by
  intro d hd
  unfold lower? at h
  rw [hd] at h
  simp at h
  exact C.cmp_neg.1 h
theorem lower_no {hp : Nat → Option C} {k : Nat} {c : C} (h : lower? hp k c = false) : ∃ d, hp k = some d ∧ C.le d c := by
  unfold lower? at h
  cases hk : hp k with
  | none => rw [hk] at h; cases h
  | some d =>
    rw [hk] at h
    simp at h
    exact ⟨d, rfl, C.cmp_nonneg.1 h⟩
theorem heapPushN (w : World) (S : List Nat) (q N : Nat) (hp : Nat → Option C) (k : Nat) (ds dd : Int) (t : Bool) (h : HeapOf w S q (cntS hp N) (hpI hp)) (hk : k < N) (hN : N ≤ 1000000) (hc : inCC ⟨ds, dd⟩) (ht : lower? hp k ⟨ds, dd⟩ = t) :
    Calls Try.prog 102 #[.pointer (some ⟨q, 0, none⟩), .int .i64 (k : Nat), .agg #[.int .i64 ds, .int .i64 dd]] w (HeapD w S q (cntS (pushed hp k ⟨ds, dd⟩ t) N) (hpI (pushed hp k ⟨ds, dd⟩ t)) (.bool t)) := by
  cases hz : hp k with
  | none =>
    have e : t = true := by rw [← ht]; unfold lower?; rw [hz]
    subst e
    have := heapPush_new w S q (cntS hp N) (hpI hp) (k : Nat) ds dd h (by rw [hpI_nat]; exact hz) hc (Nat.le_trans (cntS_le _ _) hN)
    rw [hpI_set] at this
    unfold pushed
    rw [if_pos rfl, cntS_new hk hz]
    exact this
  | some d =>
    obtain ⟨es, ed⟩ := d
    have e : decide (C.cmp ⟨ds, dd⟩ ⟨es, ed⟩ < 0) = t := by rw [← ht]; unfold lower?; rw [hz]
    have := heapPush_old w S q (cntS hp N) (hpI hp) (k : Nat) ds dd es ed t h (by rw [hpI_nat]; exact hz) hc e
    have e2 : (if t = true then hset (hpI hp) (k : Nat) (some ⟨ds, dd⟩) else hpI hp) = hpI (pushed hp k ⟨ds, dd⟩ t) := by
      unfold pushed; split
      · rw [hpI_set]
      · rfl
    have e3 : cntS (pushed hp k ⟨ds, dd⟩ t) N = cntS hp N := by
      unfold pushed cntS; split
      · exact cnt_hkeep N (by rw [hz]; simp) _
      · rfl
    rw [e2] at this
    rw [e3]
    exact this
/-- what is popped: the least -/
def PopN (w : World) (S : List Nat) (q N : Nat) (hp : Nat → Option C) (e : Ending) (w' : World) : Prop :=
  ∃ k ds dd, hp k = some ⟨ds, dd⟩ ∧ (∀ j d, hp j = some d → C.le ⟨ds, dd⟩ d) ∧ e = .returned (.tuple #[.int .i64 (k : Nat), .agg #[.int .i64 ds, .int .i64 dd], .bool true]) ∧ HeapOf w' S q (cntS (upd hp k none) N) (hpI (upd hp k none)) ∧ Kept S w w'
theorem It.le_c {a b : It} (h : It.le a b) : C.le a.c b.c := by
  unfold It.le It.lt at h
  intro hl
  exact h (.inl hl)
theorem heapPopN (w : World) (S : List Nat) (q N : Nat) (hp : Nat → Option C) (h : HeapOf w S q (cntS hp N) (hpI hp)) (hr : ∀ j, hp j ≠ none → j < N) (hN : N ≤ 1000000) (h0 : cntS hp N ≠ 0) :
    Calls Try.prog 103 #[.pointer (some ⟨q, 0, none⟩)] w (PopN w S q N hp) := by
  obtain ⟨k, hk⟩ : ∃ k, cntS hp N = k + 1 := ⟨cntS hp N - 1, by omega⟩
  rw [hk] at h
  refine (heapPop_some w S q k (hpI hp) h (by have := cntS_le hp N; omega)).mono ?_
  rintro e w' ⟨id, ds, dd, h1, h2, h3, h4, h5⟩
  have hid : 0 ≤ id := by
    apply Classical.byContradiction
    intro hn
    unfold hpI at h1; rw [if_neg hn] at h1; cases h1
  obtain ⟨j, rfl⟩ := Int.eq_ofNat_of_zero_le hid
  have h1' : hp j = some ⟨ds, dd⟩ := by rw [← hpI_nat hp j]; exact h1
  have hj : j < N := hr j (by rw [h1']; simp)
  have hcnt : cntS hp N = cntS (upd hp j none) N + 1 := cnt_hpop hj (by rw [h1']; simp)
  refine ⟨j, ds, dd, h1', fun i d hi => ?_, h3, ?_, h5⟩
  · have := h2 (i : Nat) d (by rw [hpI_nat]; exact hi)
    exact It.le_c this
  · have h6 : HeapOf w' S q k (hset (hpI hp) (j : Nat) none) := h4
    rw [hpI_set, show k = cntS (upd hp j none) N by omega] at h6
    exact h6
theorem cellK {S : List Nat} {w w' : World} {b o : Nat} {v : Value} (h : Kept S w w') (hb : b ∉ S) (hc : w.cell? ⟨b, o, none⟩ = some v) : w'.cell? ⟨b, o, none⟩ = some v := by
  have hl := World.block_lt_of_cell? _ _ hc
  have e : w'.cell? ⟨b, o, none⟩ = w.cell? ⟨b, o, none⟩ := World.cell?_of_block (h.block b hl hb)
  rw [e]; exact hc
end Go.Proofs.Ytjejkadaafmdcaa
/- flood.From: the moves from one cell are gone over. -/
namespace Go.Proofs.Ytjejkadaafmdcaa
open Go.RowKit Go.Sort FR
end Go.Proofs.Ytjejkadaafmdcaa
/- flood.From: what is handed back. -/
namespace Go.Proofs.Ytjejkadaafmdcaa
open Go.RowKit Go.Sort FR
theorem mapI_none {f : Nat → Option Value} (h : ∀ j, f j = none) : mapI f = fun _ => none := by
  funext z; unfold mapI; split
  · exact h _
  · rfl
theorem cntS_zero {hp : Nat → Option C} {N : Nat} (h : cntS hp N = 0) (hr : ∀ j, hp j ≠ none → j < N) : ∀ j, hp j = none := by
  intro j
  cases hj : hp j with
  | none => rfl
  | some c =>
    have := cntN_zero h j (hr j (by rw [hj]; simp))
    rw [hj] at this; cases this
end Go.Proofs.Ytjejkadaafmdcaa
set_option linter.unusedSimpArgs false
/- (*Flood).Way: the way back to the first one, turned round. -/
namespace Go.Proofs.Ytjejkadaafmdcaa
open Go.RowKit Go.Sort FR
end Go.Proofs.Ytjejkadaafmdcaa
/- flood.Walk: what a way costs. -/
namespace Go.Proofs.Ytjejkadaafmdcaa
open Go.RowKit Go.Sort FR
end Go.Proofs.Ytjejkadaafmdcaa
/- flood.Walk: the walk. -/
namespace Go.Proofs.Ytjejkadaafmdcaa
open Go.RowKit Go.Sort FR
def errV (k : Nat) : Value := if k = 0 then .nilIface else .iface 66 (.int .i64 (k : Nat))
/-- what holds at a round's head: what the first cells cost -/
def WkI (W : World) (b6 : Nat) (g : G) (f : Nat → Int) (i : Nat) (wr : World) : Prop := ∃ cs cd, g.wres f i = .inr ⟨cs, cd⟩ ∧ wr.cell? ⟨b6, 0, none⟩ = some (.int .i64 cs) ∧ wr.cell? ⟨b6, 1, none⟩ = some (.int .i64 cd) ∧ wr.frozen? ⟨b6, 0, none⟩ = false ∧ wr.frozen? ⟨b6, 1, none⟩ = false ∧ Kept [b6] W wr
theorem WkI.of_set {W w7 wA : World} {b6 i : Nat} {g : G} {f : Nat → Int} {x y : Int} {u v : Value} (hK7 : Kept [b6] W w7) (hb : Below w7.heap.size w7 wA) (hres : g.wres f i = .inr ⟨x, y⟩) (c60 : wA.cell? ⟨b6, 0, none⟩ = some u) (c61 : wA.cell? ⟨b6, 1, none⟩ = some v)
    (r60 : wA.frozen? ⟨b6, 0, none⟩ = false) (r61 : wA.frozen? ⟨b6, 1, none⟩ = false) : WkI W b6 g f i ((wA.setCell ⟨b6, 0, none⟩ (.int .i64 x)).setCell ⟨b6, 1, none⟩ (.int .i64 y)) := by
  have e := set_two (x := .int .i64 x) (y := .int .i64 y) c60 c61
  refine ⟨x, y, hres, e.1, e.2, by simpa using r60, by simpa using r61, ?_⟩
  exact hK7.trans (((Kept.of_below hb).setCell (.inl (by simp))).setCell (.inl (by simp)))
theorem bframe {w w' : World} {a : Addr} {t : Bool} (h : Below w.heap.size w w') (hl : a.block < w.heap.size) (hf : w.frozen? a = t) : w'.frozen? a = t := (h.frozen hl).trans hf
end Go.Proofs.Ytjejkadaafmdcaa
/- What the functions of package clear do to a table. -/
namespace Go.Proofs.Ytjejkadaafmdcaa
open Go.RowKit Go.Sort FR
def fset (f : Nat → Nat → Int) (c d : Nat) (z : Int) : Nat → Nat → Int := fun c' d' => if c' = c ∧ d' = d then z else f c' d'
theorem set_heap1 (w : World) (p k : Nat) (cs : Array Value) (T : TypeId) (x : Value) (h : w.heap[p]? = some (.cells cs T (0, 0))) : (w.setCell ⟨p, k, none⟩ x).heap[p]? = some (.cells (cs.setIfInBounds k x) T (0, 0)) := by
  simp [World.setCell, Array.getElem?_modify, h]
theorem row_set (f f' : Nat → Value) (n k : Nat) (x : Value) (hk : f' k = x) (ho : ∀ i, i ≠ k → f' i = f i) : (rowOf f n).setIfInBounds k x = rowOf f' n := by
  apply Array.ext_getElem?
  intro i
  rw [Array.getElem?_setIfInBounds]
  by_cases h1 : i < n
  · rw [rowOf_get _ _ _ h1, rowOf_get _ _ _ h1]
    by_cases h2 : k = i
    · subst h2; rw [if_pos rfl, if_pos (by rw [rowOf_size]; exact h1), hk]
    · rw [if_neg h2, ho i (fun e => h2 e.symm)]
  · rw [Array.getElem?_eq_none (by rw [rowOf_size]; omega), Array.getElem?_eq_none (by rw [rowOf_size]; omega)]
    split
    · rw [if_neg (by rw [rowOf_size]; omega)]
    · rfl
/-- how far one may go from a cell -/
def clrC (g : G) (c d : Nat) : Int := (G.clr g d (g.X c : Nat) (g.Y c : Nat) : Nat)
end Go.Proofs.Ytjejkadaafmdcaa
/- What New, Steps, line and Set of package clear do, and the reference's Clear. -/
namespace Go.Proofs.Ytjejkadaafmdcaa
open Go.RowKit Go.Sort FR
/-- what a line of counting leaves: some are counted, others are as they were -/
def Recount (g : G) (f f' : Nat → Nat → Int) : Prop := ∀ c d, f' c d = f c d ∨ f' c d = clrC g c d
theorem Recount.refl (g : G) (f : Nat → Nat → Int) : Recount g f f := fun _ _ => .inl rfl
theorem Recount.set {g : G} {f f' : Nat → Nat → Int} (h : Recount g f f') (c d : Nat) : Recount g f (fset f' c d (clrC g c d)) := by
  intro c' d'
  unfold fset
  by_cases e : c' = c ∧ d' = d
  · obtain ⟨rfl, rfl⟩ := e; rw [if_pos ⟨rfl, rfl⟩]; exact .inr rfl
  · rw [if_neg e]; exact h c' d'
theorem Recount.trans {g : G} {f f' f'' : Nat → Nat → Int} (h : Recount g f f') (k : Recount g f' f'') : Recount g f f'' := by
  intro c d
  rcases k c d with e | e
  · rw [e]; exact h c d
  · exact .inr e
/-- what is counted stays so -/
theorem Recount.keep {g : G} {f f' : Nat → Nat → Int} (h : Recount g f f') {c d : Nat} (e : f c d = clrC g c d) : f' c d = clrC g c d := by
  rcases h c d with h | h
  · rw [h, e]
  · exact h
end Go.Proofs.Ytjejkadaafmdcaa
/- What the reference's Flood hands back: what each cell costs from one. -/
namespace Go.Proofs.Ytjejkadaafmdcaa
open Go.RowKit Go.Sort FR
/-- the cells of a row of costs, of a row of bools -/
def ccell (c : Nat → C) (k : Nat) : Value := if k % 2 = 0 then .int .i64 (c (k / 2)).s else .int .i64 (c (k / 2)).d
def icell (b : Nat → Bool) (k : Nat) : Value := .bool (b k)
theorem alloc_at (w : World) (o : Obj) {k : Nat} (hk : k = w.heap.size) : (w.alloc o).heap[k]? = some o := by rw [hk]; exact heap_alloc_new w o
/-- what the cells cost from one -/
def FloodIs (g : G) (fr : Nat) (c : Nat → C) (is : Nat → Bool) : Prop := ∀ t, (is t = true → Dist g.E fr t (c t) ∧ t < g.n) ∧ (is t = false → ∀ d, ¬ Walk g.E fr t d)
theorem OwnI.keptAt {w w' : World} {B : Nat} {v : Value} {zs : List Int} {S : List Nat} (h : OwnI w B v zs) (hk : Kept S w w') (hS : ∀ s ∈ S, s < B) : OwnI w' B v zs := by
  refine ⟨h.1, ?_⟩
  rcases h.2 with hn | ⟨g, cap, cur, rfl, hb, hgg, rest⟩
  · exact .inl hn
  · refine .inr ⟨g, cap, cur, rfl, hb, ?_, rest⟩
    rw [hk.block g (Array.getElem?_eq_some_iff.1 hgg).1 (fun hm => by have := hS g hm; omega)]
    exact hgg
/-- what lies in memory: the labels, and the list of what is to be looked at -/
structure LabM (W wr : World) (bc bi : Nat) (v : Value) (c : Nat → C) (is : Nat → Bool) (todo : List Nat) : Prop where
  hc : wr.heap[bc]? = some (.cells (rowOf (ccell c) 512) 81 (0, 0))
  hi : wr.heap[bi]? = some (.cells (rowOf (icell is) 256) 38 (0, 0))
  own : OwnI wr W.heap.size v (todo.map fun n : Nat => (n : Int))
  kept : Kept [bc, bi] W wr
theorem LabM.below {W wr w' : World} {bc bi : Nat} {v : Value} {c : Nat → C} {is : Nat → Bool} {todo : List Nat} (h : LabM W wr bc bi v c is todo) (hb : Below wr.heap.size wr w') : LabM W w' bc bi v c is todo :=
  ⟨(hb.block bc (Array.getElem?_eq_some_iff.1 h.hc).1).trans h.hc, (hb.block bi (Array.getElem?_eq_some_iff.1 h.hi).1).trans h.hi, h.own.below (B' := 0) hb, h.kept.trans (Kept.of_below hb)⟩
theorem LabM.cell {W wr : World} {bc bi : Nat} {v : Value} {c : Nat → C} {is : Nat → Bool} {todo : List Nat} (h : LabM W wr bc bi v c is todo) {t : Nat} (ht : t < 256) :
    wr.cell? ⟨bc, t * 2, none⟩ = some (.int .i64 (c t).s) ∧ wr.cell? ⟨bc, t * 2 + 1, none⟩ = some (.int .i64 (c t).d) ∧ wr.cell? ⟨bi, t, none⟩ = some (.bool (is t)) := by
  refine ⟨?_, ?_, ?_⟩
  · simp only [World.cell?, h.hc, rowOf_get _ _ _ (show t * 2 < 512 by omega)]
    simp [ccell]
  · simp only [World.cell?, h.hc, rowOf_get _ _ _ (show t * 2 + 1 < 512 by omega)]
    have h1 : (t * 2 + 1) % 2 = 1 := by omega
    have h2 : (t * 2 + 1) / 2 = t := by omega
    simp [ccell, h1, h2]
  · simp [World.cell?, h.hi, rowOf_get _ _ _ ht, icell]
theorem ccell_set (c : Nat → C) (t : Nat) (x : C) : ccell (upd c t x) = upd (upd (ccell c) (t * 2) (.int .i64 x.s)) (t * 2 + 1) (.int .i64 x.d) := by
  funext k
  unfold ccell
  by_cases h1 : k = t * 2 + 1
  · subst h1
    rw [upd_same, if_neg (by omega), show (t * 2 + 1) / 2 = t by omega, upd_same]
  · rw [upd_ne _ _ h1]
    by_cases h2 : k = t * 2
    · subst h2
      rw [upd_same, if_pos (by omega), show t * 2 / 2 = t by omega, upd_same]
    · rw [upd_ne _ _ h2, upd_ne _ _ (by omega)]
/-- a label is set -/
theorem LabM.set {W wr : World} {bc bi : Nat} {v : Value} {c : Nat → C} {is : Nat → Bool} {todo : List Nat} (h : LabM W wr bc bi v c is todo) (hne : bc ≠ bi) {t : Nat} (x : C) (hB : bc < W.heap.size) (hB2 : bi < W.heap.size) :
    LabM W (((wr.setCell ⟨bc, t * 2, none⟩ (.int .i64 x.s)).setCell ⟨bc, t * 2 + 1, none⟩ (.int .i64 x.d)).setCell ⟨bi, t, none⟩ (.bool true)) bc bi v (upd c t x) (upd is t true) todo := by
  have hK : Kept [bc, bi] wr (((wr.setCell ⟨bc, t * 2, none⟩ (.int .i64 x.s)).setCell ⟨bc, t * 2 + 1, none⟩ (.int .i64 x.d)).setCell ⟨bi, t, none⟩ (.bool true)) := (((Kept.refl _ _).setCell (.inl (by simp))).setCell (.inl (by simp))).setCell (.inl (by simp))
  refine ⟨?_, ?_, ?_, h.kept.trans hK⟩
  · rw [Below.heap_setCell _ _ _ _ (by simpa using hne), set_heap1 _ _ _ _ _ _ (set_heap1 _ _ _ _ _ _ h.hc), ccell_set,
      row_set (ccell c) (upd (ccell c) (t * 2) (.int .i64 x.s)) 512 (t * 2) _ (upd_same _ _ _) (fun i hi => upd_ne _ _ hi),
      row_set (upd (ccell c) (t * 2) (.int .i64 x.s)) (upd (upd (ccell c) (t * 2) (.int .i64 x.s)) (t * 2 + 1) (.int .i64 x.d)) 512 (t * 2 + 1) _ (upd_same _ _ _) (fun i hi => upd_ne _ _ hi)]
  · have h1 : ((wr.setCell ⟨bc, t * 2, none⟩ (.int .i64 x.s)).setCell ⟨bc, t * 2 + 1, none⟩ (.int .i64 x.d)).heap[bi]? = some (.cells (rowOf (icell is) 256) 38 (0, 0)) := by
      rw [Below.heap_setCell _ _ _ _ (by simpa using Ne.symm hne), Below.heap_setCell _ _ _ _ (by simpa using Ne.symm hne)]; exact h.hi
    rw [set_heap1 _ _ _ _ _ _ h1, row_set (icell is) (icell (upd is t true)) 256 t _ (by unfold icell; rw [upd_same]) (fun i hi => by unfold icell; rw [upd_ne _ _ hi])]
  · exact h.own.keptAt hK (by simp; omega)
theorem Lab.weaken {E : Nat → Nat → C → Prop} {from_ n : Nat} {c : Nat → C} {is : Nat → Bool} {todo : List Nat} {i k : Nat} {pend pend' : Nat → C → Prop} (H : Lab E from_ n c is todo i k pend) (hp : ∀ b e, pend b e → pend' b e) : Lab E from_ n c is todo i k pend' :=
  ⟨H.i0, H.i1, H.i2, fun a b e ha he => (H.i3 a b e ha he).imp_right (fun h => h.imp_left fun ⟨x, y⟩ => ⟨x, hp _ _ y⟩), H.i4⟩
/-- what holds at the head of a round within a round -/
def FlI (W : World) (g : G) (fr bc bi M0 gk k i : Nat) (A1 : Option Addr) (nl : Nat) (v : Value) (j : Nat) (wr : World) : Prop := ∃ c is todo, LabM W wr bc bi v c is todo ∧ Lab g.E fr g.n c is todo i k (PendM g k j) ∧ i ≤ todo.length ∧ todo.length + Lab.meas g.n c is ≤ M0 ∧ 2 * Lab.meas g.n c is + (todo.length - i) < gk ∧ Ints wr A1 nl (fun x => (movesI g k).getD x 0) ∧ (0 < nl → ∀ ad, A1 = some ad → v.ownBlock ≠ some ad.block ∧ ad.block ∉ [bc, bi]) ∧ is k = true
theorem LabM.grown {W w7 w9 : World} {bc bi : Nat} {v v' : Value} {c : Nat → C} {is : Nat → Bool} {todo : List Nat} {o : Obj} {b : Nat} (h : LabM W w7 bc bi v c is todo) (ho : OwnI w9 W.heap.size v' (todo.map (fun n : Nat => (n : Int)) ++ [(b : Int)])) (hg : (w7.alloc o).grownBy w9 v.ownBlock)
    (hb1 : bc < W.heap.size) (hb2 : bi < W.heap.size) : LabM W w9 bc bi v' c is (todo ++ [b]) := by
  have hs := h.kept.size
  have hne : ∀ k, k < W.heap.size → some k ≠ v.ownBlock := fun k hk e => by have := (World.ownsRow.lt h.own k e.symm).1; omega
  have hbl : ∀ k, k < W.heap.size → w9.heap[k]? = w7.heap[k]? := fun k hk => (hg.block k (by simp; omega) (hne k hk)).trans (Below.heap_alloc _ _ _ (by omega))
  refine ⟨(hbl bc hb1).trans h.hc, (hbl bi hb2).trans h.hi, by simpa using ho, ?_⟩
  exact ⟨hg.os.trans h.kept.os, hg.tape.trans h.kept.tape, hg.output.trans h.kept.output, Nat.le_trans hs (Nat.le_trans (by simp) hg.size), fun k hk hn => (hbl k hk).trans (h.kept.block k hk hn)⟩
theorem FlI.push {W w7 w9 : World} {g : G} {fr bc bi M0 gk k i nl j b : Nat} {A1 : Option Addr} {v v' : Value} {c c2 : Nat → C} {is is2 : Nat → Bool} {todo : List Nat} {o : Obj} (h : LabM W w7 bc bi v c2 is2 todo) (ho : OwnI w9 W.heap.size v' (todo.map (fun n : Nat => (n : Int)) ++ [(b : Int)])) (hg : (w7.alloc o).grownBy w9 v.ownBlock)
    (hat : v'.ownBlock = v.ownBlock ∨ v'.ownBlock = some (w7.alloc o).heap.size) (hb1 : bc < W.heap.size) (hb2 : bi < W.heap.size) (hlab : Lab g.E fr g.n c2 is2 (todo ++ [b]) i k (PendM g k (j + 1))) (hm : Lab.meas g.n c2 is2 < Lab.meas g.n c is)
    (hi : i ≤ todo.length) (hTM : todo.length + Lab.meas g.n c is ≤ M0) (hgk : 2 * Lab.meas g.n c is + (todo.length - i) < gk) (hI : Ints w7 A1 nl (fun x => (movesI g k).getD x 0)) (hN : 0 < nl → ∀ ad, A1 = some ad → v.ownBlock ≠ some ad.block ∧ ad.block ∉ [bc, bi]) (hk : is2 k = true) :
    FlI W g fr bc bi M0 gk k i A1 nl v' (j + 1) w9 := by
  refine ⟨c2, is2, todo ++ [b], h.grown ho hg hb1 hb2, hlab, by simp; omega, by simp; omega, by simp; omega, ?_, ?_, hk⟩
  · intro hn
    obtain ⟨ad, e, hlt, hc⟩ := hI hn
    refine ⟨ad, e, Nat.lt_of_lt_of_le hlt (Nat.le_trans (by simp) hg.size), fun x hx => ?_⟩
    have e1 : w9.cell? (ad.add x) = (w7.alloc o).cell? (ad.add x) := hg.cell_far _ (by rw [add_block]; simp; omega) (by rw [add_block]; exact Ne.symm (hN hn ad e).1)
    rw [e1, World.cell?_alloc_old w7 _ _ (by rw [add_block]; omega)]
    exact hc x hx
  · intro hn ad e
    refine ⟨?_, (hN hn ad e).2⟩
    rcases hat with h' | h'
    · rw [h']; exact (hN hn ad e).1
    · rw [h']
      intro e2
      injection e2 with e2
      obtain ⟨ad', e', hlt, _⟩ := hI hn
      rw [e'] at e
      injection e with e
      subst e
      simp at e2
      omega
end Go.Proofs.Ytjejkadaafmdcaa
/- R.Walk: what a way costs, by the document's words. -/
namespace Go.Proofs.Ytjejkadaafmdcaa
open Go.RowKit Go.Sort FR
/-- and at the head of a round within a round -/
def RWJ (W : World) (b6 : Nat) (x : C) (wr : World) : Prop := wr.cell? ⟨b6, 0, none⟩ = some (.int .i64 x.s) ∧ wr.cell? ⟨b6, 1, none⟩ = some (.int .i64 x.d) ∧ wr.frozen? ⟨b6, 0, none⟩ = false ∧ wr.frozen? ⟨b6, 1, none⟩ = false ∧ Kept [b6] W wr
theorem adK {S : List Nat} {w w' : World} {ad : Addr} {k : Nat} {v : Value} (h : Kept S w w') (hb : ad.block ∉ S) (hc : w.cell? (ad.add k) = some v) : w'.cell? (ad.add k) = some v := by
  have hl := World.block_lt_of_cell? _ _ hc
  rw [add_block] at hl
  have e : w'.cell? (ad.add k) = w.cell? (ad.add k) := World.cell?_of_block (by rw [add_block]; exact h.block _ hl hb)
  rw [e]; exact hc
theorem RWJ.below {W w w' : World} {b6 : Nat} {x : C} (h : RWJ W b6 x w) (hb : Below w.heap.size w w') : RWJ W b6 x w' := by
  obtain ⟨h1, h2, h3, h4, h5⟩ := h
  have l := World.block_lt_of_cell? _ _ h1
  exact ⟨bel_cell hb h1, bel_cell hb h2, bframe hb l h3, bframe hb l h4, h5.trans (Kept.of_below hb)⟩
theorem RWJ.of_set {W w7 wA : World} {b6 : Nat} {x y : Int} {u v : Value} (hK7 : Kept [b6] W w7) (hb : Below w7.heap.size w7 wA) (c60 : wA.cell? ⟨b6, 0, none⟩ = some u) (c61 : wA.cell? ⟨b6, 1, none⟩ = some v)
    (r60 : wA.frozen? ⟨b6, 0, none⟩ = false) (r61 : wA.frozen? ⟨b6, 1, none⟩ = false) : RWJ W b6 ⟨x, y⟩ ((wA.setCell ⟨b6, 0, none⟩ (.int .i64 x)).setCell ⟨b6, 1, none⟩ (.int .i64 y)) := by
  have e := set_two (x := .int .i64 x) (y := .int .i64 y) c60 c61
  refine ⟨e.1, e.2, by simpa using r60, by simpa using r61, ?_⟩
  exact hK7.trans (((Kept.of_below hb).setCell (.inl (by simp))).setCell (.inl (by simp)))
end Go.Proofs.Ytjejkadaafmdcaa
