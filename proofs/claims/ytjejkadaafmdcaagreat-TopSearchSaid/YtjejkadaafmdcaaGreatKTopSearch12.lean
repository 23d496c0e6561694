/- Lemmas of this claim: Pend, Flood2, Flood3, Flood4, Flood5, Flood6, Flood7, Clear2, TopOct. -/
import Derived.Test.YtjejkadaafmdcaaGreatKTopSearch11
import Derived.Test.YtjejkadaafmdcaaGreatKTopSearch6
import Derived.Test.YtjejkadaafmdcaaGreatKTopSearch10
import Derived.Deep.DeepCutAuto
import Derived.Deep.LoopGhost
import Derived.Deep.RegionHeld3
import Derived.StillTailTactics
import Derived.Sort.OwnSortedInts
import Derived.Test.YtjejkadaafmdcaaGreatKTopSearch8
import Derived.Deep.RegionWith
set_option linter.unusedVariables false
set_option linter.unusedSimpArgs false
/- The moves from a cell, one by one: what is still to come. -/
namespace Go.Proofs.YtjejkadaafmdcaaGreat
open Go.RowKit Go.Sort FR
theorem Ints.blk' {w : World} {ad : Addr} {n : Nat} {f : Nat → Int} (h : Ints w (some ad) n f) (hn : 0 < n) : ad.block < w.heap.size := by
  obtain ⟨ad', e, h1, _⟩ := h hn
  injection e with e; subst e; exact h1
/-- the move of number j -/
theorem moves_at {g : G} {k j : Nat} (hj : j < (movesI g k).length) : ∃ d : Nat, d < 8 ∧ g.mayC k d = true ∧ (movesI g k).getD j 0 = (d : Int) ∧ (g.moves k)[j]? = some d := by
  have hl : (movesI g k).length = (g.moves k).length := by rw [movesI_eq, List.length_map]
  have hj' : j < (g.moves k).length := by omega
  have hm := List.getElem_mem hj'
  unfold G.moves at hm
  have := List.mem_filter.1 hm
  refine ⟨(g.moves k)[j], List.mem_range.1 this.1, this.2, ?_, List.getElem?_eq_getElem hj'⟩
  rw [movesI_eq]
  simp [List.getD, hj']
theorem bel_cell {w w' : World} {a : Addr} {v : Value} (h : Below w.heap.size w w') (hc : w.cell? a = some v) : w'.cell? a = some v := (h.cell (World.block_lt_of_cell? w _ hc)).trans hc
theorem alloc_some {w : World} {o : Obj} {a : Addr} {v : Value} (h : w.cell? a = some v) : (w.alloc o).cell? a = some v := by
  rw [World.cell?_alloc_old w _ _ (Nat.ne_of_lt (World.block_lt_of_cell? w _ h))]; exact h
/-- the parts of a step -/
theorem step_parts (d : Nat) : ∃ es ed : Int, stepC d = ⟨es, ed⟩ ∧ (d : Int).tmod 2 = ed ∧ 1 - ed = es ∧ 0 ≤ ed ∧ ed ≤ 1 := by
  refine ⟨1 - ((d % 2 : Nat) : Int), ((d % 2 : Nat) : Int), ?_, ?_, rfl, by omega, by omega⟩
  · unfold stepC
    rcases Nat.mod_two_eq_zero_or_one d with h | h <;> simp [h]
  · rw [Int.tmod_eq_emod_of_nonneg (by omega)]; simp
/-- the edges that are still to come -/
def PendM (g : G) (k j : Nat) (b : Nat) (e : C) : Prop := ∃ d, d ∈ (g.moves k).drop j ∧ b = g.to k d ∧ e = stepC d
theorem pend_next {g : G} {k j d tt : Nat} (hd : (g.moves k)[j]? = some d) (ht : g.to k d = tt) : ∀ b e, PendM g k j b e → PendM g k (j + 1) b e ∨ (b = tt ∧ e = stepC d) := by
  rintro b e ⟨d', hm, rfl, rfl⟩
  obtain ⟨hj, hd2⟩ := List.getElem?_eq_some_iff.1 hd
  rw [List.drop_eq_getElem_cons hj, hd2] at hm
  rcases List.mem_cons.1 hm with rfl | hm
  · exact .inr ⟨ht, rfl⟩
  · exact .inl ⟨d', hm, rfl, rfl⟩
theorem pend_done {g : G} {k nl : Nat} (h : (movesI g k).length = nl) : ∀ b e, PendM g k nl b e → False := by
  rintro b e ⟨d, hm, _⟩
  rw [movesI_eq, List.length_map] at h
  rw [List.drop_eq_nil_of_le (by omega)] at hm
  cases hm
theorem stepC_ne (d : Nat) : stepC d ≠ C.zero := by unfold stepC C.zero; split <;> simp
theorem stepC_le (d : Nat) : C.le (stepC d) ⟨0, 1⟩ := by unfold stepC; split <;> decide
end Go.Proofs.YtjejkadaafmdcaaGreat
/- flood.From: what is under way, and what a step of the search does to it. -/
namespace Go.Proofs.YtjejkadaafmdcaaGreat
open Go.RowKit Go.Sort FR
/-- what stands in a heap, of numbers not below 0 -/
def hpI (hp : Nat → Option C) (z : Int) : Option C := if 0 ≤ z then hp z.toNat else none
theorem hpI_nat (hp : Nat → Option C) (n : Nat) : hpI hp (n : Nat) = hp n := by unfold hpI; rw [if_pos (by omega)]; rfl
theorem hpI_set (hp : Nat → Option C) (n : Nat) (v : Option C) : hset (hpI hp) (n : Nat) v = hpI (upd hp n v) := by
  funext z
  unfold hset hpI upd
  by_cases h : 0 ≤ z
  · rw [if_pos h, if_pos h]
    by_cases e : z = (n : Nat)
    · rw [if_pos e, if_pos (by omega)]
    · rw [if_neg e, if_neg (by omega)]
  · rw [if_neg h, if_neg h, if_neg (by omega)]
theorem hpI_none : (fun _ => none : Int → Option C) = hpI (fun _ => none) := by funext z; unfold hpI; split <;> rfl
theorem cntS_none (N : Nat) : cntS (fun _ => none) N = 0 := by unfold cntS; exact cntN_none N
/-- what a push makes of what stands in the heap -/
def pushed (hp : Nat → Option C) (k : Nat) (c : C) (t : Bool) : Nat → Option C := if t = true then upd hp k (some c) else hp
def lower? (hp : Nat → Option C) (k : Nat) (c : C) : Bool := match hp k with | none => true | some d => decide (C.cmp c d < 0)
theorem lower_yes {hp : Nat → Option C} {k : Nat} {c : C} (h : lower? hp k c = true) : ∀ d, hp k = some d → C.lt c d := by
  intro d hd
  unfold lower? at h
  rw [hd] at h
  simp at h
  exact C.cmp_neg.1 h
theorem lower_no {hp : Nat → Option C} {k : Nat} {c : C} (h : lower? hp k c = false) : ∃ d, hp k = some d ∧ C.le d c := by
  unfold lower? at h
  cases hk : hp k with
  | none => rw [hk] at h; cases h
  | some d =>
    rw [hk] at h
    simp at h
    exact ⟨d, rfl, C.cmp_nonneg.1 h⟩
theorem heapPushN (w : World) (S : List Nat) (q N : Nat) (hp : Nat → Option C) (k : Nat) (ds dd : Int) (t : Bool) (h : HeapOf w S q (cntS hp N) (hpI hp)) (hk : k < N) (hN : N ≤ 1000000) (hc : inCC ⟨ds, dd⟩) (ht : lower? hp k ⟨ds, dd⟩ = t) :
    Calls Tryz.prog 115 #[.pointer (some ⟨q, 0, none⟩), .int .i64 (k : Nat), .agg #[.int .i64 ds, .int .i64 dd]] w (HeapD w S q (cntS (pushed hp k ⟨ds, dd⟩ t) N) (hpI (pushed hp k ⟨ds, dd⟩ t)) (.bool t)) := by
  cases hz : hp k with
  | none =>
    have e : t = true := by rw [← ht]; unfold lower?; rw [hz]
    subst e
    have := heapPush_new w S q (cntS hp N) (hpI hp) (k : Nat) ds dd h (by rw [hpI_nat]; exact hz) hc (Nat.le_trans (cntS_le _ _) hN)
    rw [hpI_set] at this
    unfold pushed
    rw [if_pos rfl, cntS_new hk hz]
    exact this
  | some d =>
    obtain ⟨es, ed⟩ := d
    have e : decide (C.cmp ⟨ds, dd⟩ ⟨es, ed⟩ < 0) = t := by rw [← ht]; unfold lower?; rw [hz]
    have := heapPush_old w S q (cntS hp N) (hpI hp) (k : Nat) ds dd es ed t h (by rw [hpI_nat]; exact hz) hc e
    have e2 : (if t = true then hset (hpI hp) (k : Nat) (some ⟨ds, dd⟩) else hpI hp) = hpI (pushed hp k ⟨ds, dd⟩ t) := by
      unfold pushed; split
      · rw [hpI_set]
      · rfl
    have e3 : cntS (pushed hp k ⟨ds, dd⟩ t) N = cntS hp N := by
      unfold pushed cntS; split
      · exact cnt_hkeep N (by rw [hz]; simp) _
      · rfl
    rw [e2] at this
    rw [e3]
    exact this
/-- what is popped: the least -/
def PopN (w : World) (S : List Nat) (q N : Nat) (hp : Nat → Option C) (e : Ending) (w' : World) : Prop :=
  ∃ k ds dd, hp k = some ⟨ds, dd⟩ ∧ (∀ j d, hp j = some d → C.le ⟨ds, dd⟩ d) ∧ e = .returned (.tuple #[.int .i64 (k : Nat), .agg #[.int .i64 ds, .int .i64 dd], .bool true]) ∧ HeapOf w' S q (cntS (upd hp k none) N) (hpI (upd hp k none)) ∧ Kept S w w'
theorem It.le_c {a b : It} (h : It.le a b) : C.le a.c b.c := by
  unfold It.le It.lt at h
  intro hl
  exact h (.inl hl)
theorem heapPopN (w : World) (S : List Nat) (q N : Nat) (hp : Nat → Option C) (h : HeapOf w S q (cntS hp N) (hpI hp)) (hr : ∀ j, hp j ≠ none → j < N) (hN : N ≤ 1000000) (h0 : cntS hp N ≠ 0) :
    Calls Tryz.prog 74 #[.pointer (some ⟨q, 0, none⟩)] w (PopN w S q N hp) := by
  obtain ⟨k, hk⟩ : ∃ k, cntS hp N = k + 1 := ⟨cntS hp N - 1, by omega⟩
  rw [hk] at h
  refine (heapPop_some w S q k (hpI hp) h (by have := cntS_le hp N; omega)).mono ?_
  rintro e w' ⟨id, ds, dd, h1, h2, h3, h4, h5⟩
  have hid : 0 ≤ id := by
    apply Classical.byContradiction
    intro hn
    unfold hpI at h1; rw [if_neg hn] at h1; cases h1
  obtain ⟨j, rfl⟩ := Int.eq_ofNat_of_zero_le hid
  have h1' : hp j = some ⟨ds, dd⟩ := by rw [← hpI_nat hp j]; exact h1
  have hj : j < N := hr j (by rw [h1']; simp)
  have hcnt : cntS hp N = cntS (upd hp j none) N + 1 := cnt_hpop hj (by rw [h1']; simp)
  refine ⟨j, ds, dd, h1', fun i d hi => ?_, h3, ?_, h5⟩
  · have := h2 (i : Nat) d (by rw [hpI_nat]; exact hi)
    exact It.le_c this
  · have h6 : HeapOf w' S q k (hset (hpI hp) (j : Nat) none) := h4
    rw [hpI_set, show k = cntS (upd hp j none) N by omega] at h6
    exact h6
theorem cellK {S : List Nat} {w w' : World} {b o : Nat} {v : Value} (h : Kept S w w') (hb : b ∉ S) (hc : w.cell? ⟨b, o, none⟩ = some v) : w'.cell? ⟨b, o, none⟩ = some v := by
  have hl := World.block_lt_of_cell? _ _ hc
  have e : w'.cell? ⟨b, o, none⟩ = w.cell? ⟨b, o, none⟩ := World.cell?_of_block (h.block b hl hb)
  rw [e]; exact hc
end Go.Proofs.YtjejkadaafmdcaaGreat
/- flood.From: the moves from one cell are gone over. -/
namespace Go.Proofs.YtjejkadaafmdcaaGreat
open Go.RowKit Go.Sort FR
end Go.Proofs.YtjejkadaafmdcaaGreat
/- flood.From: what is handed back. -/
namespace Go.Proofs.YtjejkadaafmdcaaGreat
open Go.RowKit Go.Sort FR
theorem mapI_none {f : Nat → Option Value} (h : ∀ j, f j = none) : mapI f = fun _ => none := by
  funext z; unfold mapI; split
  · exact h _
  · rfl
theorem cntS_zero {hp : Nat → Option C} {N : Nat} (h : cntS hp N = 0) (hr : ∀ j, hp j ≠ none → j < N) : ∀ j, hp j = none := by
  intro j
  cases hj : hp j with
  | none => rfl
  | some c =>
    have := cntN_zero h j (hr j (by rw [hj]; simp))
    rw [hj] at this; cases this
end Go.Proofs.YtjejkadaafmdcaaGreat
/- (*Flood).Way: the way back to the first one, turned round. -/
namespace Go.Proofs.YtjejkadaafmdcaaGreat
open Go.RowKit Go.Sort FR
/-- behind slices.Reverse the same list owns what it held, turned round -/
theorem intsReverse (w : World) (B : Nat) (v : Value) (zs : List Int) (hown : OwnI w B v zs) (hl : zs.length ≤ 1000000000) (hB : B ≤ w.heap.size) :
    Calls Tryz.prog 119 #[v] w fun e w' => e = .returned (.tuple #[]) ∧ OwnI w' B v zs.reverse ∧ Below B w w' := by
  rcases hown.2 with ⟨rfl, hn⟩ | ⟨g, cap, cur, rfl, hg, hh, hc, hm, hs, ht⟩
  · have : zs = [] := List.eq_nil_of_length_eq_zero hn
    subst this
    refine (Tryz.slices_Reverse_int_empty none 0 w).mono ?_
    rintro e w' ⟨h1, h2⟩
    subst h2
    exact ⟨h1, OwnI.nil _ _, Below.refl _ _⟩
  · have ht1 : cur.toList.take zs.length = zs.map (Value.int .i64) := by rw [Nat.mul_one] at ht; exact ht
    refine (Tryz.slices_Reverse_int g 0 cap zs w (holds_of_blockI hh ht1) (by omega)).mono ?_
    rintro e w' ⟨h1, n, h2⟩
    have e0 : w' = grow (putRow (Value.int .i64) (Sort.ahead w n) g 0 zs.reverse.toArray) #[] := by rw [grow_empty]; exact h2
    have h3 := ownsRow_sortedI (w := w) (n := n) (os := #[]) (ss := zs) (ts := zs.reverse) (by simp) hg hh hc hm hs
    have h4 := grownBy_sortedI (w := w) (g := g) (n := n) (os := #[]) zs.reverse.toArray
    rw [← e0] at h3 h4
    refine ⟨h1, ?_, ⟨h4.os, h4.tape, h4.output, h4.size, fun k hk => ?_⟩⟩
    · unfold OwnI; rw [List.length_reverse]; exact h3
    · by_cases hkw : k < w.heap.size
      · exact h4.block k hkw (by intro e; injection e with e; omega)
      · omega
end Go.Proofs.YtjejkadaafmdcaaGreat
/- flood.Walk: what a way costs. -/
namespace Go.Proofs.YtjejkadaafmdcaaGreat
open Go.RowKit Go.Sort FR
end Go.Proofs.YtjejkadaafmdcaaGreat
/- flood.Walk: the walk. -/
namespace Go.Proofs.YtjejkadaafmdcaaGreat
open Go.RowKit Go.Sort FR
def errV (k : Nat) : Value := if k = 0 then .nilIface else .iface 107 (.int .i64 (k : Nat))
theorem Ints.kept0 {S : List Nat} {w w' : World} {A : Option Addr} {n : Nat} {f : Nat → Int} (h : Ints w A n f) (hk : Kept S w w') (hS : 0 < n → ∀ ad, A = some ad → ad.block ∉ S) : Ints w' A n f := by
  intro hn
  obtain ⟨ad, h1, h2, h3⟩ := h hn
  exact ⟨ad, h1, Nat.lt_of_lt_of_le h2 hk.size, fun k hk' => by
    have e : w'.cell? (ad.add k) = w.cell? (ad.add k) := World.cell?_of_block (by rw [add_block]; exact hk.block _ h2 (hS hn ad h1))
    rw [e]; exact h3 k hk'⟩
theorem bframe {w w' : World} {a : Addr} {t : Bool} (h : Below w.heap.size w w') (hl : a.block < w.heap.size) (hf : w.frozen? a = t) : w'.frozen? a = t := (h.frozen hl).trans hf
end Go.Proofs.YtjejkadaafmdcaaGreat
/- What New, Steps, line and Set of package clear do, and the reference's Clear. -/
namespace Go.Proofs.YtjejkadaafmdcaaGreat
open Go.RowKit Go.Sort FR
/-- what a line of counting leaves: some are counted, others are as they were -/
def Recount (g : G) (f f' : Nat → Nat → Int) : Prop := ∀ c d, f' c d = f c d ∨ f' c d = clrC g c d
theorem Recount.refl (g : G) (f : Nat → Nat → Int) : Recount g f f := fun _ _ => .inl rfl
theorem Recount.set {g : G} {f f' : Nat → Nat → Int} (h : Recount g f f') (c d : Nat) : Recount g f (fset f' c d (clrC g c d)) := by
  intro c' d'
  unfold fset
  by_cases e : c' = c ∧ d' = d
  · obtain ⟨rfl, rfl⟩ := e; rw [if_pos ⟨rfl, rfl⟩]; exact .inr rfl
  · rw [if_neg e]; exact h c' d'
theorem Recount.trans {g : G} {f f' f'' : Nat → Nat → Int} (h : Recount g f f') (k : Recount g f' f'') : Recount g f f'' := by
  intro c d
  rcases k c d with e | e
  · rw [e]; exact h c d
  · exact .inr e
/-- what is counted stays so -/
theorem Recount.keep {g : G} {f f' : Nat → Nat → Int} (h : Recount g f f') {c d : Nat} (e : f c d = clrC g c d) : f' c d = clrC g c d := by
  rcases h c d with h | h
  · rw [h, e]
  · exact h
end Go.Proofs.YtjejkadaafmdcaaGreat
/- What the statements' own octile cost hands back. -/
namespace Go.Proofs.YtjejkadaafmdcaaGreat
open Go.RowKit Go.Sort FR
set_option maxRecDepth 100000 in
set_option maxHeartbeats 1600000 in
theorem topOct (w : World) (g : G) (a b : Nat) (x : C) (hok : g.ok) (ha : a < g.n) (hb : b < g.n) (hx : g.oct a b = x) :
    Calls Tryz.prog 40 #[.int .i64 g.w, .int .i64 (a : Nat), .int .i64 (b : Nat)] w fun e w' => e = .returned (.agg #[.int .i64 x.s, .int .i64 x.d]) ∧ Below w.heap.size w w' := by
  obtain ⟨o1, o2, o3, o4⟩ := hok
  have l1 := G.X_lt ⟨o1, o2, o3, o4⟩ a
  have l2 := G.X_lt ⟨o1, o2, o3, o4⟩ b
  have l3 := G.Y_lt ha
  have l4 := G.Y_lt hb
  have hnn := G.n_le (⟨o1, o2, o3, o4⟩ : g.ok)
  have cO := fun w => refOctile (g.X a : Nat) (g.Y a : Nat) (g.X b : Nat) (g.Y b : Nat) w (by omega) (by omega) (by omega) (by omega)
  have hx2 : octI ((g.X a : Nat) - (g.X b : Nat)) ((g.Y a : Nat) - (g.Y b : Nat)) = x := hx
  rw [hx2] at cO
  have e1 : ((g.X a : Nat) : Int) = (a : Int) % g.w := by unfold G.X; simp
  have e2 : ((g.Y a : Nat) : Int) = (a : Int) / g.w := by unfold G.Y; simp
  have e3 : ((g.X b : Nat) : Int) = (b : Int) % g.w := by unfold G.X; simp
  have e4 : ((g.Y b : Nat) : Int) = (b : Int) / g.w := by unfold G.Y; simp
  have p1 : 0 ≤ (a : Int) / g.w := by omega
  have p2 : (a : Int) / g.w ≤ 256 := by omega
  have p3 : 0 ≤ (b : Int) / g.w := by omega
  have p4 : (b : Int) / g.w ≤ 256 := by omega
  have w1 : IntKind.i64.wrap ((a : Int) / g.w) = (a : Int) / g.w := IntWalk.i64_in _ (by omega)
  have w2 : IntKind.i64.wrap ((b : Int) / g.w) = (b : Int) / g.w := IntWalk.i64_in _ (by omega)
  have w3 : (b : Int).tmod g.w = (b : Int) % g.w := Int.tmod_eq_emod_of_nonneg (by omega)
  have w4 : (a : Int).tmod g.w = (a : Int) % g.w := Int.tmod_eq_emod_of_nonneg (by omega)
  rw [e1, e2, e3, e4] at cO
  have cO := Lib.hid cO
  obtain ⟨xs, xd⟩ := x
  clear hx hx2 e1 e2 e3 e4 l1 l2 l3 l4
  go_enter Tryz.func40, Tryz.ntmps40
  go_upto_region 1 with (fail)
  refine wp_name ?_
  intro W hW
  have HW : Below w.heap.size w W := by rw [hW]; (repeat' (first | exact Below.refl _ _ | assumption | apply bel_drewN | apply bel_drew | apply bel_alloc | (refine bel_trans ?_ (by assumption))))
  have q0 : W.cell? ⟨w.heap.size, 0, none⟩ = some (.int .i64 0) := by rw [hW]; go_simp
  have q1 : W.cell? ⟨w.heap.size, 1, none⟩ = some (.int .i64 0) := by rw [hW]; go_simp
  have f0 : W.frozen? ⟨w.heap.size, 0, none⟩ = false := by rw [hW]; go_simp
  have f1 : W.frozen? ⟨w.heap.size, 1, none⟩ = false := by rw [hW]; go_simp
  have hs : w.heap.size < W.heap.size := by rw [hW]; simp
  clear hW
  go_region_with (go_at_call 32; (with_reducible refine (cO.out _).mono ?_); rintro e wA ⟨rfl, hbA⟩; have q0 := bel_cell hbA q0; have q1 := bel_cell hbA q1; have f0 := (hbA.frozen (p := ⟨w.heap.size, 0, none⟩) hs).trans f0; have f1 := (hbA.frozen (p := ⟨w.heap.size, 1, none⟩) hs).trans f1)
  all_goals
    go_wp2
    have e5 := set_two (x := .int .i64 xs) (y := .int .i64 xd) q0 q1
    refine bodyPost_ret (v := .agg #[.int .i64 xs, .int .i64 xd]) (by simp [results, Tryz.results40, go_sem, e5]) rfl ?_
    exact ⟨rfl, ((bel_trans HW (bel_trans (bel_drew (Below.refl _ _)) hbA)).setCell (by simp) _).setCell (by simp) _⟩
end Go.Proofs.YtjejkadaafmdcaaGreat
