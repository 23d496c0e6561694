/- flood.From: what is under way, and what a step of the search does to it. -/
import Derived.Test.YtkiogciokngjfaaFlood
import Derived.Test.YtkiogciokngjfaaPend
import Derived.Test.YtkiogciokngjfaaAsGrid
import Derived.Deep.DeepCutAuto
import Derived.Deep.LoopGhost
import Derived.Deep.RegionHeld3
set_option linter.unusedVariables false
set_option linter.unusedSimpArgs false
namespace Go.Proofs.Ytkiogciokngjfaa
open Go.RowKit Go.Sort FR
/-- what stands in a heap, of numbers not below 0 -/
def hpI (hp : Nat → Option C) (z : Int) : Option C := if 0 ≤ z then hp z.toNat else none
theorem hpI_nat (hp : Nat → Option C) (n : Nat) : hpI hp (n : Nat) = hp n := by unfold hpI; rw [if_pos (by omega)]; rfl
theorem hpI_set (hp : Nat → Option C) (n : Nat) (v : Option C) : hset (hpI hp) (n : Nat) v = hpI (upd hp n v) := by
  funext z
  unfold hset hpI upd
  by_cases h : 0 ≤ z
  · rw [if_pos h, if_pos h]
    by_cases e : z = (n : Nat)
    · rw [if_pos e, if_pos (by omega)]
    · rw [if_neg e, if_neg (by omega)]
  · rw [if_neg h, if_neg h, if_neg (by omega)]
theorem hpI_none : (fun _ => none : Int → Option C) = hpI (fun _ => none) := by funext z; unfold hpI; split <;> rfl
theorem cntS_none (N : Nat) : cntS (fun _ => none) N = 0 := by unfold cntS; exact cntN_none N
/-- what a push makes of what stands in the heap -/
def pushed (hp : Nat → Option C) (k : Nat) (c : C) (t : Bool) : Nat → Option C := if t = true then upd hp k (some c) else hp
def lower? (hp : Nat → Option C) (k : Nat) (c : C) : Bool := match hp k with | none => true | some d => decide (C.cmp c d < 0)
theorem lower_yes {hp : Nat → Option C} {k : Nat} {c : C} (h : lower? hp k c = true) : ∀ d, hp k = some d → C.lt c d := by
  intro d hd
  unfold lower? at h
  rw [hd] at h
  simp at h
  exact C.cmp_neg.1 h
theorem lower_no {hp : Nat → Option C} {k : Nat} {c : C} (h : lower? hp k c = false) : ∃ d, hp k = some d ∧ C.le d c := by
  unfold lower? at h
  cases hk : hp k with
  | none => rw [hk] at h; cases h
  | some d =>
    rw [hk] at h
    simp at h
    exact ⟨d, rfl, C.cmp_nonneg.1 h⟩
theorem heapPushN (w : World) (S : List Nat) (q N : Nat) (hp : Nat → Option C) (k : Nat) (ds dd : Int) (t : Bool) (h : HeapOf w S q (cntS hp N) (hpI hp)) (hk : k < N) (hN : N ≤ 1000000) (hc : inCC ⟨ds, dd⟩) (ht : lower? hp k ⟨ds, dd⟩ = t) :
    Calls Try.prog 59 #[.pointer (some ⟨q, 0, none⟩), .int .i64 (k : Nat), .agg #[.int .i64 ds, .int .i64 dd]] w (HeapD w S q (cntS (pushed hp k ⟨ds, dd⟩ t) N) (hpI (pushed hp k ⟨ds, dd⟩ t)) (.bool t)) := by
  cases hz : hp k with
  | none =>
    have e : t = true := by rw [← ht]; unfold lower?; rw [hz]
    subst e
    have := heapPush_new w S q (cntS hp N) (hpI hp) (k : Nat) ds dd h (by rw [hpI_nat]; exact hz) hc (Nat.le_trans (cntS_le _ _) hN)
    rw [hpI_set] at this
    unfold pushed
    rw [if_pos rfl, cntS_new hk hz]
    exact this
  | some d =>
    obtain ⟨es, ed⟩ := d
    have e : decide (C.cmp ⟨ds, dd⟩ ⟨es, ed⟩ < 0) = t := by rw [← ht]; unfold lower?; rw [hz]
    have := heapPush_old w S q (cntS hp N) (hpI hp) (k : Nat) ds dd es ed t h (by rw [hpI_nat]; exact hz) hc e
    have e2 : (if t = true then hset (hpI hp) (k : Nat) (some ⟨ds, dd⟩) else hpI hp) = hpI (pushed hp k ⟨ds, dd⟩ t) := by
      unfold pushed; split
      · rw [hpI_set]
      · rfl
    have e3 : cntS (pushed hp k ⟨ds, dd⟩ t) N = cntS hp N := by
      unfold pushed cntS; split
      · exact cnt_hkeep N (by rw [hz]; simp) _
      · rfl
    rw [e2] at this
    rw [e3]
    exact this
/-- what is popped: the least -/
def PopN (w : World) (S : List Nat) (q N : Nat) (hp : Nat → Option C) (e : Ending) (w' : World) : Prop :=
  ∃ k ds dd, hp k = some ⟨ds, dd⟩ ∧ (∀ j d, hp j = some d → C.le ⟨ds, dd⟩ d) ∧ e = .returned (.tuple #[.int .i64 (k : Nat), .agg #[.int .i64 ds, .int .i64 dd], .bool true]) ∧ HeapOf w' S q (cntS (upd hp k none) N) (hpI (upd hp k none)) ∧ Kept S w w'
theorem It.le_c {a b : It} (h : It.le a b) : C.le a.c b.c := by
  unfold It.le It.lt at h
  intro hl
  exact h (.inl hl)
theorem heapPopN (w : World) (S : List Nat) (q N : Nat) (hp : Nat → Option C) (h : HeapOf w S q (cntS hp N) (hpI hp)) (hr : ∀ j, hp j ≠ none → j < N) (hN : N ≤ 1000000) (h0 : cntS hp N ≠ 0) :
    Calls Try.prog 57 #[.pointer (some ⟨q, 0, none⟩)] w (PopN w S q N hp) := by
  obtain ⟨k, hk⟩ : ∃ k, cntS hp N = k + 1 := ⟨cntS hp N - 1, by omega⟩
  rw [hk] at h
  refine (heapPop_some w S q k (hpI hp) h (by have := cntS_le hp N; omega)).mono ?_
  rintro e w' ⟨id, ds, dd, h1, h2, h3, h4, h5⟩
  have hid : 0 ≤ id := by
    apply Classical.byContradiction
    intro hn
    unfold hpI at h1; rw [if_neg hn] at h1; cases h1
  obtain ⟨j, rfl⟩ := Int.eq_ofNat_of_zero_le hid
  have h1' : hp j = some ⟨ds, dd⟩ := by rw [← hpI_nat hp j]; exact h1
  have hj : j < N := hr j (by rw [h1']; simp)
  have hcnt : cntS hp N = cntS (upd hp j none) N + 1 := cnt_hpop hj (by rw [h1']; simp)
  refine ⟨j, ds, dd, h1', fun i d hi => ?_, h3, ?_, h5⟩
  · have := h2 (i : Nat) d (by rw [hpI_nat]; exact hi)
    exact It.le_c this
  · have h6 : HeapOf w' S q k (hset (hpI hp) (j : Nat) none) := h4
    rw [hpI_set, show k = cntS (upd hp j none) N by omega] at h6
    exact h6
theorem cellK {S : List Nat} {w w' : World} {b o : Nat} {v : Value} (h : Kept S w w') (hb : b ∉ S) (hc : w.cell? ⟨b, o, none⟩ = some v) : w'.cell? ⟨b, o, none⟩ = some v := by
  have hl := World.block_lt_of_cell? _ _ hc
  have e : w'.cell? ⟨b, o, none⟩ = w.cell? ⟨b, o, none⟩ := World.cell?_of_block (h.block b hl hb)
  rw [e]; exact hc
/-- what lies in memory while a flood is made -/
structure FlS (W w : World) (b gp mc mb q : Nat) (S : List Nat) (g : G) (v : Int) (done hp : Nat → Option C) (back : Nat → Option Nat) (nb : Nat) : Prop where
  fl : FloodIn w b gp mc mb g v done back (cntS done g.n) nb
  heap : HeapOf w S q (cntS hp g.n) (hpI hp)
  dis : b ∉ S ∧ gp ∉ S ∧ mc ∉ S ∧ mb ∉ S
  far : ∀ k ∈ S, W.heap.size ≤ k
  own : W.heap.size ≤ b ∧ W.heap.size ≤ gp ∧ W.heap.size ≤ mc ∧ W.heap.size ≤ mb
  bel : Below W.heap.size W w
theorem FlS.below {W w w' : World} {b gp mc mb q : Nat} {S : List Nat} {g : G} {v : Int} {done hp : Nat → Option C} {back : Nat → Option Nat} {nb : Nat} (h : FlS W w b gp mc mb q S g v done hp back nb) (hb : Below w.heap.size w w') : FlS W w' b gp mc mb q S g v done hp back nb :=
  ⟨h.fl.below hb, h.heap.below hb, h.dis, h.far, h.own, h.bel.trans (hb.mono h.bel.size)⟩
/-- behind a push -/
theorem FlS.pushed {W w w' : World} {b gp mc mb q : Nat} {S : List Nat} {g : G} {v : Int} {done hp hp2 : Nat → Option C} {back : Nat → Option Nat} {nb : Nat} (h : FlS W w b gp mc mb q S g v done hp back nb) {u : Value} {e : Ending} (hD : HeapD w S q (cntS hp2 g.n) (hpI hp2) u e w') :
    ∃ S', FlS W w' b gp mc mb q S' g v done hp2 back nb ∧ (∀ k ∈ S', k ∈ S ∨ w.heap.size ≤ k) ∧ Kept S w w' := by
  obtain ⟨_, S', h1, h2, h3⟩ := hD
  have hF := h.fl.kept h3 h.dis
  have l1 := h.fl.lt
  have l2 := h.fl.grid.lt
  have l3 := h.fl.mapC.lt
  have l4 := h.fl.mapB.lt
  refine ⟨S', ⟨hF, h1, ⟨fun hm => ?_, fun hm => ?_, fun hm => ?_, fun hm => ?_⟩, fun k hk => ?_, h.own, Kept.below h.bel h3 h.bel.size h.far⟩, h2, h3⟩
  · rcases h2 _ hm with x | x
    · exact h.dis.1 x
    · omega
  · rcases h2 _ hm with x | x
    · exact h.dis.2.1 x
    · omega
  · rcases h2 _ hm with x | x
    · exact h.dis.2.2.1 x
    · omega
  · rcases h2 _ hm with x | x
    · exact h.dis.2.2.2 x
    · omega
  · rcases h2 _ hk with x | x
    · exact h.far k x
    · exact Nat.le_trans h.bel.size x
theorem Kept.belowS {S : List Nat} {B : Nat} {a b c : World} (h : Below B a b) (k : Kept S b c) (hB : B ≤ b.heap.size) (hs : ∀ i ∈ S, B ≤ i) : Below B a c := Kept.below h k hB (fun i hi => hs i hi)
/-- behind a store into the ways back -/
theorem FlS.back {W w w' : World} {b gp mc mb q : Nat} {S : List Nat} {g : G} {v : Int} {done hp : Nat → Option C} {back : Nat → Option Nat} {nb nb' : Nat} {k x : Nat} (h : FlS W w b gp mc mb q S g v done hp back nb)
    (hM : MapAt (fun z : Int => Value.int .i64 z) w' mb (updK (mapI (backV back)) (k : Nat) (some (.int .i64 (x : Nat)))) nb') (hK : Kept [mb] w w') : FlS W w' b gp mc mb q S g v done hp (upd back k (some x)) nb' := by
  obtain ⟨n1, n2, n3, n4, n5⟩ := h.fl.ne
  rw [mapI_upd, backV_upd] at hM
  refine ⟨⟨(hK.block b h.fl.lt (by simpa using n2)).trans h.fl.hb, h.fl.grid.keptS hK (by simpa using n4), h.fl.mapC.kept hK (by simpa using n5), hM, h.fl.ne⟩, h.heap.kept hK ?_, h.dis, h.far, h.own, Kept.below h.bel hK h.bel.size ?_⟩
  · intro j hj e
    simp at e; subst e
    exact h.dis.2.2.2 hj
  · intro i hi
    simp at hi; subst hi
    exact h.own.2.2.2
/-- behind a store into what each costs -/
theorem FlS.done {W w w' : World} {b gp mc mb q : Nat} {S : List Nat} {g : G} {v : Int} {done hp : Nat → Option C} {back : Nat → Option Nat} {nb : Nat} {k : Nat} {ds dd : Int} (h : FlS W w b gp mc mb q S g v done hp back nb) (hk : k < g.n) (hn : done k = none)
    (hM : MapAt (fun z : Int => Value.int .i64 z) w' mc (updK (mapI (doneV done)) (k : Nat) (some (.agg #[.int .i64 ds, .int .i64 dd]))) (if (mapI (doneV done) (k : Nat)).isSome then cntS done g.n else cntS done g.n + 1)) (hK : Kept [mc] w w') :
    FlS W w' b gp mc mb q S g v (upd done k (some ⟨ds, dd⟩)) hp back nb := by
  obtain ⟨n1, n2, n3, n4, n5⟩ := h.fl.ne
  have e : (mapI (doneV done) (k : Nat)).isSome = false := by rw [mapI_nat]; unfold doneV; rw [hn]; rfl
  rw [mapI_upd, show (some (Value.agg #[.int .i64 ds, .int .i64 dd]) : Option Value) = some (costV ⟨ds, dd⟩) from rfl, doneV_upd, e] at hM
  simp only [Bool.false_eq_true, if_false] at hM
  rw [← cntS_new hk hn ⟨ds, dd⟩] at hM
  refine ⟨⟨(hK.block b h.fl.lt (by simpa using n1)).trans h.fl.hb, h.fl.grid.keptS hK (by simpa using n3), hM, h.fl.mapB.kept hK (by simpa using Ne.symm n5), h.fl.ne⟩, h.heap.kept hK ?_, h.dis, h.far, h.own, Kept.below h.bel hK h.bel.size ?_⟩
  · intro j hj e
    simp at e; subst e
    exact h.dis.2.2.1 hj
  · intro i hi
    simp at hi; subst hi
    exact h.own.2.2.1
end Go.Proofs.Ytkiogciokngjfaa
