/- What the functions of package heap do. -/
import Derived.Test.YtkiogciokngjfaaMaps
import Derived.Test.YtkiogciokngjfaaMathHeap
import Derived.Test.YtkiogciokngjfaaCostSays
import Derived.Deep.DeepCutAuto
import Derived.Laws.OwnMore
import Derived.StillTailTactics
set_option linter.unusedVariables false
set_option linter.unusedSimpArgs false
namespace Go.Proofs.Ytkiogciokngjfaa
open Go.RowKit Go.Sort FR
instance (a b : It) : Decidable (It.lt a b) := by unfold It.lt; infer_instance
def itV (a : It) : List Value := [.int .i64 a.c.s, .int .i64 a.c.d, .int .i64 a.id]
/-- a cost within the reach of package cost -/
def inCC (c : C) : Prop := inC c.s ∧ inC c.d
theorem lt_cases (a b : It) (k : Int) (hk : C.cmp a.c b.c = k) : It.lt a b ↔ k < 0 ∨ (k = 0 ∧ a.id < b.id) := by
  subst hk
  unfold It.lt
  rw [C.cmp_neg, C.cmp_zero]
set_option maxHeartbeats 800000 in
theorem heapLess (a b : It) (t : Bool) (ht : decide (It.lt a b) = t) (h1 : inCC a.c) (h2 : inCC b.c) (w : World) :
    Calls Try.prog 139 #[.agg #[.int .i64 a.c.s, .int .i64 a.c.d, .int .i64 a.id], .agg #[.int .i64 b.c.s, .int .i64 b.c.d, .int .i64 b.id]] w fun e w' => e = .returned (.bool t) ∧ Below w.heap.size w w' := by
  obtain ⟨⟨a1, a2⟩, ai⟩ := a
  obtain ⟨⟨b1, b2⟩, bi⟩ := b
  obtain ⟨k, hk⟩ : ∃ k, C.cmp ⟨a1, a2⟩ ⟨b1, b2⟩ = k := ⟨_, rfl⟩
  have hlt := lt_cases ⟨⟨a1, a2⟩, ai⟩ ⟨⟨b1, b2⟩, bi⟩ k hk
  obtain ⟨g1, g2⟩ := h1
  obtain ⟨g3, g4⟩ := h2
  simp only at *
  have cC := costCompare a1 a2 b1 b2
  rw [hk] at cC
  have cC := Lib.hid (fun w => cC w g1 g2 g3 g4)
  have ht' : t = decide (k < 0 ∨ (k = 0 ∧ ai < bi)) := by rw [← ht]; exact decide_eq_decide.2 hlt
  have Ht := Lib.hid ht'
  clear hlt ht ht' hk g1 g2 g3 g4
  go_enter Try.func139, Try.ntmps139
  go_upto_region 1 with (fail)
  refine wp_name ?_
  intro W hW
  have HW : Below w.heap.size w W := by rw [hW]; (repeat' (first | exact Below.refl _ _ | assumption | apply bel_drewN | apply bel_drew | apply bel_alloc | (refine bel_trans ?_ (by assumption))))
  have k1 : ∀ w', Below W.heap.size W w' → w'.cell? ⟨w.heap.size, 0, none⟩ = some (.int .i64 a1 : Value) := fun w' hbw => (hbw.cell (p := ⟨w.heap.size, 0, none⟩) (by rw [hW]; simp <;> omega)).trans (by rw [hW]; go_simp)
  have k2 : ∀ w', Below W.heap.size W w' → w'.cell? ⟨w.heap.size, 1, none⟩ = some (.int .i64 a2 : Value) := fun w' hbw => (hbw.cell (p := ⟨w.heap.size, 1, none⟩) (by rw [hW]; simp <;> omega)).trans (by rw [hW]; go_simp)
  have k3 : ∀ w', Below W.heap.size W w' → w'.cell? ⟨w.heap.size, 2, none⟩ = some (.int .i64 ai : Value) := fun w' hbw => (hbw.cell (p := ⟨w.heap.size, 2, none⟩) (by rw [hW]; simp <;> omega)).trans (by rw [hW]; go_simp)
  have k4 : ∀ w', Below W.heap.size W w' → w'.cell? ⟨w.heap.size + 1, 0, none⟩ = some (.int .i64 b1 : Value) := fun w' hbw => (hbw.cell (p := ⟨w.heap.size + 1, 0, none⟩) (by rw [hW]; simp <;> omega)).trans (by rw [hW]; go_simp)
  have k5 : ∀ w', Below W.heap.size W w' → w'.cell? ⟨w.heap.size + 1, 1, none⟩ = some (.int .i64 b2 : Value) := fun w' hbw => (hbw.cell (p := ⟨w.heap.size + 1, 1, none⟩) (by rw [hW]; simp <;> omega)).trans (by rw [hW]; go_simp)
  have k6 : ∀ w', Below W.heap.size W w' → w'.cell? ⟨w.heap.size + 1, 2, none⟩ = some (.int .i64 bi : Value) := fun w' hbw => (hbw.cell (p := ⟨w.heap.size + 1, 2, none⟩) (by rw [hW]; simp <;> omega)).trans (by rw [hW]; go_simp)
  clear hW
  have HB := Below.refl W.heap.size W
  go_wp2_with fail
  (with_reducible refine (cC.out _).mono ?_)
  rintro e w1 ⟨rfl, HB⟩
  go_wp2
  all_goals
    go_ret
    refine ⟨ret_b ?_, bel_trans HW HB⟩
    rw [Ht.out]
    first
    | exact (decide_eq_true (by omega)).symm
    | exact (decide_eq_false (by omega)).symm
    | exact decide_eq_decide.2 (by omega)
/-- block b is a row of room for cap items, of which the first n are c 0, c 1, .. -/
def ItemsIn (w : World) (b cap n : Nat) (c : Nat → It) : Prop :=
  n ≤ cap ∧ cap ≤ maxLen ∧ ∃ cur, w.heap[b]? = some (.cells cur 159 (0, 0)) ∧ cur.size = cap * 3 ∧ ∀ k, k < n → cur[k * 3]? = some (.int .i64 (c k).c.s) ∧ cur[k * 3 + 1]? = some (.int .i64 (c k).c.d) ∧ cur[k * 3 + 2]? = some (.int .i64 (c k).id)
theorem ItemsIn.lt {w : World} {b cap n : Nat} {c : Nat → It} (h : ItemsIn w b cap n c) : b < w.heap.size := by
  obtain ⟨_, _, cur, hb, _⟩ := h
  exact (Array.getElem?_eq_some_iff.1 hb).1
theorem ItemsIn.kept {S : List Nat} {w w' : World} {b cap n : Nat} {c : Nat → It} (h : ItemsIn w b cap n c) (hk : Kept S w w') (hb : b ∉ S) : ItemsIn w' b cap n c := by
  have hl := h.lt
  obtain ⟨h1, h2, cur, h3, h4⟩ := h
  exact ⟨h1, h2, cur, (hk.block b hl hb).trans h3, h4⟩
theorem ItemsIn.below {w w' : World} {b cap n : Nat} {c : Nat → It} (h : ItemsIn w b cap n c) (hb : Below w.heap.size w w') : ItemsIn w' b cap n c := h.kept (S := []) (.of_below hb) (by simp)
theorem ItemsIn.cells {w : World} {b cap n : Nat} {c : Nat → It} (h : ItemsIn w b cap n c) {k : Nat} (hk : k < n) :
    w.cell? ⟨b, k * 3, none⟩ = some (.int .i64 (c k).c.s) ∧ w.cell? ⟨b, k * 3 + 1, none⟩ = some (.int .i64 (c k).c.d) ∧ w.cell? ⟨b, k * 3 + 2, none⟩ = some (.int .i64 (c k).id) := by
  obtain ⟨h1, h2, cur, h3, h4, h5⟩ := h
  obtain ⟨a1, a2, a3⟩ := h5 k hk
  refine ⟨?_, ?_, ?_⟩ <;> simp only [World.cell?, h3] <;> simpa using by assumption
theorem ItemsIn.frozen {w : World} {b cap n : Nat} {c : Nat → It} (h : ItemsIn w b cap n c) (k : Nat) : w.frozen? ⟨b, k, none⟩ = false := by
  obtain ⟨h1, h2, cur, h3, h4, h5⟩ := h
  simp [World.frozen?, h3]
theorem set_heapH (w : World) (p k : Nat) (cs : Array Value) (T : TypeId) (x : Value) (h : w.heap[p]? = some (.cells cs T (0, 0))) : (w.setCell ⟨p, k, none⟩ x).heap[p]? = some (.cells (cs.setIfInBounds k x) T (0, 0)) := by
  simp [World.setCell, Array.getElem?_modify, h]
theorem ItemsIn.set {w : World} {b cap n : Nat} {c : Nat → It} (h : ItemsIn w b cap n c) {i : Nat} (hi : i < n) (x : It) :
    ItemsIn (((w.setCell ⟨b, i * 3, none⟩ (.int .i64 x.c.s)).setCell ⟨b, i * 3 + 1, none⟩ (.int .i64 x.c.d)).setCell ⟨b, i * 3 + 2, none⟩ (.int .i64 x.id)) b cap n (upd c i x) := by
  obtain ⟨h1, h2, cur, h3, h4, h5⟩ := h
  refine ⟨h1, h2, _, set_heapH _ _ _ _ _ _ (set_heapH _ _ _ _ _ _ (set_heapH _ _ _ _ _ _ h3)), by simp [h4], ?_⟩
  intro k hk
  obtain ⟨a1, a2, a3⟩ := h5 k hk
  by_cases e : k = i
  · subst e
    simp only [Array.getElem?_setIfInBounds, Array.size_setIfInBounds, upd]
    simp
    omega
  · simp only [Array.getElem?_setIfInBounds, upd, if_neg e]
    rw [if_neg (by omega), if_neg (by omega), if_neg (by omega), if_neg (by omega), if_neg (by omega), if_neg (by omega), if_neg (by omega), if_neg (by omega), if_neg (by omega)]
    exact ⟨a1, a2, a3⟩
/-- block b is a heap whose row lies in block rb and whose map lies in block mb -/
def HeapIn (w : World) (b rb cap n mb : Nat) (c : Nat → It) : Prop := w.heap[b]? = some (.cells #[.slice (some ⟨rb, 0, none⟩) n cap, .map (some mb)] 157 (0, 0)) ∧ ItemsIn w rb cap n c
theorem Kept.wid {S T : List Nat} {a b : World} (h : Kept S a b) (hs : ∀ k ∈ S, k ∈ T) : Kept T a b := ⟨h.os, h.tape, h.output, h.size, fun k hk hn => h.block k hk fun hm => hn (hs k hm)⟩
theorem keptBelow {S : List Nat} {a b : World} (h : Below a.heap.size a b) : Kept S a b := Kept.of_below h
theorem Kept.trans2 {S : List Nat} {a b c : World} (h : Kept S a b) (k : Kept S b c) : Kept S a c := h.trans k
/-- where an id stands, as the map's value -/
def posV (m : Int → Option Nat) : Int → Option Value := fun z => (m z).map fun k => Value.int .i64 (k : Nat)
set_option maxRecDepth 100000 in
set_option maxHeartbeats 800000 in
theorem heapPut (w : World) (b rb cap n mb N : Nat) (c : Nat → It) (m : Int → Option Value) (i : Nat) (x : It) (h : HeapIn w b rb cap n mb c) (hm : MapAt (fun z : Int => Value.int .i64 z) w mb m N) (hi : i < n) (h1 : b ≠ rb) (h2 : b ≠ mb) (h3 : rb ≠ mb) :
    Calls Try.prog 110 #[.pointer (some ⟨b, 0, none⟩), .int .i64 i, .agg #[.int .i64 x.c.s, .int .i64 x.c.d, .int .i64 x.id]] w fun e w' => e = .returned (.tuple #[]) ∧ HeapIn w' b rb cap n mb (upd c i x) ∧ (∃ N, MapAt (fun z : Int => Value.int .i64 z) w' mb (updK m x.id (some (.int .i64 i))) N) ∧ Kept [rb, mb] w w' := by
  obtain ⟨⟨xs, xd⟩, xi⟩ := x
  simp only at *
  obtain ⟨hb, hR⟩ := h
  have kl0 := hR.lt
  have kl1 := hm.lt
  have kl2 : b < w.heap.size := (Array.getElem?_eq_some_iff.1 hb).1
  go_enter Try.func110, Try.ntmps110
  go_upto_region 1 with (fail)
  refine wp_name ?_
  intro W hW
  have HW : Below w.heap.size w W := by rw [hW]; (repeat' (first | exact Below.refl _ _ | assumption | apply bel_drewN | apply bel_drew | apply bel_alloc | (refine bel_trans ?_ (by assumption))))
  have hW0 : w.heap.size < W.heap.size := by rw [hW]; simp
  have k1 : W.cell? ⟨w.heap.size, 0, none⟩ = some (.int .i64 xs) := by rw [hW]; go_simp
  have k2 : W.cell? ⟨w.heap.size, 1, none⟩ = some (.int .i64 xd) := by rw [hW]; go_simp
  have k3 : W.cell? ⟨w.heap.size, 2, none⟩ = some (.int .i64 xi) := by rw [hW]; go_simp
  clear hW
  have hR1 := hR.below HW
  have hm1 := hm.below HW
  have hb1 := (HW.block b kl2).trans hb
  have kb0 : W.cell? ⟨b, 0, none⟩ = some (.slice (some ⟨rb, 0, none⟩) n cap) := by simp [World.cell?, hb1]
  have kb1 : W.cell? ⟨b, 1, none⟩ = some (.map (some mb)) := by simp [World.cell?, hb1]
  have hcap := hR1.1
  have kf0 := hR1.frozen (i * 3)
  have kf1 := hR1.frozen (i * 3 + 1)
  have kf2 := hR1.frozen (i * 3 + 2)
  obtain ⟨c1, c2, c3⟩ := hR1.cells hi
  go_wp2
  go_still_tail 7, (by kernel_rfl)
  change wpList _ _ _ _ _ W.drew
  have Hd : Below w.heap.size w W.drew := bel_drew HW
  have hR2 : ItemsIn W.drew rb cap n c := hR1
  have hm2 : MapAt (fun z : Int => Value.int .i64 z) W.drew mb m N := hm1
  have hb2 : W.drew.heap[b]? = some (.cells #[.slice (some ⟨rb, 0, none⟩) n cap, .map (some mb)] 157 (0, 0)) := hb1
  have k4 : W.drew.cell? ⟨w.heap.size, 2, none⟩ = some (.int .i64 xi) := k3
  have kf0 := hR2.frozen (i * 3)
  have kf1 := hR2.frozen (i * 3 + 1)
  have kf2 := hR2.frozen (i * 3 + 2)
  obtain ⟨c1, c2, c3⟩ := hR2.cells hi
  have hlt2 : w.heap.size < W.drew.heap.size := by have := hW0; simpa using this
  clear k1 k2 k3 kb0 kb1
  generalize W.drew = w2 at *
  go_wp2
  have hR3 := hR2.set hi ⟨⟨xs, xd⟩, xi⟩
  have hK3 : Kept [rb] w2 (((w2.setCell ⟨rb, i * 3, none⟩ (.int .i64 xs)).setCell ⟨rb, i * 3 + 1, none⟩ (.int .i64 xd)).setCell ⟨rb, i * 3 + 2, none⟩ (.int .i64 xi)) := (((Kept.refl _ _).setCell (.inl (by simp))).setCell (.inl (by simp))).setCell (.inl (by simp))
  simp only at hR3
  generalize ((w2.setCell ⟨rb, i * 3, none⟩ (.int .i64 xs)).setCell ⟨rb, i * 3 + 1, none⟩ (.int .i64 xd)).setCell ⟨rb, i * 3 + 2, none⟩ (.int .i64 xi) = w3 at *
  have hs2 : w.heap.size < w2.heap.size := hlt2
  have hb3 := (hK3.block b (by omega) (by simpa using h1)).trans hb2
  have hm3 := hm2.kept hK3 (by simpa using Ne.symm h3)
  have kb0 : w3.cell? ⟨b, 0, none⟩ = some (.slice (some ⟨rb, 0, none⟩) n cap) := by simp [World.cell?, hb3]
  have kb1 : w3.cell? ⟨b, 1, none⟩ = some (.map (some mb)) := by simp [World.cell?, hb3]
  have k5 : w3.cell? ⟨w.heap.size, 2, none⟩ = some (.int .i64 xi) := by
    have := hK3.block w.heap.size hs2 (by simp; omega)
    simpa [World.cell?, this] using k4
  clear hR2 hm2 hb2 k4 kf0 kf1 kf2 c1 c2 c3
  go_still_tail 7, (by kernel_rfl)
  change wpList _ _ _ _ _ w3.drew
  have hm4 : MapAt (fun z : Int => Value.int .i64 z) w3.drew mb m N := hm3
  have hb4 : w3.drew.heap[b]? = some (.cells #[.slice (some ⟨rb, 0, none⟩) n cap, .map (some mb)] 157 (0, 0)) := hb3
  have hR4 : ItemsIn w3.drew rb cap n (upd c i ⟨⟨xs, xd⟩, xi⟩) := hR3
  have hd4 : Below w3.heap.size w3 w3.drew := (Below.refl _ _).drew
  clear hm3 hb3 hR3 kb0 kb1 k5
  generalize w3.drew = w4 at *
  refine wpList_storeM rfl _ _ _ rfl (int_fit Try.underlying3) Try.underlying154 hm4 rfl xi rfl (.int .i64 i) rfl ?_
  intro w5 hm5 hk5
  go_wp2
  go_end0
  refine ⟨rfl, ⟨?_, ?_⟩, ⟨_, hm5⟩, ?_⟩
  · exact (hk5.block b (Array.getElem?_eq_some_iff.1 hb4).1 (by simpa using h2)).trans hb4
  · exact hR4.kept hk5 (by simpa using h3)
  · exact (keptBelow Hd).trans2 ((hK3.wid (by simp)).trans ((Kept.of_below hd4).trans (hk5.wid (by simp))))
end Go.Proofs.Ytkiogciokngjfaa
