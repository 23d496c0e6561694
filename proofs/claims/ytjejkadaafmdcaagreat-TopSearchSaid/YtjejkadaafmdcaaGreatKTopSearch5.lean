/- Lemmas of this claim: Heap, Heap2, Heap3, Heap4, Heap5, Heap6. -/
import Derived.Test.YtjejkadaafmdcaaGreatKTopSearch3
import Derived.Test.YtjejkadaafmdcaaGreatKTopSearch1
import Derived.Test.YtjejkadaafmdcaaGreatKTopSearch4
import Derived.Deep.DeepCutAuto
import Derived.Laws.OwnMore
import Derived.StillTailTactics
import Derived.Deep.AppendLies
import Derived.Deep.RegionLaw
import Derived.WalkSpells
set_option linter.unusedVariables false
set_option linter.unusedSimpArgs false
/- What the functions of package heap do. -/
namespace Go.Proofs.YtjejkadaafmdcaaGreat
open Go.RowKit Go.Sort FR
instance (a b : It) : Decidable (It.lt a b) := by unfold It.lt; infer_instance
/-- a cost within the reach of package cost -/
def inCC (c : C) : Prop := inC c.s ∧ inC c.d
theorem lt_cases (a b : It) (k : Int) (hk : C.cmp a.c b.c = k) : It.lt a b ↔ k < 0 ∨ (k = 0 ∧ a.id < b.id) := by
  subst hk
  unfold It.lt
  rw [C.cmp_neg, C.cmp_zero]
set_option maxHeartbeats 800000 in
theorem heapLess (a b : It) (t : Bool) (ht : decide (It.lt a b) = t) (h1 : inCC a.c) (h2 : inCC b.c) (w : World) :
    Calls Tryz.prog 137 #[.agg #[.int .i64 a.c.s, .int .i64 a.c.d, .int .i64 a.id], .agg #[.int .i64 b.c.s, .int .i64 b.c.d, .int .i64 b.id]] w fun e w' => e = .returned (.bool t) ∧ Below w.heap.size w w' := by
  obtain ⟨⟨a1, a2⟩, ai⟩ := a
  obtain ⟨⟨b1, b2⟩, bi⟩ := b
  obtain ⟨k, hk⟩ : ∃ k, C.cmp ⟨a1, a2⟩ ⟨b1, b2⟩ = k := ⟨_, rfl⟩
  have hlt := lt_cases ⟨⟨a1, a2⟩, ai⟩ ⟨⟨b1, b2⟩, bi⟩ k hk
  obtain ⟨g1, g2⟩ := h1
  obtain ⟨g3, g4⟩ := h2
  simp only at *
  have cC := costCompare a1 a2 b1 b2
  rw [hk] at cC
  have cC := Lib.hid (fun w => cC w g1 g2 g3 g4)
  have ht' : t = decide (k < 0 ∨ (k = 0 ∧ ai < bi)) := by rw [← ht]; exact decide_eq_decide.2 hlt
  have Ht := Lib.hid ht'
  clear hlt ht ht' hk g1 g2 g3 g4
  go_enter Tryz.func137, Tryz.ntmps137
  go_upto_region 1 with (fail)
  refine wp_name ?_
  intro W hW
  have HW : Below w.heap.size w W := by rw [hW]; (repeat' (first | exact Below.refl _ _ | assumption | apply bel_drewN | apply bel_drew | apply bel_alloc | (refine bel_trans ?_ (by assumption))))
  have k1 : ∀ w', Below W.heap.size W w' → w'.cell? ⟨w.heap.size, 0, none⟩ = some (.int .i64 a1 : Value) := fun w' hbw => (hbw.cell (p := ⟨w.heap.size, 0, none⟩) (by rw [hW]; simp <;> omega)).trans (by rw [hW]; go_simp)
  have k2 : ∀ w', Below W.heap.size W w' → w'.cell? ⟨w.heap.size, 1, none⟩ = some (.int .i64 a2 : Value) := fun w' hbw => (hbw.cell (p := ⟨w.heap.size, 1, none⟩) (by rw [hW]; simp <;> omega)).trans (by rw [hW]; go_simp)
  have k3 : ∀ w', Below W.heap.size W w' → w'.cell? ⟨w.heap.size, 2, none⟩ = some (.int .i64 ai : Value) := fun w' hbw => (hbw.cell (p := ⟨w.heap.size, 2, none⟩) (by rw [hW]; simp <;> omega)).trans (by rw [hW]; go_simp)
  have k4 : ∀ w', Below W.heap.size W w' → w'.cell? ⟨w.heap.size + 1, 0, none⟩ = some (.int .i64 b1 : Value) := fun w' hbw => (hbw.cell (p := ⟨w.heap.size + 1, 0, none⟩) (by rw [hW]; simp <;> omega)).trans (by rw [hW]; go_simp)
  have k5 : ∀ w', Below W.heap.size W w' → w'.cell? ⟨w.heap.size + 1, 1, none⟩ = some (.int .i64 b2 : Value) := fun w' hbw => (hbw.cell (p := ⟨w.heap.size + 1, 1, none⟩) (by rw [hW]; simp <;> omega)).trans (by rw [hW]; go_simp)
  have k6 : ∀ w', Below W.heap.size W w' → w'.cell? ⟨w.heap.size + 1, 2, none⟩ = some (.int .i64 bi : Value) := fun w' hbw => (hbw.cell (p := ⟨w.heap.size + 1, 2, none⟩) (by rw [hW]; simp <;> omega)).trans (by rw [hW]; go_simp)
  clear hW
  have HB := Below.refl W.heap.size W
  go_wp2_with fail
  (with_reducible refine (cC.out _).mono ?_)
  rintro e w1 ⟨rfl, HB⟩
  go_wp2
  all_goals
    go_ret
    refine ⟨ret_b ?_, bel_trans HW HB⟩
    rw [Ht.out]
    first
    | exact (decide_eq_true (by omega)).symm
    | exact (decide_eq_false (by omega)).symm
    | exact decide_eq_decide.2 (by omega)
/-- block b is a row of room for cap items, of which the first n are c 0, c 1, .. -/
def ItemsIn (w : World) (b cap n : Nat) (c : Nat → It) : Prop :=
  n ≤ cap ∧ cap ≤ maxLen ∧ ∃ cur, w.heap[b]? = some (.cells cur 176 (0, 0)) ∧ cur.size = cap * 3 ∧ ∀ k, k < n → cur[k * 3]? = some (.int .i64 (c k).c.s) ∧ cur[k * 3 + 1]? = some (.int .i64 (c k).c.d) ∧ cur[k * 3 + 2]? = some (.int .i64 (c k).id)
theorem ItemsIn.lt {w : World} {b cap n : Nat} {c : Nat → It} (h : ItemsIn w b cap n c) : b < w.heap.size := by
  obtain ⟨_, _, cur, hb, _⟩ := h
  exact (Array.getElem?_eq_some_iff.1 hb).1
theorem ItemsIn.kept {S : List Nat} {w w' : World} {b cap n : Nat} {c : Nat → It} (h : ItemsIn w b cap n c) (hk : Kept S w w') (hb : b ∉ S) : ItemsIn w' b cap n c := by
  have hl := h.lt
  obtain ⟨h1, h2, cur, h3, h4⟩ := h
  exact ⟨h1, h2, cur, (hk.block b hl hb).trans h3, h4⟩
theorem ItemsIn.below {w w' : World} {b cap n : Nat} {c : Nat → It} (h : ItemsIn w b cap n c) (hb : Below w.heap.size w w') : ItemsIn w' b cap n c := h.kept (S := []) (.of_below hb) (by simp)
theorem ItemsIn.cells {w : World} {b cap n : Nat} {c : Nat → It} (h : ItemsIn w b cap n c) {k : Nat} (hk : k < n) :
    w.cell? ⟨b, k * 3, none⟩ = some (.int .i64 (c k).c.s) ∧ w.cell? ⟨b, k * 3 + 1, none⟩ = some (.int .i64 (c k).c.d) ∧ w.cell? ⟨b, k * 3 + 2, none⟩ = some (.int .i64 (c k).id) := by
  obtain ⟨h1, h2, cur, h3, h4, h5⟩ := h
  obtain ⟨a1, a2, a3⟩ := h5 k hk
  refine ⟨?_, ?_, ?_⟩ <;> simp only [World.cell?, h3] <;> simpa using by assumption
theorem ItemsIn.frozen {w : World} {b cap n : Nat} {c : Nat → It} (h : ItemsIn w b cap n c) (k : Nat) : w.frozen? ⟨b, k, none⟩ = false := by
  obtain ⟨h1, h2, cur, h3, h4, h5⟩ := h
  simp [World.frozen?, h3]
theorem set_heapH (w : World) (p k : Nat) (cs : Array Value) (T : TypeId) (x : Value) (h : w.heap[p]? = some (.cells cs T (0, 0))) : (w.setCell ⟨p, k, none⟩ x).heap[p]? = some (.cells (cs.setIfInBounds k x) T (0, 0)) := by
  simp [World.setCell, Array.getElem?_modify, h]
theorem ItemsIn.set {w : World} {b cap n : Nat} {c : Nat → It} (h : ItemsIn w b cap n c) {i : Nat} (hi : i < n) (x : It) :
    ItemsIn (((w.setCell ⟨b, i * 3, none⟩ (.int .i64 x.c.s)).setCell ⟨b, i * 3 + 1, none⟩ (.int .i64 x.c.d)).setCell ⟨b, i * 3 + 2, none⟩ (.int .i64 x.id)) b cap n (upd c i x) := by
  obtain ⟨h1, h2, cur, h3, h4, h5⟩ := h
  refine ⟨h1, h2, _, set_heapH _ _ _ _ _ _ (set_heapH _ _ _ _ _ _ (set_heapH _ _ _ _ _ _ h3)), by simp [h4], ?_⟩
  intro k hk
  obtain ⟨a1, a2, a3⟩ := h5 k hk
  by_cases e : k = i
  · subst e
    simp only [Array.getElem?_setIfInBounds, Array.size_setIfInBounds, upd]
    simp
    omega
  · simp only [Array.getElem?_setIfInBounds, upd, if_neg e]
    rw [if_neg (by omega), if_neg (by omega), if_neg (by omega), if_neg (by omega), if_neg (by omega), if_neg (by omega), if_neg (by omega), if_neg (by omega), if_neg (by omega)]
    exact ⟨a1, a2, a3⟩
/-- block b is a heap whose row lies in block rb and whose map lies in block mb -/
def HeapIn (w : World) (b rb cap n mb : Nat) (c : Nat → It) : Prop := w.heap[b]? = some (.cells #[.slice (some ⟨rb, 0, none⟩) n cap, .map (some mb)] 173 (0, 0)) ∧ ItemsIn w rb cap n c
theorem Kept.wid {S T : List Nat} {a b : World} (h : Kept S a b) (hs : ∀ k ∈ S, k ∈ T) : Kept T a b := ⟨h.os, h.tape, h.output, h.size, fun k hk hn => h.block k hk fun hm => hn (hs k hm)⟩
theorem keptBelow {S : List Nat} {a b : World} (h : Below a.heap.size a b) : Kept S a b := Kept.of_below h
theorem Kept.trans2 {S : List Nat} {a b c : World} (h : Kept S a b) (k : Kept S b c) : Kept S a c := h.trans k
set_option maxRecDepth 100000 in
set_option maxHeartbeats 800000 in
theorem heapPut (w : World) (b rb cap n mb N : Nat) (c : Nat → It) (m : Int → Option Value) (i : Nat) (x : It) (h : HeapIn w b rb cap n mb c) (hm : MapAt (fun z : Int => Value.int .i64 z) w mb m N) (hi : i < n) (h1 : b ≠ rb) (h2 : b ≠ mb) (h3 : rb ≠ mb) :
    Calls Tryz.prog 117 #[.pointer (some ⟨b, 0, none⟩), .int .i64 i, .agg #[.int .i64 x.c.s, .int .i64 x.c.d, .int .i64 x.id]] w fun e w' => e = .returned (.tuple #[]) ∧ HeapIn w' b rb cap n mb (upd c i x) ∧ (∃ N, MapAt (fun z : Int => Value.int .i64 z) w' mb (updK m x.id (some (.int .i64 i))) N) ∧ Kept [rb, mb] w w' := by
  obtain ⟨⟨xs, xd⟩, xi⟩ := x
  simp only at *
  obtain ⟨hb, hR⟩ := h
  have kl0 := hR.lt
  have kl1 := hm.lt
  have kl2 : b < w.heap.size := (Array.getElem?_eq_some_iff.1 hb).1
  go_enter Tryz.func117, Tryz.ntmps117
  go_upto_region 1 with (fail)
  refine wp_name ?_
  intro W hW
  have HW : Below w.heap.size w W := by rw [hW]; (repeat' (first | exact Below.refl _ _ | assumption | apply bel_drewN | apply bel_drew | apply bel_alloc | (refine bel_trans ?_ (by assumption))))
  have hW0 : w.heap.size < W.heap.size := by rw [hW]; simp
  have k1 : W.cell? ⟨w.heap.size, 0, none⟩ = some (.int .i64 xs) := by rw [hW]; go_simp
  have k2 : W.cell? ⟨w.heap.size, 1, none⟩ = some (.int .i64 xd) := by rw [hW]; go_simp
  have k3 : W.cell? ⟨w.heap.size, 2, none⟩ = some (.int .i64 xi) := by rw [hW]; go_simp
  clear hW
  have hR1 := hR.below HW
  have hm1 := hm.below HW
  have hb1 := (HW.block b kl2).trans hb
  have kb0 : W.cell? ⟨b, 0, none⟩ = some (.slice (some ⟨rb, 0, none⟩) n cap) := by simp [World.cell?, hb1]
  have kb1 : W.cell? ⟨b, 1, none⟩ = some (.map (some mb)) := by simp [World.cell?, hb1]
  have hcap := hR1.1
  have kf0 := hR1.frozen (i * 3)
  have kf1 := hR1.frozen (i * 3 + 1)
  have kf2 := hR1.frozen (i * 3 + 2)
  obtain ⟨c1, c2, c3⟩ := hR1.cells hi
  go_wp2
  go_still_tail 7, (by kernel_rfl)
  change wpList _ _ _ _ _ W.drew
  have Hd : Below w.heap.size w W.drew := bel_drew HW
  have hR2 : ItemsIn W.drew rb cap n c := hR1
  have hm2 : MapAt (fun z : Int => Value.int .i64 z) W.drew mb m N := hm1
  have hb2 : W.drew.heap[b]? = some (.cells #[.slice (some ⟨rb, 0, none⟩) n cap, .map (some mb)] 173 (0, 0)) := hb1
  have k4 : W.drew.cell? ⟨w.heap.size, 2, none⟩ = some (.int .i64 xi) := k3
  have kf0 := hR2.frozen (i * 3)
  have kf1 := hR2.frozen (i * 3 + 1)
  have kf2 := hR2.frozen (i * 3 + 2)
  obtain ⟨c1, c2, c3⟩ := hR2.cells hi
  have hlt2 : w.heap.size < W.drew.heap.size := by have := hW0; simpa using this
  clear k1 k2 k3 kb0 kb1
  generalize W.drew = w2 at *
  go_wp2
  have hR3 := hR2.set hi ⟨⟨xs, xd⟩, xi⟩
  have hK3 : Kept [rb] w2 (((w2.setCell ⟨rb, i * 3, none⟩ (.int .i64 xs)).setCell ⟨rb, i * 3 + 1, none⟩ (.int .i64 xd)).setCell ⟨rb, i * 3 + 2, none⟩ (.int .i64 xi)) := (((Kept.refl _ _).setCell (.inl (by simp))).setCell (.inl (by simp))).setCell (.inl (by simp))
  simp only at hR3
  generalize ((w2.setCell ⟨rb, i * 3, none⟩ (.int .i64 xs)).setCell ⟨rb, i * 3 + 1, none⟩ (.int .i64 xd)).setCell ⟨rb, i * 3 + 2, none⟩ (.int .i64 xi) = w3 at *
  have hs2 : w.heap.size < w2.heap.size := hlt2
  have hb3 := (hK3.block b (by omega) (by simpa using h1)).trans hb2
  have hm3 := hm2.kept hK3 (by simpa using Ne.symm h3)
  have kb0 : w3.cell? ⟨b, 0, none⟩ = some (.slice (some ⟨rb, 0, none⟩) n cap) := by simp [World.cell?, hb3]
  have kb1 : w3.cell? ⟨b, 1, none⟩ = some (.map (some mb)) := by simp [World.cell?, hb3]
  have k5 : w3.cell? ⟨w.heap.size, 2, none⟩ = some (.int .i64 xi) := by
    have := hK3.block w.heap.size hs2 (by simp; omega)
    simpa [World.cell?, this] using k4
  clear hR2 hm2 hb2 k4 kf0 kf1 kf2 c1 c2 c3
  go_still_tail 7, (by kernel_rfl)
  change wpList _ _ _ _ _ w3.drew
  have hm4 : MapAt (fun z : Int => Value.int .i64 z) w3.drew mb m N := hm3
  have hb4 : w3.drew.heap[b]? = some (.cells #[.slice (some ⟨rb, 0, none⟩) n cap, .map (some mb)] 173 (0, 0)) := hb3
  have hR4 : ItemsIn w3.drew rb cap n (upd c i ⟨⟨xs, xd⟩, xi⟩) := hR3
  have hd4 : Below w3.heap.size w3 w3.drew := (Below.refl _ _).drew
  clear hm3 hb3 hR3 kb0 kb1 k5
  generalize w3.drew = w4 at *
  refine wpList_storeM rfl _ _ _ rfl (int_fit Tryz.underlying3) Tryz.underlying53 hm4 rfl xi rfl (.int .i64 i) rfl ?_
  intro w5 hm5 hk5
  go_wp2
  go_end0
  refine ⟨rfl, ⟨?_, ?_⟩, ⟨_, hm5⟩, ?_⟩
  · exact (hk5.block b (Array.getElem?_eq_some_iff.1 hb4).1 (by simpa using h2)).trans hb4
  · exact hR4.kept hk5 (by simpa using h3)
  · exact (keptBelow Hd).trans2 ((hK3.wid (by simp)).trans ((Kept.of_below hd4).trans (hk5.wid (by simp))))
end Go.Proofs.YtjejkadaafmdcaaGreat
/- What a heap holds; how many; its cost of a number. -/
namespace Go.Proofs.YtjejkadaafmdcaaGreat
open Go.RowKit Go.Sort FR
/-- the map of places agrees with the row -/
def PosMap (n : Nat) (c : Nat → It) (m : Int → Option Value) : Prop := ∀ z v, m z = some v ↔ ∃ k, k < n ∧ v = .int .i64 (k : Nat) ∧ (c k).id = z
/-- the row of a heap: none as yet, or a block of items -/
def RowOk (w : World) (b mb : Nat) (sl : Value) (n : Nat) (c : Nat → It) (S : List Nat) : Prop :=
  (sl = .slice none 0 0 ∧ n = 0 ∧ S = [b, mb]) ∨ ∃ rb cap, sl = .slice (some ⟨rb, 0, none⟩) n cap ∧ ItemsIn w rb cap n c ∧ b ≠ rb ∧ rb ≠ mb ∧ S = [b, rb, mb]
/-- block b is a heap that holds hp; S: the blocks of its own -/
def HeapOf (w : World) (S : List Nat) (b n : Nat) (hp : Int → Option C) : Prop :=
  ∃ mb m N c sl, w.heap[b]? = some (.cells #[sl, .map (some mb)] 173 (0, 0)) ∧ MapAt (fun z : Int => Value.int .i64 z) w mb m N ∧ b ≠ mb ∧ RowOk w b mb sl n c S ∧ PosMap n c m ∧ Holds n c hp ∧ Dst n c ∧ HeapL n c ∧ ∀ z d, hp z = some d → inCC d
/-- the places agree but for one number's -/
def PosBut (n : Nat) (g : Nat → It) (m : Int → Option Value) (i : Int) : Prop := ∀ z v, z ≠ i → (m z = some v ↔ ∃ k, k < n ∧ v = .int .i64 (k : Nat) ∧ (g k).id = z)
/-- a row with a hole at j, which x is to fill -/
structure HoleAt (w0 w : World) (b rb cap n mb : Nat) (x : It) (j : Nat) (c0 : Nat → It) (c : Nat → It) (m : Int → Option Value) (N : Nat) : Prop where
  lt : j < n
  here : HeapIn w b rb cap n mb c
  map : MapAt (fun z : Int => Value.int .i64 z) w mb m N
  cc : ∀ k, k < n → inCC (upd c j x k).c
  dst : Dst n (upd c j x)
  pos : PosBut n (upd c j x) m x.id
  same : ∀ y, (∃ k, k < n ∧ upd c j x k = y) ↔ ∃ k, k < n ∧ c0 k = y
  kept : Kept [rb, mb] w0 w
theorem upd_self (c : Nat → It) (i : Nat) : upd c i (c i) = c := by
  funext k; unfold upd; split <;> simp_all
theorem PosBut.fill {n : Nat} {g : Nat → It} {m : Int → Option Value} {x : It} {j : Nat} (h : PosBut n g m x.id) (hj : j < n) (hg : g j = x) (hD : Dst n g) : PosMap n g (updK m x.id (some (.int .i64 (j : Nat)))) := by
  intro z v
  unfold updK
  by_cases e : z = x.id
  · rw [if_pos e]
    constructor
    · intro h'; injection h' with h'; exact ⟨j, hj, h'.symm, by rw [hg, e]⟩
    · rintro ⟨k, hk, rfl, hk'⟩
      rw [hD k j hk hj (by rw [hk', hg, e])]
  · rw [if_neg e]; exact h z v e
theorem move_row {c : Nat → It} {x : It} {j k : Nat} (hjk : j ≠ k) : upd (upd c j (c k)) k x = swp (upd c j x) j k := by
  funext i
  rw [swp_at]
  unfold upd
  by_cases h1 : i = k
  · subst h1; simp
  · by_cases h2 : i = j
    · subst h2; simp [h1, Ne.symm hjk]
    · simp [h1, h2]
theorem PosBut.move {n : Nat} {g : Nat → It} {m : Int → Option Value} {x y : It} {j k : Nat} (h : PosBut n g m x.id) (hj : j < n) (hk : k < n) (hjk : j ≠ k) (hg : g j = x) (hy : g k = y) (hD : Dst n g) :
    PosBut n (swp g j k) (updK m y.id (some (.int .i64 (j : Nat)))) x.id := by
  intro z v hz
  unfold updK
  have hD' := swp_dst hj hk hD
  have e1 : swp g j k j = y := by rw [swp_at, if_neg hjk, if_pos rfl, hy]
  have e2 : swp g j k k = x := by rw [swp_at, if_pos rfl, hg]
  by_cases e : z = y.id
  · rw [if_pos e]
    constructor
    · intro h'; injection h' with h'; exact ⟨j, hj, h'.symm, by rw [e1, e]⟩
    · rintro ⟨k', hk', rfl, hk2⟩
      rw [hD' k' j hk' hj (by rw [hk2, e1, e])]
  · rw [if_neg e, h z v hz]
    constructor
    · rintro ⟨k', hk', rfl, hk2⟩
      refine ⟨k', hk', rfl, ?_⟩
      rw [swp_at, if_neg (by rintro rfl; rw [hy] at hk2; exact e hk2.symm), if_neg (by rintro rfl; rw [hg] at hk2; exact hz hk2.symm)]
      exact hk2
    · rintro ⟨k', hk', rfl, hk2⟩
      have n1 : k' ≠ k := by rintro rfl; rw [e2] at hk2; exact hz hk2.symm
      have n2 : k' ≠ j := by rintro rfl; rw [e1] at hk2; exact e hk2.symm
      rw [swp_at, if_neg n1, if_neg n2] at hk2
      exact ⟨k', hk', rfl, hk2⟩
theorem HoleAt.move {w0 w w' : World} {b rb cap n mb : Nat} {x : It} {j k : Nat} {c0 c : Nat → It} {m : Int → Option Value} {N N' : Nat} (h : HoleAt w0 w b rb cap n mb x j c0 c m N) (hk : k < n) (hjk : j ≠ k)
    (h1 : HeapIn w' b rb cap n mb (upd c j (c k))) (h2 : MapAt (fun z : Int => Value.int .i64 z) w' mb (updK m (c k).id (some (.int .i64 (j : Nat)))) N') (h3 : Kept [rb, mb] w w') :
    HoleAt w0 w' b rb cap n mb x k c0 (upd c j (c k)) (updK m (c k).id (some (.int .i64 (j : Nat)))) N' := by
  have hj := h.lt
  have e1 : upd c j x k = c k := by unfold upd; rw [if_neg (Ne.symm hjk)]
  have e2 : upd c j x j = x := by unfold upd; rw [if_pos rfl]
  refine ⟨hk, h1, h2, ?_, ?_, ?_, ?_, h.kept.trans h3⟩
  · intro i hi
    rw [move_row hjk, swp_at]
    split
    · exact h.cc j hj
    · split
      · exact h.cc k hk
      · exact h.cc i hi
  · rw [move_row hjk]; exact swp_dst hj hk h.dst
  · rw [move_row hjk]; exact h.pos.move hj hk hjk e2 e1 h.dst
  · intro y; rw [move_row hjk, swp_inv hj hk]; exact h.same y
theorem HoleAt.start {w0 : World} {b rb cap n mb : Nat} {j : Nat} {c : Nat → It} {m : Int → Option Value} {N : Nat} (hj : j < n) (h1 : HeapIn w0 b rb cap n mb c) (h2 : MapAt (fun z : Int => Value.int .i64 z) w0 mb m N)
    (hC : ∀ k, k < n → inCC (c k).c) (hD : Dst n c) (hP : PosBut n c m (c j).id) : HoleAt w0 w0 b rb cap n mb (c j) j c c m N :=
  ⟨hj, h1, h2, by rw [upd_self]; exact hC, by rw [upd_self]; exact hD, by rw [upd_self]; exact hP, by rw [upd_self]; exact fun _ => Iff.rfl, Kept.refl _ _⟩
/-- the hole filled: what put makes of it -/
def Filled (w0 w : World) (b rb cap n mb : Nat) (c0 : Nat → It) : Prop := ∃ c m N, HeapIn w b rb cap n mb c ∧ MapAt (fun z : Int => Value.int .i64 z) w mb m N ∧ HeapL n c ∧ Dst n c ∧ PosMap n c m ∧ (∀ y, (∃ k, k < n ∧ c k = y) ↔ ∃ k, k < n ∧ c0 k = y) ∧ Kept [rb, mb] w0 w
theorem HoleAt.fill {w0 w w' : World} {b rb cap n mb : Nat} {x : It} {j : Nat} {c0 c : Nat → It} {m : Int → Option Value} {N N' : Nat} (h : HoleAt w0 w b rb cap n mb x j c0 c m N) (hL : HeapL n (upd c j x))
    (h1 : HeapIn w' b rb cap n mb (upd c j x)) (h2 : MapAt (fun z : Int => Value.int .i64 z) w' mb (updK m x.id (some (.int .i64 (j : Nat)))) N') (h3 : Kept [rb, mb] w w') : Filled w0 w' b rb cap n mb c0 :=
  ⟨_, _, _, h1, h2, hL, h.dst, h.pos.fill h.lt (by unfold upd; rw [if_pos rfl]) h.dst, h.same, h.kept.trans h3⟩
end Go.Proofs.YtjejkadaafmdcaaGreat
/- Up and down. -/
namespace Go.Proofs.YtjejkadaafmdcaaGreat
open Go.RowKit Go.Sort FR
theorem HeapIn.below {w w' : World} {b rb cap n mb : Nat} {c : Nat → It} (h : HeapIn w b rb cap n mb c) (hb : Below w.heap.size w w') : HeapIn w' b rb cap n mb c :=
  ⟨(hb.block b (Array.getElem?_eq_some_iff.1 h.1).1).trans h.1, h.2.below hb⟩
theorem HoleAt.on {w0 w w' : World} {b rb cap n mb : Nat} {x : It} {j : Nat} {c0 c : Nat → It} {m : Int → Option Value} {N : Nat} (h : HoleAt w0 w b rb cap n mb x j c0 c m N) (hb : Below w.heap.size w w') : HoleAt w0 w' b rb cap n mb x j c0 c m N :=
  ⟨h.lt, h.here.below hb, h.map.below hb, h.cc, h.dst, h.pos, h.same, h.kept.trans (Kept.of_below hb)⟩
theorem par_int (j : Nat) (h : 0 < j) : ((j : Int) - 1).tdiv 2 = (par j : Nat) := by
  rw [Int.tdiv_eq_ediv_of_nonneg (by omega)]; unfold par; omega
set_option maxRecDepth 100000 in
set_option maxHeartbeats 1600000 in
theorem heapUp (w : World) (b rb cap n mb N : Nat) (c : Nat → It) (m : Int → Option Value) (i : Nat) (h : HeapIn w b rb cap n mb c) (hm : MapAt (fun z : Int => Value.int .i64 z) w mb m N) (hi : i < n) (h1 : b ≠ rb) (h2 : b ≠ mb) (h3 : rb ≠ mb)
    (hC : ∀ k, k < n → inCC (c k).c) (hU : HeapUp n c i) (hD : Dst n c) (hP : PosBut n c m (c i).id) :
    Calls Tryz.prog 136 #[.pointer (some ⟨b, 0, none⟩), .int .i64 i] w fun e w' => e = .returned (.tuple #[]) ∧ Filled w w' b rb cap n mb c := by
  have hS := HoleAt.start hi h hm hC hD hP
  obtain ⟨hb, hR⟩ := h
  have hcap := hR.1
  have kl2 : b < w.heap.size := (Array.getElem?_eq_some_iff.1 hb).1
  have kl1 := hm.lt
  have kl0 := hR.lt
  have kb0 : w.cell? ⟨b, 0, none⟩ = some (.slice (some ⟨rb, 0, none⟩) n cap) := by simp [World.cell?, hb]
  obtain ⟨⟨⟨xs, xd⟩, xi⟩, hx⟩ : ∃ x, c i = x := ⟨_, rfl⟩
  obtain ⟨c1, c2, c3⟩ := hR.cells hi
  have hU' : HeapUp n (upd c i (c i)) i := by rw [upd_self]; exact hU
  rw [hx] at c1 c2 c3 hS hU'
  simp only at c1 c2 c3
  have hS := Lib.hid hS
  have hU' := Lib.hid hU'
  clear hx hb hR hC hU hD hP hm
  go_enter Tryz.func136, Tryz.ntmps136
  go_upto_region 1 with (fail)
  refine wp_name ?_
  intro W hW
  have HW : Below w.heap.size w W := by rw [hW]; (repeat' (first | exact Below.refl _ _ | assumption | apply bel_drewN | apply bel_drew | apply bel_alloc | (refine bel_trans ?_ (by assumption))))
  have hbox : W.heap[w.heap.size]? = some (.cells #[.int .i64 xs, .int .i64 xd, .int .i64 xi] 176 (0, 0)) := by rw [hW]; exact heap_alloc_new _ _
  clear hW c1 c2 c3 kb0
  go_loopw [1] (fun iv wr => ∃ (j : Nat) (c' : Nat → It) (m' : Int → Option Value) (N' : Nat), iv = .int .i64 j ∧ HoleAt w wr b rb cap n mb ⟨⟨xs, xd⟩, xi⟩ j c c' m' N' ∧ HeapUp n (upd c' j ⟨⟨xs, xd⟩, xi⟩) j ∧ wr.heap[w.heap.size]? = some (.cells #[.int .i64 xs, .int .i64 xd, .int .i64 xi] 176 (0, 0))) (fun iv _ => (intOf iv).toNat)
  case atStart => exact ⟨i, c, m, N, rfl, hS.out.on HW, hU'.out, hbox⟩
  case round =>
    obtain ⟨j, c', m', N', rfl, hH, hUp, hbx⟩ := hrel
    have hbr := hH.here.1
    have kb0 : wr.cell? ⟨b, 0, none⟩ = some (.slice (some ⟨rb, 0, none⟩) n cap) := by simp [World.cell?, hbr]
    have x1 : wr.cell? ⟨w.heap.size, 0, none⟩ = some (.int .i64 xs) := by simp [World.cell?, hbx]
    have x2 : wr.cell? ⟨w.heap.size, 1, none⟩ = some (.int .i64 xd) := by simp [World.cell?, hbx]
    have x3 : wr.cell? ⟨w.heap.size, 2, none⟩ = some (.int .i64 xi) := by simp [World.cell?, hbx]
    have hjn := hH.lt
    have HB := Below.refl wr.heap.size wr
    have hH' := Lib.hid hH
    have hUp' := Lib.hid hUp
    clear hH hUp hbr
    by_cases hj0 : j = 0
    · subst hj0
      go_upto_region 1 with (fail)
      refine wp_region_quiet_below (by kernel_rfl) (by kernel_rfl) ?_
      repeat (first | go_big_quiet_step (fail) | quiet_step (fail))
      refine wpQuiet_nil ?_
      intro _ hw'
      obtain ⟨⟨dq, osq⟩, hw''⟩ := hw'
      have HB2 := bel_trans HB (below_regrown wr dq osq)
      have hb2 := below_regrown wr dq osq
      subst hw''
      generalize grow (redrawn wr dq) osq = w2 at HB2 hb2 ⊢
      have kx1 := (HB2.cell (by exact (Array.getElem?_eq_some_iff.1 hbx).1)).trans x1
      have kx2 := (HB2.cell (by exact (Array.getElem?_eq_some_iff.1 hbx).1)).trans x2
      have kx3 := (HB2.cell (by exact (Array.getElem?_eq_some_iff.1 hbx).1)).trans x3
      go_wp2_with fail
      refine (heapPut w2 b rb cap n mb N' c' m' 0 ⟨⟨xs, xd⟩, xi⟩ (hH'.out.here.below HB2) (hH'.out.map.below HB2) hjn h1 h2 h3).mono ?_
      rintro e w3 ⟨rfl, hI, ⟨N2, hM⟩, hK⟩
      have hF := (hH'.out.on HB2).fill (up_end hUp'.out (.inl rfl)) hI hM hK
      clear hI hM hK
      go_wp2
      go_end0
      exact ⟨rfl, hF⟩
    · obtain ⟨p, hp⟩ : ∃ p, par j = p := ⟨_, rfl⟩
      have hpj : p < j := by rw [← hp]; exact par_lt (by omega)
      have hq : ((j : Int) - 1).tdiv 2 = (p : Nat) := by rw [← hp]; exact par_int j (by omega)
      have hpn : p < n := by omega
      obtain ⟨r1, r2, r3⟩ := hH'.out.here.2.cells hpn
      obtain ⟨⟨⟨ys, yd⟩, yi⟩, hy⟩ : ∃ y, c' p = y := ⟨_, rfl⟩
      have icc := hH'.out.cc p hpn
      have jcc := hH'.out.cc j hjn
      have e1 : upd c' j ⟨⟨xs, xd⟩, xi⟩ p = ⟨⟨ys, yd⟩, yi⟩ := by unfold upd; rw [if_neg (by omega), hy]
      have e2 : upd c' j ⟨⟨xs, xd⟩, xi⟩ j = ⟨⟨xs, xd⟩, xi⟩ := by unfold upd; rw [if_pos rfl]
      rw [e1] at icc
      rw [e2] at jcc
      rw [hy] at r1 r2 r3
      simp only at r1 r2 r3
      obtain ⟨t, ht⟩ : ∃ t, decide (It.lt ⟨⟨xs, xd⟩, xi⟩ ⟨⟨ys, yd⟩, yi⟩) = t := ⟨_, rfl⟩
      have cL := Lib.hid (heapLess ⟨⟨xs, xd⟩, xi⟩ ⟨⟨ys, yd⟩, yi⟩ t ht jcc icc)
      have Ht := Lib.hid ht
      have He := Lib.hid (And.intro e1 e2)
      have Hy := Lib.hid hy
      have Hp := Lib.hid hp
      have hj1 : decide ((0 : Int) < (j : Int)) = true := by simp; omega
      have hj2 : decide (0 < j) = true := by simp; omega
      have hj3 : 0 < j := by omega
      have hjb : (j : Int) ≤ 9223372036854775807 := by have := hcap; have hm := hH'.out.here.2.2.1; unfold maxLen at hm; omega
      clear ht e1 e2 hy icc jcc hp
      have x1q := cell_regrown x1
      have x2q := cell_regrown x2
      have x3q := cell_regrown x3
      have kb0q := cell_regrown kb0
      have r1q := cell_regrown r1
      have r2q := cell_regrown r2
      have r3q := cell_regrown r3
      go_upto_region 1 with (fail)
      refine wp_region_quiet_below (by kernel_rfl) (by kernel_rfl) ?_
      repeat (first | go_big_quiet_step (with_reducible exact Calls.regrown_of (cL.out _)) | quiet_step (with_reducible exact Calls.regrown_of (cL.out _)))
      refine wpQuiet_nil ?_
      intro _ hw'
      obtain ⟨⟨dq, osq⟩, hw''⟩ := hw'
      have HB2 := bel_trans HB (below_regrown wr dq osq)
      have hb2 := below_regrown wr dq osq
      subst hw''
      generalize grow (redrawn wr dq) osq = w2 at HB2 hb2 ⊢
      have l1 : w.heap.size < wr.heap.size := (Array.getElem?_eq_some_iff.1 hbx).1
      have l2 : b < wr.heap.size := (Array.getElem?_eq_some_iff.1 hH'.out.here.1).1
      have l3 : rb < wr.heap.size := hH'.out.here.2.lt
      have kx1 := (HB2.cell (by exact l1)).trans x1
      have kx2 := (HB2.cell (by exact l1)).trans x2
      have kx3 := (HB2.cell (by exact l1)).trans x3
      have kbb := (HB2.cell (by exact l2)).trans kb0
      have kr1 := (HB2.cell (by exact l3)).trans r1
      have kr2 := (HB2.cell (by exact l3)).trans r2
      have kr3 := (HB2.cell (by exact l3)).trans r3
      have hH2 := Lib.hid (hH'.out.on HB2)
      have hbx2 := (HB2.block _ l1).trans hbx
      clear x1 x2 x3 kb0 r1 r2 r3 x1q x2q x3q kb0q r1q r2q r3q hb2 hbx
      cases t with
      | false =>
        go_wp2_with fail
        refine (heapPut w2 b rb cap n mb N' c' m' j ⟨⟨xs, xd⟩, xi⟩ hH2.out.here hH2.out.map hjn h1 h2 h3).mono ?_
        rintro e w3 ⟨rfl, hI, ⟨N2, hM⟩, hK⟩
        have hF := hH2.out.fill (up_end hUp'.out (.inr (by rw [Hp.out, He.out.1, He.out.2]; exact of_decide_eq_false Ht.out))) hI hM hK
        clear hI hM hK
        go_wp2
        go_end0
        exact ⟨rfl, hF⟩
      | true =>
        go_wp2_with fail
        refine (heapPut w2 b rb cap n mb N' c' m' j ⟨⟨ys, yd⟩, yi⟩ hH2.out.here hH2.out.map hjn h1 h2 h3).mono ?_
        rintro e w3 ⟨rfl, hI, ⟨N2, hM⟩, hK⟩
        have hI' : HeapIn w3 b rb cap n mb (upd c' j (c' p)) := by rw [Hy.out]; exact hI
        have hM' : MapAt (fun z : Int => Value.int .i64 z) w3 mb (updK m' (c' p).id (some (.int .i64 (j : Nat)))) N2 := by rw [Hy.out]; exact hM
        have hN := Lib.hid (hH2.out.move hpn (by omega) hI' hM' hK)
        have hV : HeapUp n (upd (upd c' j (c' p)) p ⟨⟨xs, xd⟩, xi⟩) p := by
          rw [move_row (by omega)]
          have := up_step hjn (by omega) hUp'.out (by rw [Hp.out, He.out.1, He.out.2]; exact of_decide_eq_true Ht.out)
          rw [Hp.out] at this; exact this
        have hV := Lib.hid hV
        have hbx3 := (hK.block w.heap.size (by have := HB2.size; omega) (by simp; omega)).trans hbx2
        clear hI hM hK hI' hM' kx1 kx2 kx3 kbb kr1 kr2 kr3 hbx2
        go_wp2
        go_roundw
        case rel => exact ⟨p, _, _, _, rfl, hN.out, hV.out, hbx3⟩
        case measure => simp [intOf]; omega
end Go.Proofs.YtjejkadaafmdcaaGreat
/- Down. -/
namespace Go.Proofs.YtjejkadaafmdcaaGreat
open Go.RowKit Go.Sort FR
set_option maxRecDepth 100000 in
set_option maxHeartbeats 1600000 in
theorem heapDown (w : World) (b rb cap n mb N : Nat) (c : Nat → It) (m : Int → Option Value) (i : Nat) (h : HeapIn w b rb cap n mb c) (hm : MapAt (fun z : Int => Value.int .i64 z) w mb m N) (hi : i < n) (hn : n ≤ 1099511627776) (h1 : b ≠ rb) (h2 : b ≠ mb) (h3 : rb ≠ mb)
    (hC : ∀ k, k < n → inCC (c k).c) (hU : HeapDn n c i) (hD : Dst n c) (hP : PosBut n c m (c i).id) :
    Calls Tryz.prog 118 #[.pointer (some ⟨b, 0, none⟩), .int .i64 i] w fun e w' => e = .returned (.tuple #[]) ∧ Filled w w' b rb cap n mb c := by
  have hS := HoleAt.start hi h hm hC hD hP
  obtain ⟨hb, hR⟩ := h
  have hcap := hR.1
  have kl2 : b < w.heap.size := (Array.getElem?_eq_some_iff.1 hb).1
  have kl1 := hm.lt
  have kl0 := hR.lt
  have kb0 : w.cell? ⟨b, 0, none⟩ = some (.slice (some ⟨rb, 0, none⟩) n cap) := by simp [World.cell?, hb]
  obtain ⟨⟨⟨xs, xd⟩, xi⟩, hx⟩ : ∃ x, c i = x := ⟨_, rfl⟩
  obtain ⟨c1, c2, c3⟩ := hR.cells hi
  have hU' : HeapDn n (upd c i (c i)) i := by rw [upd_self]; exact hU
  rw [hx] at c1 c2 c3 hS hU'
  simp only at c1 c2 c3
  have hS := Lib.hid hS
  have hU' := Lib.hid hU'
  clear hx hb hR hC hU hD hP hm
  go_enter Tryz.func118, Tryz.ntmps118
  go_upto_region 1 with (fail)
  refine wp_name ?_
  intro W hW
  have HW : Below w.heap.size w W := by rw [hW]; (repeat' (first | exact Below.refl _ _ | assumption | apply bel_drewN | apply bel_drew | apply bel_alloc | (refine bel_trans ?_ (by assumption))))
  have hbox : W.heap[w.heap.size]? = some (.cells #[.int .i64 xs, .int .i64 xd, .int .i64 xi] 176 (0, 0)) := by rw [hW]; exact heap_alloc_new _ _
  clear hW c1 c2 c3 kb0
  go_loopw [1, 5] (fun iv kv wr => ∃ (j : Nat) (c' : Nat → It) (m' : Int → Option Value) (N' : Nat), iv = .int .i64 j ∧ HoleAt w wr b rb cap n mb ⟨⟨xs, xd⟩, xi⟩ j c c' m' N' ∧ HeapDn n (upd c' j ⟨⟨xs, xd⟩, xi⟩) j ∧ wr.heap[w.heap.size]? = some (.cells #[.int .i64 xs, .int .i64 xd, .int .i64 xi] 176 (0, 0))) (fun iv _ _ => n - (intOf iv).toNat)
  case atStart => exact ⟨i, c, m, N, rfl, hS.out.on HW, hU'.out, hbox⟩
  case round =>
    obtain ⟨j, c', m', N', rfl, hH, hUp, hbx⟩ := hrel
    have hbr := hH.here.1
    have kb0 : wr.cell? ⟨b, 0, none⟩ = some (.slice (some ⟨rb, 0, none⟩) n cap) := by simp [World.cell?, hbr]
    have x1 : wr.cell? ⟨w.heap.size, 0, none⟩ = some (.int .i64 xs) := by simp [World.cell?, hbx]
    have x2 : wr.cell? ⟨w.heap.size, 1, none⟩ = some (.int .i64 xd) := by simp [World.cell?, hbx]
    have x3 : wr.cell? ⟨w.heap.size, 2, none⟩ = some (.int .i64 xi) := by simp [World.cell?, hbx]
    have hjn := hH.lt
    have HB := Below.refl wr.heap.size wr
    have hH' := Lib.hid hH
    have hUp' := Lib.hid hUp
    clear hH hUp hbr
    by_cases hlt : 2 * j + 1 < n
    · obtain ⟨k1, hk1⟩ : ∃ k1, 2 * j + 1 = k1 := ⟨_, rfl⟩
      have hk1n : k1 < n := by omega
      have hz : 2 * (j : Int) + 1 = (k1 : Nat) := by omega
      by_cases hs : k1 + 1 < n
      · obtain ⟨k2, hk2⟩ : ∃ k2, k1 + 1 = k2 := ⟨_, rfl⟩
        have hk2n : k2 < n := by omega
        have hz2 : (k1 : Int) + 1 = (k2 : Nat) := by omega
        have hd' : decide ((k2 : Int) < (n : Int)) = true := by simp; omega
        have hd2 : (k2 : Int) < (n : Int) := by omega
        obtain ⟨a1, a2, a3⟩ := hH'.out.here.2.cells hk1n
        obtain ⟨b1, b2, b3⟩ := hH'.out.here.2.cells hk2n
        obtain ⟨⟨⟨us, ud⟩, ui⟩, hu⟩ : ∃ y, c' k1 = y := ⟨_, rfl⟩
        obtain ⟨⟨⟨vs, vd⟩, vi⟩, hv⟩ : ∃ y, c' k2 = y := ⟨_, rfl⟩
        rw [hu] at a1 a2 a3
        rw [hv] at b1 b2 b3
        simp only at a1 a2 a3 b1 b2 b3
        have icc := hH'.out.cc k1 hk1n
        have jcc := hH'.out.cc k2 hk2n
        have e1 : upd c' j ⟨⟨xs, xd⟩, xi⟩ k1 = ⟨⟨us, ud⟩, ui⟩ := by unfold upd; rw [if_neg (by omega), hu]
        have e2 : upd c' j ⟨⟨xs, xd⟩, xi⟩ k2 = ⟨⟨vs, vd⟩, vi⟩ := by unfold upd; rw [if_neg (by omega), hv]
        rw [e1] at icc
        rw [e2] at jcc
        obtain ⟨s, hs2⟩ : ∃ s, decide (It.lt ⟨⟨vs, vd⟩, vi⟩ ⟨⟨us, ud⟩, ui⟩) = s := ⟨_, rfl⟩
        have cM := Lib.hid (heapLess ⟨⟨vs, vd⟩, vi⟩ ⟨⟨us, ud⟩, ui⟩ s hs2 jcc icc)
        have Hs := Lib.hid hs2
        have hE := Lib.hid (And.intro e1 e2)
        have a1q := cell_regrown a1
        have a2q := cell_regrown a2
        have a3q := cell_regrown a3
        have b1q := cell_regrown b1
        have b2q := cell_regrown b2
        have b3q := cell_regrown b3
        have kb0q := cell_regrown kb0
        clear hs2 e1 e2 hu hv icc jcc
        go_upto_region 3 with (fail)
        refine wp_region_quiet_below (by kernel_rfl) (by kernel_rfl) ?_
        repeat (first | go_big_quiet_step (with_reducible exact Calls.regrown_of (cM.out _)) | quiet_step (with_reducible exact Calls.regrown_of (cM.out _)))
        refine wpQuiet_nil ?_
        intro _ hw'
        obtain ⟨⟨dq, osq⟩, hw''⟩ := hw'
        have HB2 := bel_trans HB (below_regrown wr dq osq)
        have hb2 := below_regrown wr dq osq
        subst hw''
        generalize grow (redrawn wr dq) osq = w2 at HB2 hb2 ⊢
        clear a1 a2 a3 b1 b2 b3 a1q a2q a3q b1q b2q b3q kb0q
        cases s with
        | true =>
          have hkj : par k2 = j := by unfold par; omega
          have hmin : ∀ k, k < n → 0 < k → par k = j → It.le (upd c' j ⟨⟨xs, xd⟩, xi⟩ k2) (upd c' j ⟨⟨xs, xd⟩, xi⟩ k) := by
            intro k hk _ hp
            rcases (show k = k1 ∨ k = k2 by unfold par at hp; omega) with rfl | rfl
            · rw [hE.out.1, hE.out.2]; exact It.le_of_lt (of_decide_eq_true Hs.out)
            · exact It.le_refl _
          obtain ⟨⟨⟨ys, yd⟩, yi⟩, hy⟩ : ∃ y, c' k2 = y := ⟨_, rfl⟩
          have Hkj := Lib.hid hkj
          have hjk : j < k2 := by have := hkj; unfold par at this; omega
          have l1 : w.heap.size < wr.heap.size := (Array.getElem?_eq_some_iff.1 hbx).1
          have l2 : b < wr.heap.size := (Array.getElem?_eq_some_iff.1 hH'.out.here.1).1
          have hH2 := Lib.hid (hH'.out.on HB2)
          obtain ⟨r1, r2, r3⟩ := hH2.out.here.2.cells hk2n
          rw [hy] at r1 r2 r3
          simp only at r1 r2 r3
          have icc := hH'.out.cc k2 hk2n
          have jcc := hH'.out.cc j hjn
          have e1 : upd c' j ⟨⟨xs, xd⟩, xi⟩ k2 = ⟨⟨ys, yd⟩, yi⟩ := by unfold upd; rw [if_neg (by omega), hy]
          have e2 : upd c' j ⟨⟨xs, xd⟩, xi⟩ j = ⟨⟨xs, xd⟩, xi⟩ := by unfold upd; rw [if_pos rfl]
          rw [e1] at icc
          rw [e2] at jcc
          have Hmin := Lib.hid hmin
          obtain ⟨t, ht⟩ : ∃ t, decide (It.lt ⟨⟨ys, yd⟩, yi⟩ ⟨⟨xs, xd⟩, xi⟩) = t := ⟨_, rfl⟩
          have cL := Lib.hid (heapLess ⟨⟨ys, yd⟩, yi⟩ ⟨⟨xs, xd⟩, xi⟩ t ht icc jcc)
          have Ht := Lib.hid ht
          have He := Lib.hid (And.intro e1 e2)
          have Hy := Lib.hid hy
          have y1 := (HB2.cell (by exact l1)).trans x1
          have y2 := (HB2.cell (by exact l1)).trans x2
          have y3 := (HB2.cell (by exact l1)).trans x3
          have yb := (HB2.cell (by exact l2)).trans kb0
          have hbx2 := (HB2.block _ l1).trans hbx
          have y1q := cell_regrown y1
          have y2q := cell_regrown y2
          have y3q := cell_regrown y3
          have ybq := cell_regrown yb
          have r1q := cell_regrown r1
          have r2q := cell_regrown r2
          have r3q := cell_regrown r3
          have HC := Below.refl w2.heap.size w2
          clear ht e1 e2 hy icc jcc hmin x1 x2 x3 kb0 hbx hb2
          go_upto_region 5 with (fail)
          refine wp_region_quiet_below (by kernel_rfl) (by kernel_rfl) ?_
          repeat (first | go_big_quiet_step (with_reducible exact Calls.regrown_of (cL.out _)) | quiet_step (with_reducible exact Calls.regrown_of (cL.out _)))
          refine wpQuiet_nil ?_
          intro _ hw'
          obtain ⟨⟨dq, osq⟩, hw''⟩ := hw'
          have HC4 := bel_trans HC (below_regrown w2 dq osq)
          have hb2 := below_regrown w2 dq osq
          subst hw''
          generalize grow (redrawn w2 dq) osq = w4 at HC4 hb2 ⊢
          have hH4 := Lib.hid (hH2.out.on HC4)
          have l1 : w.heap.size < w2.heap.size := (Array.getElem?_eq_some_iff.1 hbx2).1
          have l2 : b < w2.heap.size := (Array.getElem?_eq_some_iff.1 hH2.out.here.1).1
          have l3 : rb < w2.heap.size := hH2.out.here.2.lt
          have z1 := (HC4.cell (by exact l1)).trans y1
          have z2 := (HC4.cell (by exact l1)).trans y2
          have z3 := (HC4.cell (by exact l1)).trans y3
          have zb := (HC4.cell (by exact l2)).trans yb
          have q1 := (HC4.cell (by exact l3)).trans r1
          have q2 := (HC4.cell (by exact l3)).trans r2
          have q3 := (HC4.cell (by exact l3)).trans r3
          have hbx4 := (HC4.block _ l1).trans hbx2
          clear y1 y2 y3 yb r1 r2 r3 y1q y2q y3q ybq r1q r2q r3q hbx2 hb2 l1 l2 l3
          cases t with
          | false =>
            have hfin := Lib.hid (dn_end hUp'.out (fun k' a1 a2 a3 => It.le_trans (by rw [He.out.1, He.out.2]; exact of_decide_eq_false Ht.out) (Hmin.out k' a1 a2 a3)))
            go_wp2_with fail
            refine (heapPut w4 b rb cap n mb N' c' m' j ⟨⟨xs, xd⟩, xi⟩ hH4.out.here hH4.out.map hjn h1 h2 h3).mono ?_
            rintro e w3 ⟨rfl, hI, ⟨N2, hM⟩, hK⟩
            have hF := hH4.out.fill hfin.out hI hM hK
            clear hI hM hK
            go_wp2
            go_end0
            exact ⟨rfl, hF⟩
          | true =>
            go_wp2_with fail
            refine (heapPut w4 b rb cap n mb N' c' m' j ⟨⟨ys, yd⟩, yi⟩ hH4.out.here hH4.out.map hjn h1 h2 h3).mono ?_
            rintro e w3 ⟨rfl, hI, ⟨N2, hM⟩, hK⟩
            have hI' : HeapIn w3 b rb cap n mb (upd c' j (c' k2)) := by rw [Hy.out]; exact hI
            have hM' : MapAt (fun z : Int => Value.int .i64 z) w3 mb (updK m' (c' k2).id (some (.int .i64 (j : Nat)))) N2 := by rw [Hy.out]; exact hM
            have hN := Lib.hid (hH4.out.move hk2n (by omega) hI' hM' hK)
            have hV : HeapDn n (upd (upd c' j (c' k2)) k2 ⟨⟨xs, xd⟩, xi⟩) k2 := by
              rw [move_row (by omega)]
              exact dn_step hk2n (by omega) Hkj.out hUp'.out (by rw [He.out.1, He.out.2]; exact of_decide_eq_true Ht.out) Hmin.out
            have hV := Lib.hid hV
            have hbx3 := (hK.block w.heap.size (Array.getElem?_eq_some_iff.1 hbx4).1 (by simp; omega)).trans hbx4
            clear hI hM hK hI' hM' z1 z2 z3 zb q1 q2 q3 hbx4
            go_wp2
            go_roundw
            case rel => exact ⟨k2, _, _, _, rfl, hN.out, hV.out, hbx3⟩
            case measure => simp [intOf]; omega
        | false =>
          have hkj : par k1 = j := by unfold par; omega
          have hmin : ∀ k, k < n → 0 < k → par k = j → It.le (upd c' j ⟨⟨xs, xd⟩, xi⟩ k1) (upd c' j ⟨⟨xs, xd⟩, xi⟩ k) := by
            intro k hk _ hp
            rcases (show k = k1 ∨ k = k2 by unfold par at hp; omega) with rfl | rfl
            · exact It.le_refl _
            · rw [hE.out.1, hE.out.2]; exact of_decide_eq_false Hs.out
          obtain ⟨⟨⟨ys, yd⟩, yi⟩, hy⟩ : ∃ y, c' k1 = y := ⟨_, rfl⟩
          have Hkj := Lib.hid hkj
          have hjk : j < k1 := by have := hkj; unfold par at this; omega
          have l1 : w.heap.size < wr.heap.size := (Array.getElem?_eq_some_iff.1 hbx).1
          have l2 : b < wr.heap.size := (Array.getElem?_eq_some_iff.1 hH'.out.here.1).1
          have hH2 := Lib.hid (hH'.out.on HB2)
          obtain ⟨r1, r2, r3⟩ := hH2.out.here.2.cells hk1n
          rw [hy] at r1 r2 r3
          simp only at r1 r2 r3
          have icc := hH'.out.cc k1 hk1n
          have jcc := hH'.out.cc j hjn
          have e1 : upd c' j ⟨⟨xs, xd⟩, xi⟩ k1 = ⟨⟨ys, yd⟩, yi⟩ := by unfold upd; rw [if_neg (by omega), hy]
          have e2 : upd c' j ⟨⟨xs, xd⟩, xi⟩ j = ⟨⟨xs, xd⟩, xi⟩ := by unfold upd; rw [if_pos rfl]
          rw [e1] at icc
          rw [e2] at jcc
          have Hmin := Lib.hid hmin
          obtain ⟨t, ht⟩ : ∃ t, decide (It.lt ⟨⟨ys, yd⟩, yi⟩ ⟨⟨xs, xd⟩, xi⟩) = t := ⟨_, rfl⟩
          have cL := Lib.hid (heapLess ⟨⟨ys, yd⟩, yi⟩ ⟨⟨xs, xd⟩, xi⟩ t ht icc jcc)
          have Ht := Lib.hid ht
          have He := Lib.hid (And.intro e1 e2)
          have Hy := Lib.hid hy
          have y1 := (HB2.cell (by exact l1)).trans x1
          have y2 := (HB2.cell (by exact l1)).trans x2
          have y3 := (HB2.cell (by exact l1)).trans x3
          have yb := (HB2.cell (by exact l2)).trans kb0
          have hbx2 := (HB2.block _ l1).trans hbx
          have y1q := cell_regrown y1
          have y2q := cell_regrown y2
          have y3q := cell_regrown y3
          have ybq := cell_regrown yb
          have r1q := cell_regrown r1
          have r2q := cell_regrown r2
          have r3q := cell_regrown r3
          have HC := Below.refl w2.heap.size w2
          clear ht e1 e2 hy icc jcc hmin x1 x2 x3 kb0 hbx hb2
          go_upto_region 5 with (fail)
          refine wp_region_quiet_below (by kernel_rfl) (by kernel_rfl) ?_
          repeat (first | go_big_quiet_step (with_reducible exact Calls.regrown_of (cL.out _)) | quiet_step (with_reducible exact Calls.regrown_of (cL.out _)))
          refine wpQuiet_nil ?_
          intro _ hw'
          obtain ⟨⟨dq, osq⟩, hw''⟩ := hw'
          have HC4 := bel_trans HC (below_regrown w2 dq osq)
          have hb2 := below_regrown w2 dq osq
          subst hw''
          generalize grow (redrawn w2 dq) osq = w4 at HC4 hb2 ⊢
          have hH4 := Lib.hid (hH2.out.on HC4)
          have l1 : w.heap.size < w2.heap.size := (Array.getElem?_eq_some_iff.1 hbx2).1
          have l2 : b < w2.heap.size := (Array.getElem?_eq_some_iff.1 hH2.out.here.1).1
          have l3 : rb < w2.heap.size := hH2.out.here.2.lt
          have z1 := (HC4.cell (by exact l1)).trans y1
          have z2 := (HC4.cell (by exact l1)).trans y2
          have z3 := (HC4.cell (by exact l1)).trans y3
          have zb := (HC4.cell (by exact l2)).trans yb
          have q1 := (HC4.cell (by exact l3)).trans r1
          have q2 := (HC4.cell (by exact l3)).trans r2
          have q3 := (HC4.cell (by exact l3)).trans r3
          have hbx4 := (HC4.block _ l1).trans hbx2
          clear y1 y2 y3 yb r1 r2 r3 y1q y2q y3q ybq r1q r2q r3q hbx2 hb2 l1 l2 l3
          cases t with
          | false =>
            have hfin := Lib.hid (dn_end hUp'.out (fun k' a1 a2 a3 => It.le_trans (by rw [He.out.1, He.out.2]; exact of_decide_eq_false Ht.out) (Hmin.out k' a1 a2 a3)))
            go_wp2_with fail
            refine (heapPut w4 b rb cap n mb N' c' m' j ⟨⟨xs, xd⟩, xi⟩ hH4.out.here hH4.out.map hjn h1 h2 h3).mono ?_
            rintro e w3 ⟨rfl, hI, ⟨N2, hM⟩, hK⟩
            have hF := hH4.out.fill hfin.out hI hM hK
            clear hI hM hK
            go_wp2
            go_end0
            exact ⟨rfl, hF⟩
          | true =>
            go_wp2_with fail
            refine (heapPut w4 b rb cap n mb N' c' m' j ⟨⟨ys, yd⟩, yi⟩ hH4.out.here hH4.out.map hjn h1 h2 h3).mono ?_
            rintro e w3 ⟨rfl, hI, ⟨N2, hM⟩, hK⟩
            have hI' : HeapIn w3 b rb cap n mb (upd c' j (c' k1)) := by rw [Hy.out]; exact hI
            have hM' : MapAt (fun z : Int => Value.int .i64 z) w3 mb (updK m' (c' k1).id (some (.int .i64 (j : Nat)))) N2 := by rw [Hy.out]; exact hM
            have hN := Lib.hid (hH4.out.move hk1n (by omega) hI' hM' hK)
            have hV : HeapDn n (upd (upd c' j (c' k1)) k1 ⟨⟨xs, xd⟩, xi⟩) k1 := by
              rw [move_row (by omega)]
              exact dn_step hk1n (by omega) Hkj.out hUp'.out (by rw [He.out.1, He.out.2]; exact of_decide_eq_true Ht.out) Hmin.out
            have hV := Lib.hid hV
            have hbx3 := (hK.block w.heap.size (Array.getElem?_eq_some_iff.1 hbx4).1 (by simp; omega)).trans hbx4
            clear hI hM hK hI' hM' z1 z2 z3 zb q1 q2 q3 hbx4
            go_wp2
            go_roundw
            case rel => exact ⟨k1, _, _, _, rfl, hN.out, hV.out, hbx3⟩
            case measure => simp [intOf]; omega
      · go_upto_region 3 with (fail)
        have hs' : ¬ ((k1 : Int) + 1 < (n : Int)) := by omega
        have hd' : decide ((k1 : Int) + 1 < (n : Int)) = false := decide_eq_false hs'
        have kb0q := cell_regrown kb0
        refine wp_region_quiet_below (by kernel_rfl) (by kernel_rfl) ?_
        repeat (first | go_big_quiet_step (fail) | quiet_step (fail))
        refine wpQuiet_nil ?_
        intro _ hw'
        obtain ⟨⟨dq, osq⟩, hw''⟩ := hw'
        have HB2 := bel_trans HB (below_regrown wr dq osq)
        have hb2 := below_regrown wr dq osq
        subst hw''
        generalize grow (redrawn wr dq) osq = w2 at HB2 hb2 ⊢
        have hkj : par k1 = j := by unfold par; omega
        have hmin : ∀ k, k < n → 0 < k → par k = j → It.le (upd c' j ⟨⟨xs, xd⟩, xi⟩ k1) (upd c' j ⟨⟨xs, xd⟩, xi⟩ k) := by
          intro k hk _ hp
          obtain rfl : k = k1 := by unfold par at hp; omega
          exact It.le_refl _
        clear kb0q
        obtain ⟨⟨⟨ys, yd⟩, yi⟩, hy⟩ : ∃ y, c' k1 = y := ⟨_, rfl⟩
        have Hkj := Lib.hid hkj
        have hjk : j < k1 := by have := hkj; unfold par at this; omega
        have l1 : w.heap.size < wr.heap.size := (Array.getElem?_eq_some_iff.1 hbx).1
        have l2 : b < wr.heap.size := (Array.getElem?_eq_some_iff.1 hH'.out.here.1).1
        have hH2 := Lib.hid (hH'.out.on HB2)
        obtain ⟨r1, r2, r3⟩ := hH2.out.here.2.cells hk1n
        rw [hy] at r1 r2 r3
        simp only at r1 r2 r3
        have icc := hH'.out.cc k1 hk1n
        have jcc := hH'.out.cc j hjn
        have e1 : upd c' j ⟨⟨xs, xd⟩, xi⟩ k1 = ⟨⟨ys, yd⟩, yi⟩ := by unfold upd; rw [if_neg (by omega), hy]
        have e2 : upd c' j ⟨⟨xs, xd⟩, xi⟩ j = ⟨⟨xs, xd⟩, xi⟩ := by unfold upd; rw [if_pos rfl]
        rw [e1] at icc
        rw [e2] at jcc
        have Hmin := Lib.hid hmin
        obtain ⟨t, ht⟩ : ∃ t, decide (It.lt ⟨⟨ys, yd⟩, yi⟩ ⟨⟨xs, xd⟩, xi⟩) = t := ⟨_, rfl⟩
        have cL := Lib.hid (heapLess ⟨⟨ys, yd⟩, yi⟩ ⟨⟨xs, xd⟩, xi⟩ t ht icc jcc)
        have Ht := Lib.hid ht
        have He := Lib.hid (And.intro e1 e2)
        have Hy := Lib.hid hy
        have y1 := (HB2.cell (by exact l1)).trans x1
        have y2 := (HB2.cell (by exact l1)).trans x2
        have y3 := (HB2.cell (by exact l1)).trans x3
        have yb := (HB2.cell (by exact l2)).trans kb0
        have hbx2 := (HB2.block _ l1).trans hbx
        have y1q := cell_regrown y1
        have y2q := cell_regrown y2
        have y3q := cell_regrown y3
        have ybq := cell_regrown yb
        have r1q := cell_regrown r1
        have r2q := cell_regrown r2
        have r3q := cell_regrown r3
        have HC := Below.refl w2.heap.size w2
        clear ht e1 e2 hy icc jcc hmin x1 x2 x3 kb0 hbx hb2
        go_upto_region 5 with (fail)
        refine wp_region_quiet_below (by kernel_rfl) (by kernel_rfl) ?_
        repeat (first | go_big_quiet_step (with_reducible exact Calls.regrown_of (cL.out _)) | quiet_step (with_reducible exact Calls.regrown_of (cL.out _)))
        refine wpQuiet_nil ?_
        intro _ hw'
        obtain ⟨⟨dq, osq⟩, hw''⟩ := hw'
        have HC4 := bel_trans HC (below_regrown w2 dq osq)
        have hb2 := below_regrown w2 dq osq
        subst hw''
        generalize grow (redrawn w2 dq) osq = w4 at HC4 hb2 ⊢
        have hH4 := Lib.hid (hH2.out.on HC4)
        have l1 : w.heap.size < w2.heap.size := (Array.getElem?_eq_some_iff.1 hbx2).1
        have l2 : b < w2.heap.size := (Array.getElem?_eq_some_iff.1 hH2.out.here.1).1
        have l3 : rb < w2.heap.size := hH2.out.here.2.lt
        have z1 := (HC4.cell (by exact l1)).trans y1
        have z2 := (HC4.cell (by exact l1)).trans y2
        have z3 := (HC4.cell (by exact l1)).trans y3
        have zb := (HC4.cell (by exact l2)).trans yb
        have q1 := (HC4.cell (by exact l3)).trans r1
        have q2 := (HC4.cell (by exact l3)).trans r2
        have q3 := (HC4.cell (by exact l3)).trans r3
        have hbx4 := (HC4.block _ l1).trans hbx2
        clear y1 y2 y3 yb r1 r2 r3 y1q y2q y3q ybq r1q r2q r3q hbx2 hb2 l1 l2 l3
        cases t with
        | false =>
          have hfin := Lib.hid (dn_end hUp'.out (fun k' a1 a2 a3 => It.le_trans (by rw [He.out.1, He.out.2]; exact of_decide_eq_false Ht.out) (Hmin.out k' a1 a2 a3)))
          go_wp2_with fail
          refine (heapPut w4 b rb cap n mb N' c' m' j ⟨⟨xs, xd⟩, xi⟩ hH4.out.here hH4.out.map hjn h1 h2 h3).mono ?_
          rintro e w3 ⟨rfl, hI, ⟨N2, hM⟩, hK⟩
          have hF := hH4.out.fill hfin.out hI hM hK
          clear hI hM hK
          go_wp2
          go_end0
          exact ⟨rfl, hF⟩
        | true =>
          go_wp2_with fail
          refine (heapPut w4 b rb cap n mb N' c' m' j ⟨⟨ys, yd⟩, yi⟩ hH4.out.here hH4.out.map hjn h1 h2 h3).mono ?_
          rintro e w3 ⟨rfl, hI, ⟨N2, hM⟩, hK⟩
          have hI' : HeapIn w3 b rb cap n mb (upd c' j (c' k1)) := by rw [Hy.out]; exact hI
          have hM' : MapAt (fun z : Int => Value.int .i64 z) w3 mb (updK m' (c' k1).id (some (.int .i64 (j : Nat)))) N2 := by rw [Hy.out]; exact hM
          have hN := Lib.hid (hH4.out.move hk1n (by omega) hI' hM' hK)
          have hV : HeapDn n (upd (upd c' j (c' k1)) k1 ⟨⟨xs, xd⟩, xi⟩) k1 := by
            rw [move_row (by omega)]
            exact dn_step hk1n (by omega) Hkj.out hUp'.out (by rw [He.out.1, He.out.2]; exact of_decide_eq_true Ht.out) Hmin.out
          have hV := Lib.hid hV
          have hbx3 := (hK.block w.heap.size (Array.getElem?_eq_some_iff.1 hbx4).1 (by simp; omega)).trans hbx4
          clear hI hM hK hI' hM' z1 z2 z3 zb q1 q2 q3 hbx4
          go_wp2
          go_roundw
          case rel => exact ⟨k1, _, _, _, rfl, hN.out, hV.out, hbx3⟩
          case measure => simp [intOf]; omega
    · have hlt' : ¬ (2 * (j : Int) + 1 < (n : Int)) := by omega
      have hvac : ∀ k, k < n → 0 < k → par k = j → It.le (upd c' j ⟨⟨xs, xd⟩, xi⟩ j) (upd c' j ⟨⟨xs, xd⟩, xi⟩ k) := by intro k hk _ hp; unfold par at hp; omega
      have hfin := Lib.hid (dn_end hUp'.out hvac)
      clear hvac
      go_wp2_with fail
      refine (heapPut wr b rb cap n mb N' c' m' j ⟨⟨xs, xd⟩, xi⟩ hH'.out.here hH'.out.map hjn h1 h2 h3).mono ?_
      rintro e w3 ⟨rfl, hI, ⟨N2, hM⟩, hK⟩
      have hF := hH'.out.fill hfin.out hI hM hK
      clear hI hM hK
      go_wp2
      go_end0
      exact ⟨rfl, hF⟩
end Go.Proofs.YtjejkadaafmdcaaGreat
/- A heap's row, as a row that is owned: appending to it. -/
namespace Go.Proofs.YtjejkadaafmdcaaGreat
open Go.RowKit Go.Sort FR
/-- the cells of n items in a list -/
def Lies (xs : List Value) (n : Nat) (c : Nat → It) : Prop := ∀ k, k < n → xs[k * 3]? = some (.int .i64 (c k).c.s) ∧ xs[k * 3 + 1]? = some (.int .i64 (c k).c.d) ∧ xs[k * 3 + 2]? = some (.int .i64 (c k).id)
theorem ItemsIn.owns {w : World} {b cap n : Nat} {c : Nat → It} (h : ItemsIn w b cap n c) : ∃ xs, w.ownsRow 0 176 3 (.slice (some ⟨b, 0, none⟩) n cap) n xs ∧ Lies xs n c := by
  obtain ⟨h1, h2, cur, h3, h4, h5⟩ := h
  refine ⟨cur.toList.take (n * 3), ⟨?_, .inr ⟨b, cap, cur, rfl, Nat.zero_le _, h3, h1, h2, h4, rfl⟩⟩, ?_⟩
  · rw [List.length_take, Array.length_toList, h4]; omega
  · intro k hk
    obtain ⟨a1, a2, a3⟩ := h5 k hk
    rw [List.getElem?_take, if_pos (by omega), List.getElem?_take, if_pos (by omega), List.getElem?_take, if_pos (by omega)]
    simpa using ⟨a1, a2, a3⟩
theorem ItemsIn.of_owns {w : World} {B b cap n : Nat} {xs : List Value} {c : Nat → It} (h : w.ownsRow B 176 3 (.slice (some ⟨b, 0, none⟩) n cap) n xs) (hl : Lies xs n c) : ItemsIn w b cap n c := by
  rcases h.2 with ⟨h', _⟩ | ⟨g', cap', cur, h', _, hg, hnc, hcm, hcs, htake⟩
  · simp at h'
  · simp only [Value.slice.injEq, Option.some.injEq, Addr.mk.injEq, and_true, true_and] at h'
    obtain ⟨rfl, rfl⟩ := h'
    refine ⟨hnc, hcm, cur, hg, hcs, ?_⟩
    intro k hk
    obtain ⟨a1, a2, a3⟩ := hl k hk
    rw [← htake, List.getElem?_take, if_pos (by omega)] at a1
    rw [← htake, List.getElem?_take, if_pos (by omega)] at a2
    rw [← htake, List.getElem?_take, if_pos (by omega)] at a3
    rw [Array.getElem?_toList] at a1 a2 a3
    exact ⟨a1, a2, a3⟩
theorem Lies.push {xs : List Value} {n : Nat} {c : Nat → It} (h : Lies xs n c) (hn : xs.length = n * 3) (x : It) : Lies (xs ++ [.int .i64 x.c.s, .int .i64 x.c.d, .int .i64 x.id]) (n + 1) (upd c n x) := by
  intro k hk
  by_cases e : k = n
  · subst e
    unfold upd
    rw [if_pos rfl, List.getElem?_append_right (by omega), List.getElem?_append_right (by omega), List.getElem?_append_right (by omega), hn]
    simp
  · obtain ⟨a1, a2, a3⟩ := h k (by omega)
    unfold upd
    rw [if_neg e, List.getElem?_append_left (by omega), List.getElem?_append_left (by omega), List.getElem?_append_left (by omega)]
    exact ⟨a1, a2, a3⟩
/-- a heap's row owns its cells -/
theorem RowOk.owns {w : World} {b mb n : Nat} {sl : Value} {c : Nat → It} {S : List Nat} (h : RowOk w b mb sl n c S) : ∃ xs, w.ownsRow 0 176 3 sl n xs ∧ Lies xs n c := by
  rcases h with ⟨rfl, rfl, _⟩ | ⟨rb, cap, rfl, hI, _⟩
  · exact ⟨[], ⟨rfl, .inl ⟨rfl, rfl⟩⟩, fun k hk => absurd hk (by omega)⟩
  · exact hI.owns
end Go.Proofs.YtjejkadaafmdcaaGreat
/- Plain laws of a heap's row and map; New, and the cost of a number. -/
namespace Go.Proofs.YtjejkadaafmdcaaGreat
open Go.RowKit Go.Sort FR
/-- a heap's content with one number's cost turned -/
def hset (hp : Int → Option C) (i : Int) (c : Option C) : Int → Option C := fun z => if z = i then c else hp z
theorem Holds.push {n : Nat} {c : Nat → It} {hp : Int → Option C} (h : Holds n c hp) (x : It) (hx : hp x.id = none) : Holds (n + 1) (upd c n x) (hset hp x.id (some x.c)) := by
  intro id d
  unfold hset
  constructor
  · intro he
    by_cases e : id = x.id
    · rw [if_pos e] at he
      injection he with he
      exact ⟨n, by omega, by rw [upd_same, e, ← he]⟩
    · rw [if_neg e] at he
      obtain ⟨k, hk, hk2⟩ := (h id d).1 he
      exact ⟨k, by omega, by rw [upd_ne _ _ (by omega), hk2]⟩
  · rintro ⟨k, hk, he⟩
    by_cases e : k = n
    · subst e
      rw [upd_same] at he
      subst he
      rw [if_pos rfl]
    · rw [upd_ne _ _ e] at he
      have := (h id d).2 ⟨k, by omega, he⟩
      rw [if_neg, this]
      rintro rfl
      rw [hx] at this; cases this
theorem Dst.push {n : Nat} {c : Nat → It} {hp : Int → Option C} (h : Dst n c) (hh : Holds n c hp) (x : It) (hx : hp x.id = none) : Dst (n + 1) (upd c n x) := by
  have key : ∀ k, k < n → (c k).id ≠ x.id := by
    intro k hk e
    have := (hh (c k).id (c k).c).2 ⟨k, hk, rfl⟩
    rw [e, hx] at this; cases this
  intro i j hi hj e
  by_cases e1 : i = n
  · by_cases e2 : j = n
    · omega
    · subst e1
      rw [upd_same, upd_ne _ _ e2] at e
      exact absurd e.symm (key j (by omega))
  · by_cases e2 : j = n
    · subst e2
      rw [upd_same, upd_ne _ _ e1] at e
      exact absurd e (key i (by omega))
    · rw [upd_ne _ _ e1, upd_ne _ _ e2] at e
      exact h i j (by omega) (by omega) e
theorem PosMap.push {n : Nat} {c : Nat → It} {m : Int → Option Value} (h : PosMap n c m) (x : It) : PosBut (n + 1) (upd c n x) m x.id := by
  intro z v hz
  rw [h z v]
  constructor
  · rintro ⟨k, hk, hv, he⟩
    exact ⟨k, by omega, hv, by rw [upd_ne _ _ (by omega)]; exact he⟩
  · rintro ⟨k, hk, hv, he⟩
    by_cases e : k = n
    · subst e; rw [upd_same] at he; exact absurd he.symm hz
    · rw [upd_ne _ _ e] at he; exact ⟨k, by omega, hv, he⟩
theorem PosMap.turn {n : Nat} {c : Nat → It} {m : Int → Option Value} (h : PosMap n c m) {k : Nat} (hk : k < n) (x : It) (hx : x.id = (c k).id) : PosBut n (upd c k x) m x.id := by
  intro z v hz
  rw [h z v]
  constructor
  · rintro ⟨j, hj, hv, he⟩
    exact ⟨j, hj, hv, by rw [upd_ne _ _ (by rintro rfl; rw [hx] at hz; exact hz he.symm)]; exact he⟩
  · rintro ⟨j, hj, hv, he⟩
    by_cases e : j = k
    · subst e; rw [upd_same] at he; exact absurd he.symm hz
    · rw [upd_ne _ _ e] at he; exact ⟨j, hj, hv, he⟩
theorem Dst.turn {n : Nat} {c : Nat → It} (h : Dst n c) {k : Nat} (hk : k < n) (x : It) (hx : x.id = (c k).id) : Dst n (upd c k x) := by
  have e : ∀ j, (upd c k x j).id = (c j).id := by
    intro j
    by_cases e : j = k
    · subst e; rw [upd_same, hx]
    · rw [upd_ne _ _ e]
  intro i j hi hj he
  rw [e, e] at he
  exact h i j hi hj he
theorem Holds.turn {n : Nat} {c : Nat → It} {hp : Int → Option C} (h : Holds n c hp) (hD : Dst n c) {k : Nat} (hk : k < n) (x : It) (hx : x.id = (c k).id) : Holds n (upd c k x) (hset hp x.id (some x.c)) := by
  intro id d
  unfold hset
  constructor
  · intro he
    by_cases e : id = x.id
    · rw [if_pos e] at he
      injection he with he
      exact ⟨k, hk, by rw [upd_same, e, ← he]⟩
    · rw [if_neg e] at he
      obtain ⟨j, hj, hj2⟩ := (h id d).1 he
      refine ⟨j, hj, ?_⟩
      rw [upd_ne, hj2]
      rintro rfl
      rw [hj2] at hx; exact e hx.symm
  · rintro ⟨j, hj, he⟩
    by_cases e : j = k
    · subst e
      rw [upd_same] at he
      subst he
      rw [if_pos rfl]
    · rw [upd_ne _ _ e] at he
      rw [if_neg, (h id d).2 ⟨j, hj, he⟩]
      rintro rfl
      apply e
      exact hD j k hj hk (by rw [he, ← hx])
theorem Holds.same {n : Nat} {c c' : Nat → It} {hp : Int → Option C} (h : Holds n c hp) (hs : ∀ y, (∃ k, k < n ∧ c' k = y) ↔ ∃ k, k < n ∧ c k = y) : Holds n c' hp := by
  intro id d
  rw [h id d]
  exact (hs ⟨d, id⟩).symm
theorem Holds.pop {n : Nat} {c : Nat → It} {hp : Int → Option C} (h : Holds (n + 1) c hp) (hD : Dst (n + 1) c) : Holds n (upd c 0 (c n)) (hset hp (c 0).id none) := by
  intro id d
  unfold hset
  constructor
  · intro he
    by_cases e : id = (c 0).id
    · rw [if_pos e] at he; cases he
    · rw [if_neg e] at he
      obtain ⟨k, hk, hk2⟩ := (h id d).1 he
      have k0 : k ≠ 0 := by rintro rfl; rw [hk2] at e; exact e rfl
      by_cases e2 : k = n
      · subst e2; exact ⟨0, by omega, by rw [upd_same, hk2]⟩
      · exact ⟨k, by omega, by rw [upd_ne _ _ k0, hk2]⟩
  · rintro ⟨k, hk, he⟩
    have key : ∀ j, j < n + 1 → j ≠ 0 → c j = ⟨d, id⟩ → (if id = (c 0).id then none else hp id) = some d := by
      intro j hj j0 hj2
      rw [if_neg, (h id d).2 ⟨j, hj, hj2⟩]
      intro e
      exact j0 (hD j 0 hj (by omega) (by rw [hj2, ← e]))
    by_cases e : k = 0
    · subst e
      rw [upd_same] at he
      exact key n (by omega) (by omega) he
    · rw [upd_ne _ _ e] at he
      exact key k (by omega) e he
theorem Dst.pop {n : Nat} {c : Nat → It} (hD : Dst (n + 1) c) : Dst n (upd c 0 (c n)) := by
  intro i j hi hj e
  by_cases e1 : i = 0 <;> by_cases e2 : j = 0
  · omega
  · subst e1
    rw [upd_same, upd_ne _ _ e2] at e
    have := hD n j (by omega) (by omega) e; omega
  · subst e2
    rw [upd_same, upd_ne _ _ e1] at e
    have := hD i n (by omega) (by omega) e; omega
  · rw [upd_ne _ _ e1, upd_ne _ _ e2] at e
    exact hD i j (by omega) (by omega) e
theorem PosMap.pop {n : Nat} {c : Nat → It} {m : Int → Option Value} (h : PosMap (n + 1) c m) (hD : Dst (n + 1) c) (x : Value) : PosBut n (upd c 0 (c n)) (updK (updK m (c 0).id none) (c n).id (some x)) (c n).id := by
  intro z v hz
  unfold updK
  rw [if_neg hz]
  by_cases e0 : z = (c 0).id
  · rw [if_pos e0]
    constructor
    · intro h'; cases h'
    · rintro ⟨k, hk, hv, he⟩
      by_cases e1 : k = 0
      · subst e1; rw [upd_same] at he; exact absurd he.symm hz
      · rw [upd_ne _ _ e1] at he
        exact absurd (hD k 0 (by omega) (by omega) (by rw [he, e0])) e1
  · rw [if_neg e0, h z v]
    constructor
    · rintro ⟨k, hk, hv, he⟩
      have k0 : k ≠ 0 := by rintro rfl; exact e0 he.symm
      have k1 : k ≠ n := by rintro rfl; exact hz he.symm
      exact ⟨k, by omega, hv, by rw [upd_ne _ _ k0]; exact he⟩
    · rintro ⟨k, hk, hv, he⟩
      by_cases e1 : k = 0
      · subst e1; rw [upd_same] at he; exact absurd he.symm hz
      · rw [upd_ne _ _ e1] at he
        exact ⟨k, by omega, hv, he⟩
theorem PosMap.pop0 {c : Nat → It} {m : Int → Option Value} (h : PosMap 1 c m) : PosMap 0 c (updK m (c 0).id none) := by
  intro z v
  unfold updK
  constructor
  · intro h'
    by_cases e : z = (c 0).id
    · rw [if_pos e] at h'; cases h'
    · rw [if_neg e, h z v] at h'
      obtain ⟨k, hk, _, he⟩ := h'
      obtain rfl : k = 0 := by omega
      exact absurd he.symm e
  · rintro ⟨k, hk, _⟩; omega
theorem Holds.pop0 {c : Nat → It} {hp : Int → Option C} (h : Holds 1 c hp) : Holds 0 c (hset hp (c 0).id none) := by
  intro z d
  unfold hset
  constructor
  · intro h'
    by_cases e : z = (c 0).id
    · rw [if_pos e] at h'; cases h'
    · rw [if_neg e] at h'
      obtain ⟨k, hk, he⟩ := (h z d).1 h'
      obtain rfl : k = 0 := by omega
      rw [he] at e; exact absurd rfl e
  · rintro ⟨k, hk, _⟩; omega
theorem Holds.cc {n : Nat} {c : Nat → It} {hp : Int → Option C} (h : Holds n c hp) (hc : ∀ z d, hp z = some d → inCC d) : ∀ k, k < n → inCC (c k).c :=
  fun k hk => hc _ _ ((h (c k).id (c k).c).2 ⟨k, hk, rfl⟩)
theorem HeapOf.lt {w : World} {S : List Nat} {b n : Nat} {hp : Int → Option C} (h : HeapOf w S b n hp) : ∀ k ∈ S, k < w.heap.size := by
  obtain ⟨mb, m, N, c, sl, hb, hM, _, hR, _⟩ := h
  have l1 := (Array.getElem?_eq_some_iff.1 hb).1
  have l2 := hM.lt
  rcases hR with ⟨_, _, rfl⟩ | ⟨rb, cap, _, hI, _, _, rfl⟩
  · intro k hk; simp at hk; rcases hk with rfl | rfl <;> assumption
  · have l3 := hI.lt
    intro k hk; simp at hk; rcases hk with rfl | rfl | rfl <;> assumption
theorem HeapOf.self {w : World} {S : List Nat} {b n : Nat} {hp : Int → Option C} (h : HeapOf w S b n hp) : b ∈ S := by
  obtain ⟨mb, m, N, c, sl, hb, hM, _, hR, _⟩ := h
  rcases hR with ⟨_, _, rfl⟩ | ⟨rb, cap, _, hI, _, _, rfl⟩ <;> simp
theorem RowOk.kept {S T : List Nat} {w w' : World} {b mb n : Nat} {sl : Value} {c : Nat → It} (h : RowOk w b mb sl n c S) (hk : Kept T w w') (hd : ∀ k ∈ S, k ∉ T) : RowOk w' b mb sl n c S := by
  rcases h with h | ⟨rb, cap, h1, h2, h3, h4, h5⟩
  · exact .inl h
  · exact .inr ⟨rb, cap, h1, h2.kept hk (hd rb (by rw [h5]; simp)), h3, h4, h5⟩
theorem HeapOf.kept {S T : List Nat} {w w' : World} {b n : Nat} {hp : Int → Option C} (h : HeapOf w S b n hp) (hk : Kept T w w') (hd : ∀ k ∈ S, k ∉ T) : HeapOf w' S b n hp := by
  have hl := h.lt
  have hs := h.self
  obtain ⟨mb, m, N, c, sl, h1, h2, h3, h4, h5⟩ := h
  have hm : mb ∈ S := by rcases h4 with ⟨_, _, rfl⟩ | ⟨rb, cap, _, hI, _, _, rfl⟩ <;> simp
  exact ⟨mb, m, N, c, sl, (hk.block b (hl b hs) (hd b hs)).trans h1, h2.kept hk (hd mb hm), h3, h4.kept hk hd, h5⟩
theorem HeapOf.below {S : List Nat} {w w' : World} {b n : Nat} {hp : Int → Option C} (h : HeapOf w S b n hp) (hb : Below w.heap.size w w') : HeapOf w' S b n hp := h.kept (T := []) (.of_below hb) (by simp)
/-- a new heap is handed back -/
def HeapMade (w : World) (e : Ending) (w' : World) : Prop := ∃ b S, e = .returned (.pointer (some ⟨b, 0, none⟩)) ∧ HeapOf w' S b 0 (fun _ => none) ∧ (∀ k ∈ S, w.heap.size ≤ k) ∧ Below w.heap.size w w'
theorem heapNew (w : World) : Calls Tryz.prog 71 #[] w (HeapMade w) := by
  have hmm := @run_makeMap Tryz.prog
  go_enter Tryz.func71, Tryz.ntmps71
  go_wp2
  go_ret
  have hM : MapAt (fun z : Int => Value.int .i64 z) (w.alloc (.map #[] 0)) w.heap.size (fun _ => none) 0 := MapAt.made w
  refine ⟨w.heap.size + 1, [w.heap.size + 1, w.heap.size], rfl, ⟨w.heap.size, fun _ => none, 0, fun _ => ⟨⟨0, 0⟩, 0⟩, .slice none 0 0, ?_, hM.below ?_, by omega, .inl ⟨rfl, rfl, rfl⟩, ?_, ?_, ?_, ?_, ?_⟩, ?_, ?_⟩
  · have := heap_alloc_new (w.alloc (.map #[] 0)) (.cells #[.slice none 0 0, .map (some w.heap.size)] 173 (0, 0))
    simpa using this
  · exact bel_alloc (Below.refl _ _)
  · intro z v; constructor
    · intro h; cases h
    · rintro ⟨k, hk, _⟩; omega
  · intro z v; constructor
    · intro h; cases h
    · rintro ⟨k, hk, _⟩; omega
  · intro i j hi; omega
  · intro j hj; omega
  · intro z d h; cases h
  · intro k hk; simp at hk; omega
  · (repeat' (first | exact Below.refl _ _ | assumption | apply bel_drewN | apply bel_drew | apply bel_alloc | (refine bel_trans ?_ (by assumption))))
theorem int_zero (w : World) : (zeroValue 3).run Tryz.prog w = .ok (.int .i64 0) w := by kernel_rfl
theorem mapLook_in {w : World} {b N : Nat} {m : Int → Option Value} (h : MapAt (fun z : Int => Value.int .i64 z) w b m N) {z : Int} {v : Value} (hz : m z = some v) :
    (Instr.lookup 53 (.map (some b)) (.int .i64 z) true).run Tryz.prog w = .ok (.tuple #[v, .bool true]) w := by
  have := (h.look (int_fit Tryz.underlying3) Tryz.underlying53 (int_zero w) z).1
  rw [hz] at this; exact this
theorem mapLook_out {w : World} {b N : Nat} {m : Int → Option Value} (h : MapAt (fun z : Int => Value.int .i64 z) w b m N) {z : Int} (hz : m z = none) :
    (Instr.lookup 53 (.map (some b)) (.int .i64 z) true).run Tryz.prog w = .ok (.tuple #[.int .i64 0, .bool false]) w := by
  have := (h.look (int_fit Tryz.underlying3) Tryz.underlying53 (int_zero w) z).1
  rw [hz] at this; exact this
theorem PosMap.none {n : Nat} {c : Nat → It} {m : Int → Option Value} {hp : Int → Option C} (h : PosMap n c m) (hh : Holds n c hp) {z : Int} (hz : hp z = none) : m z = none := by
  cases hm : m z with
  | none => rfl
  | some v =>
    obtain ⟨k, hk, _, he⟩ := (h z v).1 hm
    have := (hh (c k).id (c k).c).2 ⟨k, hk, rfl⟩
    rw [he, hz] at this; cases this
theorem PosMap.some {n : Nat} {c : Nat → It} {m : Int → Option Value} {hp : Int → Option C} (h : PosMap n c m) (hh : Holds n c hp) {z : Int} {d : C} (hz : hp z = some d) : ∃ k, k < n ∧ c k = ⟨d, z⟩ ∧ m z = Option.some (.int .i64 (k : Nat)) := by
  obtain ⟨k, hk, he⟩ := (hh z d).1 hz
  exact ⟨k, hk, he, (h z _).2 ⟨k, hk, rfl, by rw [he]⟩⟩
end Go.Proofs.YtjejkadaafmdcaaGreat
