/- What a heap holds; how many; its cost of a number. -/
import Derived.Test.YtkiogciokngjfaaHeap
set_option linter.unusedVariables false
set_option linter.unusedSimpArgs false
namespace Go.Proofs.Ytkiogciokngjfaa
open Go.RowKit Go.Sort FR
/-- the map of places agrees with the row -/
def PosMap (n : Nat) (c : Nat → It) (m : Int → Option Value) : Prop := ∀ z v, m z = some v ↔ ∃ k, k < n ∧ v = .int .i64 (k : Nat) ∧ (c k).id = z
/-- the row of a heap: none as yet, or a block of items -/
def RowOk (w : World) (b mb : Nat) (sl : Value) (n : Nat) (c : Nat → It) (S : List Nat) : Prop :=
  (sl = .slice none 0 0 ∧ n = 0 ∧ S = [b, mb]) ∨ ∃ rb cap, sl = .slice (some ⟨rb, 0, none⟩) n cap ∧ ItemsIn w rb cap n c ∧ b ≠ rb ∧ rb ≠ mb ∧ S = [b, rb, mb]
/-- block b is a heap that holds hp; S: the blocks of its own -/
def HeapOf (w : World) (S : List Nat) (b n : Nat) (hp : Int → Option C) : Prop :=
  ∃ mb m N c sl, w.heap[b]? = some (.cells #[sl, .map (some mb)] 157 (0, 0)) ∧ MapAt (fun z : Int => Value.int .i64 z) w mb m N ∧ b ≠ mb ∧ RowOk w b mb sl n c S ∧ PosMap n c m ∧ Holds n c hp ∧ Dst n c ∧ HeapL n c ∧ ∀ z d, hp z = some d → inCC d
theorem heapLen1 (w : World) (b n cap : Nat) (rv mv : Value) (rb : Option Addr) (hb : w.heap[b]? = some (.cells #[.slice rb n cap, mv] 157 (0, 0))) :
    Calls Try.prog 62 #[.pointer (some ⟨b, 0, none⟩)] w fun e w' => e = .returned (.int .i64 (n : Nat)) ∧ w = w' := by
  have k0 : w.cell? ⟨b, 0, none⟩ = some (.slice rb n cap) := by simp [World.cell?, hb]
  clear hb
  go_enter Try.func62, Try.ntmps62
  go_wp2
  go_ret
  exact ⟨rfl, rfl⟩
/-- the places agree but for one number's -/
def PosBut (n : Nat) (g : Nat → It) (m : Int → Option Value) (i : Int) : Prop := ∀ z v, z ≠ i → (m z = some v ↔ ∃ k, k < n ∧ v = .int .i64 (k : Nat) ∧ (g k).id = z)
/-- a row with a hole at j, which x is to fill -/
structure HoleAt (w0 w : World) (b rb cap n mb : Nat) (x : It) (j : Nat) (c0 : Nat → It) (c : Nat → It) (m : Int → Option Value) (N : Nat) : Prop where
  lt : j < n
  here : HeapIn w b rb cap n mb c
  map : MapAt (fun z : Int => Value.int .i64 z) w mb m N
  cc : ∀ k, k < n → inCC (upd c j x k).c
  dst : Dst n (upd c j x)
  pos : PosBut n (upd c j x) m x.id
  same : ∀ y, (∃ k, k < n ∧ upd c j x k = y) ↔ ∃ k, k < n ∧ c0 k = y
  kept : Kept [rb, mb] w0 w
theorem upd_self (c : Nat → It) (i : Nat) : upd c i (c i) = c := by
  funext k; unfold upd; split <;> simp_all
theorem PosBut.fill {n : Nat} {g : Nat → It} {m : Int → Option Value} {x : It} {j : Nat} (h : PosBut n g m x.id) (hj : j < n) (hg : g j = x) (hD : Dst n g) : PosMap n g (updK m x.id (some (.int .i64 (j : Nat)))) := by
  intro z v
  unfold updK
  by_cases e : z = x.id
  · rw [if_pos e]
    constructor
    · intro h'; injection h' with h'; exact ⟨j, hj, h'.symm, by rw [hg, e]⟩
    · rintro ⟨k, hk, rfl, hk'⟩
      rw [hD k j hk hj (by rw [hk', hg, e])]
  · rw [if_neg e]; exact h z v e
theorem move_row {c : Nat → It} {x : It} {j k : Nat} (hjk : j ≠ k) : upd (upd c j (c k)) k x = swp (upd c j x) j k := by
  funext i
  rw [swp_at]
  unfold upd
  by_cases h1 : i = k
  · subst h1; simp
  · by_cases h2 : i = j
    · subst h2; simp [h1, Ne.symm hjk]
    · simp [h1, h2]
theorem PosBut.move {n : Nat} {g : Nat → It} {m : Int → Option Value} {x y : It} {j k : Nat} (h : PosBut n g m x.id) (hj : j < n) (hk : k < n) (hjk : j ≠ k) (hg : g j = x) (hy : g k = y) (hD : Dst n g) :
    PosBut n (swp g j k) (updK m y.id (some (.int .i64 (j : Nat)))) x.id := by
  intro z v hz
  unfold updK
  have hD' := swp_dst hj hk hD
  have e1 : swp g j k j = y := by rw [swp_at, if_neg hjk, if_pos rfl, hy]
  have e2 : swp g j k k = x := by rw [swp_at, if_pos rfl, hg]
  by_cases e : z = y.id
  · rw [if_pos e]
    constructor
    · intro h'; injection h' with h'; exact ⟨j, hj, h'.symm, by rw [e1, e]⟩
    · rintro ⟨k', hk', rfl, hk2⟩
      rw [hD' k' j hk' hj (by rw [hk2, e1, e])]
  · rw [if_neg e, h z v hz]
    constructor
    · rintro ⟨k', hk', rfl, hk2⟩
      refine ⟨k', hk', rfl, ?_⟩
      rw [swp_at, if_neg (by rintro rfl; rw [hy] at hk2; exact e hk2.symm), if_neg (by rintro rfl; rw [hg] at hk2; exact hz hk2.symm)]
      exact hk2
    · rintro ⟨k', hk', rfl, hk2⟩
      have n1 : k' ≠ k := by rintro rfl; rw [e2] at hk2; exact hz hk2.symm
      have n2 : k' ≠ j := by rintro rfl; rw [e1] at hk2; exact e hk2.symm
      rw [swp_at, if_neg n1, if_neg n2] at hk2
      exact ⟨k', hk', rfl, hk2⟩
theorem HoleAt.move {w0 w w' : World} {b rb cap n mb : Nat} {x : It} {j k : Nat} {c0 c : Nat → It} {m : Int → Option Value} {N N' : Nat} (h : HoleAt w0 w b rb cap n mb x j c0 c m N) (hk : k < n) (hjk : j ≠ k)
    (h1 : HeapIn w' b rb cap n mb (upd c j (c k))) (h2 : MapAt (fun z : Int => Value.int .i64 z) w' mb (updK m (c k).id (some (.int .i64 (j : Nat)))) N') (h3 : Kept [rb, mb] w w') :
    HoleAt w0 w' b rb cap n mb x k c0 (upd c j (c k)) (updK m (c k).id (some (.int .i64 (j : Nat)))) N' := by
  have hj := h.lt
  have e1 : upd c j x k = c k := by unfold upd; rw [if_neg (Ne.symm hjk)]
  have e2 : upd c j x j = x := by unfold upd; rw [if_pos rfl]
  refine ⟨hk, h1, h2, ?_, ?_, ?_, ?_, h.kept.trans h3⟩
  · intro i hi
    rw [move_row hjk, swp_at]
    split
    · exact h.cc j hj
    · split
      · exact h.cc k hk
      · exact h.cc i hi
  · rw [move_row hjk]; exact swp_dst hj hk h.dst
  · rw [move_row hjk]; exact h.pos.move hj hk hjk e2 e1 h.dst
  · intro y; rw [move_row hjk, swp_inv hj hk]; exact h.same y
theorem HoleAt.start {w0 : World} {b rb cap n mb : Nat} {j : Nat} {c : Nat → It} {m : Int → Option Value} {N : Nat} (hj : j < n) (h1 : HeapIn w0 b rb cap n mb c) (h2 : MapAt (fun z : Int => Value.int .i64 z) w0 mb m N)
    (hC : ∀ k, k < n → inCC (c k).c) (hD : Dst n c) (hP : PosBut n c m (c j).id) : HoleAt w0 w0 b rb cap n mb (c j) j c c m N :=
  ⟨hj, h1, h2, by rw [upd_self]; exact hC, by rw [upd_self]; exact hD, by rw [upd_self]; exact hP, by rw [upd_self]; exact fun _ => Iff.rfl, Kept.refl _ _⟩
/-- the hole filled: what put makes of it -/
def Filled (w0 w : World) (b rb cap n mb : Nat) (c0 : Nat → It) : Prop := ∃ c m N, HeapIn w b rb cap n mb c ∧ MapAt (fun z : Int => Value.int .i64 z) w mb m N ∧ HeapL n c ∧ Dst n c ∧ PosMap n c m ∧ (∀ y, (∃ k, k < n ∧ c k = y) ↔ ∃ k, k < n ∧ c0 k = y) ∧ Kept [rb, mb] w0 w
theorem HoleAt.fill {w0 w w' : World} {b rb cap n mb : Nat} {x : It} {j : Nat} {c0 c : Nat → It} {m : Int → Option Value} {N N' : Nat} (h : HoleAt w0 w b rb cap n mb x j c0 c m N) (hL : HeapL n (upd c j x))
    (h1 : HeapIn w' b rb cap n mb (upd c j x)) (h2 : MapAt (fun z : Int => Value.int .i64 z) w' mb (updK m x.id (some (.int .i64 (j : Nat)))) N') (h3 : Kept [rb, mb] w w') : Filled w0 w' b rb cap n mb c0 :=
  ⟨_, _, _, h1, h2, hL, h.dst, h.pos.fill h.lt (by unfold upd; rw [if_pos rfl]) h.dst, h.same, h.kept.trans h3⟩
end Go.Proofs.Ytkiogciokngjfaa
