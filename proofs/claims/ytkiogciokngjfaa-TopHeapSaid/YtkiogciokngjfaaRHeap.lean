/- What the reference's heap does: place, Pop. -/
import Derived.Test.YtkiogciokngjfaaHeap7
import Derived.Test.YtkiogciokngjfaaMathHeap2
import Derived.Test.YtkiogciokngjfaaApp
set_option linter.unusedVariables false
set_option linter.unusedSimpArgs false
namespace Go.Proofs.Ytkiogciokngjfaa
open Go.RowKit Go.Sort FR
def it0 : It := ⟨⟨0, 0⟩, 0⟩
def nthI (l : List It) (k : Nat) : It := l.getD k it0
theorem nthI_get {l : List It} {k : Nat} (h : k < l.length) : nthI l k = l[k] := by simp [nthI, List.getD, h]
/-- slice A, in block r, reads as the list l -/
def RItems (w : World) (A : Option Addr) (r : Nat) (l : List It) : Prop := 0 < l.length → ∃ o, A = some ⟨r, o, none⟩ ∧ r < w.heap.size ∧ ∀ k, k < l.length →
  w.cell? ⟨r, o + k * 3, none⟩ = some (.int .i64 (nthI l k).id) ∧ w.cell? ⟨r, o + k * 3 + 1, none⟩ = some (.int .i64 (nthI l k).c.s) ∧ w.cell? ⟨r, o + k * 3 + 2, none⟩ = some (.int .i64 (nthI l k).c.d)
/-- block q is the reference's heap; its list l lies in block r -/
def RHeapAt (w : World) (q r : Nat) (l : List It) : Prop := ∃ A m, w.heap[q]? = some (.cells #[.slice A l.length m] 79 (0, 0)) ∧ l.length ≤ m ∧ RItems w A r l ∧ q ≠ r
theorem RItems.kept {S : List Nat} {w w' : World} {A : Option Addr} {r : Nat} {l : List It} (h : RItems w A r l) (hk : Kept S w w') (hr : r ∉ S) : RItems w' A r l := by
  intro hp
  obtain ⟨o, h1, h2, h3⟩ := h hp
  have e : ∀ x, w'.cell? ⟨r, x, none⟩ = w.cell? ⟨r, x, none⟩ := fun x => World.cell?_of_block (hk.block r h2 hr)
  refine ⟨o, h1, Nat.lt_of_lt_of_le h2 hk.size, fun k hk => ?_⟩
  rw [e, e, e]; exact h3 k hk
theorem RHeapAt.kept {S : List Nat} {w w' : World} {q r : Nat} {l : List It} (h : RHeapAt w q r l) (hk : Kept S w w') (hq : q ∉ S) (hr : r ∉ S) : RHeapAt w' q r l := by
  obtain ⟨A, m, h1, h2, h3, h4⟩ := h
  exact ⟨A, m, (hk.block q (Array.getElem?_eq_some_iff.1 h1).1 hq).trans h1, h2, h3.kept hk hr, h4⟩
theorem RHeapAt.below {w w' : World} {q r : Nat} {l : List It} (h : RHeapAt w q r l) (hb : Below w.heap.size w w') : RHeapAt w' q r l := h.kept (S := []) (.of_below hb) (by simp) (by simp)
theorem RHeapAt.lt {w : World} {q r : Nat} {l : List It} (h : RHeapAt w q r l) : q < w.heap.size := by
  obtain ⟨A, m, h1, _⟩ := h
  exact (Array.getElem?_eq_some_iff.1 h1).1
theorem RItems.one {w : World} {A : Option Addr} {r : Nat} {l : List It} (h : RItems w A r l) {k : Nat} (hk : k < l.length) {x : It} (hx : nthI l k = x) : ∃ o, A = some ⟨r, o, none⟩ ∧ r < w.heap.size ∧
    w.cell? ⟨r, o + k * 3, none⟩ = some (.int .i64 x.id) ∧ w.cell? ⟨r, o + k * 3 + 1, none⟩ = some (.int .i64 x.c.s) ∧ w.cell? ⟨r, o + k * 3 + 2, none⟩ = some (.int .i64 x.c.d) := by
  subst hx
  obtain ⟨o, h1, h2, h3⟩ := h (by omega)
  exact ⟨o, h1, h2, h3 k hk⟩
/-- the place z of number id in list l (-1: none) -/
def PlaceIs (l : List It) (id z : Int) : Prop := (∃ k : Nat, k < l.length ∧ z = k ∧ (nthI l k).id = id ∧ ∀ j, j < k → (nthI l j).id ≠ id) ∨ (z = -1 ∧ ∀ j, j < l.length → (nthI l j).id ≠ id)
def RetPlace (w : World) (l : List It) (id : Int) (e : Ending) (w' : World) : Prop := ∃ z, e = .returned (.int .i64 z) ∧ PlaceIs l id z ∧ w = w'
set_option maxHeartbeats 800000 in
theorem refPlace (w : World) (q r : Nat) (l : List It) (id : Int) (h : RHeapAt w q r l) (hl : l.length ≤ 1000000) :
    Calls Try.prog 113 #[.pointer (some ⟨q, 0, none⟩), .int .i64 id] w (RetPlace w l id) := by
  obtain ⟨A, m, h1, h2, h3, h4⟩ := h
  have k0 : w.cell? ⟨q, 0, none⟩ = some (.slice A l.length m) := by simp [World.cell?, h1]
  have H3 := Lib.hid h3
  obtain ⟨n, hn⟩ : ∃ n, l.length = n := ⟨_, rfl⟩
  rw [hn] at k0 h2 hl
  have Hn := Lib.hid hn
  clear h1 h3 h4 hn
  go_enter Try.func113, Try.ntmps113
  go_wp2
  go_loop [5] (fun i => ∃ k : Nat, k ≤ n ∧ i = .int .i64 k ∧ Hid (∀ j, j < k → (nthI l j).id ≠ id)) (fun i => n - (intOf i).toNat)
  case atStart => exact ⟨0, by omega, rfl, Lib.hid (fun j hj => by omega)⟩
  case round =>
    obtain ⟨k, hk, rfl, hno⟩ := hrel
    by_cases hlt : k < n
    · obtain ⟨⟨⟨xs, xd⟩, xi⟩, hx⟩ : ∃ x, nthI l k = x := ⟨_, rfl⟩
      obtain ⟨o, rfl, _, c1, _, _⟩ := H3.out.one (by rw [Hn.out]; exact hlt) hx
      simp only at c1
      have Hx := Lib.hid hx
      clear hx
      by_cases e : xi = id
      · subst e
        go_wp2
        go_ret
        exact ⟨_, rfl, .inl ⟨k, by rw [Hn.out]; exact hlt, rfl, by rw [Hx.out], hno.out⟩, rfl⟩
      · go_wp2
        go_round
        case rel => exact ⟨k + 1, by omega, by go_num, Lib.hid (fun j hj => by
          by_cases ej : j = k
          · subst ej; rw [Hx.out]; exact e
          · exact hno.out j (by omega))⟩
        case measure => simp [intOf]; omega
    · obtain rfl : k = n := by omega
      go_wp2
      go_ret
      exact ⟨_, rfl, .inr ⟨rfl, fun j hj => hno.out j (by rw [Hn.out] at hj; exact hj)⟩, rfl⟩
theorem refPop_none (w : World) (q r : Nat) (h : RHeapAt w q r []) :
    Calls Try.prog 58 #[.pointer (some ⟨q, 0, none⟩)] w fun e w' => e = .returned (.tuple #[.agg #[.int .i64 0, .int .i64 0, .int .i64 0], .bool false]) ∧ Below w.heap.size w w' := by
  obtain ⟨A, m, h1, _⟩ := h
  have k0 : w.cell? ⟨q, 0, none⟩ = some (.slice A 0 m) := by simp [World.cell?, h1]
  have hq := (Array.getElem?_eq_some_iff.1 h1).1
  clear h1
  go_enter Try.func58, Try.ntmps58
  go_wp2
  refine bodyPost_ret (v := .tuple #[.agg #[.int .i64 0, .int .i64 0, .int .i64 0], .bool false]) (by simp [results, Try.results58, go_sem]) rfl ?_
  exact ⟨rfl, by (repeat' (first | exact Below.refl _ _ | assumption | apply bel_drewN | apply bel_drew | apply bel_alloc | (refine bel_trans ?_ (by assumption))))⟩
/-- the slice without its first one -/
theorem RItems.tail {w : World} {r o m : Nat} {x : It} {l : List It} (h : RItems w (some ⟨r, o, none⟩) r (x :: l)) : RItems w (if m = 1 then some ⟨r, o, none⟩ else (some (⟨r, o, none⟩ : Addr)).map (·.add (1 * 3))) r l ∨ m = 1 := by
  by_cases e : m = 1
  · exact .inr e
  · left
    rw [if_neg e]
    intro hp
    obtain ⟨o', h1, h2, h3⟩ := h (by simp)
    simp only [Option.some.injEq, Addr.mk.injEq, true_and, and_true] at h1
    subst h1
    refine ⟨o + 3, by simp [Addr.add], h2, fun k hk => ?_⟩
    have := h3 (k + 1) (by simp; omega)
    have e2 : nthI (x :: l) (k + 1) = nthI l k := by simp [nthI, List.getD]
    rw [e2] at this
    have e3 : o + 3 + k * 3 = o + (k + 1) * 3 := by omega
    rw [e3]; exact this
theorem RItems.tail' {w : World} {A : Option Addr} {r m : Nat} {x : It} {l : List It} (h : RItems w A r (x :: l)) (hm : l.length + 1 ≤ m) : RItems w (if m = 1 then A else A.map (·.add (1 * 3))) r l := by
  obtain ⟨o, rfl, _⟩ := h (by simp)
  rcases h.tail (m := m) with h' | h'
  · exact h'
  · intro hp; omega
theorem run_slice_from1 {P : Program} {t : TypeId} (A : Option Addr) (n m sz : Nat) (ht : P.underlying t = some (.slice (P.elem t))) (hs : ∀ w, (sizeOf (P.elem t)).run P w = .ok sz w) (h : 1 ≤ n) (w : World) :
    (Instr.slice t (.slice A n m) (some (.int .i64 1)) none none).run P w = .ok (.slice (if m = 1 then A else A.map (·.add (1 * sz))) (n - 1) (m - 1)) w := by
  rw [run_slice_l w t A n m ht .i64 1 (by omega) (by omega), hs]
  simp [Result.andThen, sliced]
set_option maxRecDepth 100000 in
set_option maxHeartbeats 1600000 in
theorem refPop_some (w : World) (q r : Nat) (xs xd xi : Int) (l : List It) (h : RHeapAt w q r (⟨⟨xs, xd⟩, xi⟩ :: l)) :
    Calls Try.prog 58 #[.pointer (some ⟨q, 0, none⟩)] w fun e w' => e = .returned (.tuple #[.agg #[.int .i64 xi, .int .i64 xs, .int .i64 xd], .bool true]) ∧ RHeapAt w' q r l ∧ Kept [q] w w' := by
  obtain ⟨A, m, h1, h2, h3, h4⟩ := h
  have hq := (Array.getElem?_eq_some_iff.1 h1).1
  have ht := h3.tail' h2
  have hm1 : (⟨⟨xs, xd⟩, xi⟩ :: l : List It).length = l.length + 1 := rfl
  rw [hm1] at h1 h2
  have hsl := fun w' => run_slice_from1 (P := Try.prog) (t := 77) A (l.length + 1) m 3 Try.underlying77 (fun w => by kernel_rfl) (by omega) w'
  generalize (if m = 1 then A else A.map (·.add (1 * 3))) = A' at ht hsl
  obtain ⟨o, rfl, hr, c1, c2, c3⟩ := h3.one (k := 0) (by simp) (x := ⟨⟨xs, xd⟩, xi⟩) rfl
  have k0 : w.cell? ⟨q, 0, none⟩ = some (.slice (some ⟨r, o, none⟩) (l.length + 1) m) := by simp [World.cell?, h1]
  have kf : w.frozen? ⟨q, 0, none⟩ = false := by simp [World.frozen?, h1]
  simp only [Nat.zero_mul, Nat.add_zero] at c1 c2 c3
  have Ht := Lib.hid ht
  have H1 := Lib.hid h1
  clear h3 ht h1 hm1
  go_enter Try.func58, Try.ntmps58
  go_wp2
  refine bodyPost_ret (v := .tuple #[.agg #[.int .i64 xi, .int .i64 xs, .int .i64 xd], .bool true]) (by simp [results, Try.results58, go_sem]) rfl ?_
  have hK1 : Kept [q] w (w.setCell ⟨q, 0, none⟩ (Value.slice A' l.length (m - 1))) := (Kept.refl _ _).setCell (.inl (by simp))
  have hb1 : (w.setCell ⟨q, 0, none⟩ (Value.slice A' l.length (m - 1))).heap[q]? = some (.cells #[.slice A' l.length (m - 1)] 79 (0, 0)) := by rw [set_heapH _ _ _ _ _ _ H1.out]; rfl
  have hR1 : RHeapAt (w.setCell ⟨q, 0, none⟩ (Value.slice A' l.length (m - 1))) q r l := ⟨A', m - 1, hb1, by omega, Ht.out.kept hK1 (by simpa using Ne.symm h4), h4⟩
  exact ⟨rfl, hR1.below (by (repeat' (first | exact Below.refl _ _ | assumption | apply bel_drewN | apply bel_drew | apply bel_alloc | (refine bel_trans ?_ (by assumption))))), (hK1.alloc).alloc⟩
end Go.Proofs.Ytkiogciokngjfaa
