/- What a grid's Set, New and Copy do. -/
import Derived.Test.YtkiogciokngjfaaGrid
import Derived.RegionTactic
import Derived.BigRegion
set_option linter.unusedVariables false
set_option linter.unusedSimpArgs false
namespace Go.Proofs.Ytkiogciokngjfaa
open Go.RowKit Go.Sort FR
/-- all old blocks but those listed are as they were -/
structure Kept (S : List Nat) (w w' : World) : Prop where
  os : w'.os = w.os
  tape : w'.tape = w.tape
  output : w'.output = w.output
  size : w.heap.size ≤ w'.heap.size
  block : ∀ k, k < w.heap.size → k ∉ S → w'.heap[k]? = w.heap[k]?
theorem Kept.refl (S : List Nat) (w : World) : Kept S w w := ⟨rfl, rfl, rfl, Nat.le_refl _, fun _ _ _ => rfl⟩
theorem Kept.trans {S : List Nat} {a b c : World} (h : Kept S a b) (k : Kept S b c) : Kept S a c :=
  ⟨k.os.trans h.os, k.tape.trans h.tape, k.output.trans h.output, Nat.le_trans h.size k.size, fun i hi hs => (k.block i (Nat.lt_of_lt_of_le hi h.size) hs).trans (h.block i hi hs)⟩
theorem Kept.more {S S' : List Nat} {a b : World} (h : Kept S a b) (hs : ∀ k, k ∈ S → k ∈ S') : Kept S' a b := ⟨h.os, h.tape, h.output, h.size, fun k hk hn => h.block k hk fun e => hn (hs k e)⟩
theorem Kept.of_below {S : List Nat} {a b : World} (h : Below a.heap.size a b) : Kept S a b := ⟨h.os, h.tape, h.output, h.size, fun k hk _ => h.block k hk⟩
theorem Kept.below {S : List Nat} {B : Nat} {a b c : World} (h : Below B a b) (k : Kept S b c) (hB : B ≤ b.heap.size) (hs : ∀ i, i ∈ S → B ≤ i) : Below B a c :=
  h.trans ⟨k.os, k.tape, k.output, k.size, fun i hi => k.block i (Nat.lt_of_lt_of_le hi hB) fun e => by have := hs i e; omega⟩
theorem Kept.below0 {B : Nat} {b c : World} (k : Kept [] b c) (hB : B ≤ b.heap.size) : Below B b c := Kept.below (Below.refl _ _) k hB (fun _ h => by cases h)
theorem Kept.drew {S : List Nat} {a b : World} (h : Kept S a b) : Kept S a b.drew := ⟨h.os, h.tape, h.output, h.size, h.block⟩
theorem Kept.drewN {S : List Nat} {a b : World} (h : Kept S a b) {n : Nat} : Kept S a (b.drewN n) := ⟨h.os, h.tape, h.output, h.size, h.block⟩
theorem Kept.alloc {S : List Nat} {a b : World} (h : Kept S a b) {o : Obj} : Kept S a (b.alloc o) :=
  h.trans ⟨rfl, rfl, rfl, by simp, fun k hk _ => Below.heap_alloc _ _ _ hk⟩
theorem Kept.setCell {S : List Nat} {a b : World} (h : Kept S a b) {p : Addr} {u : Value} (hp : p.block ∈ S ∨ a.heap.size ≤ p.block) : Kept S a (b.setCell p u) :=
  ⟨h.os, h.tape, h.output, by have := h.size; simpa [World.setCell] using this, fun k hk hn => by
    have hne : k ≠ p.block := by
      rintro rfl
      rcases hp with hp | hp
      · exact hn hp
      · omega
    rw [Below.heap_setCell _ _ _ _ hne]; exact h.block k hk hn⟩
theorem GridAt.kept {S : List Nat} {w w' : World} {p : Nat} {g : G} {v : Int} (h : GridAt w p g v) (hk : Kept S w w') (hp : p ∉ S) : GridAt w' p g v := by
  have hl := h.lt
  obtain ⟨h0, ws, h1, h2, h3⟩ := h
  exact ⟨h0, ws, h1, (hk.block p hl hp).trans h2, h3⟩
/-- a grid with a cell set -/
def gset (g : G) (c : Nat) (t : Bool) : G := { g with b := upd g.b c t }
theorem gridNew_ok (a b : Int) (w : World) (h : 1 ≤ a ∧ a ≤ 16 ∧ 1 ≤ b ∧ b ≤ 16) :
    Calls Try.prog 43 #[.int .i64 a, .int .i64 b] w fun e w' => e = .returned (.tuple #[.pointer (some ⟨w.heap.size, 0, none⟩), .nilIface]) ∧ GridAt w' w.heap.size ⟨a.toNat, b.toNat, fun _ => false⟩ 0 ∧ Below w.heap.size w w' ∧ w'.heap.size = w.heap.size + 1 := by
  obtain ⟨h1, h2, h3, h4⟩ := h
  go_enter Try.func43, Try.ntmps43
  go_wp2
  go_ret2
  refine ⟨rfl, ?_, by (repeat' (first | exact Below.refl _ _ | assumption | apply bel_drewN | apply bel_drew | apply bel_alloc | (refine bel_trans ?_ (by assumption)))), by simp⟩
  refine ⟨⟨by simp only; omega, by simp only; omega, by simp only; omega, by simp only; omega⟩, fun _ => 0, fun _ => (by decide : 0 < 18446744073709551616), ?_, fun c _ => by simp⟩
  rw [heap_alloc_new]
  simp [gridCells]
  omega
theorem gridNew_bad (a b : Int) (w : World) (h : ¬ (1 ≤ a ∧ a ≤ 16 ∧ 1 ≤ b ∧ b ≤ 16)) :
    Calls Try.prog 43 #[.int .i64 a, .int .i64 b] w fun e w' => e = .returned (.tuple #[.pointer none, .iface 137 (.int .i64 1)]) ∧ w = w' := by
  go_enter Try.func43, Try.ntmps43
  go_wp2
  all_goals
    go_ret2
    exact ⟨rfl, rfl⟩
theorem gridSet_out (w : World) (p : Nat) (g : G) (v c : Int) (t : Bool) (h : GridAt w p g v) (hc : c < 0 ∨ g.n ≤ c) :
    Calls Try.prog 45 #[.pointer (some ⟨p, 0, none⟩), .int .i64 c, .bool t] w fun e w' => e = .returned (.tuple #[.bool false, .iface 137 (.int .i64 1)]) ∧ Below w.heap.size w w' := by
  go_enter Try.func45, Try.ntmps45
  go_wp2_with fail
  refine (gridFree_out w p g v c h hc).mono ?_
  rintro e w1 ⟨rfl, hb⟩
  go_wp2
  go_ret2
  exact ⟨rfl, by (repeat' (first | exact Below.refl _ _ | assumption | apply bel_drewN | apply bel_drew | apply bel_alloc | (refine bel_trans ?_ (by assumption))))⟩
theorem gridSet_same (w : World) (p : Nat) (g : G) (v : Int) (c : Nat) (h : GridAt w p g v) (hc : c < g.n) :
    Calls Try.prog 45 #[.pointer (some ⟨p, 0, none⟩), .int .i64 (c : Nat), .bool (g.b c)] w fun e w' => e = .returned (.tuple #[.bool false, .nilIface]) ∧ Below w.heap.size w w' := by
  have hf := gridFree_in w p g v c h hc
  generalize g.b c = t at hf ⊢
  clear h
  cases t
  all_goals
    go_enter Try.func45, Try.ntmps45
    go_wp2_with fail
    refine hf.mono ?_
    rintro e w1 ⟨rfl, hb⟩
    go_wp2
    go_ret2
    exact ⟨rfl, by (repeat' (first | exact Below.refl _ _ | assumption | apply bel_drewN | apply bel_drew | apply bel_alloc | (refine bel_trans ?_ (by assumption))))⟩
theorem gridCopy (w : World) (p : Nat) (g : G) (v : Int) (h : GridAt w p g v) :
    Calls Try.prog 47 #[.pointer (some ⟨p, 0, none⟩)] w fun e w' => e = .returned (.pointer (some ⟨w.heap.size, 0, none⟩)) ∧ GridAt w' w.heap.size g v ∧ Below w.heap.size w w' ∧ w'.heap.size = w.heap.size + 1 := by
  obtain ⟨h0, ws, h1, hb, h3⟩ := h
  have k0 : w.cell? ⟨p, 0, none⟩ = some (.int .i64 g.w) := by simp [World.cell?, hb, gridCells]
  have k1 : w.cell? ⟨p, 1, none⟩ = some (.int .i64 g.h) := by simp [World.cell?, hb, gridCells]
  have k2 : w.cell? ⟨p, 2, none⟩ = some (.int .u64 (ws 0)) := by simp [World.cell?, hb, gridCells]
  have k3 : w.cell? ⟨p, 3, none⟩ = some (.int .u64 (ws 1)) := by simp [World.cell?, hb, gridCells]
  have k4 : w.cell? ⟨p, 4, none⟩ = some (.int .u64 (ws 2)) := by simp [World.cell?, hb, gridCells]
  have k5 : w.cell? ⟨p, 5, none⟩ = some (.int .u64 (ws 3)) := by simp [World.cell?, hb, gridCells]
  have k6 : w.cell? ⟨p, 6, none⟩ = some (.int .i64 v) := by simp [World.cell?, hb, gridCells]
  have Hb := Lib.hid hb
  clear hb
  go_enter Try.func47, Try.ntmps47
  go_wp2
  go_ret
  refine ⟨rfl, ⟨h0, ws, h1, ?_, h3⟩, by (repeat' (first | exact Below.refl _ _ | assumption | apply bel_drewN | apply bel_drew | apply bel_alloc | (refine bel_trans ?_ (by assumption)))), by simp⟩
  rw [heap_alloc_new]
  rfl
theorem bits_xor_pow (z k : Nat) (hz : z < 18446744073709551616) (hk : k < 64) : bits BinOp.xor IntKind.u64 (z : Int) ((2 ^ k : Nat) : Int) = ((z ^^^ 2 ^ k : Nat) : Int) :=
  bits_xor_u64_nat z (2 ^ k) hz (Nat.lt_of_lt_of_le (Nat.pow_lt_pow_right (by decide) hk) (by decide))
theorem gset_heap (w : World) (p k : Nat) (cs : Array Value) (T : TypeId) (x y : Value) (h : w.heap[p]? = some (.cells cs T (0, 0))) :
    (((w.setCell ⟨p, k, none⟩ x).setCell ⟨p, 6, none⟩ y).drew).heap[p]? = some (.cells ((cs.setIfInBounds k x).setIfInBounds 6 y) T (0, 0)) := by
  simp [World.drew, World.setCell, Array.getElem?_modify, h]
theorem gset_at {w : World} {p : Nat} {g : G} {ws : Nat → Nat} {v : Int} {c : Nat} {t : Bool} (h0 : g.ok) (hB : w.heap[p]? = some (.cells (gridCells g ws v) 146 (0, 0))) (h1 : ∀ i, ws i < 18446744073709551616)
    (h3 : ∀ c, c < 256 → g.b c = (ws (c / 64)).testBit (c % 64)) (hc : c < 256) (ht : g.b c = !t) :
    GridAt ((w.setCell ⟨p, 2 + c / 64, none⟩ (.int .u64 (bits BinOp.xor IntKind.u64 (ws (c / 64) : Int) (IntKind.u64.wrap (2 ^ (c % 64)))))).setCell ⟨p, 6, none⟩ (.int .i64 (v + 1))).drew p (gset g c t) (v + 1) := by
  have e1 : IntKind.u64.wrap (2 ^ (c % 64)) = ((2 ^ (c % 64) : Nat) : Int) := by
    have : (2 : Nat) ^ (c % 64) < 2 ^ 64 := Nat.pow_lt_pow_right (by decide) (Nat.mod_lt _ (by decide))
    rw [IntKind.wrap_u64]
    have e : ((2 : Int) ^ (c % 64)) = ((2 ^ (c % 64) : Nat) : Int) := by simp
    rw [e]
    clear e
    generalize 2 ^ (c % 64) = n at *
    omega
  have hx : ws (c / 64) ^^^ 2 ^ (c % 64) < 18446744073709551616 := Nat.xor_lt_two_pow (n := 64) (h1 _) (Nat.pow_lt_pow_right (by decide) (Nat.mod_lt _ (by decide)))
  rw [e1, bits_xor_pow _ _ (h1 _) (Nat.mod_lt _ (by decide))]
  refine ⟨h0, upd ws (c / 64) (ws (c / 64) ^^^ 2 ^ (c % 64)), ?_, ?_, ?_⟩
  · intro i
    unfold upd; split
    · exact hx
    · exact h1 i
  · rw [gset_heap _ _ _ _ _ _ _ hB]
    rcases (show c / 64 = 0 ∨ c / 64 = 1 ∨ c / 64 = 2 ∨ c / 64 = 3 by omega) with e | e | e | e <;> rw [e] <;> simp [gridCells, upd, gset]
  · intro c' hc'
    show upd g.b c t c' = _
    by_cases e : c' = c
    · subst e
      rw [upd_same, upd_same, Nat.testBit_xor, ← h3 c' hc', ht, Nat.testBit_two_pow_self]
      cases t <;> rfl
    · rw [upd_ne _ _ e, h3 c' hc']
      by_cases q : c' / 64 = c / 64
      · rw [q, upd_same, Nat.testBit_xor, Nat.testBit_two_pow_of_ne (by omega), Bool.xor_false]
      · rw [upd_ne _ _ q]
set_option maxHeartbeats 800000 in
theorem gridSet_new (w : World) (p : Nat) (g : G) (v : Int) (c : Nat) (t : Bool) (h : GridAt w p g v) (hc : c < g.n) (ht : g.b c = !t) (hv : 0 ≤ v ∧ v ≤ 1099511627776) :
    Calls Try.prog 45 #[.pointer (some ⟨p, 0, none⟩), .int .i64 (c : Nat), .bool t] w fun e w' => e = .returned (.tuple #[.bool true, .nilIface]) ∧ GridAt w' p (gset g c t) (v + 1) ∧ Kept [p] w w' := by
  have hf := gridFree_in w p g v c h hc
  rw [ht] at hf
  have hn := G.n_le h.1
  obtain ⟨v0, v1⟩ := hv
  have hlt := h.lt
  obtain ⟨h0, ws, h1, hb, h3⟩ := h
  have Hb := Lib.hid hb
  have Ht := Lib.hid ht
  have H1 := Lib.hid h1
  have H3 := Lib.hid h3
  clear hb ht h1 h3
  go_enter Try.func45, Try.ntmps45
  go_wp2_with fail
  refine hf.mono ?_
  rintro e w1 ⟨rfl, hb1⟩
  have hB1 := Lib.hid ((hb1.block p hlt).trans Hb.out)
  have hk : Kept [p] w w1 := .of_below hb1
  clear hb1 hf
  have kz : w1.cell? ⟨p, 2 + c / 64, none⟩ = some (.int .u64 (ws (c / 64))) := by
    have := hB1.out
    rcases (show c / 64 = 0 ∨ c / 64 = 1 ∨ c / 64 = 2 ∨ c / 64 = 3 by omega) with e | e | e | e <;> rw [e] <;> simp [World.cell?, this, gridCells]
  have kv : w1.cell? ⟨p, 6, none⟩ = some (.int .i64 v) := by have := hB1.out; simp [World.cell?, this, gridCells]
  have kf : ∀ k, w1.frozen? ⟨p, k, none⟩ = false := by intro k; have := hB1.out; simp [World.frozen?, this]
  cases t
  all_goals
    go_wp2_with fail
    go_region
    go_wp2
    go_ret2
    refine ⟨rfl, gset_at h0 hB1.out H1.out H3.out (by omega) Ht.out, ?_⟩
    exact ((hk.setCell (.inl (by simp))).setCell (.inl (by simp))).drew
end Go.Proofs.Ytkiogciokngjfaa
