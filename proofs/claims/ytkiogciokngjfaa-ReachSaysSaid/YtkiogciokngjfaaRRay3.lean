/- The document's Near and Direct. -/
import Derived.Test.YtkiogciokngjfaaRRay2
set_option linter.unusedVariables false
set_option linter.unusedSimpArgs false
namespace Go.Proofs.Ytkiogciokngjfaa
open Go.RowKit Go.Sort FR
theorem boolP (P : Prop) : ∃ t : Bool, t = true ↔ P := by
  by_cases h : P
  · exact ⟨true, by simp [h]⟩
  · exact ⟨false, by simp [h]⟩
theorem bool_no {r : Bool} {P : Prop} (h : r = true ↔ P) (hn : ¬ P) : r = false := by
  cases r with
  | false => rfl
  | true => exact absurd (h.1 rfl) hn
theorem arr_b' {w w' : World} {b : Nat} {is : Nat → Bool} {t : Nat} (h : w.heap[b]? = some (.cells (rowOf (icell is) 256) 66 (0, 0))) (hb : Below w.heap.size w w') (ht : t < 256) : w'.cell? ⟨b, t, none⟩ = some (.bool (is t)) :=
  (World.cell?_of_block (w := w) (w' := w') (a := ⟨b, t, none⟩) (hb.block b (Array.getElem?_eq_some_iff.1 h).1)).trans (by simp [World.cell?, h, rowOf_get _ _ _ ht, icell])
theorem arr_c' {w w' : World} {b : Nat} {c : Nat → C} {t : Nat} (h : w.heap[b]? = some (.cells (rowOf (ccell c) 512) 106 (0, 0))) (hb : Below w.heap.size w w') (ht : t < 256) : w'.cell? ⟨b, t * 2, none⟩ = some (.int .i64 (c t).s) ∧ w'.cell? ⟨b, t * 2 + 1, none⟩ = some (.int .i64 (c t).d) := by
  have e1 : (t * 2 + 1) % 2 = 1 := by omega
  have e2 : (t * 2 + 1) / 2 = t := by omega
  exact ⟨(World.cell?_of_block (w := w) (w' := w') (a := ⟨b, t * 2, none⟩) (hb.block b (Array.getElem?_eq_some_iff.1 h).1)).trans (by simp [World.cell?, h, rowOf_get _ _ _ (show t * 2 < 512 by omega), ccell]),
    (World.cell?_of_block (w := w) (w' := w') (a := ⟨b, t * 2 + 1, none⟩) (hb.block b (Array.getElem?_eq_some_iff.1 h).1)).trans (by simp [World.cell?, h, rowOf_get _ _ _ (show t * 2 + 1 < 512 by omega), ccell, e1, e2])⟩
theorem ray_cell {w w' : World} {b a : Nat} {c : Nat → C} {is : Nat → Bool} {Z : Array Value} (h : w.heap[b]? = some (.cells Z 174 (0, 0))) (hZ : rayRow a c is = Z) (hb : Below w.heap.size w w') :
    w'.cell? ⟨b, 0, none⟩ = some (.int .i64 (a : Nat)) ∧ ∀ t, t < 256 → w'.cell? ⟨b, 1 + t * 2, none⟩ = some (.int .i64 (c t).s) ∧ w'.cell? ⟨b, 1 + t * 2 + 1, none⟩ = some (.int .i64 (c t).d) ∧ w'.cell? ⟨b, 513 + t, none⟩ = some (.bool (is t)) := by
  subst hZ
  have hl := (Array.getElem?_eq_some_iff.1 h).1
  have key : ∀ k, k < 769 → w'.cell? ⟨b, k, none⟩ = some (rayCell a c is k) := fun k hk =>
    (World.cell?_of_block (w := w) (w' := w') (a := ⟨b, k, none⟩) (hb.block b hl)).trans (by simp [World.cell?, h, rayRow, rowOf_get _ _ _ hk])
  refine ⟨key 0 (by omega), fun t ht => ⟨?_, ?_, ?_⟩⟩
  · rw [key _ (by omega)]
    unfold rayCell ccell
    rw [if_neg (by omega), if_pos (by omega), if_pos (by omega), show (1 + t * 2 - 1) / 2 = t by omega]
  · rw [key _ (by omega)]
    unfold rayCell ccell
    rw [if_neg (by omega), if_pos (by omega), if_neg (by omega), show (1 + t * 2 + 1 - 1) / 2 = t by omega]
  · rw [key _ (by omega)]
    unfold rayCell icell
    rw [if_neg (by omega), if_neg (by omega), show 513 + t - 513 = t by omega]
/-- a corner between, by what it costs from both -/
def MidK (g : G) (ca cb : Nat) (c1 c2 : Nat → C) (i1 i2 : Nat → Bool) (k : Nat) : Prop := k ≠ ca ∧ k ≠ cb ∧ i1 k = true ∧ i2 k = true ∧ C.add (c1 k) (c2 k) = g.oct ca cb
theorem midK_iff {g : G} {ca cb : Nat} {c1 c2 : Nat → C} {i1 i2 : Nat → Bool} (h1 : FloodIs g ca c1 i1) (h2 : FloodIs g cb c2 i2) (k : Nat) : MidK g ca cb c1 c2 i1 i2 k ↔ k ≠ ca ∧ k ≠ cb ∧ g.Mid ca cb k := by
  have hs : ∀ a b c, g.E a b c → g.E b a c := fun _ _ _ he => G.E_symm he
  constructor
  · rintro ⟨a1, a2, a3, a4, a5⟩
    exact ⟨a1, a2, _, _, ((h1 k).1 a3).1.1, Walk.rev hs ((h2 k).1 a4).1.1, a5⟩
  · rintro ⟨a1, a2, p, q, b1, b2, b3⟩
    have i1k : i1 k = true := by
      cases h : i1 k with
      | true => rfl
      | false => exact absurd b1 ((h1 k).2 h _)
    have i2k : i2 k = true := by
      cases h : i2 k with
      | true => rfl
      | false => exact absurd (Walk.rev hs b2) ((h2 k).2 h _)
    have d1 := ((h1 k).1 i1k).1
    have d2 := ((h2 k).1 i2k).1
    have l1 := d1.2 _ b1
    have l2 := d2.2 _ (Walk.rev hs b2)
    refine ⟨a1, a2, i1k, i2k, C.le_antisymm ?_ ?_⟩
    · rw [← b3]; exact C.add_le_add l1 l2
    · exact G.oct_le (d1.1.trans (Walk.rev hs d2.1))
theorem near_flood {g : G} {ca cb : Nat} {c1 : Nat → C} {i1 : Nat → Bool} (h1 : FloodIs g ca c1 i1) : g.Near ca cb ↔ i1 cb = true ∧ c1 cb = g.oct ca cb := by
  rw [G.near_dist]
  constructor
  · intro h
    have : i1 cb = true := by
      cases hh : i1 cb with
      | true => rfl
      | false => exact absurd h.1 ((h1 cb).2 hh _)
    exact ⟨this, ((h1 cb).1 this).1.unique h⟩
  · rintro ⟨a1, a2⟩
    rw [← a2]; exact ((h1 cb).1 a1).1
set_option maxRecDepth 100000 in
set_option maxHeartbeats 3200000 in
theorem rNear (w : World) (p : Nat) (g : G) (v : Int) (ca cb : Nat) (t : Bool) (h : RGridAt w p g v) (hca : ca < g.n) (hcb : cb < g.n) (ht : t = true ↔ g.Near ca cb) :
    Calls Try.prog 68 #[.pointer (some ⟨p, 0, none⟩), .int .i64 (ca : Nat), .int .i64 (cb : Nat)] w fun e w' => e = .returned (.bool t) ∧ Below w.heap.size w w' := by
  have hNn := G.n_le h.1
  go_enter Try.func68, Try.ntmps68
  go_wp2_with fail
  (with_reducible refine (rFlood _ p g v ca h hca).mono ?_)
  rintro e w1 ⟨fa, ia, rfl, hFa, hb1⟩
  obtain ⟨Z1, hZ1⟩ : ∃ Z, Z = rowOf (ccell fa) 512 := ⟨_, rfl⟩
  obtain ⟨Z2, hZ2⟩ : ∃ Z, Z = rowOf (icell ia) 256 := ⟨_, rfl⟩
  have z1 : Z1.size = 512 := by rw [hZ1, rowOf_size]
  have z2 : Z2.size = 256 := by rw [hZ2, rowOf_size]
  have o1 : Z1.all (·.oneCell') = true := by rw [hZ1]; exact Array.all_eq_true_iff_forall_mem.2 (fun v hv => row_one (f := ccell fa) (fun k => by unfold ccell; split <;> rfl) 512 v (by simpa using hv))
  have o2 : Z2.all (·.oneCell') = true := by rw [hZ2]; exact Array.all_eq_true_iff_forall_mem.2 (fun v hv => row_one (f := icell ia) (fun k => rfl) 256 v (by simpa using hv))
  rw [← hZ1, ← hZ2]
  have HZ1 := Lib.hid hZ1
  have HZ2 := Lib.hid hZ2
  clear hZ1 hZ2
  obtain ⟨W1, W2, r1, r2, hA1, hA2, hbW⟩ := two_arrays w1 Z1 Z2 z1 z2 o1 o2
  rw [HZ1.out] at hA1
  rw [HZ2.out] at hA2
  have hA1 := Lib.hid hA1
  have hA2 := Lib.hid hA2
  clear HZ1 HZ2 o1 o2
  have HW := bel_trans hb1 hbW
  have hR2 := h.below HW h.lt
  rw [near_flood hFa] at ht
  go_upto_region 2 with (fail)
  obtain ⟨b7, hb7⟩ : ∃ b, w1.heap.size = b := ⟨_, rfl⟩
  rw [hb7] at hA1 hA2 ⊢
  obtain ⟨b8, hb8⟩ : ∃ b, b7 + 1 = b := ⟨_, rfl⟩
  rw [hb8] at hA2 ⊢
  obtain ⟨⟨os, od⟩, hox⟩ : ∃ z, g.oct ca cb = z := ⟨_, rfl⟩
  have cO := Lib.hid (fun w' h' => rOct w' p g v ca cb ⟨os, od⟩ h' hca hcb hox)
  have ci := arr_b' hA2.out (Below.refl _ _) (show cb < 256 by omega)
  obtain ⟨x1, x2⟩ := arr_c' hA1.out (Below.refl _ _) (show cb < 256 by omega)
  obtain ⟨⟨xs, xd⟩, hx1⟩ : ∃ z, fa cb = z := ⟨_, rfl⟩
  rw [hx1] at x1 x2 ht
  rw [hox] at ht
  simp only at x1 x2
  have q0 : (0 : Int) ≤ (cb : Int) := by omega
  have q1 : (cb : Int) < 256 := by omega
  have HR2 := Lib.hid hR2
  have hrl := hR2.lt
  clear r1 r2 hb7 hb8 hbW hb1 z1 z2 hA1 hA2 hFa hx1 hox h hR2
  have HX := Below.refl W2.heap.size W2
  have x1q := cell_regrown x1
  have x2q := cell_regrown x2
  cases hic : ia cb with
  | false =>
    rw [hic] at ci ht
    have hr := bool_no ht (by simp)
    subst hr
    have ciq := cell_regrown ci
    clear ht hic
    refine wp_region_quiet_below (by kernel_rfl) (by kernel_rfl) ?_
    repeat (first | go_big_quiet_step (fail) | quiet_step (fail))
    refine wpQuiet_nil ?_
    intro _ hw'
    obtain ⟨⟨dq, osq⟩, hw''⟩ := hw'
    have HY := bel_trans HX (below_regrown W2 dq osq)
    have hb2 := below_regrown W2 dq osq
    subst hw''
    generalize grow (redrawn W2 dq) osq = w3 at HY hb2 ⊢
    go_wp2
    go_ret
    exact ⟨rfl, bel_trans HW HY⟩
  | true =>
    rw [hic] at ci ht
    have ciq := cell_regrown ci
    clear hic
    by_cases e1 : xs = os
    · by_cases e2 : xd = od
      · have hr : t = true := ht.2 ⟨rfl, by rw [e1, e2]⟩
        subst hr
        subst e1
        subst e2
        clear ht
        refine wp_region_quiet_below (by kernel_rfl) (by kernel_rfl) ?_
        repeat (first | go_big_quiet_step ((with_reducible exact Calls.regrown_of (cO.out _ (HR2.out.below (below_regrown W2 _ _) hrl)))) | quiet_step ((with_reducible exact Calls.regrown_of (cO.out _ (HR2.out.below (below_regrown W2 _ _) hrl)))))
        refine wpQuiet_nil ?_
        intro _ hw'
        obtain ⟨⟨dq, osq⟩, hw''⟩ := hw'
        have HY := bel_trans HX (below_regrown W2 dq osq)
        have hb2 := below_regrown W2 dq osq
        subst hw''
        generalize grow (redrawn W2 dq) osq = w3 at HY hb2 ⊢
        go_wp2
        go_ret
        exact ⟨rfl, bel_trans HW HY⟩
      · have hr := bool_no ht (by rintro ⟨_, e⟩; injection e with _ e; exact e2 e)
        have e2' : (xd == od) = false := by rw [beq_eq_false_iff_ne]; exact e2
        subst hr
        subst e1
        clear ht e2
        refine wp_region_quiet_below (by kernel_rfl) (by kernel_rfl) ?_
        repeat (first | go_big_quiet_step ((with_reducible exact Calls.regrown_of (cO.out _ (HR2.out.below (below_regrown W2 _ _) hrl)))) | quiet_step ((with_reducible exact Calls.regrown_of (cO.out _ (HR2.out.below (below_regrown W2 _ _) hrl)))))
        refine wpQuiet_nil ?_
        intro _ hw'
        obtain ⟨⟨dq, osq⟩, hw''⟩ := hw'
        have HY := bel_trans HX (below_regrown W2 dq osq)
        have hb2 := below_regrown W2 dq osq
        subst hw''
        generalize grow (redrawn W2 dq) osq = w3 at HY hb2 ⊢
        go_wp2
        go_ret
        exact ⟨rfl, bel_trans HW HY⟩
    · have hr := bool_no ht (by rintro ⟨_, e⟩; injection e with e _; exact e1 e)
      have e1' : (xs == os) = false := by rw [beq_eq_false_iff_ne]; exact e1
      subst hr
      clear ht e1
      refine wp_region_quiet_below (by kernel_rfl) (by kernel_rfl) ?_
      repeat (first | go_big_quiet_step ((with_reducible exact Calls.regrown_of (cO.out _ (HR2.out.below (below_regrown W2 _ _) hrl)))) | quiet_step ((with_reducible exact Calls.regrown_of (cO.out _ (HR2.out.below (below_regrown W2 _ _) hrl)))))
      refine wpQuiet_nil ?_
      intro _ hw'
      obtain ⟨⟨dq, osq⟩, hw''⟩ := hw'
      have HY := bel_trans HX (below_regrown W2 dq osq)
      have hb2 := below_regrown W2 dq osq
      subst hw''
      generalize grow (redrawn W2 dq) osq = w3 at HY hb2 ⊢
      go_wp2
      go_ret
      exact ⟨rfl, bel_trans HW HY⟩
end Go.Proofs.Ytkiogciokngjfaa
