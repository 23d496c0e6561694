/- The law FloodSays: for any plot, any cell and any way, it returns true. -/
import Derived.Test.YtkiogciokngjfaaGE
import Derived.Laws.CopyOwn
import Derived.Laws.Tables
set_option linter.unusedVariables false
set_option linter.unusedSimpArgs false
namespace Go.Proofs.Ytkiogciokngjfaa
open Go.RowKit Go.Sort FR
/-- what the document's flood says is what the program's one does -/
theorem flood_same {g : G} {fr : Nat} {done : Nat → Option C} {back : Nat → Option Nat} {c : Nat → C} {is : Nat → Bool} (hO : FloodOk g.E fr g.n done back) (hF : FloodIs g fr c is) (t : Nat) :
    (is t = (done t).isSome) ∧ ∀ x, done t = some x → c t = x := by
  cases hd : done t with
  | none =>
    refine ⟨?_, fun x h => by cases h⟩
    cases hi : is t with
    | false => rfl
    | true => exact absurd ((hF t).1 hi).1.1 (hO.out t hd _)
  | some x =>
    have hD := hO.in_ t x hd
    cases hi : is t with
    | false => exact absurd hD.1 ((hF t).2 hi x)
    | true => exact ⟨rfl, fun y h => by injection h with h; rw [← h]; exact ((hF t).1 hi).1.unique hD⟩
theorem same_errV (k : Nat) (w : World) : Calls Try.prog 22 #[errV k, .int .i64 (k : Nat)] w fun e w' => e = .returned (.bool true) ∧ w = w' := by
  unfold errV
  by_cases h : k = 0
  · subst h; rw [if_pos rfl]; exact same_ok w
  · rw [if_neg h]; exact same_bad _ w (by omega)
/-- the closed fact -/
theorem from31 {done : Nat → Option C} {back : Nat → Option Nat} (H : FloodOk (G.E ⟨3, 1, fun _ => false⟩) 0 (G.n ⟨3, 1, fun _ => false⟩) done back) : done 2 = some ⟨2, 0⟩ ∧ cntS done (G.n ⟨3, 1, fun _ => false⟩) = 3 := by
  have hn : G.n ⟨3, 1, fun _ => false⟩ = 3 := by decide
  have e01 : G.E ⟨3, 1, fun _ => false⟩ 0 1 ⟨1, 0⟩ := ⟨by decide, 2, by decide, by decide +kernel, by decide +kernel, by decide⟩
  have e12 : G.E ⟨3, 1, fun _ => false⟩ 1 2 ⟨1, 0⟩ := ⟨by decide, 2, by decide, by decide +kernel, by decide +kernel, by decide⟩
  have w01 : Walk (G.E ⟨3, 1, fun _ => false⟩) 0 1 ⟨1, 0⟩ := Walk.single e01
  have w02 : Walk (G.E ⟨3, 1, fun _ => false⟩) 0 2 ⟨2, 0⟩ := by have := w01.snoc e12; exact this
  have ho : G.oct ⟨3, 1, fun _ => false⟩ 0 2 = ⟨2, 0⟩ := by decide +kernel
  have d02 : Dist (G.E ⟨3, 1, fun _ => false⟩) 0 2 ⟨2, 0⟩ := ⟨w02, fun d h => by have := G.oct_le h; rwa [ho] at this⟩
  have s : ∀ t c, Walk (G.E ⟨3, 1, fun _ => false⟩) 0 t c → (done t).isSome = true := by
    intro t c hw
    cases hd : done t with
    | none => exact absurd hw (H.out t hd c)
    | some x => rfl
  refine ⟨?_, ?_⟩
  · cases hd : done 2 with
    | none => exact absurd w02 (H.out 2 hd _)
    | some x => rw [(H.in_ 2 x hd).unique d02]
  · rw [hn]
    unfold cntS cntN
    simp [sumN, s 0 _ (.nil 0), s 1 _ w01, s 2 _ w02]
set_option maxRecDepth 100000 in
set_option maxHeartbeats 1600000 in
theorem floods_true (w : World) : Calls Try.prog 71 #[] w fun e w' => e = .returned (.bool true) ∧ Below w.heap.size w w' := by
  go_enter Try.func71, Try.ntmps71
  go_wp2_with fail
  (with_reducible refine (gridNew_ex 3 1 _ (by decide)).mono ?_)
  rintro e w1 ⟨p0, rfl, hp0, hG, hb1⟩
  have hG : GridAt w1 p0 ⟨3, 1, fun _ => false⟩ 0 := hG
  go_wp2_with fail
  refine (floodFrom_ok _ p0 _ _ 0 hG (by decide) rfl).mono ?_
  rintro e w2 ⟨b, done, back, rfl, hF, hbl, hb2, _⟩
  have HB2 := bel_trans hb1 hb2
  obtain ⟨d2, d3⟩ := from31 (by obtain ⟨_, _, _, _, _, _, h, _⟩ := hF; exact h)
  have cR := floodReached
  have D3 := Lib.hid d3
  clear d3 hb1 hb2
  go_wp2_with fail
  refine (floodCost_some _ b _ _ done back 2 2 0 hF d2).mono ?_
  rintro e w3 ⟨rfl, hb3⟩
  go_wp2_with fail
  (with_reducible refine (same_ok _).mono ?_)
  rintro e w' ⟨rfl, rfl⟩
  have HB3 := bel_trans HB2 (bel_trans hb3 (bel_alloc (Below.refl _ _) (o := .cells #[.int .i64 2, .int .i64 0] 23)))
  have cRe := floodReached _ b _ 0 done back ((hF.below hb3).below (bel_alloc (Below.refl _ _) (o := .cells #[.int .i64 2, .int .i64 0] 23)))
  rw [D3.out] at cRe
  have cRe := Lib.hid cRe
  clear cR D3 hF
  go_wp2_with fail
  refine cRe.out.mono ?_
  rintro e w' ⟨rfl, rfl⟩
  go_wp2
  go_ret
  exact ⟨rfl, HB3⟩
theorem run_storeCells_row {P : Program} (w : World) (g : Nat) (t ty : TypeId) (old cells : Array Value) (hg : w.heap[g]? = some (.cells old t (0, 0))) (hi : (P.info? ty).map (·.size) = some cells.size) (ho : old.size = cells.size) (h1 : cells.all (·.oneCell') = true) :
    (storeCells ⟨g, 0, none⟩ cells.toList).run P w = .ok () (w.setRow g cells) := by
  have := run_storeVar_row (P := P) w g t ty old cells hg hi ho h1
  cases hq : P.info? ty with
  | none => simp [hq] at hi
  | some i =>
    have hs : cells.size = i.size := by simp [hq] at hi; omega
    simpa [storeVar, sizeOf, typeInfo, hq, Value.cells, hs] using this
theorem setRow_else (w : World) (g k : Nat) (cs : Array Value) (h : k ≠ g) : (w.setRow g cs).heap[k]? = w.heap[k]? := by
  simp [World.setRow, Array.getElem?_modify, Ne.symm h]
/-- two arrays are laid into two variables that are new -/
theorem two_arrays (w : World) (Z1 Z2 : Array Value) (z1 : Z1.size = 512) (z2 : Z2.size = 256) (o1 : Z1.all (·.oneCell') = true) (o2 : Z2.all (·.oneCell') = true) :
    ∃ W1 W2, (storeCells ⟨w.heap.size, 0, none⟩ Z1.toList).run Try.prog ((w.alloc (.cells Try.zeroCells106 106)).alloc (.cells Try.zeroCells66 66)) = .ok () W1 ∧
      (storeCells ⟨w.heap.size + 1, 0, none⟩ Z2.toList).run Try.prog W1 = .ok () W2 ∧ W2.heap[w.heap.size]? = some (.cells Z1 106 (0, 0)) ∧ W2.heap[w.heap.size + 1]? = some (.cells Z2 66 (0, 0)) ∧ Below w.heap.size w W2 := by
  have s1 : (Try.prog.info? 106).map (·.size) = some Z1.size := by rw [z1]; kernel_rfl
  have s2 : (Try.prog.info? 66).map (·.size) = some Z2.size := by rw [z2]; kernel_rfl
  have q1 : (Try.zeroCells106).size = Z1.size := by rw [zero_costs, rowOf_size, z1]
  have q2 : (Try.zeroCells66).size = Z2.size := by rw [zero_bools, rowOf_size, z2]
  have hb : Below w.heap.size w ((w.alloc (.cells Try.zeroCells106 106)).alloc (.cells Try.zeroCells66 66)) := by (repeat' (first | exact Below.refl _ _ | assumption | apply bel_drewN | apply bel_drew | apply bel_alloc | (refine bel_trans ?_ (by assumption))))
  have h1 : ((w.alloc (.cells Try.zeroCells106 106)).alloc (.cells Try.zeroCells66 66)).heap[w.heap.size]? = some (.cells Try.zeroCells106 106 (0, 0)) := alloc_old _ _ (by simp) (alloc_at _ _ rfl)
  have h2 : ((w.alloc (.cells Try.zeroCells106 106)).alloc (.cells Try.zeroCells66 66)).heap[w.heap.size + 1]? = some (.cells Try.zeroCells66 66 (0, 0)) := alloc_at _ _ (by simp)
  generalize (w.alloc (.cells Try.zeroCells106 106)).alloc (.cells Try.zeroCells66 66) = W at *
  have h3 : (W.setRow w.heap.size Z1).heap[w.heap.size + 1]? = some (.cells Try.zeroCells66 66 (0, 0)) := by rw [setRow_else _ _ _ _ (by omega)]; exact h2
  refine ⟨_, _, run_storeCells_row W w.heap.size _ _ _ Z1 h1 s1 q1 o1, run_storeCells_row _ (w.heap.size + 1) _ _ _ Z2 h3 s2 q2 o2, ?_, setRow_heap _ _ _ _ _ _ h3, ?_⟩
  · rw [setRow_else _ _ _ _ (by omega)]; exact setRow_heap _ _ _ _ _ _ h1
  · exact below_setRow (below_setRow hb (Nat.le_refl _) _) (by omega) _
theorem add_zero' (a : Addr) : a.add 0 = a := by
  obtain ⟨b, o, s⟩ := a
  cases s <;> simp [Addr.add]
theorem cntS_succ (d : Nat → Option C) (n : Nat) : cntS d (n + 1) = cntS d n + if (d n).isSome then 1 else 0 := rfl
theorem way_ends {fr c : Nat} {back : Nat → Option Nat} {l : List Nat} (hw : BackWay back c l) (hl : ∃ l', l = l' ++ [fr]) :
    0 < l.length ∧ (l.reverse.map fun n : Nat => (n : Int)).getD 0 0 = (fr : Nat) ∧ (l.reverse.map fun n : Nat => (n : Int)).getD (l.length - 1) 0 = (c : Nat) := by
  have hpos : 0 < l.length := (List.getElem?_eq_some_iff.1 hw.1).1
  obtain ⟨l', e⟩ := hl
  refine ⟨hpos, ?_, ?_⟩
  · rw [e]; simp
  · rw [List.getD_eq_getElem?_getD, List.getElem?_map, List.getElem?_reverse (by omega), show l.length - 1 - (l.length - 1) = 0 by omega, hw.1]; rfl
/-- what holds at a round's head -/
def FsI (W : World) (done : Nat → Option C) (kk : Nat) (many : Int) (wr : World) : Prop := many = (cntS done (kk - 1) : Nat) ∧ Below W.heap.size W wr
set_option maxRecDepth 100000 in
set_option maxHeartbeats 6400000 in
theorem floodSays (W0 : World) (a b : Int) (A0 : Option Addr) (n0 m0 : Nat) (f0 : Nat → Int) (h0 : SlI W0 A0 n0 f0) (x : Int) (hx : -9223372036854775808 ≤ x ∧ x ≤ 9223372036854775807)
    (A : Option Addr) (n m : Nat) (f : Nat → Int) (h : SlI W0 A n f) :
    Calls Try.prog 9 #[.agg #[.int .i64 a, .int .i64 b, .slice A0 n0 m0], .int .i64 x, .slice A n m] W0 fun e w' => e = .returned (.bool true) ∧ Below W0.heap.size W0 w' := by
  obtain ⟨hI0, hl0, _⟩ := h0
  obtain ⟨hI, hl, _⟩ := h
  have hl0 := Lib.hid hl0
  go_enter Try.func9, Try.ntmps9
  go_upto_region 1 with (fail)
  refine wp_name ?_
  intro W hW
  have HW : Below W0.heap.size W0 W := by rw [hW]; (repeat' (first | exact Below.refl _ _ | assumption | apply bel_drewN | apply bel_drew | apply bel_alloc | (refine bel_trans ?_ (by assumption))))
  have k0 : ∀ w', Below W.heap.size W w' → w'.cell? ⟨W0.heap.size, 0, none⟩ = some (.int .i64 a : Value) := fun w' hbw => (hbw.cell (p := ⟨W0.heap.size, 0, none⟩) (by rw [hW]; simp <;> omega)).trans (by rw [hW]; go_simp)
  have k1 : ∀ w', Below W.heap.size W w' → w'.cell? ⟨W0.heap.size, 1, none⟩ = some (.int .i64 b : Value) := fun w' hbw => (hbw.cell (p := ⟨W0.heap.size, 1, none⟩) (by rw [hW]; simp <;> omega)).trans (by rw [hW]; go_simp)
  have k2 : ∀ w', Below W.heap.size W w' → w'.cell? ⟨W0.heap.size, 2, none⟩ = some (.slice A0 n0 m0 : Value) := fun w' hbw => (hbw.cell (p := ⟨W0.heap.size, 2, none⟩) (by rw [hW]; simp <;> omega)).trans (by rw [hW]; go_simp)
  clear hW
  go_wp2_with fail
  (with_reducible refine (floods_true _).mono ?_)
  rintro e w1 ⟨rfl, HB⟩
  by_cases hn : 300 < n
  · go_wp2
    go_ret
    exact ⟨rfl, bel_trans HW HB⟩
  clear hl
  go_wp2_with fail
  (with_reducible refine (laid_any a b A0 n0 m0 f0 _ ((hI0.below HW).below HB) hl0.out).mono ?_)
  rintro e w2 (⟨rfl, hb2⟩ | ⟨p, q, g, v, rfl, hp0, hpq, hG, hR, hv0, hv1, hb2⟩)
  · have HB2 := bel_trans (bel_trans HW HB) hb2
    go_wp2
    go_ret
    exact ⟨rfl, HB2⟩
  have HB2 := bel_trans (bel_trans HW HB) hb2
  have hwp : W0.heap.size ≤ p := by have := (bel_trans HW HB).size; omega
  have hI2 := hI.below HB2
  clear k0 k1 k2 hb2 HB HW
  obtain ⟨⟨⟨xs, xd⟩, xe⟩, hxx⟩ : ∃ y, g.wout f n = y := ⟨_, rfl⟩
  have cW := Lib.hid (fun w' (hb : Below w2.heap.size w2 w') => floodWalk w' p g v A n m f (hG.below hb hG.lt) (hI2.below hb) (by omega))
  have cR := Lib.hid (fun w' (hb : Below w2.heap.size w2 w') => rWalk w' q g v A n m f (hR.below hb hR.lt) (hI2.below hb) (by omega))
  rw [hxx] at cW cR
  clear hxx
  go_wp2_with fail
  (with_reducible refine (cW.out _ (Below.refl _ _)).mono ?_)
  rintro e w3 ⟨he3, hb3⟩
  obtain rfl : e = .returned (.tuple #[.agg #[.int .i64 xs, .int .i64 xd], errV xe]) := he3
  go_upto_region 8 with (fail)
  refine wp_name ?_
  intro W3 hW3
  have HW3 : Below w3.heap.size w3 W3 := by rw [hW3]; (repeat' (first | exact Below.refl _ _ | assumption | apply bel_drewN | apply bel_drew | apply bel_alloc | (refine bel_trans ?_ (by assumption))))
  have hs3 : w3.heap.size < W3.heap.size := by rw [hW3]; simp
  have c0 : W3.cell? ⟨w3.heap.size, 0, none⟩ = some (.int .i64 xs) := by rw [hW3]; go_simp
  have c1 : W3.cell? ⟨w3.heap.size, 1, none⟩ = some (.int .i64 xd) := by rw [hW3]; go_simp
  have HB3 := bel_trans hb3 HW3
  clear hW3 hb3 HW3 cW
  go_wp2_with fail
  (with_reducible refine (cR.out _ HB3).mono ?_)
  rintro e w4 ⟨he4, hb4⟩
  obtain rfl : e = .returned (.tuple #[.agg #[.int .i64 xs, .int .i64 xd], .int .i64 (xe : Nat)]) := he4
  have c0 := bel_cell hb4 c0
  have c1 := bel_cell hb4 c1
  have HB4 := bel_trans HB3 hb4
  clear hb4 cR HB3
  go_upto_region 9 with (fail)
  refine wp_name ?_
  intro W4 hW4
  have HW4 : Below w4.heap.size w4 W4 := by rw [hW4]; (repeat' (first | exact Below.refl _ _ | assumption | apply bel_drewN | apply bel_drew | apply bel_alloc | (refine bel_trans ?_ (by assumption))))
  have d0 : W4.cell? ⟨w4.heap.size, 0, none⟩ = some (.int .i64 xs) := by rw [hW4]; go_simp
  have d1 : W4.cell? ⟨w4.heap.size, 1, none⟩ = some (.int .i64 xd) := by rw [hW4]; go_simp
  have c0 := bel_cell HW4 c0
  have c1 := bel_cell HW4 c1
  have HB4 := bel_trans HB4 HW4
  clear hW4 HW4
  go_wp2_with fail
  (with_reducible refine (same_errV xe _).mono ?_)
  rintro e w5 ⟨rfl, hw5⟩
  have HB5 : Below w2.heap.size w2 w5 := by rw [← hw5]; exact bel_trans HB4 (by (repeat' (first | exact Below.refl _ _ | assumption | apply bel_drewN | apply bel_drew | apply bel_alloc | (refine bel_trans ?_ (by assumption)))))
  clear hw5 HB4 c0 c1 d0 d1
  have cFa := Lib.hid (fun w' (hb : Below w2.heap.size w2 w') => rFault w' q g v x (hR.below hb hR.lt))
  by_cases hin : 0 ≤ x ∧ x < g.n
  · obtain ⟨hin0, hin1⟩ := hin
    obtain ⟨fr, rfl⟩ := Int.eq_ofNat_of_zero_le hin0
    have hfr : fr < g.n := by omega
    rw [G.fault_in hfr] at cFa
    cases hbl : g.b fr with
    | true =>
      rw [hbl] at cFa
      go_wp2_with fail
      (with_reducible refine (floodFrom_blocked _ p g v fr (hG.below HB5 hG.lt) hfr hbl).mono ?_)
      rintro e w6 ⟨rfl, hb6⟩
      have HB6 := bel_trans HB5 hb6
      go_wp2_with fail
      (with_reducible refine (cFa.out _ HB6).mono ?_)
      rintro e w7 ⟨rfl, hb7⟩
      have HB7 := bel_trans HB6 hb7
      go_wp2_with fail
      refine (same_bad 4 _ (by decide)).mono ?_
      rintro e w' ⟨rfl, rfl⟩
      clear cFa
      go_wp2
      go_ret
      exact ⟨rfl, bel_trans HB2 HB7⟩
    | false =>
      rw [hbl] at cFa
      go_wp2_with fail
      (with_reducible refine (floodFrom_ok _ p g v fr (hG.below HB5 hG.lt) hfr hbl).mono ?_)
      rintro e w6 ⟨bf, done, back, rfl, hF, hbf, hb6, hFK⟩
      have HB6 := bel_trans HB5 hb6
      have hp5 := (hG.below HB5 hG.lt).lt
      go_wp2_with fail
      (with_reducible refine (cFa.out _ HB6).mono ?_)
      rintro e w7 ⟨rfl, hb7⟩
      have HB7 := bel_trans HB6 hb7
      have cS := gridSet_new w7 p g v fr true (hG.below HB7 hG.lt) hfr (by rw [hbl]; rfl) (by omega)
      go_wp2_with fail
      (with_reducible refine cS.mono ?_)
      rintro e w8 ⟨rfl, hG8, hK8⟩
      have hF8 : FloodAt w8 bf g fr done back := hFK [p] w8 ((Kept.of_below hb7).trans hK8) (by simpa using hp5)
      have hR8 := (hR.below HB7 hR.lt).kept hK8 (by simp; omega)
      have HB8 : Below W0.heap.size W0 w8 := Kept.below (bel_trans HB2 HB7) hK8 (bel_trans HB2 HB7).size (by simp; omega)
      clear hFK hF hb7 hb6 hG8 hK8 HB7 HB6 HB5 hG hR cS cFa hI2 HB2
      go_wp2_with fail
      (with_reducible refine (rFlood _ q g v fr hR8 hfr).mono ?_)
      rintro e w9 ⟨want, is, rfl, hFI, hb9⟩
      obtain ⟨Z1, hZ1⟩ : ∃ Z, Z = rowOf (ccell want) 512 := ⟨_, rfl⟩
      obtain ⟨Z2, hZ2⟩ : ∃ Z, Z = rowOf (icell is) 256 := ⟨_, rfl⟩
      have z1 : Z1.size = 512 := by rw [hZ1, rowOf_size]
      have z2 : Z2.size = 256 := by rw [hZ2, rowOf_size]
      have o1 : Z1.all (·.oneCell') = true := by rw [hZ1]; exact Array.all_eq_true_iff_forall_mem.2 (fun v hv => row_one (f := ccell want) (fun k => by unfold ccell; split <;> rfl) 512 v (by simpa using hv))
      have o2 : Z2.all (·.oneCell') = true := by rw [hZ2]; exact Array.all_eq_true_iff_forall_mem.2 (fun v hv => row_one (f := icell is) (fun k => rfl) 256 v (by simpa using hv))
      rw [← hZ1, ← hZ2]
      have HZ1 := Lib.hid hZ1
      have HZ2 := Lib.hid hZ2
      clear hZ1 hZ2
      obtain ⟨W1, W2, r1, r2, hA1, hA2, hbW⟩ := two_arrays w9 Z1 Z2 z1 z2 o1 o2
      have HW2 := bel_trans hb9 hbW
      have hbW := Lib.hid hbW
      rw [HZ1.out] at hA1
      rw [HZ2.out] at hA2
      have hA1 := Lib.hid hA1
      have hA2 := Lib.hid hA2
      have hF9 := Lib.hid (hF8.below HW2)
      have hR9 := Lib.hid (hR8.below HW2 hR8.lt)
      have HB9 := Lib.hid (bel_trans HB8 HW2)
      have hFI := Lib.hid hFI
      clear hb9 HW2 hF8 hR8 HB8 o1 o2
      go_upto_region 19 with (fail)
      have hok := hR9.out.1
      have hNn := G.n_le hok
      have hlt2 := hbW.out.size
      obtain ⟨b17, hb17⟩ : ∃ b, w9.heap.size = b := ⟨_, rfl⟩
      rw [hb17] at hA1 hA2 ⊢
      obtain ⟨b18, hb18⟩ : ∃ b, b17 + 1 = b := ⟨_, rfl⟩
      rw [hb18] at hA2 ⊢
      have l17 : b17 < W2.heap.size := (Array.getElem?_eq_some_iff.1 hA1.out).1
      have l18 : b18 < W2.heap.size := (Array.getElem?_eq_some_iff.1 hA2.out).1
      have hO := hF9.out
      obtain ⟨_, _, _, _, _, _, hOk, hfb⟩ := hO
      have hOk := Lib.hid hOk
      have hsame := Lib.hid (fun t => flood_same hOk.out hFI.out t)
      have hmul : IntKind.i64.wrap ((g.w : Int) * g.h) = (g.n : Nat) := by
        have e : ((g.n : Nat) : Int) = (g.w : Int) * g.h := by unfold G.n; simp
        rw [← e]; exact IntWalk.i64_in _ (by omega)
      have hin : FsI W2 done 0 0 W2 := ⟨rfl, Below.refl _ _⟩
      clear r1 r2 hb17 hb18 hbW hlt2 z1 z2
      go_wp2_with fail
      go_loopw [19, 20] (fun mv kv wr => ∃ (kk : Nat) (xx many : Int), xx = kk - 1 ∧ kk ≤ g.n + 2 ∧ mv = .int .i64 many ∧ kv = .int .i64 xx ∧ FsI W2 done kk many wr) (fun _ kv _ => ((g.n : Int) + 1 - intOf kv).toNat)
      case atStart => exact ⟨0, -1, 0, rfl, by omega, rfl, rfl, hin⟩
      case round =>
        obtain ⟨kk, xx, many, hxx, hkk, rfl, rfl, hmany, HBr⟩ := hrel
        clear hin
        have hxb1 : -1 ≤ xx := by omega
        have hxb2 : xx ≤ g.n + 1 := by omega
        have Hxx := Lib.hid hxx
        have Hkk := Lib.hid hkk
        have Hmany := Lib.hid hmany
        have hRr := hR9.out.below HBr hR9.out.lt
        obtain ⟨k1, k2⟩ := hRr.size
        clear hxx hkk hmany
        go_upto_region 21 with (fail)
        go_quiet (fail)
        have HB21 : Below W2.heap.size W2 (wr.drewN nq) := bel_drewN HBr
        clear k1 k2 hRr HBr
        generalize wr.drewN nq = w21 at HB21 ⊢
        by_cases hle : xx ≤ g.n
        · by_cases hout : xx < 0 ∨ (g.n : Int) ≤ xx
          · have hcnt : cntS done (kk + 1 - 1) = cntS done (kk - 1) := by
              rcases hout with h | h
              · rw [show kk = 0 by have := Hxx.out; omega]
              · have e : kk = g.n + 1 := by have := Hxx.out; omega
                rw [e, show g.n + 1 + 1 - 1 = g.n + 1 by omega, show g.n + 1 - 1 = g.n by omega, cntS_succ]
                have : (done g.n).isSome = false := by
                  cases hd : done g.n with
                  | none => rfl
                  | some c => have := hOk.out.rng g.n (by rw [hd]; simp); omega
                rw [this]; rfl
            have hnew : many = (cntS done (kk + 1 - 1) : Nat) := by rw [hcnt]; exact Hmany.out
            have Hnew := Lib.hid hnew
            clear hnew
            clear hcnt
            go_wp2_with fail
            (with_reducible refine (floodCost_out _ bf g fr done back xx (hF9.out.below HB21) hout).mono ?_)
            rintro e w22 ⟨rfl, hb22⟩
            have HB22 := bel_trans HB21 hb22
            go_upto_region 24 with (fail)
            refine wp_name ?_
            intro W23 hW23
            have HW23 : Below w22.heap.size w22 W23 := by rw [hW23]; (repeat' (first | exact Below.refl _ _ | assumption | apply bel_drewN | apply bel_drew | apply bel_alloc | (refine bel_trans ?_ (by assumption))))
            have c0 : W23.cell? ⟨w22.heap.size, 0, none⟩ = some (.int .i64 0) := by rw [hW23]; go_simp
            have c1 : W23.cell? ⟨w22.heap.size, 1, none⟩ = some (.int .i64 0) := by rw [hW23]; go_simp
            have HB23 := bel_trans HB22 HW23
            clear hW23 HW23 HB22 hb22 HB21
            go_wp2_with fail
            (with_reducible refine (floodWay_out _ bf g fr done back xx (hF9.out.below HB23) hout).mono ?_)
            rintro e w24 ⟨rfl, hb24⟩
            have HB24 := bel_trans HB23 hb24
            have c0 := bel_cell hb24 c0
            have c1 := bel_cell hb24 c1
            go_wp2_with fail
            (with_reducible refine (rIs_out _ q g v xx (hR9.out.below HB24 hR9.out.lt) hout).mono ?_)
            rintro e w25 ⟨rfl, hb25⟩
            have HB25 := bel_trans HB24 hb25
            have c0 := bel_cell hb25 c0
            have c1 := bel_cell hb25 c1
            clear hb25 HB24 hb24 HB23
            go_wp2_with fail
            refine (same_bad 1 _ (by decide)).mono ?_
            rintro e w' ⟨rfl, rfl⟩
            go_wp2_with fail
            refine (same_bad 1 _ (by decide)).mono ?_
            rintro e w' ⟨rfl, rfl⟩
            go_wp2
            go_roundw
            case rel => first | exact ⟨kk + 1, xx + 1, many, by have := Hxx.out; omega, by have := Hxx.out; omega, rfl, by go_num, Hnew.out, HB25⟩ | ((repeat apply Exists.intro); exact ⟨⟨kk + 1, xx + 1, many, by have := Hxx.out; omega, by have := Hxx.out; omega, rfl, by go_num, Hnew.out, HB25⟩, rfl⟩)
            case measure => simp [intOf]; omega
          · obtain ⟨c, hc⟩ := Int.eq_ofNat_of_zero_le (show 0 ≤ xx by omega)
            subst hc
            have hcn : c < g.n := by omega
            have hkc : kk = c + 1 := by have := Hxx.out; omega
            have Hkc := Lib.hid hkc
            clear hkc
            have ci := (World.cell?_of_block (w := W2) (w' := w21) (a := ⟨b18, c, none⟩) (HB21.block b18 l18)).trans (show W2.cell? ⟨b18, c, none⟩ = some (.bool (is c)) by simp [World.cell?, hA2.out, rowOf_get _ _ _ (show c < 256 by omega), icell])
            rw [(hsame.out c).1] at ci
            have hc256 : (c : Int) < 256 := by omega
            have hq0 : (0 : Int) ≤ (c : Int) := by omega
            cases hd : done c with
            | none =>
              have hnew : many = (cntS done (kk + 1 - 1) : Nat) := by
                have h := Hmany.out
                rw [Hkc.out] at h ⊢
                rw [show c + 1 + 1 - 1 = c + 1 by omega, cntS_succ, hd]
                rw [show c + 1 - 1 = c by omega] at h
                exact h
              have Hnew := Lib.hid hnew
              clear hnew
              rw [hd] at ci
              go_wp2_with fail
              (with_reducible refine (floodCost_none _ bf g fr done back c (hF9.out.below HB21) hcn hd).mono ?_)
              rintro e w22 ⟨rfl, hb22⟩
              have HB22 := bel_trans HB21 hb22
              have ci := bel_cell hb22 ci
              go_upto_region 24 with (fail)
              refine wp_name ?_
              intro W23 hW23
              have HW23 : Below w22.heap.size w22 W23 := by rw [hW23]; (repeat' (first | exact Below.refl _ _ | assumption | apply bel_drewN | apply bel_drew | apply bel_alloc | (refine bel_trans ?_ (by assumption))))
              have c0 : W23.cell? ⟨w22.heap.size, 0, none⟩ = some (.int .i64 0) := by rw [hW23]; go_simp
              have c1 : W23.cell? ⟨w22.heap.size, 1, none⟩ = some (.int .i64 0) := by rw [hW23]; go_simp
              have HB23 := bel_trans HB22 HW23
              have ci := bel_cell HW23 ci
              clear hW23 HW23 HB22 hb22 HB21
              go_wp2_with fail
              (with_reducible refine (floodWay_none _ bf g fr done back c (hF9.out.below HB23) hcn hd).mono ?_)
              rintro e w24 ⟨rfl, hb24⟩
              have HB24 := bel_trans HB23 hb24
              have c0 := bel_cell hb24 c0
              have c1 := bel_cell hb24 c1
              have ci := bel_cell hb24 ci
              go_wp2_with fail
              (with_reducible refine (rIs_in _ q g v c (hR9.out.below HB24 hR9.out.lt) hcn).mono ?_)
              rintro e w25 ⟨rfl, hb25⟩
              have HB25 := bel_trans HB24 hb25
              have c0 := bel_cell hb25 c0
              have c1 := bel_cell hb25 c1
              have ci := bel_cell hb25 ci
              clear hb25 HB24 hb24 HB23
              go_wp2_with fail
              refine (same_bad 5 _ (by decide)).mono ?_
              rintro e w' ⟨rfl, rfl⟩
              go_wp2_with fail
              refine (same_bad 5 _ (by decide)).mono ?_
              rintro e w' ⟨rfl, rfl⟩
              go_wp2
              go_roundw
              case rel => first | exact ⟨kk + 1, c + 1, many, by have := Hxx.out; omega, by have := Hxx.out; omega, rfl, by go_num, Hnew.out, HB25⟩ | ((repeat apply Exists.intro); exact ⟨⟨kk + 1, c + 1, many, by have := Hxx.out; omega, by have := Hxx.out; omega, rfl, by go_num, Hnew.out, HB25⟩, rfl⟩)
              case measure => simp [intOf]; omega
            | some y =>
              obtain ⟨ds, dd⟩ := y
              have hmb : 0 ≤ many ∧ many ≤ 256 := by have h := Hmany.out; have := cntS_le done (kk - 1); have := Hkc.out; omega
              obtain ⟨hmb1, hmb2⟩ := hmb
              have hnew : many + 1 = (cntS done (kk + 1 - 1) : Nat) := by
                have h := Hmany.out
                rw [Hkc.out] at h ⊢
                rw [show c + 1 + 1 - 1 = c + 1 by omega, cntS_succ, hd]
                rw [show c + 1 - 1 = c by omega] at h
                rw [h]; simp
              have Hnew := Lib.hid hnew
              clear hnew
              rw [hd] at ci
              have hw0 : want c = ⟨ds, dd⟩ := (hsame.out c).2 _ hd
              have cw := (World.cell?_of_block (w := W2) (w' := w21) (a := ⟨b17, c * 2, none⟩) (HB21.block b17 l17)).trans (show W2.cell? ⟨b17, c * 2, none⟩ = some (.int .i64 ds) by simp [World.cell?, hA1.out, rowOf_get _ _ _ (show c * 2 < 512 by omega), ccell, hw0])
              have cw2 := (World.cell?_of_block (w := W2) (w' := w21) (a := ⟨b17, c * 2 + 1, none⟩) (HB21.block b17 l17)).trans (show W2.cell? ⟨b17, c * 2 + 1, none⟩ = some (.int .i64 dd) by
                have h1 : (c * 2 + 1) % 2 = 1 := by omega
                have h2 : (c * 2 + 1) / 2 = c := by omega
                simp [World.cell?, hA1.out, rowOf_get _ _ _ (show c * 2 + 1 < 512 by omega), ccell, h1, h2, hw0])
              clear hw0
              go_wp2_with fail
              (with_reducible refine (floodCost_some _ bf g fr done back c ds dd (hF9.out.below HB21) hd).mono ?_)
              rintro e w22 ⟨rfl, hb22⟩
              have HB22 := bel_trans HB21 hb22
              have ci := bel_cell hb22 ci
              have cw := bel_cell hb22 cw
              have cw2 := bel_cell hb22 cw2
              go_upto_region 24 with (fail)
              refine wp_name ?_
              intro W23 hW23
              have HW23 : Below w22.heap.size w22 W23 := by rw [hW23]; (repeat' (first | exact Below.refl _ _ | assumption | apply bel_drewN | apply bel_drew | apply bel_alloc | (refine bel_trans ?_ (by assumption))))
              have c0 : W23.cell? ⟨w22.heap.size, 0, none⟩ = some (.int .i64 ds) := by rw [hW23]; go_simp
              have c1 : W23.cell? ⟨w22.heap.size, 1, none⟩ = some (.int .i64 dd) := by rw [hW23]; go_simp
              have HB23 := bel_trans HB22 HW23
              have ci := bel_cell HW23 ci
              have cw := bel_cell HW23 cw
              have cw2 := bel_cell HW23 cw2
              clear hW23 HW23 HB22 hb22 HB21
              go_wp2_with fail
              (with_reducible refine (floodWay_ok _ bf g fr done back c ds dd (hF9.out.below HB23) hd).mono ?_)
              rintro e w24 ⟨l, Al, ml, rfl, hIl, hbw, hle2, hl6, hb24⟩
              have HB24 := bel_trans HB23 hb24
              have c0 := bel_cell hb24 c0
              have c1 := bel_cell hb24 c1
              have ci := bel_cell hb24 ci
              have cw := bel_cell hb24 cw
              have cw2 := bel_cell hb24 cw2
              have hwo := hOk.out.way hok hfb hd hbw hle2
              obtain ⟨we1, we2, we3⟩ := way_ends hbw hle2
              obtain ⟨nl, hnl⟩ : ∃ nl, l.length = nl := ⟨_, rfl⟩
              rw [hnl] at hIl hwo we1 we3 hl6 ⊢
              obtain ⟨fl, hfl⟩ : ∃ fl, (fun i => (l.reverse.map fun n : Nat => (n : Int)).getD i 0) = fl := ⟨_, rfl⟩
              rw [hfl] at hIl hwo
              have e2 : fl 0 = (fr : Nat) := by rw [← hfl]; exact we2
              have e3 : fl (nl - 1) = (c : Nat) := by rw [← hfl]; exact we3
              obtain ⟨adl, hAl⟩ := hIl.addr we1
              have hIb := hIl
              rw [hAl] at hIb
              have hix0 : ∀ wx, (Instr.indexAt 33 (.slice Al nl ml) (.int .i64 0)).run Try.prog wx = .ok (.pointer (some adl)) wx := fun wx => by have := idx_run (m := ml) (k := 0) hAl we1 wx; rw [add_zero'] at this; exact this
              have hixl := fun wx => idx_run (m := ml) (n := nl) (k := nl - 1) hAl (by omega) wx
              rw [show ((nl - 1 : Nat) : Int) = (nl : Int) - 1 by omega] at hixl
              have hwrl : IntKind.i64.wrap ((nl : Int) - 1) = (nl : Int) - 1 := IntWalk.i64_in _ (by omega)
              have hE0 := hIb.cell (Below.refl _ _) we1
              have hEl := hIb.cell (Below.refl _ _) (show nl - 1 < nl by omega)
              rw [e2, add_zero'] at hE0
              rw [e3] at hEl
              have HIl := Lib.hid hIl
              have Hwo := Lib.hid hwo
              clear hfl e2 e3 hAl hIb hIl hwo we2 we3 hnl hbw hle2 hb24 HB23
              go_wp2_with fail
              (with_reducible refine (rIs_in _ q g v c (hR9.out.below HB24 hR9.out.lt) hcn).mono ?_)
              rintro e w25 ⟨rfl, hb25⟩
              have HB25 := bel_trans HB24 hb25
              have c0 := bel_cell hb25 c0
              have c1 := bel_cell hb25 c1
              have ci := bel_cell hb25 ci
              have cw := bel_cell hb25 cw
              have cw2 := bel_cell hb25 cw2
              have hE0 := bel_cell hb25 hE0
              have hEl := bel_cell hb25 hEl
              have HI2 := Lib.hid (HIl.out.below hb25)
              clear hb25 HB24 HIl
              go_wp2_with fail
              refine (same_ok _).mono ?_
              rintro e w' ⟨rfl, rfl⟩
              go_wp2_with fail
              refine (same_ok _).mono ?_
              rintro e w' ⟨rfl, rfl⟩
              have cW2 := rWalk w25 q g v Al nl ml fl (hR9.out.below HB25 hR9.out.lt) HI2.out hl6
              rw [Hwo.out] at cW2
              have cW2 := Lib.hid cW2
              go_wp2_with fail
              (with_reducible refine cW2.out.mono ?_)
              rintro e w26 ⟨he26, hb26⟩
              obtain rfl : e = .returned (.tuple #[.agg #[.int .i64 ds, .int .i64 dd], .int .i64 0]) := he26
              have HB26 := bel_trans HB25 hb26
              have c0 := bel_cell hb26 c0
              have c1 := bel_cell hb26 c1
              have cw := bel_cell hb26 cw
              have cw2 := bel_cell hb26 cw2
              have hE0 := bel_cell hb26 hE0
              have hEl := bel_cell hb26 hEl
              go_upto_region 35 with (fail)
              refine wp_name ?_
              intro W26 hW26
              have HW26 : Below w26.heap.size w26 W26 := by rw [hW26]; (repeat' (first | exact Below.refl _ _ | assumption | apply bel_drewN | apply bel_drew | apply bel_alloc | (refine bel_trans ?_ (by assumption))))
              have x0 : W26.cell? ⟨w26.heap.size, 0, none⟩ = some (.int .i64 ds) := by rw [hW26]; go_simp
              have x1 : W26.cell? ⟨w26.heap.size, 1, none⟩ = some (.int .i64 dd) := by rw [hW26]; go_simp
              have HB27 := bel_trans HB26 HW26
              have c0 := bel_cell HW26 c0
              have c1 := bel_cell HW26 c1
              have cw := bel_cell HW26 cw
              have cw2 := bel_cell HW26 cw2
              have hE0 := bel_cell HW26 hE0
              have hEl := bel_cell HW26 hEl
              clear hW26 HW26 HB26 hb26 HB25 cW2 HI2 Hwo ci
              go_quiet (fail)
              have HB28 : Below W2.heap.size W2 (W26.drewN nq) := bel_drewN HB27
              clear hE0 hEl x0 x1 c0 c1 cw cw2 hix0 hixl HB27
              generalize W26.drewN nq = w28 at HB28 ⊢
              go_wp2
              go_roundw
              case rel => first | exact ⟨kk + 1, c + 1, many + 1, by have := Hxx.out; omega, by have := Hxx.out; omega, by go_num, by go_num, Hnew.out, HB28⟩ | ((repeat apply Exists.intro); exact ⟨⟨kk + 1, c + 1, many + 1, by have := Hxx.out; omega, by have := Hxx.out; omega, by go_num, by go_num, Hnew.out, HB28⟩, rfl⟩)
              case measure => simp [intOf]; omega
        · have hfin : ((cntS done g.n : Nat) : Int) = many := by
            have e : kk = g.n + 2 := by have := Hxx.out; have := Hkk.out; omega
            have h := Hmany.out
            rw [e, show g.n + 2 - 1 = g.n + 1 by omega, cntS_succ] at h
            have : (done g.n).isSome = false := by
              cases hd : done g.n with
              | none => rfl
              | some c => have := hOk.out.rng g.n (by rw [hd]; simp); omega
            rw [this] at h
            exact h.symm
          have cRe := floodReached w21 bf g fr done back (hF9.out.below HB21)
          rw [hfin] at cRe
          have cRe := Lib.hid cRe
          go_wp2_with fail
          (with_reducible refine cRe.out.mono ?_)
          rintro e w' ⟨rfl, rfl⟩
          go_wp2
          go_ret
          exact ⟨by simp, bel_trans HB9.out HB21⟩
  · rw [G.fault_out (by omega)] at cFa
    go_wp2_with fail
    (with_reducible refine (floodFrom_out _ p g v x (hG.below HB5 hG.lt) (by omega)).mono ?_)
    rintro e w6 ⟨rfl, hb6⟩
    have HB6 := bel_trans HB5 hb6
    go_wp2_with fail
    (with_reducible refine (cFa.out _ HB6).mono ?_)
    rintro e w7 ⟨rfl, hb7⟩
    have HB7 := bel_trans HB6 hb7
    go_wp2_with fail
    refine (same_bad 1 _ (by decide)).mono ?_
    rintro e w' ⟨rfl, rfl⟩
    clear cFa
    go_wp2
    go_ret
    exact ⟨rfl, bel_trans HB2 HB7⟩
end Go.Proofs.Ytkiogciokngjfaa
