/- The law TopCorner: for any plot and any two cells, it returns true. -/
import Derived.Test.YtkiogciokngjfaaFloodSays
import Derived.Test.YtkiogciokngjfaaReach5
import Derived.Test.YtkiogciokngjfaaGA
set_option linter.unusedVariables false
set_option linter.unusedSimpArgs false
namespace Go.Proofs.Ytkiogciokngjfaa
open Go.RowKit Go.Sort FR
theorem corner_iff {g : G} {c : Nat} (hc : c < g.n) : cornerB g c = true ↔ g.Corner c := by
  unfold cornerB G.Corner kd
  simp only [Bool.and_eq_true, Bool.or_eq_true, Bool.not_eq_true']
  constructor
  · rintro ⟨h0, ((⟨⟨h1, h2⟩, h3⟩ | ⟨⟨h1, h2⟩, h3⟩) | ⟨⟨h1, h2⟩, h3⟩) | ⟨⟨h1, h2⟩, h3⟩⟩
    · exact ⟨hc, h0, 1, -1, by decide, by decide, h1, h2, h3⟩
    · exact ⟨hc, h0, 1, 1, by decide, by decide, h1, h2, h3⟩
    · exact ⟨hc, h0, -1, 1, by decide, by decide, h1, h2, h3⟩
    · exact ⟨hc, h0, -1, -1, by decide, by decide, h1, h2, h3⟩
  · rintro ⟨_, h0, u, v, rfl | rfl, rfl | rfl, h1, h2, h3⟩
    · exact ⟨h0, .inl (.inl (.inr ⟨⟨h1, h2⟩, h3⟩))⟩
    · exact ⟨h0, .inl (.inl (.inl ⟨⟨h1, h2⟩, h3⟩))⟩
    · exact ⟨h0, .inl (.inr ⟨⟨h1, h2⟩, h3⟩)⟩
    · exact ⟨h0, .inr ⟨⟨h1, h2⟩, h3⟩⟩
theorem add_block0 (a : Addr) (n : Nat) : (a.add n).block = a.block := add_block a n
theorem arr_b {w w' : World} {b : Nat} {is : Nat → Bool} {t : Nat} (h : w.heap[b]? = some (.cells (rowOf (icell is) 256) 66 (0, 0))) (hb : Below w.heap.size w w') (ht : t < 256) : w'.cell? ⟨b, t, none⟩ = some (.bool (is t)) :=
  (World.cell?_of_block (w := w) (w' := w') (a := ⟨b, t, none⟩) (hb.block b (Array.getElem?_eq_some_iff.1 h).1)).trans (by simp [World.cell?, h, rowOf_get _ _ _ ht, icell])
theorem arr_c {w w' : World} {b : Nat} {c : Nat → C} {t : Nat} (h : w.heap[b]? = some (.cells (rowOf (ccell c) 512) 106 (0, 0))) (hb : Below w.heap.size w w') (ht : t < 256) : w'.cell? ⟨b, t * 2, none⟩ = some (.int .i64 (c t).s) ∧ w'.cell? ⟨b, t * 2 + 1, none⟩ = some (.int .i64 (c t).d) := by
  have e1 : (t * 2 + 1) % 2 = 1 := by omega
  have e2 : (t * 2 + 1) / 2 = t := by omega
  exact ⟨(World.cell?_of_block (w := w) (w' := w') (a := ⟨b, t * 2, none⟩) (hb.block b (Array.getElem?_eq_some_iff.1 h).1)).trans (by simp [World.cell?, h, rowOf_get _ _ _ (show t * 2 < 512 by omega), ccell]),
    (World.cell?_of_block (w := w) (w' := w') (a := ⟨b, t * 2 + 1, none⟩) (hb.block b (Array.getElem?_eq_some_iff.1 h).1)).trans (by simp [World.cell?, h, rowOf_get _ _ _ (show t * 2 + 1 < 512 by omega), ccell, e1, e2])⟩
/-- the two floods of a grid, from one cell and from another one -/
theorem flood_mid {g : G} (hok : g.ok) {a b : Nat} {ca cb : Nat → C} {ia ib : Nat → Bool} (ha : a < g.n) (hb : b < g.n) (hA : FloodIs g a ca ia) (hB : FloodIs g b cb ib) (hab : ia b = true) {k : Nat} (hk : ia k = true) :
    Dist g.E a k (ca k) ∧ Dist g.E k b (cb k) ∧ Dist g.E a b (ca b) := by
  have h1 := ((hA k).1 hk).1
  have h2 := ((hA b).1 hab).1
  have hw : Walk g.E b k (C.add (ca b) (ca k)) := (Walk.rev (E := g.E) (fun _ _ _ he => G.E_symm he) h2.1).trans h1.1
  have hkb : ib k = true := by
    cases h : ib k with
    | true => rfl
    | false => exact absurd hw ((hB k).2 h _)
  exact ⟨h1, Dist.symm (E := g.E) (fun _ _ _ he => G.E_symm he) ((hB k).1 hkb).1, h2⟩
/-- whoever is not near comes by a corner -/
theorem corner_between {g : G} (hok : g.ok) {a b : Nat} {ca cb : Nat → C} {ia ib : Nat → Bool} (ha : a < g.n) (hb : b < g.n) (hA : FloodIs g a ca ia) (hB : FloodIs g b cb ib) (hab : ia b = true) (hn : ¬ g.Near a b) :
    ∃ k, k < g.n ∧ cornerB g k = true ∧ ia k = true ∧ C.add (ca k) (cb k) = ca b := by
  have h2 := ((hA b).1 hab).1
  obtain ⟨q, c1, c2, hq, h3, h4, h5, _⟩ := G.dist_corner h2 (fun e => hn (by unfold G.Near; rw [← e]; exact h2.1))
  have hiq : ia q = true := by
    cases h : ia q with
    | true => rfl
    | false => exact absurd h3.1 ((hA q).2 h _)
  obtain ⟨m1, m2, _⟩ := flood_mid hok ha hb hA hB hab hiq
  refine ⟨q, hq.1, (corner_iff hq.1).2 hq, hiq, ?_⟩
  rw [← m1.unique h3, ← m2.unique h4] at h5
  exact h5
/-- none of the first corners lies on the way -/
def NoTurn (g : G) (b : Nat) (ca cb : Nat → C) (ia : Nat → Bool) (i : Nat) : Prop := ∀ j, j < i → ∀ k : Nat, (cornersI g).getD j 0 = (k : Int) → ¬ (ia k = true ∧ C.add (ca k) (cb k) = ca b)
set_option maxRecDepth 100000 in
set_option maxHeartbeats 6400000 in
theorem topCorner (W0 : World) (a b : Int) (A0 : Option Addr) (n0 m0 : Nat) (f0 : Nat → Int) (h0 : SlI W0 A0 n0 f0) (x : Int) (hx : -9223372036854775808 ≤ x ∧ x ≤ 9223372036854775807) (y : Int) (hy : -9223372036854775808 ≤ y ∧ y ≤ 9223372036854775807) :
    Calls Try.prog 15 #[.agg #[.int .i64 a, .int .i64 b, .slice A0 n0 m0], .int .i64 x, .int .i64 y] W0 fun e w' => e = .returned (.bool true) ∧ Below W0.heap.size W0 w' := by
  obtain ⟨hI0, hl0, _⟩ := h0
  have hl0 := Lib.hid hl0
  go_enter Try.func15, Try.ntmps15
  go_upto_region 1 with (fail)
  refine wp_name ?_
  intro W hW
  have HW : Below W0.heap.size W0 W := by rw [hW]; (repeat' (first | exact Below.refl _ _ | assumption | apply bel_drewN | apply bel_drew | apply bel_alloc | (refine bel_trans ?_ (by assumption))))
  have k0 : ∀ w', Below W.heap.size W w' → w'.cell? ⟨W0.heap.size, 0, none⟩ = some (.int .i64 a : Value) := fun w' hbw => (hbw.cell (p := ⟨W0.heap.size, 0, none⟩) (by rw [hW]; simp <;> omega)).trans (by rw [hW]; go_simp)
  have k1 : ∀ w', Below W.heap.size W w' → w'.cell? ⟨W0.heap.size, 1, none⟩ = some (.int .i64 b : Value) := fun w' hbw => (hbw.cell (p := ⟨W0.heap.size, 1, none⟩) (by rw [hW]; simp <;> omega)).trans (by rw [hW]; go_simp)
  have k2 : ∀ w', Below W.heap.size W w' → w'.cell? ⟨W0.heap.size, 2, none⟩ = some (.slice A0 n0 m0 : Value) := fun w' hbw => (hbw.cell (p := ⟨W0.heap.size, 2, none⟩) (by rw [hW]; simp <;> omega)).trans (by rw [hW]; go_simp)
  clear hW
  go_wp2_with fail
  (with_reducible refine (gridNew_ex 3 3 _ (by decide)).mono ?_)
  rintro e w1 ⟨p0, rfl, hp0, hG, hb1⟩
  go_wp2_with fail
  refine (gridSet_new _ p0 _ _ 4 true hG (by decide) (by decide) (by decide)).mono ?_
  rintro e w2 ⟨rfl, hG2, hk2⟩
  have HB2 := Kept.below hb1 hk2 hb1.size (by simp; omega)
  have hG2 : GridAt w2 p0 g33 (0 + 1) := hG2
  have cA := cornerAll w2 p0 _ _ hG2
  rw [corners33] at cA
  clear hG hG2 hk2 hb1
  go_wp2_with fail
  (with_reducible refine cA.mono ?_)
  rintro e w3 ⟨A3, m3, rfl, hI3, hb3⟩
  have HB3 := bel_trans HB2 hb3
  clear hI3 hb3 HB2 cA
  go_wp2_with fail
  (with_reducible refine (laid_any a b A0 n0 m0 f0 _ ((hI0.below HW).below HB3) hl0.out).mono ?_)
  rintro e w4 (⟨rfl, hb4⟩ | ⟨p, q, g, v, rfl, hp1, hpq, hG, hR, hv0, hv1, hb4⟩)
  · have HB4 := bel_trans (bel_trans HW HB3) hb4
    go_wp2
    go_ret
    exact ⟨rfl, HB4⟩
  have HB4 := bel_trans (bel_trans HW HB3) hb4
  clear k0 k1 k2 hb4 HB3 HW
  have cFx := Lib.hid (fun w' h' => rFault w' q g v x h')
  have cFy := Lib.hid (fun w' h' => rFault w' q g v y h')
  by_cases hfx : g.fault x = 0
  case neg =>
    have hpos : (0 : Int) < (g.fault x : Nat) := by omega
    clear hfx
    go_wp2_with fail
    (with_reducible refine (cFx.out _ hR).mono ?_)
    rintro e w5 ⟨rfl, hb5⟩
    go_wp2
    go_ret
    exact ⟨rfl, bel_trans HB4 hb5⟩
  rw [hfx] at cFx
  obtain ⟨ca, rfl, hca, hba⟩ := G.fault_zero hfx
  clear hfx
  go_wp2_with fail
  (with_reducible refine (cFx.out _ hR).mono ?_)
  rintro e w5 ⟨rfl, hb5⟩
  have HB5 := bel_trans HB4 hb5
  by_cases hfy : g.fault y = 0
  case neg =>
    have hpos : (0 : Int) < (g.fault y : Nat) := by omega
    clear hfy
    go_wp2_with fail
    (with_reducible refine (cFy.out _ (hR.below hb5 hR.lt)).mono ?_)
    rintro e w6 ⟨rfl, hb6⟩
    go_wp2
    go_ret
    exact ⟨rfl, bel_trans HB5 hb6⟩
  rw [hfy] at cFy
  obtain ⟨cb, rfl, hcb, hbb⟩ := G.fault_zero hfy
  clear hfy
  go_wp2_with fail
  (with_reducible refine (cFy.out _ (hR.below hb5 hR.lt)).mono ?_)
  rintro e w6 ⟨rfl, hb6⟩
  have HB6 := bel_trans HB5 hb6
  have hR6 := hR.below (bel_trans hb5 hb6) hR.lt
  have hG6 := hG.below (bel_trans hb5 hb6) hG.lt
  have hok := hG.1
  have hNn := G.n_le hok
  clear hG hR hb5 hb6 HB4 HB5 cFx cFy
  go_wp2_with fail
  (with_reducible refine (rFlood _ q g v ca hR6 hca).mono ?_)
  rintro e w7 ⟨fa, ia, rfl, hFa, hb7⟩
  obtain ⟨Z1, hZ1⟩ : ∃ Z, Z = rowOf (ccell fa) 512 := ⟨_, rfl⟩
  obtain ⟨Z2, hZ2⟩ : ∃ Z, Z = rowOf (icell ia) 256 := ⟨_, rfl⟩
  have z1 : Z1.size = 512 := by rw [hZ1, rowOf_size]
  have z2 : Z2.size = 256 := by rw [hZ2, rowOf_size]
  have o1 : Z1.all (·.oneCell') = true := by rw [hZ1]; exact Array.all_eq_true_iff_forall_mem.2 (fun v hv => row_one (f := ccell fa) (fun k => by unfold ccell; split <;> rfl) 512 v (by simpa using hv))
  have o2 : Z2.all (·.oneCell') = true := by rw [hZ2]; exact Array.all_eq_true_iff_forall_mem.2 (fun v hv => row_one (f := icell ia) (fun k => rfl) 256 v (by simpa using hv))
  rw [← hZ1, ← hZ2]
  have HZ1 := Lib.hid hZ1
  have HZ2 := Lib.hid hZ2
  clear hZ1 hZ2
  obtain ⟨W7, W8, r1, r2, hA1, hA2, hbW⟩ := two_arrays w7 Z1 Z2 z1 z2 o1 o2
  rw [HZ1.out] at hA1
  rw [HZ2.out] at hA2
  have hA1 := Lib.hid hA1
  have hA2 := Lib.hid hA2
  clear HZ1 HZ2 o1 o2
  have HW8 := bel_trans hb7 hbW
  have HB8 := bel_trans HB6 HW8
  have hR8 := hR6.below HW8 hR6.lt
  have hG8 := hG6.below HW8 hG6.lt
  have hFa := Lib.hid hFa
  go_upto_region 11 with (fail)
  obtain ⟨b12, hb12⟩ : ∃ b, w7.heap.size = b := ⟨_, rfl⟩
  rw [hb12] at hA1 hA2 ⊢
  obtain ⟨b13, hb13⟩ : ∃ b, b12 + 1 = b := ⟨_, rfl⟩
  rw [hb13] at hA2 ⊢
  clear r1 r2 hb12 hb13 hbW HW8 hb7 hR6 hG6 HB6 z1 z2
  go_wp2_with fail
  (with_reducible refine (rFlood _ q g v cb hR8 hcb).mono ?_)
  rintro e w9 ⟨fb, ib, rfl, hFb, hb9⟩
  obtain ⟨Z3, hZ1⟩ : ∃ Z, Z = rowOf (ccell fb) 512 := ⟨_, rfl⟩
  obtain ⟨Z4, hZ2⟩ : ∃ Z, Z = rowOf (icell ib) 256 := ⟨_, rfl⟩
  have z1 : Z3.size = 512 := by rw [hZ1, rowOf_size]
  have z2 : Z4.size = 256 := by rw [hZ2, rowOf_size]
  have o1 : Z3.all (·.oneCell') = true := by rw [hZ1]; exact Array.all_eq_true_iff_forall_mem.2 (fun v hv => row_one (f := ccell fb) (fun k => by unfold ccell; split <;> rfl) 512 v (by simpa using hv))
  have o2 : Z4.all (·.oneCell') = true := by rw [hZ2]; exact Array.all_eq_true_iff_forall_mem.2 (fun v hv => row_one (f := icell ib) (fun k => rfl) 256 v (by simpa using hv))
  rw [← hZ1, ← hZ2]
  have HZ1 := Lib.hid hZ1
  have HZ2 := Lib.hid hZ2
  clear hZ1 hZ2
  obtain ⟨W9, W10, r1, r2, hA3, hA4, hbW⟩ := two_arrays w9 Z3 Z4 z1 z2 o1 o2
  rw [HZ1.out] at hA3
  rw [HZ2.out] at hA4
  have hA3 := Lib.hid hA3
  have hA4 := Lib.hid hA4
  clear HZ1 HZ2 o1 o2
  have HW10 := bel_trans hb9 hbW
  have HB10 := bel_trans HB8 HW10
  have hG10 := hG8.below HW10 hG8.lt
  have hA1 := Lib.hid ((HW10.block b12 (Array.getElem?_eq_some_iff.1 hA1.out).1).trans hA1.out)
  have hA2 := Lib.hid ((HW10.block b13 (Array.getElem?_eq_some_iff.1 hA2.out).1).trans hA2.out)
  have hFb := Lib.hid hFb
  go_upto_region 12 with (fail)
  obtain ⟨b14, hb14⟩ : ∃ b, w9.heap.size = b := ⟨_, rfl⟩
  rw [hb14] at hA3 hA4 ⊢
  obtain ⟨b15, hb15⟩ : ∃ b, b14 + 1 = b := ⟨_, rfl⟩
  rw [hb15] at hA4 ⊢
  clear r1 r2 hb14 hb15 hbW HW10 hb9 hR8 hG8 HB8 z1 z2
  obtain ⟨t, ht⟩ : ∃ t : Bool, t = true ↔ g.Near ca cb := by
    by_cases h : g.Near ca cb
    · exact ⟨true, by simp [h]⟩
    · exact ⟨false, by simp [h]⟩
  have cN := Lib.hid (reachNear_ok W10 p g v ca cb t hG10 hca hcb hba hbb ht)
  have Ht := Lib.hid ht
  clear ht
  go_wp2_with fail
  (with_reducible refine cN.out.mono ?_)
  rintro e w11 ⟨rfl, hb11⟩
  have hcb0 : (0 : Int) ≤ (cb : Int) := by omega
  have hcb1 : (cb : Int) < 256 := by omega
  have ci := arr_b hA2.out hb11 (show cb < 256 by omega)
  have HB11 := bel_trans HB10 hb11
  cases hib : ia cb with
  | false =>
    rw [hib] at ci
    clear hib
    go_wp2
    go_ret
    exact ⟨rfl, HB11⟩
  | true =>
    rw [hib] at ci
    have Hib := Lib.hid hib
    clear hib
    cases t with
    | true =>
      go_wp2
      go_ret
      exact ⟨rfl, HB11⟩
    | false =>
      have hnear : ¬ g.Near ca cb := fun h => by have := Ht.out.2 h; simp at this
      have hCB := Lib.hid (corner_between hok hca hcb hFa.out hFb.out Hib.out hnear)
      clear hnear cN Ht
      go_wp2_with fail
      (with_reducible refine (cornerAll _ p g v (hG10.below hb11 hG10.lt)).mono ?_)
      rintro e w12 ⟨A, m, rfl, hI, hb12⟩
      have hb12' := bel_trans hb11 hb12
      have HB12 := bel_trans HB10 hb12'
      have hA1 := Lib.hid ((hb12'.block b12 (Array.getElem?_eq_some_iff.1 hA1.out).1).trans hA1.out)
      have hA2 := Lib.hid ((hb12'.block b13 (Array.getElem?_eq_some_iff.1 hA2.out).1).trans hA2.out)
      have hA3 := Lib.hid ((hb12'.block b14 (Array.getElem?_eq_some_iff.1 hA3.out).1).trans hA3.out)
      obtain ⟨n, hn⟩ : ∃ n, (cornersI g).length = n := ⟨_, rfl⟩
      have hn256 : n ≤ 256 := by rw [← hn]; exact Nat.le_trans (upTo_len _ _) hNn
      rw [hn] at hI ⊢
      have Hn := Lib.hid hn
      have HI := Lib.hid hI
      have Hok := Lib.hid hok
      have hstart : NoTurn g cb fa fb ia 0 := fun j hj => by omega
      clear hI hb12 hb12' hb11 HB11 HB10 hG10 ci hn hok hA4
      go_wp2_with fail
      go_loopw [18] (fun kv wr => ∃ i : Nat, i ≤ n ∧ kv = .int .i64 i ∧ NoTurn g cb fa fb ia i ∧ Below w12.heap.size w12 wr) (fun kv _ => n - (intOf kv).toNat)
      case atStart => exact ⟨0, by omega, rfl, hstart, Below.refl _ _⟩
      case round =>
        obtain ⟨i, hi, rfl, hno, HBr⟩ := hrel
        have Hno := Lib.hid hno
        clear hno hstart
        by_cases hlt : i < n
        · have hIr := HI.out.below HBr
          obtain ⟨ad, hA⟩ := hIr.addr (by omega)
          rw [hA] at hIr
          have hix := fun wx => idx_run (m := m) hA hlt wx
          have hE := hIr.cell (Below.refl _ _) hlt
          obtain ⟨d, hd1, hd2, hd3⟩ := upTo_get (p := cornerB g) (n := g.n) (k := i) (by have := Hn.out; unfold cornersI at this; omega)
          have hd1' : (cornersI g).getD i 0 = (d : Int) := hd1
          rw [hd1'] at hE
          have Hd1 := Lib.hid hd1'
          have d0 : (0 : Int) ≤ (d : Int) := by omega
          have d1 : (d : Int) < 256 := by omega
          have i0 : (0 : Int) ≤ (i : Int) := by omega
          have i1 : (i : Int) < (n : Int) := by omega
          have ci := arr_b hA2.out HBr (show d < 256 by omega)
          have HBw := bel_trans HB12 HBr
          have hEq := cell_regrown hE
          clear hIr hd1 hd1' hA
          cases hid : ia d with
          | false =>
            rw [hid] at ci
            have ciq := cell_regrown ci
            have hnew : NoTurn g cb fa fb ia (i + 1) := fun j hj k hk => by
              by_cases e : j = i
              · subst e
                have : k = d := by have := Hd1.out; omega
                subst this
                rintro ⟨h1, _⟩
                rw [hid] at h1; cases h1
              · exact Hno.out j (by omega) k hk
            have Hnew := Lib.hid hnew
            clear hnew hid
            go_wp2_with fail
            have HX := Below.refl wr.heap.size wr
            refine wp_region_quiet_below (by kernel_rfl) (by kernel_rfl) ?_
            repeat (first | go_big_quiet_step (fail) | quiet_step (fail))
            refine wpQuiet_nil ?_
            intro _ hw'
            obtain ⟨⟨dq, osq⟩, hw''⟩ := hw'
            have HY := bel_trans HX (below_regrown wr dq osq)
            have hb2 := below_regrown wr dq osq
            subst hw''
            generalize grow (redrawn wr dq) osq = wY at HY hb2 ⊢
            have HBY := bel_trans HBr HY
            clear hb2 HY HBr HBw ci ciq hE hEq hix
            go_wp2
            go_roundw
            case rel => first | exact ⟨i + 1, by omega, by go_num, Hnew.out, HBY⟩ | ((repeat apply Exists.intro); exact ⟨⟨i + 1, by omega, by go_num, Hnew.out, HBY⟩, rfl⟩)
            case measure => simp [intOf]; omega
          | true =>
            rw [hid] at ci
            have ciq := cell_regrown ci
            obtain ⟨m1, m2, m3⟩ := flood_mid Hok.out hca hcb hFa.out hFb.out Hib.out hid
            have s1 := G.dist_small Hok.out hca m1
            have s2 := G.dist_small Hok.out hd2 m2
            obtain ⟨x1, x2⟩ := arr_c hA1.out HBr (show d < 256 by omega)
            obtain ⟨y1, y2⟩ := arr_c hA3.out HBr (show d < 256 by omega)
            obtain ⟨z1, z2⟩ := arr_c hA1.out HBr (show cb < 256 by omega)
            have hnew0 : C.add (fa d) (fb d) ≠ fa cb → NoTurn g cb fa fb ia (i + 1) := fun hne j hj k hk => by
              by_cases e : j = i
              · subst e
                have : k = d := by have := Hd1.out; omega
                subst this
                rintro ⟨_, h1⟩
                exact hne h1
              · exact Hno.out j (by omega) k hk
            have Hnew0 := Lib.hid hnew0
            obtain ⟨⟨xs, xd⟩, hx1⟩ : ∃ z, fa d = z := ⟨_, rfl⟩
            obtain ⟨⟨ys, yd⟩, hy1⟩ : ∃ z, fb d = z := ⟨_, rfl⟩
            obtain ⟨⟨zs, zd⟩, hz1⟩ : ∃ z, fa cb = z := ⟨_, rfl⟩
            rw [hx1] at s1 x1 x2
            rw [hy1] at s2 y1 y2
            rw [hz1] at z1 z2
            simp only at s1 s2 x1 x2 y1 y2 z1 z2
            have Hv := Lib.hid (And.intro hx1 (And.intro hy1 hz1))
            obtain ⟨s11, s12, s13, s14⟩ := s1
            obtain ⟨s21, s22, s23, s24⟩ := s2
            have cP := Lib.hid (fun w => refPlus xs xd ys yd w (by unfold inC; omega) (by unfold inC; omega) (by unfold inC; omega) (by unfold inC; omega))
            have x1q := cell_regrown x1
            have x2q := cell_regrown x2
            have y1q := cell_regrown y1
            have y2q := cell_regrown y2
            have z1q := cell_regrown z1
            have z2q := cell_regrown z2
            clear hid m1 m2 m3 hx1 hy1 hz1 hnew0
            have HX := Below.refl wr.heap.size wr
            by_cases q1 : xs + ys = zs
            · by_cases q2 : xd + yd = zd
              · subst q1
                subst q2
                go_wp2_with fail
                refine wp_region_quiet_below (by kernel_rfl) (by kernel_rfl) ?_
                repeat (first | go_big_quiet_step ((with_reducible exact Calls.regrown_of (cP.out _))) | quiet_step ((with_reducible exact Calls.regrown_of (cP.out _))))
                refine wpQuiet_nil ?_
                intro _ hw'
                obtain ⟨⟨dq, osq⟩, hw''⟩ := hw'
                have HY := bel_trans HX (below_regrown wr dq osq)
                have hb2 := below_regrown wr dq osq
                subst hw''
                generalize grow (redrawn wr dq) osq = wY at HY hb2 ⊢
                have HBY := bel_trans HBw HY
                go_wp2
                go_ret
                exact ⟨rfl, HBY⟩
              · have q2' : (xd + yd == zd) = false := by rw [beq_eq_false_iff_ne]; exact q2
                have Hnew := Lib.hid (Hnew0.out (by rw [Hv.out.1, Hv.out.2.1, Hv.out.2.2]; intro e; injection e with e1 e2; exact q2 e2))
                subst q1
                clear Hnew0 q2 Hv
                go_wp2_with fail
                refine wp_region_quiet_below (by kernel_rfl) (by kernel_rfl) ?_
                repeat (first | go_big_quiet_step ((with_reducible exact Calls.regrown_of (cP.out _))) | quiet_step ((with_reducible exact Calls.regrown_of (cP.out _))))
                refine wpQuiet_nil ?_
                intro _ hw'
                obtain ⟨⟨dq, osq⟩, hw''⟩ := hw'
                have HY := bel_trans HX (below_regrown wr dq osq)
                have hb2 := below_regrown wr dq osq
                subst hw''
                generalize grow (redrawn wr dq) osq = wY at HY hb2 ⊢
                have HBY := bel_trans HBr HY
                clear hb2 HY HBr HBw ci ciq hE hEq hix cP x1 x2 y1 y2 z1 z2 x1q x2q y1q y2q z1q z2q
                go_wp2
                go_roundw
                case rel => first | exact ⟨i + 1, by omega, by go_num, Hnew.out, HBY⟩ | ((repeat apply Exists.intro); exact ⟨⟨i + 1, by omega, by go_num, Hnew.out, HBY⟩, rfl⟩)
                case measure => simp [intOf]; omega
            · have q1' : (xs + ys == zs) = false := by rw [beq_eq_false_iff_ne]; exact q1
              have Hnew := Lib.hid (Hnew0.out (by rw [Hv.out.1, Hv.out.2.1, Hv.out.2.2]; intro e; injection e with e1 e2; exact q1 e1))
              clear Hnew0 q1 Hv
              go_wp2_with fail
              refine wp_region_quiet_below (by kernel_rfl) (by kernel_rfl) ?_
              repeat (first | go_big_quiet_step ((with_reducible exact Calls.regrown_of (cP.out _))) | quiet_step ((with_reducible exact Calls.regrown_of (cP.out _))))
              refine wpQuiet_nil ?_
              intro _ hw'
              obtain ⟨⟨dq, osq⟩, hw''⟩ := hw'
              have HY := bel_trans HX (below_regrown wr dq osq)
              have hb2 := below_regrown wr dq osq
              subst hw''
              generalize grow (redrawn wr dq) osq = wY at HY hb2 ⊢
              have HBY := bel_trans HBr HY
              clear hb2 HY HBr HBw ci ciq hE hEq hix cP x1 x2 y1 y2 z1 z2 x1q x2q y1q y2q z1q z2q
              go_wp2
              go_roundw
              case rel => first | exact ⟨i + 1, by omega, by go_num, Hnew.out, HBY⟩ | ((repeat apply Exists.intro); exact ⟨⟨i + 1, by omega, by go_num, Hnew.out, HBY⟩, rfl⟩)
              case measure => simp [intOf]; omega
        · exfalso
          obtain rfl : i = n := by omega
          obtain ⟨k, k1, k2, k3, k4⟩ := hCB.out
          obtain ⟨j, hj1, hj2⟩ := upTo_has (p := cornerB g) k1 k2
          exact Hno.out j (by have := Hn.out; unfold cornersI at this; omega) k hj2 ⟨k3, k4⟩
end Go.Proofs.Ytkiogciokngjfaa
