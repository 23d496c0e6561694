/- The document's cells on ways between two cells. -/
import Derived.Test.YtkiogciokngjfaaRRay5
import Derived.Test.YtkiogciokngjfaaMathSel
import Derived.Deep.RegionHeld3
set_option linter.unusedVariables false
set_option linter.unusedSimpArgs false
namespace Go.Proofs.Ytkiogciokngjfaa
open Go.RowKit Go.Sort FR
theorem onK_iff {g : G} {ca cb : Nat} {c1 c2 : Nat → C} {i1 i2 : Nat → Bool} (h1 : FloodIs g ca c1 i1) (h2 : FloodIs g cb c2 i2) (k : Nat) : (i1 k = true ∧ i2 k = true ∧ C.add (c1 k) (c2 k) = g.oct ca cb) ↔ g.Mid ca cb k := by
  have hs : ∀ a b c, g.E a b c → g.E b a c := fun _ _ _ he => G.E_symm he
  constructor
  · rintro ⟨a3, a4, a5⟩
    exact ⟨_, _, ((h1 k).1 a3).1.1, Walk.rev hs ((h2 k).1 a4).1.1, a5⟩
  · rintro ⟨p, q, b1, b2, b3⟩
    have i1k : i1 k = true := by
      cases h : i1 k with
      | true => rfl
      | false => exact absurd b1 ((h1 k).2 h _)
    have i2k : i2 k = true := by
      cases h : i2 k with
      | true => rfl
      | false => exact absurd (Walk.rev hs b2) ((h2 k).2 h _)
    have d1 := ((h1 k).1 i1k).1
    have d2 := ((h2 k).1 i2k).1
    have l1 := d1.2 _ b1
    have l2 := d2.2 _ (Walk.rev hs b2)
    refine ⟨i1k, i2k, C.le_antisymm ?_ ?_⟩
    · rw [← b3]; exact C.add_le_add l1 l2
    · exact G.oct_le (d1.1.trans (Walk.rev hs d2.1))
def OnD (w : World) (g : G) (ca cb : Nat) (e : Ending) (w' : World) : Prop := ∃ on : Nat → Bool, e = .returned (.agg (rowOf (icell on) 256)) ∧ (∀ t, t < g.n → (on t = true ↔ g.Mid ca cb t)) ∧ Below w.heap.size w w'
/-- what holds at a round's head -/
def OnI (W wr : World) (g : G) (ca cb b7 k : Nat) : Prop := ∃ on : Nat → Bool, wr.heap[b7]? = some (.cells (rowOf (icell on) 256) 66 (0, 0)) ∧ (∀ t, t < k → (on t = true ↔ g.Mid ca cb t)) ∧ Kept [b7] W wr
theorem OnI.next {W wr w8 : World} {g : G} {ca cb b7 k : Nat} (h : OnI W wr g ca cb b7 k) (hb : Below wr.heap.size wr w8) {r : Bool} (hr : r = true ↔ g.Mid ca cb k) : OnI W (w8.setCell ⟨b7, k, none⟩ (.bool r)) g ca cb b7 (k + 1) := by
  obtain ⟨on, h1, h2, h3⟩ := h
  have h1' := (hb.block b7 (Array.getElem?_eq_some_iff.1 h1).1).trans h1
  refine ⟨upd on k r, ?_, fun t ht => ?_, (h3.trans (Kept.of_below hb)).trans ((Kept.refl _ _).setCell (.inl (by simp)))⟩
  · rw [set_heap1 _ _ _ _ _ _ h1', row_set (icell on) (icell (upd on k r)) 256 k _ (by unfold icell; rw [upd_same]) (fun i hi => by unfold icell; rw [upd_ne _ _ hi])]
  · by_cases e : t = k
    · subst e; rw [upd_same]; exact hr
    · rw [upd_ne _ _ e]; exact h2 t (by omega)
theorem row_cell {w w' : World} {b n t : Nat} {f : Nat → Value} {T : TypeId} (h : w.heap[b]? = some (.cells (rowOf f n) T (0, 0))) (hb : Below w.heap.size w w') (ht : t < n) : w'.cell? ⟨b, t, none⟩ = some (f t) ∧ w'.frozen? ⟨b, t, none⟩ = false := by
  have hl := (Array.getElem?_eq_some_iff.1 h).1
  have h' := (hb.block b hl).trans h
  exact ⟨by simp [World.cell?, h', rowOf_get _ _ _ ht], by simp [World.frozen?, h']⟩
theorem setc {w : World} {b k : Nat} {p : Addr} {x v : Value} (hne : p.block ≠ b) (h : w.cell? p = some v) : (w.setCell ⟨b, k, none⟩ x).cell? p = some v := by
  have hk : Kept [b] w (w.setCell ⟨b, k, none⟩ x) := (Kept.refl [b] w).setCell (.inl (by simp))
  exact (World.cell?_of_block (a := p) (hk.block p.block (World.block_lt_of_cell? w _ h) (by simpa using hne))).trans h
set_option maxRecDepth 100000 in
set_option maxHeartbeats 6400000 in
theorem rOn (w : World) (p : Nat) (g : G) (v : Int) (ca cb : Nat) (h : RGridAt w p g v) (hca : ca < g.n) (hcb : cb < g.n) :
    Calls Try.prog 122 #[.pointer (some ⟨p, 0, none⟩), .int .i64 (ca : Nat), .int .i64 (cb : Nat)] w (OnD w g ca cb) := by
  have hNn := G.n_le h.1
  have hok := h.1
  go_enter Try.func122, Try.ntmps122
  go_upto_region 2 with (fail)
  refine wp_name ?_
  intro W0 hW0
  have HW0 : Below w.heap.size w W0 := by rw [hW0]; (repeat' (first | exact Below.refl _ _ | assumption | apply bel_drewN | apply bel_drew | apply bel_alloc | (refine bel_trans ?_ (by assumption))))
  have kA : W0.heap[w.heap.size]? = some (.cells Try.zeroCells66 66 (0, 0)) := by rw [hW0]; exact alloc_old _ _ (by simp) (alloc_at _ _ rfl)
  have kB : W0.heap[w.heap.size + 1]? = some (.cells Try.zeroCells66 66 (0, 0)) := by rw [hW0]; exact alloc_at _ _ (by simp)
  obtain ⟨b6, hb6⟩ : ∃ z, w.heap.size = z := ⟨_, rfl⟩
  rw [hb6] at kA kB ⊢
  obtain ⟨b7, hb7⟩ : ∃ z, b6 + 1 = z := ⟨_, rfl⟩
  rw [hb7] at kB ⊢
  have hR0 := h.below HW0 h.lt
  clear hW0
  go_wp2_with fail
  (with_reducible refine (rFlood _ p g v ca hR0 hca).mono ?_)
  rintro e w1 ⟨c1, i1, rfl, hF1, hb1⟩
  obtain ⟨Z1, hZ1⟩ : ∃ Z, Z = rowOf (ccell c1) 512 := ⟨_, rfl⟩
  obtain ⟨Z2, hZ2⟩ : ∃ Z, Z = rowOf (icell i1) 256 := ⟨_, rfl⟩
  have z1 : Z1.size = 512 := by rw [hZ1, rowOf_size]
  have z2 : Z2.size = 256 := by rw [hZ2, rowOf_size]
  have o1 : Z1.all (·.oneCell') = true := by rw [hZ1]; exact Array.all_eq_true_iff_forall_mem.2 (fun v hv => row_one (f := ccell c1) (fun k => by unfold ccell; split <;> rfl) 512 v (by simpa using hv))
  have o2 : Z2.all (·.oneCell') = true := by rw [hZ2]; exact Array.all_eq_true_iff_forall_mem.2 (fun v hv => row_one (f := icell i1) (fun k => rfl) 256 v (by simpa using hv))
  rw [← hZ1, ← hZ2]
  have HZ1 := Lib.hid hZ1
  have HZ2 := Lib.hid hZ2
  clear hZ1 hZ2
  obtain ⟨V1, V2, r1, r2, hA1, hA2, hbW⟩ := two_arrays w1 Z1 Z2 z1 z2 o1 o2
  rw [HZ1.out] at hA1
  rw [HZ2.out] at hA2
  have hA1 := Lib.hid hA1
  have hA2 := Lib.hid hA2
  clear HZ1 HZ2 o1 o2
  have HB1 := bel_trans HW0 (bel_trans hb1 hbW)
  have l7 : b7 < W0.heap.size := (Array.getElem?_eq_some_iff.1 kB).1
  have kA := (bel_trans hb1 hbW).block b6 (Array.getElem?_eq_some_iff.1 kA).1 |>.trans kA
  have kB := (bel_trans hb1 hbW).block b7 (Array.getElem?_eq_some_iff.1 kB).1 |>.trans kB
  have hR1 := hR0.below (bel_trans hb1 hbW) hR0.lt
  have s1 : W0.heap.size ≤ w1.heap.size := hb1.size
  go_upto_region 3 with (fail)
  obtain ⟨b8, hb8⟩ : ∃ b, w1.heap.size = b := ⟨_, rfl⟩
  rw [hb8] at hA1 hA2 ⊢
  obtain ⟨b9, hb9⟩ : ∃ b, b8 + 1 = b := ⟨_, rfl⟩
  rw [hb9] at hA2 ⊢
  have l8 : b7 < b8 ∧ b8 < b9 := by omega
  have l9 : b9 < V2.heap.size := (Array.getElem?_eq_some_iff.1 hA2.out).1
  clear r1 r2 hb8 hb9 hb1 hbW z1 z2 hR0 l7 s1
  go_wp2_with fail
  (with_reducible refine (rFlood _ p g v cb hR1 hcb).mono ?_)
  rintro e w2 ⟨c2, i2, rfl, hF2, hb2⟩
  obtain ⟨Z3, hZ1⟩ : ∃ Z, Z = rowOf (ccell c2) 512 := ⟨_, rfl⟩
  obtain ⟨Z4, hZ2⟩ : ∃ Z, Z = rowOf (icell i2) 256 := ⟨_, rfl⟩
  have z1 : Z3.size = 512 := by rw [hZ1, rowOf_size]
  have z2 : Z4.size = 256 := by rw [hZ2, rowOf_size]
  have o1 : Z3.all (·.oneCell') = true := by rw [hZ1]; exact Array.all_eq_true_iff_forall_mem.2 (fun v hv => row_one (f := ccell c2) (fun k => by unfold ccell; split <;> rfl) 512 v (by simpa using hv))
  have o2 : Z4.all (·.oneCell') = true := by rw [hZ2]; exact Array.all_eq_true_iff_forall_mem.2 (fun v hv => row_one (f := icell i2) (fun k => rfl) 256 v (by simpa using hv))
  rw [← hZ1, ← hZ2]
  have HZ1 := Lib.hid hZ1
  have HZ2 := Lib.hid hZ2
  clear hZ1 hZ2
  obtain ⟨V3, V4, r1, r2, hA3, hA4, hbW⟩ := two_arrays w2 Z3 Z4 z1 z2 o1 o2
  rw [HZ1.out] at hA3
  rw [HZ2.out] at hA4
  have hA3 := Lib.hid hA3
  have hA4 := Lib.hid hA4
  clear HZ1 HZ2 o1 o2
  have hb2' := bel_trans hb2 hbW
  have HB2 := bel_trans HB1 hb2'
  have kA := hb2'.block b6 (Array.getElem?_eq_some_iff.1 kA).1 |>.trans kA
  have kB := hb2'.block b7 (Array.getElem?_eq_some_iff.1 kB).1 |>.trans kB
  have hA1 := Lib.hid ((hb2'.block b8 (Array.getElem?_eq_some_iff.1 hA1.out).1).trans hA1.out)
  have hA2 := Lib.hid ((hb2'.block b9 (Array.getElem?_eq_some_iff.1 hA2.out).1).trans hA2.out)
  have hR2 := hR1.below hb2' hR1.lt
  have s2 : V2.heap.size ≤ w2.heap.size := hb2.size
  go_upto_region 4 with (fail)
  obtain ⟨b10, hb10⟩ : ∃ b, w2.heap.size = b := ⟨_, rfl⟩
  rw [hb10] at hA3 hA4 ⊢
  obtain ⟨b11, hb11⟩ : ∃ b, b10 + 1 = b := ⟨_, rfl⟩
  rw [hb11] at hA4 ⊢
  have l10 : b9 < b10 ∧ b10 < b11 := by omega
  have l67 : b6 < b7 := by omega
  have hb6l : w.heap.size ≤ b6 := by omega
  have hne : p ∉ [b7] := by have := h.lt; simp; omega
  have hge : ∀ i ∈ [b7], w.heap.size ≤ i := by simp; omega
  have hstart : OnI V4 V4 g ca cb b7 0 := ⟨fun _ => false, by rw [← zero_bools]; exact kB, fun t ht => by omega, Kept.refl _ _⟩
  obtain ⟨⟨os, od⟩, hox⟩ : ∃ z, g.oct ca cb = z := ⟨_, rfl⟩
  have cO := Lib.hid (fun w' h' => rOct w' p g v ca cb ⟨os, od⟩ h' hca hcb hox)
  have HF1 := Lib.hid hF1
  have HF2 := Lib.hid hF2
  have Hok := Lib.hid hok
  have Hox := Lib.hid hox
  have HR2 := Lib.hid hR2
  have KA := Lib.hid kA
  have en : ((g.n : Nat) : Int) = (g.w : Int) * g.h := by unfold G.n; simp
  have m1 : 0 ≤ (g.w : Int) * g.h := by omega
  have m2 : (g.w : Int) * g.h ≤ 256 := by omega
  have en := Lib.hid en
  clear r1 r2 hb2 hbW hb2' z1 z2 HB1 hR1 kB hF1 hF2 hok hox hR2 kA hb6 hb7 hb10 hb11 s2 h
  go_wp2_with fail
  go_loopw [12] (fun kv wr => ∃ k : Nat, k ≤ g.n ∧ kv = .int .i64 k ∧ OnI V4 wr g ca cb b7 k) (fun kv _ => g.n - (intOf kv).toNat)
  case atStart => exact ⟨0, by omega, rfl, hstart⟩
  case round =>
    obtain ⟨k, hk, rfl, hO⟩ := hrel
    clear hstart
    have hO := Lib.hid hO
    have hKp : Kept [b7] V4 wr := by obtain ⟨_, _, _, h⟩ := hO.out; exact h
    have hR := HR2.out.kept hKp hne
    obtain ⟨s1, s2⟩ := hR.size
    have hw : IntKind.i64.wrap ((g.w : Int) * g.h) = (g.w : Int) * g.h := IntWalk.i64_in _ (by omega)
    by_cases hlt : k < g.n
    · have hd : decide ((k : Int) < (g.w : Int) * g.h) = true := by have := en.out; simp; omega
      go_wp2_with fail
      go_quiet (fail)
      clear hw hd s1 s2
      have hbn : Below wr.heap.size wr (wr.drewN nq) := bel_drewN (Below.refl _ _)
      generalize wr.drewN nq = Wn at hbn ⊢
      have g1 := (hKp.block b8 (Array.getElem?_eq_some_iff.1 hA1.out).1 (by simp; omega)).trans hA1.out
      have g2 := (hKp.block b9 (Array.getElem?_eq_some_iff.1 hA2.out).1 (by simp; omega)).trans hA2.out
      have g3 := (hKp.block b10 (Array.getElem?_eq_some_iff.1 hA3.out).1 (by simp; omega)).trans hA3.out
      have g4 := (hKp.block b11 (Array.getElem?_eq_some_iff.1 hA4.out).1 (by simp; omega)).trans hA4.out
      obtain ⟨x1, x2⟩ := arr_c' g1 hbn (show k < 256 by omega)
      obtain ⟨y1, y2⟩ := arr_c' g3 hbn (show k < 256 by omega)
      have x3 := arr_b' g2 hbn (show k < 256 by omega)
      have y3 := arr_b' g4 hbn (show k < 256 by omega)
      have ho := hO.out
      obtain ⟨on, ho, _, _⟩ := ho
      obtain ⟨z1, z2⟩ := row_cell ho hbn (show k < 256 by omega)
      unfold icell at z1
      clear ho
      have hRn := hR.below hbn hR.lt
      have hrl := hRn.lt
      have HRn := Lib.hid hRn
      have k0 : (0 : Int) ≤ (k : Int) := by omega
      have k1 : (k : Int) < 256 := by omega
      obtain ⟨r, hr⟩ := boolP (g.Mid ca cb k)
      have hfin := Lib.hid (fun w8 (hb8 : Below Wn.heap.size Wn w8) => hO.out.next (bel_trans hbn hb8) hr)
      rw [← onK_iff HF1.out HF2.out] at hr
      have hsm : i1 k = true → 0 ≤ (c1 k).s ∧ (c1 k).s ≤ 512 ∧ 0 ≤ (c1 k).d ∧ (c1 k).d ≤ 512 := fun h => G.dist_small Hok.out hca ((HF1.out k).1 h).1
      have hsm2 : i2 k = true → 0 ≤ (c2 k).s ∧ (c2 k).s ≤ 512 ∧ 0 ≤ (c2 k).d ∧ (c2 k).d ≤ 512 := fun h => G.dist_small Hok.out hcb ((HF2.out k).1 h).1
      have Hr := Lib.hid hr
      clear g1 g2 g3 g4 hr hR hRn
      go_upto_region 7 with (fail)
      cases hi1 : i1 k with
      | false =>
        rw [hi1] at x3
        have er : r = false := bool_no Hr.out (fun h => by rw [hi1] at h; cases h.1)
        clear x1 x2 y1 y2 y3 hsm hsm2 Hr hi1
        subst er
        refine wp_region_noPanic ?_
        refine wp_region_held_drew (S := fun w' => w'.cell? ⟨b9, k, none⟩ = some (.bool false)) (by kernel_rfl) x3 (fun hHeld => ?_)
        refine wpAnyH_take (i := 0) (oi := { dst := Option.some 38, op := Op.move (Operand.tmp 12), type := 3, pos := "parts.go:494", after := #[], guard := Option.none }) (v := ?_) rfl (by kernel_rfl) (by kernel_rfl) (by kernel_rfl) (fun _ _ _ h => h) (Or.inl ⟨by rfl, ?_⟩) (by assumption) ?_
        rotate_left
        · intro w hSw
          (try dsimp only at hSw)
          go_simp
          try with_reducible rfl
        try simp only [Act.put, List.setIfInBounds_toArray, List.set_cons_zero, List.set_cons_succ]
        refine wpAnyH_take (i := 1) (oi := { dst := Option.some 39, op := Op.move (Operand.tmp 12), type := 3, pos := "parts.go:494", after := #[], guard := Option.none }) (v := ?_) rfl (by kernel_rfl) (by kernel_rfl) (by kernel_rfl) (fun _ _ _ h => h) (Or.inl ⟨by rfl, ?_⟩) (by assumption) ?_
        rotate_left
        · intro w hSw
          (try dsimp only at hSw)
          go_simp
          try with_reducible rfl
        try simp only [Act.put, List.setIfInBounds_toArray, List.set_cons_zero, List.set_cons_succ]
        refine wpAnyH_take (i := 2) (oi := { dst := Option.some 40, op := Op.indexAddr 66 (Operand.tmp 9) (Operand.tmp 39), type := 0, pos := "parts.go:494", after := #[{ on := 1, ground := Ground.data }], guard := Option.none }) (v := ?_) rfl (by kernel_rfl) (by kernel_rfl) (by kernel_rfl) (fun _ _ _ h => h) (Or.inl ⟨by rfl, ?_⟩) (by assumption) ?_
        rotate_left
        · intro w hSw
          (try dsimp only at hSw)
          go_simp
          try with_reducible rfl
        try simp only [Act.put, List.setIfInBounds_toArray, List.set_cons_zero, List.set_cons_succ]
        refine wpAnyH_take (i := 3) (oi := { dst := Option.some 41, op := Op.load 4 (Operand.tmp 40), type := 4, pos := "parts.go:494", after := #[{ on := 2, ground := Ground.data }], guard := Option.none }) (v := ?_) rfl (by kernel_rfl) (by kernel_rfl) (by kernel_rfl) (fun _ _ _ h => h) (Or.inl ⟨by rfl, ?_⟩) (by assumption) ?_
        rotate_left
        · intro w hSw
          (try dsimp only at hSw)
          go_simp
          try with_reducible rfl
        try simp only [Act.put, List.setIfInBounds_toArray, List.set_cons_zero, List.set_cons_succ]
        refine wpAnyH_take (i := 4) (oi := { dst := Option.some 42, op := Op.move (Operand.tmp 41), type := 4, pos := "parts.go:494", after := #[{ on := 3, ground := Ground.data }], guard := Option.none }) (v := ?_) rfl (by kernel_rfl) (by kernel_rfl) (by kernel_rfl) (fun _ _ _ h => h) (Or.inl ⟨by rfl, ?_⟩) (by assumption) ?_
        rotate_left
        · intro w hSw
          (try dsimp only at hSw)
          go_simp
          try with_reducible rfl
        try simp only [Act.put, List.setIfInBounds_toArray, List.set_cons_zero, List.set_cons_succ]
        refine wpAnyH_take (i := 5) (oi := { dst := Option.some 43, op := Op.move (Operand.tmp 12), type := 3, pos := "parts.go:494", after := #[{ on := 4, ground := Ground.guard }], guard := Option.some (4, Bool.true) }) (v := _) rfl (by kernel_rfl) (by kernel_rfl) (by kernel_rfl) (fun _ _ _ h => h) (Or.inr ⟨by rfl, rfl⟩) (by assumption) ?_
        try simp only [Act.put, List.setIfInBounds_toArray, List.set_cons_zero, List.set_cons_succ]
        refine wpAnyH_take (i := 6) (oi := { dst := Option.some 44, op := Op.indexAddr 66 (Operand.tmp 11) (Operand.tmp 43), type := 0, pos := "parts.go:494", after := #[{ on := 5, ground := Ground.data }, { on := 4, ground := Ground.guard }], guard := Option.some (4, Bool.true) }) (v := _) rfl (by kernel_rfl) (by kernel_rfl) (by kernel_rfl) (fun _ _ _ h => h) (Or.inr ⟨by rfl, rfl⟩) (by assumption) ?_
        try simp only [Act.put, List.setIfInBounds_toArray, List.set_cons_zero, List.set_cons_succ]
        refine wpAnyH_take (i := 7) (oi := { dst := Option.some 45, op := Op.load 4 (Operand.tmp 44), type := 4, pos := "parts.go:494", after := #[{ on := 6, ground := Ground.data }, { on := 4, ground := Ground.guard }], guard := Option.some (4, Bool.true) }) (v := _) rfl (by kernel_rfl) (by kernel_rfl) (by kernel_rfl) (fun _ _ _ h => h) (Or.inr ⟨by rfl, rfl⟩) (by assumption) ?_
        try simp only [Act.put, List.setIfInBounds_toArray, List.set_cons_zero, List.set_cons_succ]
        refine wpAnyH_take (i := 8) (oi := { dst := Option.some 46, op := Op.pick (Operand.tmp 42) (Operand.tmp 45) (Operand.const (Value.bool Bool.false)), type := 4, pos := "parts.go:494", after := #[{ on := 4, ground := Ground.data }, { on := 7, ground := Ground.data }], guard := Option.none }) (v := ?_) rfl (by kernel_rfl) (by kernel_rfl) (by kernel_rfl) (fun _ _ _ h => h) (Or.inl ⟨by rfl, ?_⟩) (by assumption) ?_
        rotate_left
        · intro w hSw
          (try dsimp only at hSw)
          go_simp
          try with_reducible rfl
        try simp only [Act.put, List.setIfInBounds_toArray, List.set_cons_zero, List.set_cons_succ]
        refine wpAnyH_take (i := 9) (oi := { dst := Option.some 47, op := Op.move (Operand.tmp 46), type := 4, pos := "parts.go:494", after := #[{ on := 8, ground := Ground.data }, { on := 4, ground := Ground.chain }], guard := Option.none }) (v := ?_) rfl (by kernel_rfl) (by kernel_rfl) (by kernel_rfl) (fun _ _ _ h => h) (Or.inl ⟨by rfl, ?_⟩) (by assumption) ?_
        rotate_left
        · intro w hSw
          (try dsimp only at hSw)
          go_simp
          try with_reducible rfl
        try simp only [Act.put, List.setIfInBounds_toArray, List.set_cons_zero, List.set_cons_succ]
        refine wpAnyH_take (i := 10) (oi := { dst := Option.some 48, op := Op.move (Operand.tmp 12), type := 3, pos := "parts.go:494", after := #[{ on := 9, ground := Ground.guard }], guard := Option.some (9, Bool.true) }) (v := _) rfl (by kernel_rfl) (by kernel_rfl) (by kernel_rfl) (fun _ _ _ h => h) (Or.inr ⟨by rfl, rfl⟩) (by assumption) ?_
        try simp only [Act.put, List.setIfInBounds_toArray, List.set_cons_zero, List.set_cons_succ]
        refine wpAnyH_take (i := 11) (oi := { dst := Option.some 49, op := Op.indexAddr 106 (Operand.tmp 8) (Operand.tmp 48), type := 0, pos := "parts.go:494", after := #[{ on := 10, ground := Ground.data }, { on := 9, ground := Ground.guard }], guard := Option.some (9, Bool.true) }) (v := _) rfl (by kernel_rfl) (by kernel_rfl) (by kernel_rfl) (fun _ _ _ h => h) (Or.inr ⟨by rfl, rfl⟩) (by assumption) ?_
        try simp only [Act.put, List.setIfInBounds_toArray, List.set_cons_zero, List.set_cons_succ]
        refine wpAnyH_take (i := 12) (oi := { dst := Option.some 50, op := Op.load 23 (Operand.tmp 49), type := 23, pos := "parts.go:494", after := #[{ on := 11, ground := Ground.data }, { on := 9, ground := Ground.guard }], guard := Option.some (9, Bool.true) }) (v := _) rfl (by kernel_rfl) (by kernel_rfl) (by kernel_rfl) (fun _ _ _ h => h) (Or.inr ⟨by rfl, rfl⟩) (by assumption) ?_
        try simp only [Act.put, List.setIfInBounds_toArray, List.set_cons_zero, List.set_cons_succ]
        refine wpAnyH_take (i := 13) (oi := { dst := Option.some 51, op := Op.move (Operand.tmp 12), type := 3, pos := "parts.go:494", after := #[{ on := 9, ground := Ground.guard }], guard := Option.some (9, Bool.true) }) (v := _) rfl (by kernel_rfl) (by kernel_rfl) (by kernel_rfl) (fun _ _ _ h => h) (Or.inr ⟨by rfl, rfl⟩) (by assumption) ?_
        try simp only [Act.put, List.setIfInBounds_toArray, List.set_cons_zero, List.set_cons_succ]
        refine wpAnyH_take (i := 14) (oi := { dst := Option.some 52, op := Op.indexAddr 106 (Operand.tmp 10) (Operand.tmp 51), type := 0, pos := "parts.go:494", after := #[{ on := 13, ground := Ground.data }, { on := 9, ground := Ground.guard }], guard := Option.some (9, Bool.true) }) (v := _) rfl (by kernel_rfl) (by kernel_rfl) (by kernel_rfl) (fun _ _ _ h => h) (Or.inr ⟨by rfl, rfl⟩) (by assumption) ?_
        try simp only [Act.put, List.setIfInBounds_toArray, List.set_cons_zero, List.set_cons_succ]
        refine wpAnyH_take (i := 15) (oi := { dst := Option.some 53, op := Op.load 23 (Operand.tmp 52), type := 23, pos := "parts.go:494", after := #[{ on := 14, ground := Ground.data }, { on := 9, ground := Ground.guard }], guard := Option.some (9, Bool.true) }) (v := _) rfl (by kernel_rfl) (by kernel_rfl) (by kernel_rfl) (fun _ _ _ h => h) (Or.inr ⟨by rfl, rfl⟩) (by assumption) ?_
        try simp only [Act.put, List.setIfInBounds_toArray, List.set_cons_zero, List.set_cons_succ]
        refine wpAnyH_take (i := 16) (oi := { dst := Option.some 54, op := Op.call { callee := Callee.value (.func 29), args := #[Operand.tmp 50, Operand.tmp 53], argTypes := #[23, 23] }, type := 23, pos := "parts.go:494", after := #[{ on := 12, ground := Ground.data }, { on := 15, ground := Ground.data }, { on := 9, ground := Ground.chain }, { on := 9, ground := Ground.guard }], guard := Option.some (9, Bool.true) }) (v := _) rfl (by kernel_rfl) (by kernel_rfl) (by kernel_rfl) (fun _ _ _ h => h) (Or.inr ⟨by rfl, rfl⟩) (by assumption) ?_
        try simp only [Act.put, List.setIfInBounds_toArray, List.set_cons_zero, List.set_cons_succ]
        refine wpAnyH_take (i := 17) (oi := { dst := Option.some 55, op := Op.move (Operand.tmp 0), type := 39, pos := "parts.go:494", after := #[{ on := 9, ground := Ground.guard }], guard := Option.some (9, Bool.true) }) (v := _) rfl (by kernel_rfl) (by kernel_rfl) (by kernel_rfl) (fun _ _ _ h => h) (Or.inr ⟨by rfl, rfl⟩) (by assumption) ?_
        try simp only [Act.put, List.setIfInBounds_toArray, List.set_cons_zero, List.set_cons_succ]
        refine wpAnyH_take (i := 18) (oi := { dst := Option.some 56, op := Op.move (Operand.tmp 1), type := 3, pos := "parts.go:494", after := #[{ on := 9, ground := Ground.guard }], guard := Option.some (9, Bool.true) }) (v := _) rfl (by kernel_rfl) (by kernel_rfl) (by kernel_rfl) (fun _ _ _ h => h) (Or.inr ⟨by rfl, rfl⟩) (by assumption) ?_
        try simp only [Act.put, List.setIfInBounds_toArray, List.set_cons_zero, List.set_cons_succ]
        refine wpAnyH_take (i := 19) (oi := { dst := Option.some 57, op := Op.move (Operand.tmp 2), type := 3, pos := "parts.go:494", after := #[{ on := 9, ground := Ground.guard }], guard := Option.some (9, Bool.true) }) (v := _) rfl (by kernel_rfl) (by kernel_rfl) (by kernel_rfl) (fun _ _ _ h => h) (Or.inr ⟨by rfl, rfl⟩) (by assumption) ?_
        try simp only [Act.put, List.setIfInBounds_toArray, List.set_cons_zero, List.set_cons_succ]
        refine wpAnyH_take (i := 20) (oi := { dst := Option.some 58, op := Op.call { callee := Callee.value (.func 119), args := #[Operand.tmp 55, Operand.tmp 56, Operand.tmp 57], argTypes := #[39, 3, 3] }, type := 23, pos := "parts.go:494", after := #[{ on := 17, ground := Ground.data }, { on := 18, ground := Ground.data }, { on := 19, ground := Ground.data }, { on := 16, ground := Ground.chain }, { on := 9, ground := Ground.guard }], guard := Option.some (9, Bool.true) }) (v := _) rfl (by kernel_rfl) (by kernel_rfl) (by kernel_rfl) (fun _ _ _ h => h) (Or.inr ⟨by rfl, rfl⟩) (by assumption) ?_
        try simp only [Act.put, List.setIfInBounds_toArray, List.set_cons_zero, List.set_cons_succ]
        refine wpAnyH_take (i := 21) (oi := { dst := Option.some 59, op := Op.binOp BinOp.eql 23 (Operand.tmp 54) (Operand.tmp 58) 23, type := 4, pos := "parts.go:494", after := #[{ on := 16, ground := Ground.data }, { on := 20, ground := Ground.data }, { on := 9, ground := Ground.guard }], guard := Option.some (9, Bool.true) }) (v := _) rfl (by kernel_rfl) (by kernel_rfl) (by kernel_rfl) (fun _ _ _ h => h) (Or.inr ⟨by rfl, rfl⟩) (by assumption) ?_
        try simp only [Act.put, List.setIfInBounds_toArray, List.set_cons_zero, List.set_cons_succ]
        refine wpAnyH_take (i := 22) (oi := { dst := Option.some 60, op := Op.pick (Operand.tmp 47) (Operand.tmp 59) (Operand.const (Value.bool Bool.false)), type := 4, pos := "parts.go:494", after := #[{ on := 9, ground := Ground.data }, { on := 21, ground := Ground.data }], guard := Option.none }) (v := ?_) rfl (by kernel_rfl) (by kernel_rfl) (by kernel_rfl) (fun _ _ _ h => h) (Or.inl ⟨by rfl, ?_⟩) (by assumption) ?_
        rotate_left
        · intro w hSw
          (try dsimp only at hSw)
          go_simp
          try with_reducible rfl
        try simp only [Act.put, List.setIfInBounds_toArray, List.set_cons_zero, List.set_cons_succ]
        refine wpAnyH_take (i := 23) (oi := { dst := Option.some 61, op := Op.indexAddr 66 (Operand.tmp 7) (Operand.tmp 38), type := 0, pos := "parts.go:494", after := #[{ on := 0, ground := Ground.data }, { on := 0, ground := Ground.phase }, { on := 1, ground := Ground.phase }, { on := 2, ground := Ground.phase }, { on := 3, ground := Ground.phase }, { on := 4, ground := Ground.phase }, { on := 5, ground := Ground.phase }, { on := 6, ground := Ground.phase }, { on := 7, ground := Ground.phase }, { on := 8, ground := Ground.phase }, { on := 9, ground := Ground.phase }, { on := 10, ground := Ground.phase }, { on := 11, ground := Ground.phase }, { on := 12, ground := Ground.phase }, { on := 13, ground := Ground.phase }, { on := 14, ground := Ground.phase }, { on := 15, ground := Ground.phase }, { on := 16, ground := Ground.phase }, { on := 17, ground := Ground.phase }, { on := 18, ground := Ground.phase }, { on := 19, ground := Ground.phase }, { on := 20, ground := Ground.phase }, { on := 21, ground := Ground.phase }, { on := 22, ground := Ground.phase }], guard := Option.none }) (v := ?_) rfl (by kernel_rfl) (by kernel_rfl) (by kernel_rfl) (fun _ _ _ h => h) (Or.inl ⟨by rfl, ?_⟩) (by assumption) ?_
        rotate_left
        · intro w hSw
          (try dsimp only at hSw)
          go_simp
          try with_reducible rfl
        try simp only [Act.put, List.setIfInBounds_toArray, List.set_cons_zero, List.set_cons_succ]
        refine wpAnyH_ready (rs := [24]) (by kernel_rfl) (by simp) ?_
        refine AllReadyH.cons (o := { dst := Option.none, op := Op.store 4 (Operand.tmp 61) (Operand.tmp 60), type := 0, pos := "parts.go:494", after := #[{ on := 23, ground := Ground.data }, { on := 22, ground := Ground.data }, { on := 20, ground := Ground.chain }, { on := 0, ground := Ground.phase }, { on := 1, ground := Ground.phase }, { on := 2, ground := Ground.phase }, { on := 3, ground := Ground.phase }, { on := 4, ground := Ground.phase }, { on := 5, ground := Ground.phase }, { on := 6, ground := Ground.phase }, { on := 7, ground := Ground.phase }, { on := 8, ground := Ground.phase }, { on := 9, ground := Ground.phase }, { on := 10, ground := Ground.phase }, { on := 11, ground := Ground.phase }, { on := 12, ground := Ground.phase }, { on := 13, ground := Ground.phase }, { on := 14, ground := Ground.phase }, { on := 15, ground := Ground.phase }, { on := 16, ground := Ground.phase }, { on := 17, ground := Ground.phase }, { on := 18, ground := Ground.phase }, { on := 19, ground := Ground.phase }, { on := 20, ground := Ground.phase }, { on := 21, ground := Ground.phase }, { on := 22, ground := Ground.phase }], guard := Option.none }) rfl (fun K hK => ?_) .nil
        go_simp
        refine hK.out _ _ (setc (by simp; omega) x3) (fun hHeld2 => ?_)
        clear hK K
        try simp only [Act.put, List.setIfInBounds_toArray, List.set_cons_zero, List.set_cons_succ]
        refine wpAnyH_done (by kernel_rfl) ?_ _
        refine NoPanic.normal ?_
        have hfin2 := hfin.out Wn.drew (bel_drew (Below.refl _ _))
        go_wp2
        go_roundw
        case rel => exact ⟨k + 1, by omega, by go_num, hfin2⟩
        case measure => simp [intOf]; omega
      | true =>
        cases hi2 : i2 k with
        | false =>
          rw [hi1] at x3
          rw [hi2] at y3
          have er : r = false := bool_no Hr.out (fun h => by rw [hi2] at h; cases h.2.1)
          clear x1 x2 y1 y2 hsm hsm2 Hr hi1 hi2
          subst er
          refine wp_region_noPanic ?_
          refine wp_region_held_drew (S := fun w' => w'.cell? ⟨b9, k, none⟩ = some (.bool true) ∧ w'.cell? ⟨b11, k, none⟩ = some (.bool false)) (by kernel_rfl) ⟨x3, y3⟩ (fun hHeld => ?_)
          refine wpAnyH_take (i := 0) (oi := { dst := Option.some 38, op := Op.move (Operand.tmp 12), type := 3, pos := "parts.go:494", after := #[], guard := Option.none }) (v := ?_) rfl (by kernel_rfl) (by kernel_rfl) (by kernel_rfl) (fun _ _ _ h => h) (Or.inl ⟨by rfl, ?_⟩) (by assumption) ?_
          rotate_left
          · intro w hSw
            (try dsimp only at hSw)
            go_simp
            try with_reducible rfl
          try simp only [Act.put, List.setIfInBounds_toArray, List.set_cons_zero, List.set_cons_succ]
          refine wpAnyH_take (i := 1) (oi := { dst := Option.some 39, op := Op.move (Operand.tmp 12), type := 3, pos := "parts.go:494", after := #[], guard := Option.none }) (v := ?_) rfl (by kernel_rfl) (by kernel_rfl) (by kernel_rfl) (fun _ _ _ h => h) (Or.inl ⟨by rfl, ?_⟩) (by assumption) ?_
          rotate_left
          · intro w hSw
            (try dsimp only at hSw)
            go_simp
            try with_reducible rfl
          try simp only [Act.put, List.setIfInBounds_toArray, List.set_cons_zero, List.set_cons_succ]
          refine wpAnyH_take (i := 2) (oi := { dst := Option.some 40, op := Op.indexAddr 66 (Operand.tmp 9) (Operand.tmp 39), type := 0, pos := "parts.go:494", after := #[{ on := 1, ground := Ground.data }], guard := Option.none }) (v := ?_) rfl (by kernel_rfl) (by kernel_rfl) (by kernel_rfl) (fun _ _ _ h => h) (Or.inl ⟨by rfl, ?_⟩) (by assumption) ?_
          rotate_left
          · intro w hSw
            (try dsimp only at hSw)
            go_simp
            try with_reducible rfl
          try simp only [Act.put, List.setIfInBounds_toArray, List.set_cons_zero, List.set_cons_succ]
          refine wpAnyH_take (i := 3) (oi := { dst := Option.some 41, op := Op.load 4 (Operand.tmp 40), type := 4, pos := "parts.go:494", after := #[{ on := 2, ground := Ground.data }], guard := Option.none }) (v := ?_) rfl (by kernel_rfl) (by kernel_rfl) (by kernel_rfl) (fun _ _ _ h => h) (Or.inl ⟨by rfl, ?_⟩) (by assumption) ?_
          rotate_left
          · intro w hSw
            (try dsimp only at hSw)
            go_simp
            try with_reducible rfl
          try simp only [Act.put, List.setIfInBounds_toArray, List.set_cons_zero, List.set_cons_succ]
          refine wpAnyH_take (i := 4) (oi := { dst := Option.some 42, op := Op.move (Operand.tmp 41), type := 4, pos := "parts.go:494", after := #[{ on := 3, ground := Ground.data }], guard := Option.none }) (v := ?_) rfl (by kernel_rfl) (by kernel_rfl) (by kernel_rfl) (fun _ _ _ h => h) (Or.inl ⟨by rfl, ?_⟩) (by assumption) ?_
          rotate_left
          · intro w hSw
            (try dsimp only at hSw)
            go_simp
            try with_reducible rfl
          try simp only [Act.put, List.setIfInBounds_toArray, List.set_cons_zero, List.set_cons_succ]
          refine wpAnyH_take (i := 5) (oi := { dst := Option.some 43, op := Op.move (Operand.tmp 12), type := 3, pos := "parts.go:494", after := #[{ on := 4, ground := Ground.guard }], guard := Option.some (4, Bool.true) }) (v := ?_) rfl (by kernel_rfl) (by kernel_rfl) (by kernel_rfl) (fun _ _ _ h => h) (Or.inl ⟨by rfl, ?_⟩) (by assumption) ?_
          rotate_left
          · intro w hSw
            (try dsimp only at hSw)
            go_simp
            try with_reducible rfl
          try simp only [Act.put, List.setIfInBounds_toArray, List.set_cons_zero, List.set_cons_succ]
          refine wpAnyH_take (i := 6) (oi := { dst := Option.some 44, op := Op.indexAddr 66 (Operand.tmp 11) (Operand.tmp 43), type := 0, pos := "parts.go:494", after := #[{ on := 5, ground := Ground.data }, { on := 4, ground := Ground.guard }], guard := Option.some (4, Bool.true) }) (v := ?_) rfl (by kernel_rfl) (by kernel_rfl) (by kernel_rfl) (fun _ _ _ h => h) (Or.inl ⟨by rfl, ?_⟩) (by assumption) ?_
          rotate_left
          · intro w hSw
            (try dsimp only at hSw)
            go_simp
            try with_reducible rfl
          try simp only [Act.put, List.setIfInBounds_toArray, List.set_cons_zero, List.set_cons_succ]
          refine wpAnyH_take (i := 7) (oi := { dst := Option.some 45, op := Op.load 4 (Operand.tmp 44), type := 4, pos := "parts.go:494", after := #[{ on := 6, ground := Ground.data }, { on := 4, ground := Ground.guard }], guard := Option.some (4, Bool.true) }) (v := ?_) rfl (by kernel_rfl) (by kernel_rfl) (by kernel_rfl) (fun _ _ _ h => h) (Or.inl ⟨by rfl, ?_⟩) (by assumption) ?_
          rotate_left
          · intro w hSw
            (try dsimp only at hSw)
            go_simp
            try with_reducible rfl
          try simp only [Act.put, List.setIfInBounds_toArray, List.set_cons_zero, List.set_cons_succ]
          refine wpAnyH_take (i := 8) (oi := { dst := Option.some 46, op := Op.pick (Operand.tmp 42) (Operand.tmp 45) (Operand.const (Value.bool Bool.false)), type := 4, pos := "parts.go:494", after := #[{ on := 4, ground := Ground.data }, { on := 7, ground := Ground.data }], guard := Option.none }) (v := ?_) rfl (by kernel_rfl) (by kernel_rfl) (by kernel_rfl) (fun _ _ _ h => h) (Or.inl ⟨by rfl, ?_⟩) (by assumption) ?_
          rotate_left
          · intro w hSw
            (try dsimp only at hSw)
            go_simp
            try with_reducible rfl
          try simp only [Act.put, List.setIfInBounds_toArray, List.set_cons_zero, List.set_cons_succ]
          refine wpAnyH_take (i := 9) (oi := { dst := Option.some 47, op := Op.move (Operand.tmp 46), type := 4, pos := "parts.go:494", after := #[{ on := 8, ground := Ground.data }, { on := 4, ground := Ground.chain }], guard := Option.none }) (v := ?_) rfl (by kernel_rfl) (by kernel_rfl) (by kernel_rfl) (fun _ _ _ h => h) (Or.inl ⟨by rfl, ?_⟩) (by assumption) ?_
          rotate_left
          · intro w hSw
            (try dsimp only at hSw)
            go_simp
            try with_reducible rfl
          try simp only [Act.put, List.setIfInBounds_toArray, List.set_cons_zero, List.set_cons_succ]
          refine wpAnyH_take (i := 10) (oi := { dst := Option.some 48, op := Op.move (Operand.tmp 12), type := 3, pos := "parts.go:494", after := #[{ on := 9, ground := Ground.guard }], guard := Option.some (9, Bool.true) }) (v := _) rfl (by kernel_rfl) (by kernel_rfl) (by kernel_rfl) (fun _ _ _ h => h) (Or.inr ⟨by rfl, rfl⟩) (by assumption) ?_
          try simp only [Act.put, List.setIfInBounds_toArray, List.set_cons_zero, List.set_cons_succ]
          refine wpAnyH_take (i := 11) (oi := { dst := Option.some 49, op := Op.indexAddr 106 (Operand.tmp 8) (Operand.tmp 48), type := 0, pos := "parts.go:494", after := #[{ on := 10, ground := Ground.data }, { on := 9, ground := Ground.guard }], guard := Option.some (9, Bool.true) }) (v := _) rfl (by kernel_rfl) (by kernel_rfl) (by kernel_rfl) (fun _ _ _ h => h) (Or.inr ⟨by rfl, rfl⟩) (by assumption) ?_
          try simp only [Act.put, List.setIfInBounds_toArray, List.set_cons_zero, List.set_cons_succ]
          refine wpAnyH_take (i := 12) (oi := { dst := Option.some 50, op := Op.load 23 (Operand.tmp 49), type := 23, pos := "parts.go:494", after := #[{ on := 11, ground := Ground.data }, { on := 9, ground := Ground.guard }], guard := Option.some (9, Bool.true) }) (v := _) rfl (by kernel_rfl) (by kernel_rfl) (by kernel_rfl) (fun _ _ _ h => h) (Or.inr ⟨by rfl, rfl⟩) (by assumption) ?_
          try simp only [Act.put, List.setIfInBounds_toArray, List.set_cons_zero, List.set_cons_succ]
          refine wpAnyH_take (i := 13) (oi := { dst := Option.some 51, op := Op.move (Operand.tmp 12), type := 3, pos := "parts.go:494", after := #[{ on := 9, ground := Ground.guard }], guard := Option.some (9, Bool.true) }) (v := _) rfl (by kernel_rfl) (by kernel_rfl) (by kernel_rfl) (fun _ _ _ h => h) (Or.inr ⟨by rfl, rfl⟩) (by assumption) ?_
          try simp only [Act.put, List.setIfInBounds_toArray, List.set_cons_zero, List.set_cons_succ]
          refine wpAnyH_take (i := 14) (oi := { dst := Option.some 52, op := Op.indexAddr 106 (Operand.tmp 10) (Operand.tmp 51), type := 0, pos := "parts.go:494", after := #[{ on := 13, ground := Ground.data }, { on := 9, ground := Ground.guard }], guard := Option.some (9, Bool.true) }) (v := _) rfl (by kernel_rfl) (by kernel_rfl) (by kernel_rfl) (fun _ _ _ h => h) (Or.inr ⟨by rfl, rfl⟩) (by assumption) ?_
          try simp only [Act.put, List.setIfInBounds_toArray, List.set_cons_zero, List.set_cons_succ]
          refine wpAnyH_take (i := 15) (oi := { dst := Option.some 53, op := Op.load 23 (Operand.tmp 52), type := 23, pos := "parts.go:494", after := #[{ on := 14, ground := Ground.data }, { on := 9, ground := Ground.guard }], guard := Option.some (9, Bool.true) }) (v := _) rfl (by kernel_rfl) (by kernel_rfl) (by kernel_rfl) (fun _ _ _ h => h) (Or.inr ⟨by rfl, rfl⟩) (by assumption) ?_
          try simp only [Act.put, List.setIfInBounds_toArray, List.set_cons_zero, List.set_cons_succ]
          refine wpAnyH_take (i := 16) (oi := { dst := Option.some 54, op := Op.call { callee := Callee.value (.func 29), args := #[Operand.tmp 50, Operand.tmp 53], argTypes := #[23, 23] }, type := 23, pos := "parts.go:494", after := #[{ on := 12, ground := Ground.data }, { on := 15, ground := Ground.data }, { on := 9, ground := Ground.chain }, { on := 9, ground := Ground.guard }], guard := Option.some (9, Bool.true) }) (v := _) rfl (by kernel_rfl) (by kernel_rfl) (by kernel_rfl) (fun _ _ _ h => h) (Or.inr ⟨by rfl, rfl⟩) (by assumption) ?_
          try simp only [Act.put, List.setIfInBounds_toArray, List.set_cons_zero, List.set_cons_succ]
          refine wpAnyH_take (i := 17) (oi := { dst := Option.some 55, op := Op.move (Operand.tmp 0), type := 39, pos := "parts.go:494", after := #[{ on := 9, ground := Ground.guard }], guard := Option.some (9, Bool.true) }) (v := _) rfl (by kernel_rfl) (by kernel_rfl) (by kernel_rfl) (fun _ _ _ h => h) (Or.inr ⟨by rfl, rfl⟩) (by assumption) ?_
          try simp only [Act.put, List.setIfInBounds_toArray, List.set_cons_zero, List.set_cons_succ]
          refine wpAnyH_take (i := 18) (oi := { dst := Option.some 56, op := Op.move (Operand.tmp 1), type := 3, pos := "parts.go:494", after := #[{ on := 9, ground := Ground.guard }], guard := Option.some (9, Bool.true) }) (v := _) rfl (by kernel_rfl) (by kernel_rfl) (by kernel_rfl) (fun _ _ _ h => h) (Or.inr ⟨by rfl, rfl⟩) (by assumption) ?_
          try simp only [Act.put, List.setIfInBounds_toArray, List.set_cons_zero, List.set_cons_succ]
          refine wpAnyH_take (i := 19) (oi := { dst := Option.some 57, op := Op.move (Operand.tmp 2), type := 3, pos := "parts.go:494", after := #[{ on := 9, ground := Ground.guard }], guard := Option.some (9, Bool.true) }) (v := _) rfl (by kernel_rfl) (by kernel_rfl) (by kernel_rfl) (fun _ _ _ h => h) (Or.inr ⟨by rfl, rfl⟩) (by assumption) ?_
          try simp only [Act.put, List.setIfInBounds_toArray, List.set_cons_zero, List.set_cons_succ]
          refine wpAnyH_take (i := 20) (oi := { dst := Option.some 58, op := Op.call { callee := Callee.value (.func 119), args := #[Operand.tmp 55, Operand.tmp 56, Operand.tmp 57], argTypes := #[39, 3, 3] }, type := 23, pos := "parts.go:494", after := #[{ on := 17, ground := Ground.data }, { on := 18, ground := Ground.data }, { on := 19, ground := Ground.data }, { on := 16, ground := Ground.chain }, { on := 9, ground := Ground.guard }], guard := Option.some (9, Bool.true) }) (v := _) rfl (by kernel_rfl) (by kernel_rfl) (by kernel_rfl) (fun _ _ _ h => h) (Or.inr ⟨by rfl, rfl⟩) (by assumption) ?_
          try simp only [Act.put, List.setIfInBounds_toArray, List.set_cons_zero, List.set_cons_succ]
          refine wpAnyH_take (i := 21) (oi := { dst := Option.some 59, op := Op.binOp BinOp.eql 23 (Operand.tmp 54) (Operand.tmp 58) 23, type := 4, pos := "parts.go:494", after := #[{ on := 16, ground := Ground.data }, { on := 20, ground := Ground.data }, { on := 9, ground := Ground.guard }], guard := Option.some (9, Bool.true) }) (v := _) rfl (by kernel_rfl) (by kernel_rfl) (by kernel_rfl) (fun _ _ _ h => h) (Or.inr ⟨by rfl, rfl⟩) (by assumption) ?_
          try simp only [Act.put, List.setIfInBounds_toArray, List.set_cons_zero, List.set_cons_succ]
          refine wpAnyH_take (i := 22) (oi := { dst := Option.some 60, op := Op.pick (Operand.tmp 47) (Operand.tmp 59) (Operand.const (Value.bool Bool.false)), type := 4, pos := "parts.go:494", after := #[{ on := 9, ground := Ground.data }, { on := 21, ground := Ground.data }], guard := Option.none }) (v := ?_) rfl (by kernel_rfl) (by kernel_rfl) (by kernel_rfl) (fun _ _ _ h => h) (Or.inl ⟨by rfl, ?_⟩) (by assumption) ?_
          rotate_left
          · intro w hSw
            (try dsimp only at hSw)
            go_simp
            try with_reducible rfl
          try simp only [Act.put, List.setIfInBounds_toArray, List.set_cons_zero, List.set_cons_succ]
          refine wpAnyH_take (i := 23) (oi := { dst := Option.some 61, op := Op.indexAddr 66 (Operand.tmp 7) (Operand.tmp 38), type := 0, pos := "parts.go:494", after := #[{ on := 0, ground := Ground.data }, { on := 0, ground := Ground.phase }, { on := 1, ground := Ground.phase }, { on := 2, ground := Ground.phase }, { on := 3, ground := Ground.phase }, { on := 4, ground := Ground.phase }, { on := 5, ground := Ground.phase }, { on := 6, ground := Ground.phase }, { on := 7, ground := Ground.phase }, { on := 8, ground := Ground.phase }, { on := 9, ground := Ground.phase }, { on := 10, ground := Ground.phase }, { on := 11, ground := Ground.phase }, { on := 12, ground := Ground.phase }, { on := 13, ground := Ground.phase }, { on := 14, ground := Ground.phase }, { on := 15, ground := Ground.phase }, { on := 16, ground := Ground.phase }, { on := 17, ground := Ground.phase }, { on := 18, ground := Ground.phase }, { on := 19, ground := Ground.phase }, { on := 20, ground := Ground.phase }, { on := 21, ground := Ground.phase }, { on := 22, ground := Ground.phase }], guard := Option.none }) (v := ?_) rfl (by kernel_rfl) (by kernel_rfl) (by kernel_rfl) (fun _ _ _ h => h) (Or.inl ⟨by rfl, ?_⟩) (by assumption) ?_
          rotate_left
          · intro w hSw
            (try dsimp only at hSw)
            go_simp
            try with_reducible rfl
          try simp only [Act.put, List.setIfInBounds_toArray, List.set_cons_zero, List.set_cons_succ]
          refine wpAnyH_ready (rs := [24]) (by kernel_rfl) (by simp) ?_
          refine AllReadyH.cons (o := { dst := Option.none, op := Op.store 4 (Operand.tmp 61) (Operand.tmp 60), type := 0, pos := "parts.go:494", after := #[{ on := 23, ground := Ground.data }, { on := 22, ground := Ground.data }, { on := 20, ground := Ground.chain }, { on := 0, ground := Ground.phase }, { on := 1, ground := Ground.phase }, { on := 2, ground := Ground.phase }, { on := 3, ground := Ground.phase }, { on := 4, ground := Ground.phase }, { on := 5, ground := Ground.phase }, { on := 6, ground := Ground.phase }, { on := 7, ground := Ground.phase }, { on := 8, ground := Ground.phase }, { on := 9, ground := Ground.phase }, { on := 10, ground := Ground.phase }, { on := 11, ground := Ground.phase }, { on := 12, ground := Ground.phase }, { on := 13, ground := Ground.phase }, { on := 14, ground := Ground.phase }, { on := 15, ground := Ground.phase }, { on := 16, ground := Ground.phase }, { on := 17, ground := Ground.phase }, { on := 18, ground := Ground.phase }, { on := 19, ground := Ground.phase }, { on := 20, ground := Ground.phase }, { on := 21, ground := Ground.phase }, { on := 22, ground := Ground.phase }], guard := Option.none }) rfl (fun K hK => ?_) .nil
          go_simp
          refine hK.out _ _ ⟨setc (by simp; omega) x3, setc (by simp; omega) y3⟩ (fun hHeld2 => ?_)
          clear hK K
          try simp only [Act.put, List.setIfInBounds_toArray, List.set_cons_zero, List.set_cons_succ]
          refine wpAnyH_done (by kernel_rfl) ?_ _
          refine NoPanic.normal ?_
          have hfin2 := hfin.out Wn.drew (bel_drew (Below.refl _ _))
          go_wp2
          go_roundw
          case rel => exact ⟨k + 1, by omega, by go_num, hfin2⟩
          case measure => simp [intOf]; omega
        | true =>
          have sm1 := hsm hi1
          have sm2 := hsm2 hi2
          obtain ⟨⟨us, ud⟩, hu⟩ : ∃ z, c1 k = z := ⟨_, rfl⟩
          obtain ⟨⟨vs, vd⟩, hv⟩ : ∃ z, c2 k = z := ⟨_, rfl⟩
          have hr2 := Hr.out
          rw [hi1, hi2, hu, hv, Hox.out] at hr2
          rw [hi1] at x3
          rw [hi2] at y3
          rw [hu] at sm1 x1 x2
          rw [hv] at sm2 y1 y2
          simp only at sm1 sm2 x1 x2 y1 y2
          obtain ⟨s11, s12, s13, s14⟩ := sm1
          obtain ⟨s21, s22, s23, s24⟩ := sm2
          have cP := Lib.hid (fun w => refPlus us ud vs vd w (by unfold inC; omega) (by unfold inC; omega) (by unfold inC; omega) (by unfold inC; omega))
          have Hr2 := Lib.hid hr2
          have X := Lib.hid (And.intro x1 (And.intro x2 (And.intro x3 (And.intro y1 (And.intro y2 y3)))))
          have Z := Lib.hid (And.intro z1 z2)
          have hbl7 : b7 < Wn.heap.size := World.block_lt_of_cell? _ _ z1
          clear Hr hr2 hsm hsm2 hi1 hi2 hu hv x1 x2 x3 y1 y2 y3 z1 z2
          by_cases e1 : us + vs = os
          · by_cases e2 : ud + vd = od
            · have er : r = true := Hr2.out.2 ⟨rfl, rfl, by simp only [C.add]; rw [e1, e2]⟩
              subst er
              subst e1
              subst e2
              go_region_held3 (fun w' => w'.cell? ⟨b8, k * 2, none⟩ = some (.int .i64 us) ∧ w'.cell? ⟨b8, k * 2 + 1, none⟩ = some (.int .i64 ud) ∧ w'.cell? ⟨b9, k, none⟩ = some (.bool true) ∧ w'.cell? ⟨b10, k * 2, none⟩ = some (.int .i64 vs) ∧ w'.cell? ⟨b10, k * 2 + 1, none⟩ = some (.int .i64 vd) ∧ w'.cell? ⟨b11, k, none⟩ = some (.bool true))
                (first
                  | exact X.out
                  | exact ⟨bel_cell hbD X.out.1, bel_cell hbD X.out.2.1, bel_cell hbD X.out.2.2.1, bel_cell hbD X.out.2.2.2.1, bel_cell hbD X.out.2.2.2.2.1, bel_cell hbD X.out.2.2.2.2.2⟩
                  | exact ⟨setc (by simp; omega) (bel_cell hbD X.out.1), setc (by simp; omega) (bel_cell hbD X.out.2.1), setc (by simp; omega) (bel_cell hbD X.out.2.2.1), setc (by simp; omega) (bel_cell hbD X.out.2.2.2.1), setc (by simp; omega) (bel_cell hbD X.out.2.2.2.2.1), setc (by simp; omega) (bel_cell hbD X.out.2.2.2.2.2)⟩)
                ((first
                  | (go_at_call 29; (with_reducible refine (cP.out _).mono ?_); rintro e wP ⟨rfl, hbP⟩; first | have hbD := bel_trans hbD hbP | have hbD := bel_trans (bel_drew (Below.refl Wn.heap.size Wn)) hbP)
                  | (go_at_call 119; first | ((with_reducible refine (cO.out _ (HRn.out.below hbD hrl)).mono ?_); rintro e wP ⟨rfl, hbP⟩; have hbD := bel_trans hbD hbP; have z1 := bel_cell hbD Z.out.1; have z2 := (hbD.frozen (p := ⟨b7, k, none⟩) hbl7).trans Z.out.2) | ((with_reducible refine (cO.out _ (HRn.out.below (bel_drew (Below.refl _ _)) hrl)).mono ?_); rintro e wP ⟨rfl, hbP⟩; have hbD := bel_trans (bel_drew (Below.refl Wn.heap.size Wn)) hbP))))
              all_goals
                have hfin2 := hfin.out _ hbD
                go_wp2
                go_roundw
                case rel => exact ⟨k + 1, by omega, by go_num, hfin2⟩
                case measure => simp [intOf]; omega
            · have er : r = false := bool_no Hr2.out (by rintro ⟨_, _, h⟩; injection h with h1 h2; exact e2 h2)
              have e2' : (ud + vd == od) = false := by rw [beq_eq_false_iff_ne]; exact e2
              subst er
              subst e1
              clear e2
              go_region_held3 (fun w' => w'.cell? ⟨b8, k * 2, none⟩ = some (.int .i64 us) ∧ w'.cell? ⟨b8, k * 2 + 1, none⟩ = some (.int .i64 ud) ∧ w'.cell? ⟨b9, k, none⟩ = some (.bool true) ∧ w'.cell? ⟨b10, k * 2, none⟩ = some (.int .i64 vs) ∧ w'.cell? ⟨b10, k * 2 + 1, none⟩ = some (.int .i64 vd) ∧ w'.cell? ⟨b11, k, none⟩ = some (.bool true))
                (first
                  | exact X.out
                  | exact ⟨bel_cell hbD X.out.1, bel_cell hbD X.out.2.1, bel_cell hbD X.out.2.2.1, bel_cell hbD X.out.2.2.2.1, bel_cell hbD X.out.2.2.2.2.1, bel_cell hbD X.out.2.2.2.2.2⟩
                  | exact ⟨setc (by simp; omega) (bel_cell hbD X.out.1), setc (by simp; omega) (bel_cell hbD X.out.2.1), setc (by simp; omega) (bel_cell hbD X.out.2.2.1), setc (by simp; omega) (bel_cell hbD X.out.2.2.2.1), setc (by simp; omega) (bel_cell hbD X.out.2.2.2.2.1), setc (by simp; omega) (bel_cell hbD X.out.2.2.2.2.2)⟩)
                ((first
                  | (go_at_call 29; (with_reducible refine (cP.out _).mono ?_); rintro e wP ⟨rfl, hbP⟩; first | have hbD := bel_trans hbD hbP | have hbD := bel_trans (bel_drew (Below.refl Wn.heap.size Wn)) hbP)
                  | (go_at_call 119; first | ((with_reducible refine (cO.out _ (HRn.out.below hbD hrl)).mono ?_); rintro e wP ⟨rfl, hbP⟩; have hbD := bel_trans hbD hbP; have z1 := bel_cell hbD Z.out.1; have z2 := (hbD.frozen (p := ⟨b7, k, none⟩) hbl7).trans Z.out.2) | ((with_reducible refine (cO.out _ (HRn.out.below (bel_drew (Below.refl _ _)) hrl)).mono ?_); rintro e wP ⟨rfl, hbP⟩; have hbD := bel_trans (bel_drew (Below.refl Wn.heap.size Wn)) hbP))))
              all_goals
                have hfin2 := hfin.out _ hbD
                go_wp2
                go_roundw
                case rel => exact ⟨k + 1, by omega, by go_num, hfin2⟩
                case measure => simp [intOf]; omega
          · have er : r = false := bool_no Hr2.out (by rintro ⟨_, _, h⟩; injection h with h1 h2; exact e1 h1)
            have e1' : (us + vs == os) = false := by rw [beq_eq_false_iff_ne]; exact e1
            subst er
            clear e1
            go_region_held3 (fun w' => w'.cell? ⟨b8, k * 2, none⟩ = some (.int .i64 us) ∧ w'.cell? ⟨b8, k * 2 + 1, none⟩ = some (.int .i64 ud) ∧ w'.cell? ⟨b9, k, none⟩ = some (.bool true) ∧ w'.cell? ⟨b10, k * 2, none⟩ = some (.int .i64 vs) ∧ w'.cell? ⟨b10, k * 2 + 1, none⟩ = some (.int .i64 vd) ∧ w'.cell? ⟨b11, k, none⟩ = some (.bool true))
              (first
                | exact X.out
                | exact ⟨bel_cell hbD X.out.1, bel_cell hbD X.out.2.1, bel_cell hbD X.out.2.2.1, bel_cell hbD X.out.2.2.2.1, bel_cell hbD X.out.2.2.2.2.1, bel_cell hbD X.out.2.2.2.2.2⟩
                | exact ⟨setc (by simp; omega) (bel_cell hbD X.out.1), setc (by simp; omega) (bel_cell hbD X.out.2.1), setc (by simp; omega) (bel_cell hbD X.out.2.2.1), setc (by simp; omega) (bel_cell hbD X.out.2.2.2.1), setc (by simp; omega) (bel_cell hbD X.out.2.2.2.2.1), setc (by simp; omega) (bel_cell hbD X.out.2.2.2.2.2)⟩)
              ((first
                | (go_at_call 29; (with_reducible refine (cP.out _).mono ?_); rintro e wP ⟨rfl, hbP⟩; first | have hbD := bel_trans hbD hbP | have hbD := bel_trans (bel_drew (Below.refl Wn.heap.size Wn)) hbP)
                | (go_at_call 119; first | ((with_reducible refine (cO.out _ (HRn.out.below hbD hrl)).mono ?_); rintro e wP ⟨rfl, hbP⟩; have hbD := bel_trans hbD hbP; have z1 := bel_cell hbD Z.out.1; have z2 := (hbD.frozen (p := ⟨b7, k, none⟩) hbl7).trans Z.out.2) | ((with_reducible refine (cO.out _ (HRn.out.below (bel_drew (Below.refl _ _)) hrl)).mono ?_); rintro e wP ⟨rfl, hbP⟩; have hbD := bel_trans (bel_drew (Below.refl Wn.heap.size Wn)) hbP))))
            all_goals
              have hfin2 := hfin.out _ hbD
              go_wp2
              go_roundw
              case rel => exact ⟨k + 1, by omega, by go_num, hfin2⟩
              case measure => simp [intOf]; omega
    · obtain rfl : k = g.n := by omega
      have hd : decide (((g.n : Nat) : Int) < (g.w : Int) * g.h) = false := by have := en.out; simp; omega
      obtain ⟨on, ho, hon, hK⟩ := hO.out
      have hon := Lib.hid hon
      go_wp2_with fail
      go_quiet (fail)
      clear hw hd s1 s2
      have hbn : Below wr.heap.size wr (wr.drewN nq) := bel_drewN (Below.refl _ _)
      generalize wr.drewN nq = Wn at hbn ⊢
      have hKn := hKp.trans (Kept.of_below hbn)
      have kA := (hKn.block b6 (Array.getElem?_eq_some_iff.1 KA.out).1 (by simp; omega)).trans KA.out
      have ho := (hbn.block b7 (Array.getElem?_eq_some_iff.1 ho).1).trans ho
      obtain ⟨Z, hZ⟩ : ∃ Z, rowOf (icell on) 256 = Z := ⟨_, rfl⟩
      rw [hZ] at ho
      have zs : Z.size = 256 := by rw [← hZ, rowOf_size]
      have zo : Z.all (·.oneCell') = true := by rw [← hZ]; exact Array.all_eq_true_iff_forall_mem.2 (fun v hv => row_one (f := icell on) (fun k => rfl) 256 v (by simpa using hv))
      have hRg := range_all ho
      have HB3 := Kept.below HB2 hKn HB2.size hge
      have zi : (Try.prog.info? 66).map (·.size) = some Z.size := by rw [zs]; kernel_rfl
      go_upto_region 8 with (fail)
      refine wp_region_lit ?_
      refine wpList_load_mid rfl 66 (.tmp 7) rfl b7 0 rfl _ _ hRg Try.underlying66 rfl (by rw [Array.length_toList]; exact zi) ?_
      go_frame
      rw [Array.toArray_toList]
      refine wpList_store_row rfl 66 (.tmp 6) (.tmp 62) rfl b6 Z rfl rfl _ _ kA zi (by rw [zero_bools, rowOf_size, zs]) zo ?_
      go_frame
      have hfin := setRow_heap Wn b6 _ Z _ _ kA
      have HBE := below_setRow HB3 hb6l Z
      generalize Wn.setRow b6 Z = wE at *
      go_wp2
      refine bodyPost_ret (v := .agg Z) (results_cell_row rfl _ _ b6 _ Z _ _ rfl hfin Try.underlying66 rfl zi) rfl ?_
      exact ⟨on, by rw [hZ], hon.out, HBE⟩
end Go.Proofs.Ytkiogciokngjfaa
