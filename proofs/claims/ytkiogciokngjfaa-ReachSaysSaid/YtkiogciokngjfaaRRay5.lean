/- The document's Direct: of two cells. -/
import Derived.Test.YtkiogciokngjfaaRRay4
set_option linter.unusedVariables false
set_option linter.unusedSimpArgs false
namespace Go.Proofs.Ytkiogciokngjfaa
open Go.RowKit Go.Sort FR
theorem rangeAt_below {w w' : World} {b o : Nat} {cs : List Value} (h : w.rangeAt b o cs) (hb : Below w.heap.size w w') : w'.rangeAt b o cs := fun j v hv => bel_cell hb (h j v hv)
theorem one_ray (w : World) (Z : Array Value) (zs : Z.size = 769) (zo : Z.all (·.oneCell') = true) :
    ∃ W, (storeCells ⟨w.heap.size, 0, none⟩ Z.toList).run Try.prog (w.alloc (.cells Try.zeroCells174 174)) = .ok () W ∧ W.heap[w.heap.size]? = some (.cells Z 174 (0, 0)) ∧ Below w.heap.size w W := by
  have h2 := alloc_at w (.cells Try.zeroCells174 174) rfl
  have hr := run_storeCells_row (P := Try.prog) (w.alloc (.cells Try.zeroCells174 174)) w.heap.size _ 174 _ Z h2 (by rw [zs]; exact ray_info) (by rw [zero_ray, ray_size, zs]) zo
  exact ⟨_, hr, setRow_heap _ _ _ _ _ _ h2, below_setRow (bel_alloc (Below.refl _ _)) (Nat.le_refl _) _⟩
theorem range_all {w : World} {b : Nat} {Z : Array Value} {T : TypeId} (h : w.heap[b]? = some (.cells Z T (0, 0))) : w.rangeAt b 0 Z.toList := fun j v hv => by
  rw [Array.getElem?_toList] at hv
  simp [World.cell?, h, hv]
set_option maxRecDepth 100000 in
set_option maxHeartbeats 3200000 in
theorem rDirect (w : World) (p : Nat) (g : G) (v : Int) (ca cb : Nat) (t : Bool) (h : RGridAt w p g v) (hca : ca < g.n) (hcb : cb < g.n) (ht : t = true ↔ g.Direct ca cb) :
    Calls Try.prog 69 #[.pointer (some ⟨p, 0, none⟩), .int .i64 (ca : Nat), .int .i64 (cb : Nat)] w fun e w' => e = .returned (.bool t) ∧ Below w.heap.size w w' := by
  have Ht := Lib.hid ht
  clear ht
  go_enter Try.func69, Try.ntmps69
  go_wp2_with fail
  (with_reducible refine (rFrom _ p g v ca h hca).mono ?_)
  rintro e w1 ⟨c1, i1, rfl, hF1, hb1⟩
  obtain ⟨Z1, hZ1⟩ : ∃ Z, rayRow ca c1 i1 = Z := ⟨_, rfl⟩
  have zs1 : Z1.size = 769 := by rw [← hZ1, ray_size]
  have zo1 : Z1.all (·.oneCell') = true := by rw [← hZ1]; exact ray_one _ _ _
  rw [hZ1]
  have HZ1 := Lib.hid hZ1
  clear hZ1
  obtain ⟨W1, r1, hA, hbW⟩ := one_ray w1 Z1 zs1 zo1
  have HB1 := bel_trans hb1 hbW
  have hR1 := h.below HB1 h.lt
  have HF1 := Lib.hid hF1
  go_upto_region 2 with (fail)
  obtain ⟨b7, hb7⟩ : ∃ b, w1.heap.size = b := ⟨_, rfl⟩
  rw [hb7] at hA ⊢
  clear r1 hb7 hbW hb1 hF1 h zo1
  go_wp2_with fail
  (with_reducible refine (rFrom _ p g v cb hR1 hcb).mono ?_)
  rintro e w2 ⟨c2, i2, rfl, hF2, hb2⟩
  obtain ⟨Z2, hZ2⟩ : ∃ Z, rayRow cb c2 i2 = Z := ⟨_, rfl⟩
  have zs2 : Z2.size = 769 := by rw [← hZ2, ray_size]
  have zo2 : Z2.all (·.oneCell') = true := by rw [← hZ2]; exact ray_one _ _ _
  rw [hZ2]
  have HZ2 := Lib.hid hZ2
  clear hZ2
  obtain ⟨W2, r2, hB, hbW⟩ := one_ray w2 Z2 zs2 zo2
  have hb2 := bel_trans hb2 hbW
  have HB2 := bel_trans HB1 hb2
  have hR2 := Lib.hid (hR1.below hb2 hR1.lt)
  have hA := (hb2.block b7 (Array.getElem?_eq_some_iff.1 hA).1).trans hA
  have HF2 := Lib.hid hF2
  go_upto_region 3 with (fail)
  obtain ⟨b8, hb8⟩ : ∃ b, w2.heap.size = b := ⟨_, rfl⟩
  rw [hb8] at hB ⊢
  have g1 := range_all hA
  have g2 := range_all hB
  clear r2 hb8 hbW hF2 zo2 hR1 hb2 HB1 hA hB
  have u1 := Try.underlying174
  have s1 : (Try.prog.info? 174).map (·.size) = some Z1.toList.length := by rw [Array.length_toList, zs1]; exact ray_info
  have s2 : (Try.prog.info? 174).map (·.size) = some Z2.toList.length := by rw [Array.length_toList, zs2]; exact ray_info
  obtain ⟨n, hn⟩ : ∃ n, (cornersI g).length = n := ⟨_, rfl⟩
  have Hn := Lib.hid hn
  have e1 : Z1.toList.toArray = Z1 := Array.toArray_toList ..
  have e2 : Z2.toList.toArray = Z2 := Array.toArray_toList ..
  refine wp_region_noPanic ?_
  refine wp_region_held_drew (S := fun w' => w'.rangeAt b7 0 Z1.toList ∧ w'.rangeAt b8 0 Z2.toList) (by kernel_rfl) ⟨g1, g2⟩ (fun hHeld => ?_)
  refine' wpAnyH_take (i := 1) (oi := { dst := some 16, op := .load 174 (.tmp 7), type := 174, pos := "parts.go:503", after := #[], guard := none }) (v := _) rfl (by kernel_rfl) (by kernel_rfl) (by kernel_rfl) (fun _ _ _ h => h) (yieldsIf_load_mid (by rfl) 174 (.tmp 7) rfl b7 0 rfl Z1.toList _ (fun w h => h.1) u1 rfl s1) (by assumption) ?_
  simp only [Act.put, List.setIfInBounds_toArray, List.set_cons_zero, List.set_cons_succ]
  refine' wpAnyH_take (i := 2) (oi := { dst := some 17, op := .load 174 (.tmp 8), type := 174, pos := "parts.go:503", after := #[], guard := none }) (v := _) rfl (by kernel_rfl) (by kernel_rfl) (by kernel_rfl) (fun _ _ _ h => h) (yieldsIf_load_mid (by rfl) 174 (.tmp 8) rfl b8 0 rfl Z2.toList _ (fun w h => h.2) u1 rfl s2) (by assumption) ?_
  simp only [Act.put, List.setIfInBounds_toArray, List.set_cons_zero, List.set_cons_succ]
  refine wpAnyH_take (i := 0) (oi := { dst := some 15, op := .move (.tmp 0), type := 39, pos := "parts.go:503", after := #[], guard := none }) (v := .pointer (some ⟨p, 0, none⟩)) rfl (by kernel_rfl) (by kernel_rfl) (by kernel_rfl) (fun _ _ _ h => h) (Or.inl ⟨by rfl, fun w hSw => by go_simp⟩) (by assumption) ?_
  simp only [Act.put, List.setIfInBounds_toArray, List.set_cons_zero, List.set_cons_succ]
  refine wpAnyH_take (i := 3) (oi := { dst := some 18, op := .move (.tmp 0), type := 39, pos := "parts.go:503", after := #[], guard := none }) (v := .pointer (some ⟨p, 0, none⟩)) rfl (by kernel_rfl) (by kernel_rfl) (by kernel_rfl) (fun _ _ _ h => h) (Or.inl ⟨by rfl, fun w hSw => by go_simp⟩) (by assumption) ?_
  simp only [Act.put, List.setIfInBounds_toArray, List.set_cons_zero, List.set_cons_succ]
  rw [e1, e2]
  refine wpAnyH_ready (rs := [4]) (by kernel_rfl) (by simp) ?_
  refine AllReadyH.cons (o := { dst := some 19, op := .call { callee := .value (.func 39), args := #[.tmp 18], argTypes := #[39] }, type := 33, pos := "parts.go:503", after := #[{ on := 3, ground := .data }], guard := none }) rfl (fun K hK => ?_) .nil
  go_simp
  go_at_call 39
  (with_reducible refine (rCorners _ p g v (hR2.out.below (bel_drew (Below.refl _ _)) hR2.out.lt)).mono ?_)
  rintro e wA ⟨A, m, rfl, hI, hbA⟩
  have hbD := bel_trans (bel_drew (Below.refl W2.heap.size W2)) hbA
  rw [hn] at hI ⊢
  dsimp only
  refine hK.out _ _ ⟨rangeAt_below g1 hbD, rangeAt_below g2 hbD⟩ (fun hHeld2 => ?_)
  clear hK K
  try dsimp only
  try simp only [Act.put, List.setIfInBounds_toArray, List.set_cons_zero, List.set_cons_succ]
  refine wpAnyH_ready (rs := [5]) (by kernel_rfl) (by simp) ?_
  refine AllReadyH.cons (o := { dst := some 20, op := .call { callee := .value (.func 121), args := #[.tmp 15, .tmp 16, .tmp 17, .tmp 19], argTypes := #[39, 174, 174, 33] }, type := 4, pos := "parts.go:503", after := #[{ on := 0, ground := .data }, { on := 1, ground := .data }, { on := 2, ground := .data }, { on := 4, ground := .data }, { on := 4, ground := .chain }], guard := none }) rfl (fun K hK => ?_) .nil
  go_simp
  go_at_call 121
  (with_reducible refine (rDirectRays _ p g v ca cb c1 c2 i1 i2 Z1 Z2 A n m t (hR2.out.below hbD hR2.out.lt) hca hcb HZ1.out HZ2.out HF1.out HF2.out hI Hn.out Ht.out).mono ?_)
  rintro e wB ⟨rfl, hbB⟩
  have hbE := bel_trans hbD hbB
  dsimp only
  refine hK.out _ _ ⟨rangeAt_below g1 hbE, rangeAt_below g2 hbE⟩ (fun hHeld3 => ?_)
  clear hK K
  try dsimp only
  try simp only [Act.put, List.setIfInBounds_toArray, List.set_cons_zero, List.set_cons_succ]
  refine wpAnyH_ready (rs := [6]) (by kernel_rfl) (by simp) ?_
  refine AllReadyH.cons (o := { dst := some 6, op := .assign (.tmp 20), type := 4, pos := "parts.go:503", after := #[{ on := 5, ground := .data }, { on := 5, ground := .chain }, { on := 0, ground := .phase }, { on := 1, ground := .phase }, { on := 2, ground := .phase }, { on := 3, ground := .phase }, { on := 4, ground := .phase }, { on := 5, ground := .phase }], guard := none }) rfl (fun K hK => ?_) .nil
  go_simp
  refine hK.out _ _ ⟨rangeAt_below g1 hbE, rangeAt_below g2 hbE⟩ (fun hHeld4 => ?_)
  clear hK K
  try dsimp only
  try simp only [Act.put, List.setIfInBounds_toArray, List.set_cons_zero, List.set_cons_succ]
  refine wpAnyH_done (by kernel_rfl) ?_ _
  refine NoPanic.normal ?_
  go_wp2
  go_ret
  exact ⟨rfl, bel_trans HB2 hbE⟩
end Go.Proofs.Ytkiogciokngjfaa
