/- Lemmas of this claim: FloodSays, RRay, RRay2, RRay3. -/
import Derived.Test.YtjejkadaafmdcaaGreatKSearchSays13
import Derived.Test.YtjejkadaafmdcaaGreatKSearchSays11
import Derived.Laws.CopyOwn
import Derived.Laws.Tables
import Derived.Test.YtjejkadaafmdcaaGreatKSearchSays1
import Derived.Test.YtjejkadaafmdcaaGreatKSearchSays9
import Derived.Deep.RegionHeld3
import Derived.Deep.MidRow
set_option linter.unusedVariables false
set_option linter.unusedSimpArgs false
/- The law FloodSays: for any plot, any cell and any way, it returns true. -/
namespace Go.Proofs.YtjejkadaafmdcaaGreat
open Go.RowKit Go.Sort FR
theorem run_storeCells_row {P : Program} (w : World) (g : Nat) (t ty : TypeId) (old cells : Array Value) (hg : w.heap[g]? = some (.cells old t (0, 0))) (hi : (P.info? ty).map (·.size) = some cells.size) (ho : old.size = cells.size) (h1 : cells.all (·.oneCell') = true) :
    (storeCells ⟨g, 0, none⟩ cells.toList).run P w = .ok () (w.setRow g cells) := by
  have := run_storeVar_row (P := P) w g t ty old cells hg hi ho h1
  cases hq : P.info? ty with
  | none => simp [hq] at hi
  | some i =>
    have hs : cells.size = i.size := by simp [hq] at hi; omega
    simpa [storeVar, sizeOf, typeInfo, hq, Value.cells, hs] using this
theorem setRow_else (w : World) (g k : Nat) (cs : Array Value) (h : k ≠ g) : (w.setRow g cs).heap[k]? = w.heap[k]? := by
  simp [World.setRow, Array.getElem?_modify, Ne.symm h]
end Go.Proofs.YtjejkadaafmdcaaGreat
/- The document's octile cost between cells; whether they are near. -/
namespace Go.Proofs.YtjejkadaafmdcaaGreat
open Go.RowKit Go.Sort FR
theorem keepset {w : World} {B p : Nat} {x y v : Value} (hne : p ≠ B) (h : w.cell? ⟨p, 0, none⟩ = some v) : ((w.setCell ⟨B, 0, none⟩ x).setCell ⟨B, 1, none⟩ y).cell? ⟨p, 0, none⟩ = some v := by
  have hk : Kept [B] w ((w.setCell ⟨B, 0, none⟩ x).setCell ⟨B, 1, none⟩ y) := ((Kept.refl [B] w).setCell (.inl (by simp))).setCell (.inl (by simp))
  exact (World.cell?_of_block (a := ⟨p, 0, none⟩) (hk.block p (World.block_lt_of_cell? w _ h) (by simpa using hne))).trans h
set_option maxRecDepth 100000 in
set_option maxHeartbeats 1600000 in
theorem rOct (w : World) (p : Nat) (g : G) (v : Int) (a b : Nat) (x : C) (h : RGridAt w p g v) (ha : a < g.n) (hb : b < g.n) (hx : g.oct a b = x) :
    Calls Tryz.prog 108 #[.pointer (some ⟨p, 0, none⟩), .int .i64 (a : Nat), .int .i64 (b : Nat)] w fun e w' => e = .returned (.agg #[.int .i64 x.s, .int .i64 x.d]) ∧ Below w.heap.size w w' := by
  have hok := h.1
  obtain ⟨o1, o2, o3, o4⟩ := h.1
  have l1 := G.X_lt hok a
  have l2 := G.X_lt hok b
  have l3 := G.Y_lt ha
  have l4 := G.Y_lt hb
  have hnn := G.n_le hok
  have cO := fun w => refOctile (g.X a : Nat) (g.Y a : Nat) (g.X b : Nat) (g.Y b : Nat) w (by omega) (by omega) (by omega) (by omega)
  have hx2 : octI ((g.X a : Nat) - (g.X b : Nat)) ((g.Y a : Nat) - (g.Y b : Nat)) = x := hx
  rw [hx2] at cO
  have e1 : ((g.X a : Nat) : Int) = (a : Int) % g.w := by unfold G.X; simp
  have e2 : ((g.Y a : Nat) : Int) = (a : Int) / g.w := by unfold G.Y; simp
  have e3 : ((g.X b : Nat) : Int) = (b : Int) % g.w := by unfold G.X; simp
  have e4 : ((g.Y b : Nat) : Int) = (b : Int) / g.w := by unfold G.Y; simp
  have p1 : 0 ≤ (a : Int) / g.w := by omega
  have p2 : (a : Int) / g.w ≤ 256 := by omega
  have p3 : 0 ≤ (b : Int) / g.w := by omega
  have p4 : (b : Int) / g.w ≤ 256 := by omega
  have w1 : IntKind.i64.wrap ((a : Int) / g.w) = (a : Int) / g.w := IntWalk.i64_in _ (by omega)
  have w2 : IntKind.i64.wrap ((b : Int) / g.w) = (b : Int) / g.w := IntWalk.i64_in _ (by omega)
  have w3 : (b : Int).tmod g.w = (b : Int) % g.w := Int.tmod_eq_emod_of_nonneg (by omega)
  have w4 : (a : Int).tmod g.w = (a : Int) % g.w := Int.tmod_eq_emod_of_nonneg (by omega)
  rw [e1, e2, e3, e4] at cO
  have cO := Lib.hid cO
  have kw := h.size.1
  have hne : p ≠ w.heap.size := by have := h.lt; omega
  obtain ⟨xs, xd⟩ := x
  clear hx hx2 e1 e2 e3 e4 l1 l2 l3 l4 h hok
  go_enter Tryz.func108, Tryz.ntmps108
  go_upto_region 1 with (fail)
  refine wp_name ?_
  intro W hW
  have HW : Below w.heap.size w W := by rw [hW]; (repeat' (first | exact Below.refl _ _ | assumption | apply bel_drewN | apply bel_drew | apply bel_alloc | (refine bel_trans ?_ (by assumption))))
  have q0 : W.cell? ⟨w.heap.size, 0, none⟩ = some (.int .i64 0) := by rw [hW]; go_simp
  have q1 : W.cell? ⟨w.heap.size, 1, none⟩ = some (.int .i64 0) := by rw [hW]; go_simp
  have f0 : W.frozen? ⟨w.heap.size, 0, none⟩ = false := by rw [hW]; go_simp
  have f1 : W.frozen? ⟨w.heap.size, 1, none⟩ = false := by rw [hW]; go_simp
  have hs : w.heap.size < W.heap.size := by rw [hW]; simp
  have kw := bel_cell HW kw
  have H2 := Lib.hid (And.intro q0 (And.intro q1 (And.intro f0 f1)))
  clear hW q0 q1 f0 f1
  have z1 : ((g.w : Int) == 0) = false := by rw [beq_eq_false_iff_ne]; omega
  have z2 : (0 : Int) < g.w := by omega
  have z3 : (0 : Int) ≤ (a : Int) := by omega
  have z4 : (0 : Int) ≤ (b : Int) := by omega
  have z5 : ¬ (g.w : Int) = 0 := by omega
  have z6 : ¬ g.w = 0 := by omega
  go_region_held3 (fun w' => w'.cell? ⟨p, 0, none⟩ = some (.int .i64 g.w))
    (first | exact keepset hne kw | (go_keep; done))
    ((go_at_call 32; (with_reducible refine (cO.out _).mono ?_); rintro e wA ⟨rfl, hbA⟩; have q0 := bel_cell hbA H2.out.1; have q1 := bel_cell hbA H2.out.2.1; have f0 := (hbA.frozen (p := ⟨w.heap.size, 0, none⟩) hs).trans H2.out.2.2.1; have f1 := (hbA.frozen (p := ⟨w.heap.size, 1, none⟩) hs).trans H2.out.2.2.2; have kw := bel_cell hbA kw))
  all_goals
    go_wp2
    have e5 := set_two (x := .int .i64 xs) (y := .int .i64 xd) q0 q1
    refine bodyPost_ret (v := .agg #[.int .i64 xs, .int .i64 xd]) (by simp [results, Tryz.results108, go_sem, e5]) rfl ?_
    exact ⟨rfl, ((bel_trans HW (bel_trans (bel_drew (Below.refl _ _)) hbA)).setCell (by simp) _).setCell (by simp) _⟩
end Go.Proofs.YtjejkadaafmdcaaGreat
/- What all cells cost from one, kept in one struct. -/
namespace Go.Proofs.YtjejkadaafmdcaaGreat
open Go.RowKit Go.Sort FR
def rayCell (a : Nat) (c : Nat → C) (is : Nat → Bool) (k : Nat) : Value := if k = 0 then .int .i64 (a : Nat) else if k < 513 then ccell c (k - 1) else icell is (k - 513)
def rayRow (a : Nat) (c : Nat → C) (is : Nat → Bool) : Array Value := rowOf (rayCell a c is) 769
theorem zero_ray : Tryz.zeroCells113 = rayRow 0 (fun _ => C.zero) (fun _ => false) := by kernel_rfl
theorem ray_one (a : Nat) (c : Nat → C) (is : Nat → Bool) : (rayRow a c is).all (·.oneCell') = true :=
  Array.all_eq_true_iff_forall_mem.2 (fun v hv => row_one (f := rayCell a c is) (fun k => by unfold rayCell ccell icell; repeat' split
                                                                                             all_goals rfl) 769 v (by simpa [rayRow] using hv))
theorem ray_size (a : Nat) (c : Nat → C) (is : Nat → Bool) : (rayRow a c is).size = 769 := rowOf_size _ _
theorem rangeAt_append {w : World} {b o : Nat} {xs ys : List Value} (h1 : w.rangeAt b o xs) (h2 : w.rangeAt b (o + xs.length) ys) : w.rangeAt b o (xs ++ ys) := by
  intro j v hv
  by_cases h : j < xs.length
  · rw [List.getElem?_append_left h] at hv; exact h1 j v hv
  · rw [List.getElem?_append_right (by omega)] at hv
    have := h2 _ v hv
    rw [show o + xs.length + (j - xs.length) = o + j by omega] at this
    exact this
theorem rowOf_toList (f : Nat → Value) (n : Nat) : (rowOf f n).toList = (List.range n).map f := by simp [rowOf]
theorem ray_parts (a : Nat) (c : Nat → C) (is : Nat → Bool) : (rayRow a c is).toList = [Value.int .i64 (a : Nat)] ++ ((rowOf (ccell c) 512).toList ++ (rowOf (icell is) 256).toList) := by
  apply List.ext_getElem?
  intro k
  unfold rayRow
  simp only [rowOf_toList]
  by_cases h0 : k = 0
  · subst h0; simp [rayCell]
  · by_cases h1 : k < 513
    · rw [List.getElem?_append_right (by simp; omega), List.getElem?_append_left (by simp; omega)]
      simp [rayCell, h0, h1, show k < 769 by omega, show k - 1 < 512 by omega]
    · rw [List.getElem?_append_right (by simp; omega), List.getElem?_append_right (by simp; omega)]
      simp only [List.getElem?_map, List.length_map, List.length_range, List.length_singleton]
      rw [show k - 1 - 512 = k - 513 by omega]
      by_cases h2 : k < 769
      · simp [rayCell, h0, h1, h2, show k - 513 < 256 by omega]
      · simp [h2, show ¬ k - 513 < 256 by omega]
theorem kept_setCells {S : List Nat} {b : Nat} {a : World} (hb : b ∈ S) : ∀ (vs : List Value) (o : Nat) (w : World), Kept S a w → Kept S a (w.setCells b o vs)
  | [], _, _, h => h
  | v :: vs, o, w, h => kept_setCells hb vs (o + 1) _ (h.setCell (.inl hb))
theorem storeMid {b o : Nat} {w : World} {Z : Array Value} (ht : w.there b o Z.size) (h1 : Z.all (·.oneCell') = true) : (storeCells ⟨b, o, none⟩ Z.toList).run Tryz.prog w = .ok () (w.setCells b o Z.toList) := by
  have := run_storeCells_cells (P := Tryz.prog) b o Z.toList 0 w (fun j hj => by simpa using (ht j (by simpa using hj)).1) (fun j hj => by simpa using (ht j (by simpa using hj)).2)
    (fun v hv => (Array.all_eq_true_iff_forall_mem.1 h1) v (by simpa using hv))
  simpa using this
theorem ray_start (a : Nat) : (Tryz.zeroCells113.setIfInBounds 0 (.int .i64 (a : Nat))) = rayRow a (fun _ => C.zero) (fun _ => false) := by
  rw [zero_ray]
  exact row_set _ _ _ _ _ rfl (fun i hi => by unfold rayCell; rw [if_neg hi, if_neg hi])
theorem ray_info : (Tryz.prog.info? 113).map (·.size) = some 769 := by kernel_rfl
theorem ray_store0 (w : World) (a : Nat) : ∃ W1, (storeCells ⟨w.heap.size + 1, 0, none⟩ (Tryz.zeroCells113.toList.set 0 (.int .i64 (a : Nat)))).run Tryz.prog ((w.alloc (.cells Tryz.zeroCells113 113)).alloc (.cells Tryz.zeroCells113 113)) = .ok () W1 ∧
    W1.heap[w.heap.size]? = some (.cells Tryz.zeroCells113 113 (0, 0)) ∧ W1.heap[w.heap.size + 1]? = some (.cells (rayRow a (fun _ => C.zero) (fun _ => false)) 113 (0, 0)) ∧ Below w.heap.size w W1 := by
  have h1 : ((w.alloc (.cells Tryz.zeroCells113 113)).alloc (.cells Tryz.zeroCells113 113)).heap[w.heap.size]? = some (.cells Tryz.zeroCells113 113 (0, 0)) := alloc_old _ _ (by simp) (alloc_at _ _ rfl)
  have h2 : ((w.alloc (.cells Tryz.zeroCells113 113)).alloc (.cells Tryz.zeroCells113 113)).heap[w.heap.size + 1]? = some (.cells Tryz.zeroCells113 113 (0, 0)) := alloc_at _ _ (by simp)
  have hb : Below w.heap.size w ((w.alloc (.cells Tryz.zeroCells113 113)).alloc (.cells Tryz.zeroCells113 113)) := by (repeat' (first | exact Below.refl _ _ | assumption | apply bel_drewN | apply bel_drew | apply bel_alloc | (refine bel_trans ?_ (by assumption))))
  generalize (w.alloc (.cells Tryz.zeroCells113 113)).alloc (.cells Tryz.zeroCells113 113) = W at *
  have hr := run_storeCells_row (P := Tryz.prog) W (w.heap.size + 1) _ 113 _ (rayRow a (fun _ => C.zero) (fun _ => false)) h2 (by rw [ray_size]; exact ray_info) (by rw [zero_ray, ray_size, ray_size]) (ray_one _ _ _)
  rw [← ray_start, Array.toList_setIfInBounds, ray_start] at hr
  refine ⟨_, hr, ?_, setRow_heap _ _ _ _ _ _ h2, below_setRow hb (by omega) _⟩
  rw [setRow_else _ _ _ _ (by omega)]; exact h1
/-- the struct is handed back -/
def RayD (w : World) (g : G) (a : Nat) (e : Ending) (w' : World) : Prop := ∃ c is, e = .returned (.agg (rayRow a c is)) ∧ FloodIs g a c is ∧ Below w.heap.size w w'
set_option maxRecDepth 100000 in
set_option maxHeartbeats 3200000 in
theorem rFrom (w : World) (p : Nat) (g : G) (v : Int) (a : Nat) (h : RGridAt w p g v) (ha : a < g.n) :
    Calls Tryz.prog 61 #[.pointer (some ⟨p, 0, none⟩), .int .i64 (a : Nat)] w (RayD w g a) := by
  obtain ⟨W1, r0, k1, k2, hb1⟩ := ray_store0 w a
  have hR1 := h.below hb1 h.lt
  go_enter Tryz.func61, Tryz.ntmps61
  go_upto_region 2 with (fail)
  obtain ⟨b4, hb4⟩ : ∃ z, w.heap.size = z := ⟨_, rfl⟩
  have hge : w.heap.size ≤ b4 := by omega
  rw [hb4] at k1 k2 ⊢
  obtain ⟨b5, hb5⟩ : ∃ z, b4 + 1 = z := ⟨_, rfl⟩
  rw [hb5] at k2 ⊢
  clear r0 hb4
  go_wp2_with fail
  (with_reducible refine (rFlood _ p g v a hR1 ha).mono ?_)
  rintro e w2 ⟨c, is, rfl, hFI, hb2⟩
  obtain ⟨Z1, hZ1⟩ : ∃ Z, Z = rowOf (ccell c) 512 := ⟨_, rfl⟩
  obtain ⟨Z2, hZ2⟩ : ∃ Z, Z = rowOf (icell is) 256 := ⟨_, rfl⟩
  have z1 : Z1.size = 512 := by rw [hZ1, rowOf_size]
  have z2 : Z2.size = 256 := by rw [hZ2, rowOf_size]
  have o1 : Z1.all (·.oneCell') = true := by rw [hZ1]; exact Array.all_eq_true_iff_forall_mem.2 (fun v hv => row_one (f := ccell c) (fun k => by unfold ccell; split <;> rfl) 512 v (by simpa using hv))
  have o2 : Z2.all (·.oneCell') = true := by rw [hZ2]; exact Array.all_eq_true_iff_forall_mem.2 (fun v hv => row_one (f := icell is) (fun k => rfl) 256 v (by simpa using hv))
  rw [← hZ1, ← hZ2]
  have k1 := (hb2.block b4 (Array.getElem?_eq_some_iff.1 k1).1).trans k1
  have k2 := (hb2.block b5 (Array.getElem?_eq_some_iff.1 k2).1).trans k2
  have HB2 := bel_trans hb1 hb2
  have t0 : w2.there b5 0 769 := there_row k2
  have t1 : w2.there b5 1 512 := fun j hj => by have := t0 (1 + j) (by omega); rwa [Nat.zero_add] at this
  have e1 := storeMid (Z := Z1) (by rw [z1]; exact t1) o1
  have hK1 : Kept [b5] w2 (w2.setCells b5 1 Z1.toList) := kept_setCells (by simp) _ _ _ (Kept.refl _ _)
  have t2 : (w2.setCells b5 1 Z1.toList).there b5 513 256 := World.there_setCells (fun j hj => by have := t0 (513 + j) (by omega); rwa [Nat.zero_add] at this) _ _ _
  have e2 := storeMid (Z := Z2) (by rw [z2]; exact t2) o2
  have g0 : w2.rangeAt b5 0 [.int .i64 (a : Nat)] := fun j u hu => by
    cases j with
    | zero =>
      simp at hu; subst hu
      simp [World.cell?, k2, rayRow, rowOf_get, rayCell]
    | succ j => simp at hu
  have g0 := World.rangeAt_setCells_apart g0 b5 1 Z1.toList (.inr (.inl (by simp)))
  have g1 : (w2.setCells b5 1 Z1.toList).rangeAt b5 1 Z1.toList := World.rangeAt_setCells_same _ _ _ _ (by rw [Array.length_toList, z1]; exact t1)
  have g0 := World.rangeAt_setCells_apart g0 b5 513 Z2.toList (.inr (.inl (by simp)))
  have g1 := World.rangeAt_setCells_apart g1 b5 513 Z2.toList (.inr (.inl (by simp [z1])))
  have g2 : ((w2.setCells b5 1 Z1.toList).setCells b5 513 Z2.toList).rangeAt b5 513 Z2.toList := World.rangeAt_setCells_same _ _ _ _ (by rw [Array.length_toList, z2]; exact t2)
  have hK2 : Kept [b5] w2 ((w2.setCells b5 1 Z1.toList).setCells b5 513 Z2.toList) := kept_setCells (by simp) _ _ _ hK1
  have k1 := (hK2.block b4 (Array.getElem?_eq_some_iff.1 k1).1 (by simp; omega)).trans k1
  have HB3 := Kept.below HB2 hK2 HB2.size (by simp; omega)
  obtain ⟨wA, hwA⟩ : ∃ z, w2.setCells b5 1 Z1.toList = z := ⟨_, rfl⟩
  rw [hwA] at e1 e2 g0 g1 g2 k1 HB3
  obtain ⟨wB, hwB⟩ : ∃ z, wA.setCells b5 513 Z2.toList = z := ⟨_, rfl⟩
  rw [hwB] at e2 g0 g1 g2 k1 HB3
  have hz1l : Z1.toList.length = 512 := by simp [z1]
  have hR := rangeAt_append (ys := Z1.toList ++ Z2.toList) g0 (rangeAt_append g1 (by rw [hz1l]; exact g2))
  rw [hZ1, hZ2, ← ray_parts] at hR
  have hR := Lib.hid hR
  have K1 := Lib.hid k1
  clear k1 k2 g0 g1 g2 t0 t1 t2 hK1 hK2 hwA hwB o1 o2 hZ1 hZ2 hb2
  go_upto_region 3 with (fail)
  refine wp_region_lit ?_
  refine wpList_load_mid rfl 113 (.tmp 5) rfl b5 0 rfl _ _ hR.out Tryz.underlying113 rfl (by rw [Array.length_toList, ray_size]; exact ray_info) ?_
  go_frame
  rw [Array.toArray_toList]
  obtain ⟨Z, hZ⟩ : ∃ Z, rayRow a c is = Z := ⟨_, rfl⟩
  have zs : Z.size = 769 := by rw [← hZ, ray_size]
  have zo : Z.all (·.oneCell') = true := by rw [← hZ]; exact ray_one _ _ _
  rw [hZ]
  refine wpList_store_row rfl 113 (.tmp 4) (.tmp 16) rfl b4 Z rfl rfl _ _ K1.out (by rw [zs]; exact ray_info) (by rw [zero_ray, ray_size, zs]) zo ?_
  go_frame
  have hfin := setRow_heap wB b4 _ Z _ _ K1.out
  have HBE := below_setRow HB3 hge Z
  clear e1 e2 hR K1
  generalize wB.setRow b4 Z = wE at *
  go_wp2
  refine bodyPost_ret (v := .agg Z) (results_cell_row rfl _ _ b4 _ Z _ _ rfl hfin Tryz.underlying113 rfl (by rw [zs]; exact ray_info)) rfl ?_
  exact ⟨c, is, by rw [hZ], hFI, HBE⟩
end Go.Proofs.YtjejkadaafmdcaaGreat
/- The document's Near and Direct. -/
namespace Go.Proofs.YtjejkadaafmdcaaGreat
open Go.RowKit Go.Sort FR
theorem boolP (P : Prop) : ∃ t : Bool, t = true ↔ P := by
  by_cases h : P
  · exact ⟨true, by simp [h]⟩
  · exact ⟨false, by simp [h]⟩
theorem bool_no {r : Bool} {P : Prop} (h : r = true ↔ P) (hn : ¬ P) : r = false := by
  cases r with
  | false => rfl
  | true => exact absurd (h.1 rfl) hn
theorem ray_cell {w w' : World} {b a : Nat} {c : Nat → C} {is : Nat → Bool} {Z : Array Value} (h : w.heap[b]? = some (.cells Z 113 (0, 0))) (hZ : rayRow a c is = Z) (hb : Below w.heap.size w w') :
    w'.cell? ⟨b, 0, none⟩ = some (.int .i64 (a : Nat)) ∧ ∀ t, t < 256 → w'.cell? ⟨b, 1 + t * 2, none⟩ = some (.int .i64 (c t).s) ∧ w'.cell? ⟨b, 1 + t * 2 + 1, none⟩ = some (.int .i64 (c t).d) ∧ w'.cell? ⟨b, 513 + t, none⟩ = some (.bool (is t)) := by
  subst hZ
  have hl := (Array.getElem?_eq_some_iff.1 h).1
  have key : ∀ k, k < 769 → w'.cell? ⟨b, k, none⟩ = some (rayCell a c is k) := fun k hk =>
    (World.cell?_of_block (w := w) (w' := w') (a := ⟨b, k, none⟩) (hb.block b hl)).trans (by simp [World.cell?, h, rayRow, rowOf_get _ _ _ hk])
  refine ⟨key 0 (by omega), fun t ht => ⟨?_, ?_, ?_⟩⟩
  · rw [key _ (by omega)]
    unfold rayCell ccell
    rw [if_neg (by omega), if_pos (by omega), if_pos (by omega), show (1 + t * 2 - 1) / 2 = t by omega]
  · rw [key _ (by omega)]
    unfold rayCell ccell
    rw [if_neg (by omega), if_pos (by omega), if_neg (by omega), show (1 + t * 2 + 1 - 1) / 2 = t by omega]
  · rw [key _ (by omega)]
    unfold rayCell icell
    rw [if_neg (by omega), if_neg (by omega), show 513 + t - 513 = t by omega]
/-- a corner between, by what it costs from both -/
def MidK (g : G) (ca cb : Nat) (c1 c2 : Nat → C) (i1 i2 : Nat → Bool) (k : Nat) : Prop := k ≠ ca ∧ k ≠ cb ∧ i1 k = true ∧ i2 k = true ∧ C.add (c1 k) (c2 k) = g.oct ca cb
theorem midK_iff {g : G} {ca cb : Nat} {c1 c2 : Nat → C} {i1 i2 : Nat → Bool} (h1 : FloodIs g ca c1 i1) (h2 : FloodIs g cb c2 i2) (k : Nat) : MidK g ca cb c1 c2 i1 i2 k ↔ k ≠ ca ∧ k ≠ cb ∧ g.Mid ca cb k := by
  have hs : ∀ a b c, g.E a b c → g.E b a c := fun _ _ _ he => G.E_symm he
  constructor
  · rintro ⟨a1, a2, a3, a4, a5⟩
    exact ⟨a1, a2, _, _, ((h1 k).1 a3).1.1, Walk.rev hs ((h2 k).1 a4).1.1, a5⟩
  · rintro ⟨a1, a2, p, q, b1, b2, b3⟩
    have i1k : i1 k = true := by
      cases h : i1 k with
      | true => rfl
      | false => exact absurd b1 ((h1 k).2 h _)
    have i2k : i2 k = true := by
      cases h : i2 k with
      | true => rfl
      | false => exact absurd (Walk.rev hs b2) ((h2 k).2 h _)
    have d1 := ((h1 k).1 i1k).1
    have d2 := ((h2 k).1 i2k).1
    have l1 := d1.2 _ b1
    have l2 := d2.2 _ (Walk.rev hs b2)
    refine ⟨a1, a2, i1k, i2k, C.le_antisymm ?_ ?_⟩
    · rw [← b3]; exact C.add_le_add l1 l2
    · exact G.oct_le (d1.1.trans (Walk.rev hs d2.1))
theorem near_flood {g : G} {ca cb : Nat} {c1 : Nat → C} {i1 : Nat → Bool} (h1 : FloodIs g ca c1 i1) : g.Near ca cb ↔ i1 cb = true ∧ c1 cb = g.oct ca cb := by
  rw [G.near_dist]
  constructor
  · intro h
    have : i1 cb = true := by
      cases hh : i1 cb with
      | true => rfl
      | false => exact absurd h.1 ((h1 cb).2 hh _)
    exact ⟨this, ((h1 cb).1 this).1.unique h⟩
  · rintro ⟨a1, a2⟩
    rw [← a2]; exact ((h1 cb).1 a1).1
end Go.Proofs.YtjejkadaafmdcaaGreat
