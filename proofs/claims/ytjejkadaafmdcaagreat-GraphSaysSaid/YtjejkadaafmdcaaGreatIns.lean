/- slices.Insert, one edge into a row of edges: at the end, into room, into a new row. -/
import Derived.Test.YtjejkadaafmdcaaGreatEdge
set_option linter.unusedVariables false
set_option linter.unusedSimpArgs false
namespace Go.Proofs.YtjejkadaafmdcaaGreat
open Go.RowKit Go.Sort FR Go.Lib
theorem edge_info : (Tryz.prog.info? 70).map (fun i => (i.zero.map fun z => z.cells.size, i.size, i.bytes)) = some (some 4, 4, 32) := by kernel_rfl
theorem edge_parts : ∃ i z, Tryz.prog.info? 70 = some i ∧ i.zero = some z ∧ i.size = 4 ∧ i.bytes = 32 ∧ z.cells.size = 4 := by
  obtain ⟨i, hi, h⟩ := Option.map_eq_some_iff.1 edge_info
  simp only [Prod.mk.injEq] at h
  obtain ⟨h1, h2, h3⟩ := h
  obtain ⟨z, hz, h4⟩ := Option.map_eq_some_iff.1 h1
  exact ⟨i, z, hi, hz, h2, h3, h4⟩
/-- what slices.Insert hands back -/
def InsD (w : World) (B : Nat) (v : Value) (L : List Ed) (e : Ending) (w' : World) : Prop :=
  ∃ v', e = .returned v' ∧ OwnE w' B v' L ∧ w.grownBy w' v.ownBlock ∧ (v'.ownBlock = v.ownBlock ∨ v'.ownBlock = some w.heap.size)
theorem new_edge {w : World} {xb : Nat} {x : Ed} (hx : w.heap[xb]? = some (.cells x.cells.toArray 70 (0, 0))) : ∀ j u, x.cells[j]? = some u → w.cell? ⟨xb, j, none⟩ = some u := by
  intro j u h
  simp [World.cell?, hx, h]
set_option maxHeartbeats 1600000 in
set_option maxRecDepth 100000 in
theorem insEnd (w : World) (B : Nat) (A : Option Addr) (L : List Ed) (n cap xb : Nat) (x : Ed) (h : OwnE w B (.slice A n cap) L) (hn : L.length = n) (hx : w.heap[xb]? = some (.cells x.cells.toArray 70 (0, 0))) (hB : B ≤ w.heap.size) (hl : n ≤ 100000) :
    Calls Tryz.prog 131 #[.slice A n cap, .int .i64 (n : Nat), .slice (some ⟨xb, 0, none⟩) 1 1] w (InsD w B (.slice A n cap) (L ++ [x])) := by
  obtain ⟨i0, z0, hi, hz0, hz1, hz2, hz3⟩ := edge_parts
  have hx1 := new_edge hx
  subst hn
  have hfin : ∀ v' w', w'.ownsRow B 70 4 v' (L.length + 1) (edL L ++ x.cells) → w.grownBy w' (Value.slice A L.length cap).ownBlock → (v'.ownBlock = (Value.slice A L.length cap).ownBlock ∨ v'.ownBlock = some w.heap.size) → InsD w B (.slice A L.length cap) (L ++ [x]) (.returned v') w' := by
    intro v' w' h1 h2 h3
    refine ⟨v', rfl, ?_, h2, h3⟩
    unfold OwnE
    rw [List.length_append, edL_append, edL_cons, edL_nil, List.append_nil]
    exact h1
  have hfin := Lib.hid hfin
  by_cases hcap : cap = L.length
  · subst hcap
    go_enter Tryz.func131, Tryz.ntmps131
    go_upto_region 7 with (fail)
    go_wp2_with (at_builtin; (refine wpList_append_own_at w rfl _ _ 59 rfl B 70 i0 z0 4 32 Tryz.underlying59 hi hz0 hz1 hz2 hz3 (by decide) _ L.length (edL L) rfl h ⟨xb, 0, none⟩ 1 1 x.cells rfl rfl (fun j u hu => by rw [Addr.add_lit, Nat.zero_add]; exact hx1 j u hu) (ed_one x) (by unfold maxLen; omega) (by omega) hB ?_); intro v' w' h1 h2 _ h4)
    go_ret
    exact hfin.out _ _ h1 h2 h4
  · go_enter Tryz.func131, Tryz.ntmps131
    go_upto_region 7 with (fail)
    go_wp2_with (at_builtin; (refine wpList_append_own_at w rfl _ _ 59 rfl B 70 i0 z0 4 32 Tryz.underlying59 hi hz0 hz1 hz2 hz3 (by decide) _ L.length (edL L) rfl h ⟨xb, 0, none⟩ 1 1 x.cells rfl rfl (fun j u hu => by rw [Addr.add_lit, Nat.zero_add]; exact hx1 j u hu) (ed_one x) (by unfold maxLen; omega) (by omega) hB ?_); intro v' w' h1 h2 _ h4)
    go_ret
    exact hfin.out _ _ h1 h2 h4
theorem setRow_grown {w w' : World} {g : Nat} (h : w.grownBy w' (some g)) (cs : Array Value) : w.grownBy (w'.setRow g cs) (some g) :=
  ⟨h.os, h.tape, h.output, by simpa [World.setRow] using h.size, fun k hk hn => (setRow_other w' g k cs (fun e => hn (by rw [e]))).trans (h.block k hk hn)⟩
theorem shift_row (cur : List Value) (L : List Ed) (x : Ed) (i : Nat) (hi : i ≤ L.length) (h : cur.take (L.length * 4) = edL L) (hl : (L.length + 1) * 4 ≤ cur.length) (R : List Value) :
    ((cur.take ((i + 1) * 4) ++ edL (L.drop i) ++ R).toArray.toList.take (i * 4) ++ x.cells ++ (cur.take ((i + 1) * 4) ++ edL (L.drop i) ++ R).toArray.toList.drop (i * 4 + x.cells.length)).toArray.toList.take ((L.length + 1) * 4) = edL (L.take i) ++ (x.cells ++ edL (L.drop i)) := by
  have l1 : (cur.take ((i + 1) * 4)).length = (i + 1) * 4 := by rw [List.length_take]; omega
  have l2 : (edL (L.drop i)).length = (L.length - i) * 4 := by rw [edL_length, List.length_drop]
  have l3 : (edL (L.take i)).length = i * 4 := by rw [edL_length, List.length_take]; omega
  have lx : x.cells.length = 4 := rfl
  have e1 : (cur.take ((i + 1) * 4) ++ edL (L.drop i) ++ R).take (i * 4) = edL (L.take i) := by
    rw [List.append_assoc, List.take_append_of_le_length (by omega), List.take_take, Nat.min_eq_left (by omega), ← edL_take, ← h, List.take_take, Nat.min_eq_left (by omega)]
  have e2 : (cur.take ((i + 1) * 4) ++ edL (L.drop i) ++ R).drop (i * 4 + 4) = edL (L.drop i) ++ R := by
    rw [List.append_assoc, List.drop_append, List.drop_eq_nil_of_le (by omega), l1, show i * 4 + 4 - (i + 1) * 4 = 0 by omega]
    rfl
  simp only [lx, e1, e2]
  have e3 : edL (L.take i) ++ x.cells ++ (edL (L.drop i) ++ R) = (edL (L.take i) ++ (x.cells ++ edL (L.drop i))) ++ R := by simp
  rw [e3]
  exact List.take_left' (by simp only [List.length_append, l2, l3, lx]; omega)
set_option maxHeartbeats 3200000 in
set_option maxRecDepth 100000 in
/-- there is room: in place -/
theorem insRoom (w : World) (B g : Nat) (L : List Ed) (i n cap xb : Nat) (x : Ed) (h : OwnE w B (.slice (some ⟨g, 0, none⟩) n cap) L) (hn : L.length = n) (hi : i < n) (hroom : n + 1 ≤ cap) (hx : w.heap[xb]? = some (.cells x.cells.toArray 70 (0, 0))) (hne : xb ≠ g) (hl : n ≤ 100000) :
    Calls Tryz.prog 131 #[.slice (some ⟨g, 0, none⟩) n cap, .int .i64 (i : Nat), .slice (some ⟨xb, 0, none⟩) 1 1] w (InsD w B (.slice (some ⟨g, 0, none⟩) n cap) (L.take i ++ x :: L.drop i)) := by
  obtain ⟨i0, z0, hin, hz0, hz1, hz2, hz3⟩ := edge_parts
  have hx1 := new_edge hx
  obtain ⟨hlen, h'⟩ := h
  rcases h' with ⟨h', _⟩ | ⟨g', cap', cur, h', hbg, hg, hnc, hcm, hcs, htake⟩
  · simp at h'
  simp only [Value.slice.injEq, Option.some.injEq, Addr.mk.injEq, and_true, true_and] at h'
  obtain ⟨rfl, _, rfl⟩ := h'
  subst hn
  have hsz : (Tryz.prog.info? 70).map (·.size) = some 4 := by rw [hin]; simp [hz1]
  have hdl : (edL (L.drop i)).length = (L.length - i) * 4 := by rw [edL_length, List.length_drop]
  have hcur : ∀ j v, j < L.length * 4 → (edL L)[j]? = some v → w.cell? ⟨g, j, none⟩ = some v := by
    intro j v hj hv
    rw [← htake, List.getElem?_take, if_pos hj, Array.getElem?_toList] at hv
    simp [World.cell?, hg, hv]
  have hcz : cur.size ≠ 0 := by rw [hcs]; omega
  have hov : ∀ lb cb, (callFunc 151 #[.slice (some ⟨xb, 0, none⟩) 1 1, .slice (some ⟨g, (i + 1) * 4, none⟩) lb cb]).run Tryz.prog w = .ok (.value (.bool false)) w := fun lb cb => by
    rw [run_callFunc_extern Tryz.func151 (by kernel_rfl) (by kernel_rfl) (by kernel_rfl) (e := Extern.SlicesOverlaps.overlaps #[59, 59] #[4]) (by kernel_rfl),
      Lib.run_overlaps_apart w 59 4 70 Tryz.underlying59 4 Tryz.sizeOf70 ⟨xb, 0, none⟩ ⟨g, (i + 1) * 4, none⟩ 1 1 lb cb hne 70 70 4 cur.size
        (by simp [World.shape?, hx, Ed.cells]) (by simp [World.shape?, hg]) hcz (by simp [World.frozen?, hx]) (by simp [World.frozen?, hx])]
    rfl
  -- the first copy
  have hfit1 : (i + 1) * 4 + (edL (L.drop i)).length ≤ cur.size := by rw [hdl, hcs]; omega
  have hcp1 : ∀ ty dc sc, (Builtin.copy_ #[59, 59] ty #[.slice (some ⟨g, (i + 1) * 4, none⟩) (L.length - i) dc, .slice (some ⟨g, i * 4, none⟩) (L.length + 1 - i) sc]).run Tryz.prog w.drew =
      .ok (goInt ((L.length - i : Nat) : Int)) (w.drew.setRow g (cur.toList.take ((i + 1) * 4) ++ edL (L.drop i) ++ cur.toList.drop ((i + 1) * 4 + (edL (L.drop i)).length)).toArray) := fun ty dc sc => by
    have := run_copy_rowK (P := Tryz.prog) w.drew 59 59 ty 70 4 g ((i + 1) * 4) (L.length - i) dc ⟨g, i * 4, none⟩ (L.length + 1 - i) sc cur 70 (edL (L.drop i)) Tryz.underlying59 hsz hg
      (by rw [hdl]; simp only [Nat.min_def]; split <;> omega)
      (fun j v hj => by
        rw [Addr.add_lit]
        rw [← edL_drop, List.getElem?_drop] at hj
        refine hcur _ v ?_ hj
        have := (List.getElem?_eq_some_iff.1 hj).1
        rwa [edL_length] at this)
      hfit1 (edL_one _)
    rw [show Nat.min (L.length + 1 - i) (L.length - i) = L.length - i by simp only [Nat.min_def]; split <;> omega] at this
    exact this
  obtain ⟨cur1, hcur1⟩ : ∃ c1, (cur.toList.take ((i + 1) * 4) ++ edL (L.drop i) ++ cur.toList.drop ((i + 1) * 4 + (edL (L.drop i)).length)).toArray = c1 := ⟨_, rfl⟩
  rw [hcur1] at hcp1
  have hz1 : cur1.size = cur.size := by rw [← hcur1]; simp; omega
  obtain ⟨W1, hW1⟩ : ∃ W1, w.drew.setRow g cur1 = W1 := ⟨_, rfl⟩
  rw [hW1] at hcp1
  have hg1 : W1.heap[g]? = some (.cells cur1 70 (0, 0)) := by rw [← hW1]; exact setRow_heap w.drew g _ _ _ _ hg
  have hgr1 : w.grownBy W1 (some g) := by rw [← hW1]; exact setRow_grown (w := w) (w' := w.drew) ⟨rfl, rfl, rfl, Nat.le_refl _, fun _ _ _ => rfl⟩ _
  have hxw : xb < w.heap.size := (Array.getElem?_eq_some_iff.1 hx).1
  have hxW : W1.heap[xb]? = some (.cells x.cells.toArray 70 (0, 0)) := (hgr1.block xb hxw (by simpa using hne)).trans hx
  have hx2 := new_edge hxW
  -- the second one
  have hcp2 : ∀ ty dc, (Builtin.copy_ #[59, 59] ty #[.slice (some ⟨g, i * 4, none⟩) (L.length + 1 - i) dc, .slice (some ⟨xb, 0, none⟩) 1 1]).run Tryz.prog W1 =
      .ok (goInt ((1 : Nat) : Int)) (W1.setRow g (cur1.toList.take (i * 4) ++ x.cells ++ cur1.toList.drop (i * 4 + x.cells.length)).toArray) := fun ty dc => by
    have := run_copy_rowK (P := Tryz.prog) W1 59 59 ty 70 4 g (i * 4) (L.length + 1 - i) dc ⟨xb, 0, none⟩ 1 1 cur1 70 x.cells Tryz.underlying59 hsz hg1
      (by simp only [Nat.min_def]; split <;> simp [Ed.cells] <;> omega)
      (fun j v hj => by rw [Addr.add_lit, Nat.zero_add]; exact hx2 j v hj)
      (by rw [hz1, hcs]; simp [Ed.cells]; omega) (ed_one _)
    rw [show Nat.min 1 (L.length + 1 - i) = 1 by simp only [Nat.min_def]; split <;> omega] at this
    exact this
  obtain ⟨cur2, hcur2⟩ : ∃ c1, (cur1.toList.take (i * 4) ++ x.cells ++ cur1.toList.drop (i * 4 + x.cells.length)).toArray = c1 := ⟨_, rfl⟩
  rw [hcur2] at hcp2
  have hz2 : cur2.size = cur.size := by rw [← hcur2, ← hz1]; simp [Ed.cells]; omega
  have hfin : InsD w B (.slice (some ⟨g, 0, none⟩) L.length cap) (L.take i ++ x :: L.drop i) (.returned (.slice (some ⟨g, 0, none⟩) (L.length + 1) cap)) (W1.setRow g cur2) := by
    have hl2 : (L.take i ++ x :: L.drop i).length = L.length + 1 := by simp; omega
    refine ⟨_, rfl, ⟨?_, .inr ⟨g, cap, cur2, by rw [hl2], hbg, setRow_heap W1 g _ _ _ _ hg1, by rw [hl2]; exact hroom, hcm, by rw [hz2, hcs], ?_⟩⟩, setRow_grown hgr1 _, .inl rfl⟩
    · rw [edL_length]
    · rw [hl2, edL_append, edL_cons, ← hcur2, ← hcur1]
      exact shift_row cur.toList L x i (by omega) htake (by have : cur.toList.length = cur.size := Array.length_toList; omega) _
  have hfin := Lib.hid hfin
  have hw1 : IntKind.i64.wrap ((i : Int) + 1) = (i : Int) + 1 := by rw [IntKind.wrap_i64]; omega
  have hz3 : ¬ ((i : Int) = (L.length : Int)) := by omega
  have htn : ((i : Int) + 1).toNat = i + 1 := by omega
  have hin2 : i ≤ L.length := by omega
  have hin3 : i ≤ L.length + 1 := by omega
  have hb1 : (0 : Int) ≤ (i : Int) + 1 := by omega
  have hb2 : ¬ (cap = i + 1) := by omega
  have hb4 : ¬ (cap = i) := by omega
  have hb3 : (i : Int) ≤ (L.length : Int) + 1 := by omega
  clear hcur hcur1 hcur2 hdl hfit1 htake hlen hbg hcs hx1 hx2
  go_enter Tryz.func131, Tryz.ntmps131
  go_wp2_with (simp only [hov])
  go_region_law (refine step_copy_runE rfl _ _ 59 59 rfl _ _ (by simp [Act.eval, Act.put]) (by simp [Act.eval, Act.put]) (hcp1 _ _ _) ?_)
  go_wp2_with (at_builtin; refine wpList_copy_runE _ rfl _ _ 59 59 rfl _ _ rfl rfl (by first | exact hcp2 _ _ | (rw [hW1]; exact hcp2 _ _)) ?_)
  go_ret
  exact hfin.out
theorem fill_row (R : List Value) (L : List Ed) (x : Ed) (i : Nat) (hi : i ≤ L.length) (h : R.take (i * 4) = edL (L.take i)) (hl : (L.length + 1) * 4 ≤ R.length) :
    ((R.take (i * 4) ++ x.cells ++ R.drop (i * 4 + x.cells.length)).toArray.toList.take ((i + 1) * 4) ++ edL (L.drop i) ++ (R.take (i * 4) ++ x.cells ++ R.drop (i * 4 + x.cells.length)).toArray.toList.drop ((i + 1) * 4 + (edL (L.drop i)).length)).toArray.toList.take ((L.length + 1) * 4) = edL (L.take i) ++ (x.cells ++ edL (L.drop i)) := by
  have l2 : (edL (L.drop i)).length = (L.length - i) * 4 := by rw [edL_length, List.length_drop]
  have l3 : (edL (L.take i)).length = i * 4 := by rw [edL_length, List.length_take]; omega
  have lx : x.cells.length = 4 := rfl
  rw [h]
  have e1 : (edL (L.take i) ++ x.cells ++ R.drop (i * 4 + x.cells.length)).toArray.toList.take ((i + 1) * 4) = edL (L.take i) ++ x.cells :=
    List.take_left' (by simp only [List.length_append, l3, lx]; omega)
  rw [e1]
  generalize (edL (L.take i) ++ x.cells ++ R.drop (i * 4 + x.cells.length)).toArray.toList.drop ((i + 1) * 4 + (edL (L.drop i)).length) = T
  have e2 : edL (L.take i) ++ x.cells ++ edL (L.drop i) ++ T = (edL (L.take i) ++ (x.cells ++ edL (L.drop i))) ++ T := by simp
  rw [e2]
  exact List.take_left' (by simp only [List.length_append, l2, l3, lx]; omega)
theorem setRow_grown2 {w w' : World} {g H : Nat} (h : w.grownBy w' (some g)) (hH : w.heap.size ≤ H) (cs : Array Value) : w.grownBy (w'.setRow H cs) (some g) :=
  ⟨h.os, h.tape, h.output, by simpa [World.setRow] using h.size, fun k hk hn => (setRow_other w' H k cs (by omega)).trans (h.block k hk hn)⟩
set_option maxHeartbeats 3200000 in
set_option maxRecDepth 100000 in
/-- there is none: a new row -/
theorem insGrow (w : World) (B g : Nat) (L : List Ed) (i n cap xb : Nat) (x : Ed) (h : OwnE w B (.slice (some ⟨g, 0, none⟩) n cap) L) (hn : L.length = n) (hi : i < n) (hroom : cap < n + 1) (hx : w.heap[xb]? = some (.cells x.cells.toArray 70 (0, 0))) (hB : B ≤ w.heap.size) (hl : n ≤ 100000) :
    Calls Tryz.prog 131 #[.slice (some ⟨g, 0, none⟩) n cap, .int .i64 (i : Nat), .slice (some ⟨xb, 0, none⟩) 1 1] w (InsD w B (.slice (some ⟨g, 0, none⟩) n cap) (L.take i ++ x :: L.drop i)) := by
  obtain ⟨i0, z0, hin, hz0, hz1, hz2, hz3⟩ := edge_parts
  have hx1 := new_edge hx
  obtain ⟨hlen, h'⟩ := h
  rcases h' with ⟨h', _⟩ | ⟨g', cap', cur, h', hbg, hg, hnc, hcm, hcs, htake⟩
  · simp at h'
  simp only [Value.slice.injEq, Option.some.injEq, Addr.mk.injEq, and_true, true_and] at h'
  obtain ⟨rfl, _, rfl⟩ := h'
  subst hn
  have hsz : (Tryz.prog.info? 70).map (·.size) = some 4 := by rw [hin]; simp [hz1]
  have hdl : (edL (L.drop i)).length = (L.length - i) * 4 := by rw [edL_length, List.length_drop]
  have htl : (edL (L.take i)).length = i * 4 := by rw [edL_length, List.length_take]; omega
  have hgw : g < w.heap.size := (Array.getElem?_eq_some_iff.1 hg).1
  have hxw : xb < w.heap.size := (Array.getElem?_eq_some_iff.1 hx).1
  have hcur : ∀ j v, j < L.length * 4 → (edL L)[j]? = some v → w.cell? ⟨g, j, none⟩ = some v := by
    intro j v hj hv
    rw [← htake, List.getElem?_take, if_pos hj, Array.getElem?_toList] at hv
    simp [World.cell?, hg, hv]
  have hkk : (L.length : Int) + 1 - (i : Int) = ((L.length + 1 - i : Nat) : Int) := by omega
  have hik : i + (L.length + 1 - i) = L.length + 1 := by omega
  have hold : (Builtin.firstCells i0.size i (.slice (some ⟨g, 0, none⟩) i cap)).run Tryz.prog w.drew = .ok (edL (L.take i)).toArray w.drew := by
    rw [hz1]
    exact run_firstCells_some w.drew 4 i ⟨g, 0, none⟩ i cap (edL (L.take i)) htl (fun j v hj => by
      rw [Addr.add_lit, Nat.zero_add]
      have hj2 := (List.getElem?_eq_some_iff.1 hj).1
      rw [← edL_take, List.getElem?_take] at hj
      split at hj
      · exact hcur j v (by omega) hj
      · cases hj)
  have hrz : ∀ ty, (Builtin.append_ #[59, 3] ty #[.slice (some ⟨g, 0, none⟩) i cap, .int .i64 ((L.length : Int) + 1 - (i : Int))]).run Tryz.prog w =
      .ok (.slice (some ⟨w.heap.size, 0, none⟩) (L.length + 1) (grownCap w (L.length + 1) cap 70)) (w.drew.alloc (.cells ((edL (L.take i)).toArray ++ Builtin.zeroCells z0.cells (L.length + 1 - i) ++ Builtin.zeroCells z0.cells (grownCap w (L.length + 1) cap 70 - (L.length + 1))) 70)) := fun ty => by
    have h := Lib.run_append_grow_zeros w 59 3 ty 70 i0 _ .i64 .i64 Tryz.underlying59 Tryz.underlying3 hin hz0 (some ⟨g, 0, none⟩) i cap (edL (L.take i)) hold (L.length + 1 - i) (by omega) (by omega) (by omega) (by omega) (by rw [hz2]; omega) (by rw [hz2, hik]; exact growslice_fits hroom (by omega))
    rw [hik] at h
    rw [hkk]
    exact h
  have hGn := grownCap_ge w (L.length + 1) cap 70
  have hGm := grownCap_le_maxLen w (L.length + 1) cap 70 (by unfold maxLen; omega)
  obtain ⟨G, hG⟩ : ∃ G, grownCap w (L.length + 1) cap 70 = G := ⟨_, rfl⟩
  rw [hG] at hrz hGn hGm
  obtain ⟨ROW, hROW⟩ : ∃ ROW : Array Value, (edL (L.take i)).toArray ++ Builtin.zeroCells z0.cells (L.length + 1 - i) ++ Builtin.zeroCells z0.cells (G - (L.length + 1)) = ROW := ⟨_, rfl⟩
  rw [hROW] at hrz
  have hRs : ROW.size = G * 4 := by
    rw [← hROW]
    simp only [Array.size_append, List.size_toArray, size_zeroCells, hz3, htl]
    omega
  have hRt : ROW.toList.take (i * 4) = edL (L.take i) := by
    rw [← hROW]
    simp only [Array.toList_append, List.append_assoc]
    exact List.take_left' htl
  obtain ⟨H, hH⟩ : ∃ H, w.heap.size = H := ⟨_, rfl⟩
  obtain ⟨W1, hW1⟩ : ∃ W1, w.drew.alloc (.cells ROW 70) = W1 := ⟨_, rfl⟩
  have hg1 : W1.heap[H]? = some (.cells ROW 70 (0, 0)) := by rw [← hW1, ← hH]; exact heap_alloc_new w.drew _
  have hgr1 : w.grownBy W1 (some g) := by rw [← hW1]; exact ⟨rfl, rfl, rfl, by simp, fun k hk _ => heap_alloc_old w.drew _ hk⟩
  have hbW : Below w.heap.size w W1 := by rw [← hW1]; exact ((Below.refl _ _).drew).alloc (Nat.le_refl _) _
  rw [hW1, hH] at hrz
  have hxW : W1.heap[xb]? = some (.cells x.cells.toArray 70 (0, 0)) := (hbW.block xb hxw).trans hx
  have hx2 := new_edge hxW
  have hcp1 : ∀ ty dc, (Builtin.copy_ #[59, 59] ty #[.slice (some ⟨H, i * 4, none⟩) (L.length + 1 - i) dc, .slice (some ⟨xb, 0, none⟩) 1 1]).run Tryz.prog W1 =
      .ok (goInt ((1 : Nat) : Int)) (W1.setRow H (ROW.toList.take (i * 4) ++ x.cells ++ ROW.toList.drop (i * 4 + x.cells.length)).toArray) := fun ty dc => by
    have := run_copy_rowK (P := Tryz.prog) W1 59 59 ty 70 4 H (i * 4) (L.length + 1 - i) dc ⟨xb, 0, none⟩ 1 1 ROW 70 x.cells Tryz.underlying59 hsz hg1
      (by simp only [Nat.min_def]; split <;> simp [Ed.cells] <;> omega)
      (fun j v hj => by rw [Addr.add_lit, Nat.zero_add]; exact hx2 j v hj)
      (by rw [hRs]; simp [Ed.cells]; omega) (ed_one _)
    rw [show Nat.min 1 (L.length + 1 - i) = 1 by simp only [Nat.min_def]; split <;> omega] at this
    exact this
  obtain ⟨R1, hR1⟩ : ∃ c1, (ROW.toList.take (i * 4) ++ x.cells ++ ROW.toList.drop (i * 4 + x.cells.length)).toArray = c1 := ⟨_, rfl⟩
  rw [hR1] at hcp1
  have hR1s : R1.size = G * 4 := by rw [← hR1, ← hRs]; simp [Ed.cells]; omega
  obtain ⟨W2, hW2⟩ : ∃ W2, W1.setRow H R1 = W2 := ⟨_, rfl⟩
  have hg2 : W2.heap[H]? = some (.cells R1 70 (0, 0)) := by rw [← hW2]; exact setRow_heap W1 H _ _ _ _ hg1
  have hgr2 : w.grownBy W2 (some g) := by rw [← hW2]; exact setRow_grown2 hgr1 (by omega) _
  have hgW2 : ∀ j v, w.cell? ⟨g, j, none⟩ = some v → W2.cell? ⟨g, j, none⟩ = some v := fun j v hv => by
    have e1 : W2.heap[g]? = w.heap[g]? := by rw [← hW2]; exact (setRow_other W1 H g _ (by omega)).trans (hbW.block g hgw)
    exact (World.cell?_of_block (a := ⟨g, j, none⟩) e1).trans hv
  rw [hW2] at hcp1
  have hcp2 : ∀ ty dc sc, (Builtin.copy_ #[59, 59] ty #[.slice (some ⟨H, (i + 1) * 4, none⟩) (L.length - i) dc, .slice (some ⟨g, i * 4, none⟩) (L.length - i) sc]).run Tryz.prog W2.drew =
      .ok (goInt ((L.length - i : Nat) : Int)) (W2.drew.setRow H (R1.toList.take ((i + 1) * 4) ++ edL (L.drop i) ++ R1.toList.drop ((i + 1) * 4 + (edL (L.drop i)).length)).toArray) := fun ty dc sc => by
    have := run_copy_rowK (P := Tryz.prog) W2.drew 59 59 ty 70 4 H ((i + 1) * 4) (L.length - i) dc ⟨g, i * 4, none⟩ (L.length - i) sc R1 70 (edL (L.drop i)) Tryz.underlying59 hsz hg2
      (by rw [hdl]; simp only [Nat.min_def]; split <;> omega)
      (fun j v hj => by
        rw [Addr.add_lit]
        rw [← edL_drop, List.getElem?_drop] at hj
        refine hgW2 _ v (hcur _ v ?_ hj)
        have := (List.getElem?_eq_some_iff.1 hj).1
        rwa [edL_length] at this)
      (by rw [hdl, hR1s]; omega) (edL_one _)
    rw [show Nat.min (L.length - i) (L.length - i) = L.length - i by simp only [Nat.min_def]; split <;> omega] at this
    exact this
  obtain ⟨R2, hR2⟩ : ∃ c1, (R1.toList.take ((i + 1) * 4) ++ edL (L.drop i) ++ R1.toList.drop ((i + 1) * 4 + (edL (L.drop i)).length)).toArray = c1 := ⟨_, rfl⟩
  rw [hR2] at hcp2
  have hR2s : R2.size = G * 4 := by rw [← hR2, ← hR1s]; simp only [List.size_toArray, List.length_append, List.length_take, List.length_drop, Array.length_toList, hdl]; omega
  have hfin : InsD w B (.slice (some ⟨g, 0, none⟩) L.length cap) (L.take i ++ x :: L.drop i) (.returned (.slice (some ⟨H, 0, none⟩) (L.length + 1) G)) (W2.drew.setRow H R2) := by
    have hl2 : (L.take i ++ x :: L.drop i).length = L.length + 1 := by simp; omega
    have hgr3 : w.grownBy W2.drew (some g) := ⟨hgr2.os, hgr2.tape, hgr2.output, hgr2.size, hgr2.block⟩
    refine ⟨_, rfl, ⟨?_, .inr ⟨H, G, R2, by rw [hl2], by omega, setRow_heap W2.drew H _ _ _ _ hg2, by rw [hl2]; exact hGn, hGm, hR2s, ?_⟩⟩, setRow_grown2 hgr3 (by omega) _, .inr (by rw [hH]; rfl)⟩
    · rw [edL_length]
    · rw [hl2, edL_append, edL_cons, ← hR2, ← hR1]
      exact fill_row ROW.toList L x i (by omega) hRt (by have : ROW.toList.length = ROW.size := Array.length_toList; omega)
  have hfin := Lib.hid hfin
  have hw1 : IntKind.i64.wrap ((i : Int) + 1) = (i : Int) + 1 := by rw [IntKind.wrap_i64]; omega
  have hz4 : ¬ ((i : Int) = (L.length : Int)) := by omega
  have hz5 : (cap : Int) < (L.length : Int) + 1 := by omega
  have htn : ((i : Int) + 1).toNat = i + 1 := by omega
  have hin2 : i ≤ L.length := by omega
  have hin3 : i ≤ L.length + 1 := by omega
  have hb1 : (0 : Int) ≤ (i : Int) + 1 := by omega
  have hb2 : ¬ (G = i + 1) := by omega
  have hb4 : ¬ (G = i) := by omega
  have hb5 : ¬ (cap = i) := by omega
  have hb3 : (i : Int) ≤ (L.length : Int) := by omega
  have hb6 : i ≤ cap := by omega
  clear hcur hROW hR1 hR2 hdl htl htake hlen hbg hcs hx1 hx2 hik hkk hold hRt hgW2
  go_enter Tryz.func131, Tryz.ntmps131
  go_wp2_with (first
    | (at_builtin; refine Lib.wpList_append_run _ rfl _ _ _ _ rfl _ _ rfl rfl _ _ (hrz _) ?_)
    | (at_builtin; refine wpList_copy_runE _ rfl _ _ 59 59 rfl _ _ rfl rfl (hcp1 _ _) ?_))
  go_region_law (refine step_copy_runE rfl _ _ 59 59 rfl _ _ (by simp [Act.eval, Act.put]) (by simp [Act.eval, Act.put]) (hcp2 _ _ _) ?_)
  go_wp2
  go_ret
  exact hfin.out
/-- one edge goes in -/
theorem insEdge (w : World) (B : Nat) (v : Value) (L : List Ed) (i xb : Nat) (x : Ed) (h : OwnE w B v L) (hi : i ≤ L.length) (hx : w.heap[xb]? = some (.cells x.cells.toArray 70 (0, 0))) (hne : v.ownBlock ≠ some xb) (hB : B ≤ w.heap.size) (hl : L.length ≤ 100000) :
    Calls Tryz.prog 131 #[v, .int .i64 (i : Nat), .slice (some ⟨xb, 0, none⟩) 1 1] w (InsD w B v (L.take i ++ x :: L.drop i)) := by
  have h' := h
  rcases h'.2 with ⟨rfl, h0⟩ | ⟨g, cap, cur, rfl, _⟩
  · obtain rfl : i = L.length := by omega
    rw [List.take_length, List.drop_length]
    have hl0 : L.length = 0 := h0
    have := insEnd w B none L L.length 0 xb x (by rw [hl0]; exact h) rfl hx hB hl
    rw [hl0] at this ⊢
    exact this
  · by_cases e : i = L.length
    · subst e
      rw [List.take_length, List.drop_length]
      exact insEnd w B _ L L.length cap xb x h rfl hx hB hl
    · by_cases hr : L.length + 1 ≤ cap
      · exact insRoom w B g L i L.length cap xb x h rfl (by omega) hr hx (fun e => hne (by rw [e]; rfl)) hl
      · exact insGrow w B g L i L.length cap xb x h rfl (by omega) (by omega) hx hB hl
end Go.Proofs.YtjejkadaafmdcaaGreat
