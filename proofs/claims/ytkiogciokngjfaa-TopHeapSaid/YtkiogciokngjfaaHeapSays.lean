/- The law HeapSays: whatever is pushed and popped, it returns true. -/
import Derived.Test.YtkiogciokngjfaaHeapBoth
import Derived.BigRegion
import Derived.Deep.RegionHeld3
set_option linter.unusedVariables false
set_option linter.unusedSimpArgs false
namespace Go.Proofs.Ytkiogciokngjfaa
open Go.RowKit Go.Sort FR
def hp0 : Int → Option C := fun _ => none
def hp1 : Int → Option C := hset hp0 5 (some ⟨3, 0⟩)
def hp2 : Int → Option C := hset hp1 7 (some ⟨0, 2⟩)
theorem hp2_some {id ds dd : Int} (h : hp2 id = some ⟨ds, dd⟩) : (id = 7 ∧ ds = 0 ∧ dd = 2) ∨ (id = 5 ∧ ds = 3 ∧ dd = 0) := by
  unfold hp2 hset at h
  by_cases e : id = 7
  · rw [if_pos e] at h; injection h with h; injection h with h1 h2; left; omega
  · rw [if_neg e] at h
    unfold hp1 hset at h
    by_cases e2 : id = 5
    · rw [if_pos e2] at h; injection h with h; injection h with h1 h2; right; omega
    · rw [if_neg e2] at h; cases h
theorem hp2_min {id ds dd : Int} (h : hp2 id = some ⟨ds, dd⟩) (hm : ∀ id' d', hp2 id' = some d' → It.le ⟨⟨ds, dd⟩, id⟩ ⟨d', id'⟩) : id = 7 ∧ ds = 0 ∧ dd = 2 := by
  rcases hp2_some h with h' | ⟨rfl, rfl, rfl⟩
  · exact h'
  · exact absurd (hm 7 ⟨0, 2⟩ rfl) (by unfold It.le; decide)
theorem heaps_true (w : World) : Calls Try.prog 55 #[] w fun e w' => e = .returned (.bool true) ∧ Below w.heap.size w w' := by
  go_enter Try.func55, Try.ntmps55
  go_wp2_with fail
  (with_reducible refine (heapNew _).mono ?_)
  rintro e w1 ⟨b, S, rfl, hH1, hS1, hb1⟩
  have hB1 : ∀ k ∈ S, w.heap.size ≤ k := hS1
  go_wp2_with fail
  refine (heapPush_new w1 S b 0 (fun _ => none) 5 3 0 hH1 rfl ⟨by decide, by decide⟩ (by decide)).mono ?_
  rintro e w2 ⟨rfl, S2, hH2, hS2, hk2⟩
  have hB2 : ∀ k ∈ S2, w.heap.size ≤ k := fun k hk => by rcases hS2 k hk with h | h; exact hB1 k h; have := hb1.size; omega
  have hb2 := Kept.below hb1 hk2 hb1.size hB1
  clear hS1 hb1 hS2 hk2 hH1
  go_wp2_with fail
  refine (heapPush_new w2 S2 b 1 hp1 7 0 2 hH2 rfl ⟨by decide, by decide⟩ (by decide)).mono ?_
  rintro e w3 ⟨rfl, S3, hH3, hS3, hk3⟩
  have hB3 : ∀ k ∈ S3, w.heap.size ≤ k := fun k hk => by rcases hS3 k hk with h | h; exact hB2 k h; have := hb2.size; omega
  have hb3 := Kept.below hb2 hk3 hb2.size hB2
  clear hb2 hS3 hk3 hH2
  go_wp2_with fail
  refine (heapPop_some w3 S3 b 1 hp2 hH3 (by decide)).mono ?_
  rintro e w4 ⟨id, ds, dd, h1, h2, rfl, hH4, hk4⟩
  obtain ⟨rfl, rfl, rfl⟩ := hp2_min h1 h2
  have hb4 := Kept.below hb3 hk4 hb3.size hB3
  clear h1 h2 hb3 hk4 hH3
  go_wp2_with fail
  (with_reducible refine (heapLen _ S3 b _ _ (hH4.below (by (repeat' (first | exact Below.refl _ _ | assumption | apply bel_drewN | apply bel_drew | apply bel_alloc | (refine bel_trans ?_ (by assumption))))))).mono ?_)
  rintro e w5 ⟨rfl, rfl⟩
  go_wp2
  go_ret
  exact ⟨rfl, by (repeat' (first | exact Below.refl _ _ | assumption | apply bel_drewN | apply bel_drew | apply bel_alloc | (refine bel_trans ?_ (by assumption))))⟩
/-- a push (or a pop) that is told -/
structure PushV where
  id : Int
  s : Int
  d : Int
  pop : Bool
/-- a slice of n of them -/
def Pushes (w : World) (A : Option Addr) (n : Nat) (f : Nat → PushV) : Prop := 0 < n → ∃ b o, A = some ⟨b, o, none⟩ ∧ b < w.heap.size ∧ ∀ k, k < n →
  w.cell? ⟨b, o + k * 4, none⟩ = some (.int .i64 (f k).id) ∧ w.cell? ⟨b, o + k * 4 + 1, none⟩ = some (.int .i64 (f k).s) ∧ w.cell? ⟨b, o + k * 4 + 2, none⟩ = some (.int .i64 (f k).d) ∧ w.cell? ⟨b, o + k * 4 + 3, none⟩ = some (.bool (f k).pop)
structure SlP (W : World) (A : Option Addr) (n : Nat) (f : Nat → PushV) : Prop where
  ps : Pushes W A n f
  len : n ≤ 9223372036854775807
theorem idx_runP {A : Option Addr} {b o n m k : Nat} (h : A = some ⟨b, o, none⟩) (hk : k < n) (wx : World) : (Instr.indexAt 73 (.slice A n m) (.int .i64 (k : Nat))).run Try.prog wx = .ok (.pointer (some ⟨b, o + k * 4, none⟩)) wx := by
  subst h
  have q : (k : Int) < (n : Int) := by omega
  go_simp
theorem fault_of (a b : Int) : ∃ na : Int, (∀ w, Calls Try.prog 24 #[.agg #[.int .i64 a, .int .i64 b]] w fun e w' => e = .returned (.int .i64 na) ∧ Below w.heap.size w w') ∧ 0 ≤ na ∧ na ≤ 1 ∧ (na = 0 → costOk a b) := by
  by_cases h : costOk a b
  · exact ⟨0, fun w => refCostFault_ok a b w h, by decide, by decide, fun _ => h⟩
  · exact ⟨1, fun w => refCostFault_bad a b w h, by decide, by decide, fun e => by cases e⟩
/-- what holds at a round's head -/
def HS (W0 : World) (b q k : Nat) (wx : World) : Prop := ∃ S r l hp, Both wx S b q r l hp ∧ l.length ≤ k ∧ (∀ j ∈ S, W0.heap.size ≤ j) ∧ W0.heap.size ≤ q ∧ Below W0.heap.size W0 wx
theorem HS.below {W0 w w' : World} {b q k : Nat} (h : HS W0 b q k w) (hb : Below w.heap.size w w') : HS W0 b q k w' := by
  obtain ⟨S, r, l, hp, ⟨h1, h2, h3, h4, h5⟩, h6, h7, h8, h9⟩ := h
  exact ⟨S, r, l, hp, ⟨h1.below hb, h2.below hb, h3, h4, h5⟩, h6, h7, h8, bel_trans h9 hb⟩
/-- what holds behind the push (or pop) of a round -/
def HX (W0 : World) (b q k x : Nat) (id : Int) (wx : World) : Prop := ∃ S r l hp, Both wx S b q r l hp ∧ l.length ≤ k ∧ (∀ j ∈ S, W0.heap.size ≤ j) ∧ W0.heap.size ≤ q ∧ Below W0.heap.size W0 wx ∧ wx.cell? ⟨x, 0, none⟩ = some (.int .i64 id)
/-- where number id stands among the first j of list l -/
def AtIs (l : List It) (id : Int) (j : Nat) (z : Int) : Prop := (z = -1 ∧ ∀ i, i < j → (nthI l i).id ≠ id) ∨ ∃ i : Nat, i < j ∧ z = i ∧ (nthI l i).id = id
theorem AtIs.out {l : List It} {hp : Int → Option C} {id z : Int} (h : AtIs l id l.length z) (hr : RL l hp) (hz : hp id = none) : z = -1 := by
  rcases h with ⟨h, _⟩ | ⟨i, hi, _, he⟩
  · exact h
  · have := (hr.2 (nthI l i).id (nthI l i).c).2 (by rw [nthI_get hi]; exact List.getElem_mem hi)
    rw [he, hz] at this; cases this
theorem AtIs.at {l : List It} {hp : Int → Option C} {id z : Int} {d : C} (h : AtIs l id l.length z) (hr : RL l hp) (hz : hp id = some d) : ∃ i : Nat, i < l.length ∧ z = i ∧ nthI l i = ⟨d, id⟩ := by
  obtain ⟨k, hk, hk2⟩ := List.getElem_of_mem ((hr.2 id d).1 hz)
  rcases h with ⟨_, h⟩ | ⟨i, hi, hzi, he⟩
  · exact absurd (by rw [nthI_get hk, hk2]) (h k hk)
  · refine ⟨i, hi, hzi, ?_⟩
    have := hr.ids (i := i) (j := k) hi hk (by rw [← nthI_get hi, he, hk2])
    subst this
    rw [nthI_get hi, hk2]
/-- the heap's cost of a number, there or not -/
theorem cost_cases {w : World} {S : List Nat} {b q r : Nat} {l : List It} {hp : Int → Option C} {id : Int} (h : Both w S b q r l hp) : ∃ (s d : Int) (t : Bool), ((t = true ∧ hp id = some ⟨s, d⟩) ∨ (t = false ∧ s = 0 ∧ d = 0 ∧ hp id = none)) ∧
    Calls Try.prog 61 #[.pointer (some ⟨b, 0, none⟩), .int .i64 id] w fun e w' => e = .returned (.tuple #[.agg #[.int .i64 s, .int .i64 d], .bool t]) ∧ Below w.heap.size w w' := by
  cases hz : hp id with
  | none => exact ⟨0, 0, false, .inr ⟨rfl, rfl, rfl, rfl⟩, heapCost_out w S b _ hp id h.h hz⟩
  | some d => exact ⟨d.s, d.d, true, .inl ⟨rfl, rfl⟩, heapCost_in w S b _ hp id d h.h hz⟩
theorem HX.below {W0 w w' : World} {b q k x : Nat} {id : Int} (h : HX W0 b q k x id w) (hb : Below w.heap.size w w') : HX W0 b q k x id w' := by
  obtain ⟨S, r, l, hp, ⟨h1, h2, h3, h4, h5⟩, h6, h7, h8, h9, h10⟩ := h
  exact ⟨S, r, l, hp, ⟨h1.below hb, h2.below hb, h3, h4, h5⟩, h6, h7, h8, bel_trans h9 hb, (hb.cell (World.block_lt_of_cell? w _ h10)).trans h10⟩
theorem Kept.undrew {S : List Nat} {w w' : World} (h : Kept S w.drew w') : Kept S w w' := ⟨h.os, h.tape, h.output, h.size, h.block⟩
theorem cell_kept {S : List Nat} {w w' : World} {x j : Nat} {v : Value} (hk : Kept S w w') (hx : x ∉ S) (h : w.cell? ⟨x, j, none⟩ = some v) : w'.cell? ⟨x, j, none⟩ = some v := by
  have hlt := World.block_lt_of_cell? w _ h
  exact (World.cell?_of_block (hk.block x hlt hx)).trans h
theorem hx_of {W0 w w2 : World} {b q k x : Nat} {id : Int} {S S' : List Nat} {r' : Nat} {l2 : List It} {hp2 : Int → Option C} (h1 : Both w2 S' b q r' l2 hp2) (h2 : ∀ j ∈ S', j ∈ S ∨ w.heap.size ≤ j) (h3 : Kept (q :: S) w w2) (hl : l2.length ≤ k) (hS : ∀ j ∈ S, W0.heap.size ≤ j) (hq : W0.heap.size ≤ q)
    (HB : Below W0.heap.size W0 w) (hxS : x ∉ S) (hxq : x ≠ q) (hx : w.cell? ⟨x, 0, none⟩ = some (.int .i64 id)) : HX W0 b q k x id w2 := by
  have hs := HB.size
  refine ⟨S', r', l2, hp2, h1, hl, ?_, hq, Kept.below HB h3 hs ?_, cell_kept h3 (by simp; exact ⟨hxq, hxS⟩) hx⟩
  · intro j hj
    rcases h2 j hj with h | h
    · exact hS j h
    · omega
  · intro j hj
    simp at hj
    rcases hj with rfl | hj
    · exact hq
    · exact hS j hj
set_option maxRecDepth 100000 in
set_option maxHeartbeats 6400000 in
theorem heapSays (W0 : World) (A : Option Addr) (n m : Nat) (f : Nat → PushV) (h : SlP W0 A n f) :
    Calls Try.prog 7 #[.slice A n m] W0 fun e w' => e = .returned (.bool true) ∧ Below W0.heap.size W0 w' := by
  obtain ⟨hI, hl⟩ := h
  by_cases hn : 150 < n
  · go_enter Try.func7, Try.ntmps7
    go_wp2_with fail
    (with_reducible refine (heaps_true _).mono ?_)
    rintro e w1 ⟨rfl, hb1⟩
    go_wp2
    go_ret
    exact ⟨rfl, hb1⟩
  have hI := Lib.hid hI
  clear hl
  go_enter Try.func7, Try.ntmps7
  go_wp2_with fail
  (with_reducible refine (heaps_true _).mono ?_)
  rintro e w1 ⟨rfl, hb1⟩
  go_wp2_with fail
  (with_reducible refine (heapNew _).mono ?_)
  rintro e w2 ⟨b, S, rfl, hH, hS, hb2⟩
  have HB := bel_trans hb1 hb2
  have hBS : ∀ k ∈ S, W0.heap.size ≤ k := fun k hk => Nat.le_trans hb1.size (hS k hk)
  clear hS
  go_upto_region 6 with (fail)
  have hstart : HS W0 b w2.heap.size 0 (w2.alloc (.cells #[.slice none 0 0] 79)) := by
    refine ⟨S, w2.heap.size + 1, [], fun _ => none, ⟨hH.below (bel_alloc (Below.refl _ _)), ⟨none, 0, heap_alloc_new _ _, by simp, fun h => by simp at h, by omega⟩, RL.nil, fun hm => ?_, .inl rfl⟩, by simp, hBS, HB.size, bel_alloc HB⟩
    have := hH.lt _ hm; omega
  clear hH hb1 hb2 hBS HB
  generalize w2.alloc (.cells #[.slice none 0 0] 79) = w3 at hstart ⊢
  generalize w2.heap.size = q at hstart ⊢
  go_wp2_with fail
  go_loopw [6] (fun iv wr => ∃ k : Nat, k ≤ n ∧ iv = .int .i64 k ∧ HS W0 b q k wr) (fun iv _ => n - (intOf iv).toNat)
  case atStart => exact ⟨0, by omega, rfl, hstart⟩
  case round =>
    obtain ⟨k, hk, rfl, hHS⟩ := hrel
    clear hstart
    by_cases hlt : k < n
    · obtain ⟨pb, po, hA, hpb, hcells⟩ := hI.out (by omega)
      have hix := fun wx => idx_runP (m := m) hA hlt wx
      obtain ⟨⟨id, ds, dd, pp⟩, hfk⟩ : ∃ x, f k = x := ⟨_, rfl⟩
      obtain ⟨c1, c2, c3, c4⟩ := hcells k hlt
      rw [hfk] at c1 c2 c3 c4
      simp only at c1 c2 c3 c4
      have HB0 : Below W0.heap.size W0 wr := by obtain ⟨_, _, _, _, _, _, _, _, h⟩ := hHS; exact h
      have c1 := (HB0.cell hpb).trans c1
      have c2 := (HB0.cell hpb).trans c2
      have c3 := (HB0.cell hpb).trans c3
      have c4 := (HB0.cell hpb).trans c4
      have hHS := Lib.hid hHS
      clear hA hcells hfk
      obtain ⟨na, cF, hna0, hna1, hna2⟩ := fault_of ds dd
      have cF := Lib.hid cF
      have hna2 := Lib.hid hna2
      go_upto_region 10 with (fail)
      refine wp_name ?_
      intro W hW
      have HW : Below wr.heap.size wr W := by rw [hW]; (repeat' (first | exact Below.refl _ _ | assumption | apply bel_drewN | apply bel_drew | apply bel_alloc | (refine bel_trans ?_ (by assumption))))
      have hW0 : wr.heap.size < W.heap.size := by rw [hW]; simp
      have x1 : W.cell? ⟨wr.heap.size, 0, none⟩ = some (.int .i64 id) := by rw [hW]; go_simp
      have x2 : W.cell? ⟨wr.heap.size, 1, none⟩ = some (.int .i64 ds) := by rw [hW]; go_simp
      have x3 : W.cell? ⟨wr.heap.size, 2, none⟩ = some (.int .i64 dd) := by rw [hW]; go_simp
      have x4 : W.cell? ⟨wr.heap.size, 3, none⟩ = some (.bool pp) := by rw [hW]; go_simp
      clear hW c1 c2 c3 c4 hix
      go_wp2_with fail
      refine (cF.out _).mono ?_
      rintro e w4 ⟨rfl, hb4⟩
      by_cases hna : na = 0
      · subst hna
        have hok := hna2.out rfl
        obtain ⟨ic1, ic2⟩ := hok.inC
        clear hna0 hna1 hna2 hok
        have hb4' := bel_trans HW hb4
        have x1 := (hb4.cell (by exact hW0)).trans x1
        have x2 := (hb4.cell (by exact hW0)).trans x2
        have x3 := (hb4.cell (by exact hW0)).trans x3
        have x4 := (hb4.cell (by exact hW0)).trans x4
        obtain ⟨S, r, l, hp, hBo, hlk, hSB, hqB, _⟩ := hHS.out
        have hxS : wr.heap.size ∉ S := fun hm => by have := hBo.h.lt _ hm; omega
        have hxq : wr.heap.size ≠ q := by have := hBo.m.lt; omega
        have hBo4 : Both w4 S b q r l hp := ⟨hBo.h.below hb4', hBo.m.below hb4', hBo.rl, hBo.qS, hBo.rS⟩
        have hBo4 := Lib.hid hBo4
        have HB4 := bel_trans HB0 hb4'
        have hSB := Lib.hid hSB
        clear hBo hHS hb4 hb4' HW HB0
        go_upto_if 44 with (fail)
        go_cut [] (fun wx => HX W0 b q (k + 1) wr.heap.size id wx)
        case first =>
          cases pp with
          | true =>
            obtain ⟨pi, ps, pd, pt, l2, hp2, hr2, hl2, cH, cM⟩ := both_pop S b q l hp hBo4.out.rl (by omega)
            have cH := Lib.hid cH
            have cM := Lib.hid cM
            have hr2 := Lib.hid hr2
            go_wp2_with fail
            (with_reducible refine (cH.out _ hBo4.out.h).mono ?_)
            rintro e w5 hD
            have HD := Lib.hid hD
            obtain ⟨rfl, hD⟩ := hD
            have hK45 : Kept S w4 w5 := by obtain ⟨S', _, _, h⟩ := hD; exact h
            have hM5 := hBo4.out.m.kept2 hK45 hBo4.out.qS hBo4.out.rS
            clear hD
            go_upto_region 14 with (fail)
            refine wp_name ?_
            intro W5 hW5
            have HW5 : Below w5.heap.size w5 W5 := by rw [hW5]; (repeat' (first | exact Below.refl _ _ | assumption | apply bel_drewN | apply bel_drew | apply bel_alloc | (refine bel_trans ?_ (by assumption))))
            have hs5 : w5.heap.size < W5.heap.size := by rw [hW5]; simp
            have p1 : W5.cell? ⟨w5.heap.size, 0, none⟩ = some (.int .i64 ps) := by rw [hW5]; go_simp
            have p2 : W5.cell? ⟨w5.heap.size, 1, none⟩ = some (.int .i64 pd) := by rw [hW5]; go_simp
            clear hW5
            go_wp2_with fail
            (with_reducible refine (cM.out _ r (hM5.below HW5)).mono ?_)
            rintro e w6 ⟨rfl, hM6, hK6⟩
            have hK56 : Kept [q] w5 w6 := (Kept.of_below HW5).trans hK6
            obtain ⟨S', g1, g2, g3⟩ := hBo4.out.go1 hr2.out HD.out hM6 (.inl ⟨rfl, fun e => by subst e; simpa using hl2⟩) hK56
            have hXX := Lib.hid (hx_of g1 g2 g3 (by omega : l2.length ≤ k + 1) hSB.out hqB HB4 hxS hxq x1)
            have hqn : q < w5.heap.size := hM5.lt
            have hs6 : w5.heap.size < w6.heap.size := Nat.lt_of_lt_of_le hs5 hK6.size
            have p1 := cell_kept hK6 (by simp; omega) p1
            have p2 := cell_kept hK6 (by simp; omega) p2
            clear g1 g2 g3 hM5 hM6 HD hK45 hK56 hK6 HW5 x1 x2 x3 x4
            go_wp2
            go_meet
            case rel => exact hXX.out.below (by (repeat' (first | exact Below.refl _ _ | assumption | apply bel_drewN | apply bel_drew | apply bel_alloc | (refine bel_trans ?_ (by assumption)))))
          | false =>
            obtain ⟨t, l2, hp2, hr2, hl2, cH, cM⟩ := both_push S b q l hp id ds dd hBo4.out.rl (by omega) hBo4.out.h.cc ⟨ic1, ic2⟩
            have cH := Lib.hid cH
            have cM := Lib.hid cM
            have hr2 := Lib.hid hr2
            have hSq : ∀ k ∈ S, k ∉ [q] := fun k hk e => by simp at e; subst e; exact hBo4.out.qS hk
            have hxq1 : wr.heap.size ∉ [q] := by simp; exact hxq
            have hSq := Lib.hid hSq
            clear x4
            go_upto_region 17 with (fail)
            go_region_held3 (fun w' => w'.cell? ⟨wr.heap.size, 0, none⟩ = some (.int .i64 id) ∧ w'.cell? ⟨wr.heap.size, 1, none⟩ = some (.int .i64 ds) ∧ w'.cell? ⟨wr.heap.size, 2, none⟩ = some (.int .i64 dd))
              (first
                | go_keep
                | (go_split_ands
                   first
                   | exact ⟨cell_kept hKh hxS (by assumption), cell_kept hKh hxS (by assumption), cell_kept hKh hxS (by assumption)⟩
                   | exact ⟨cell_kept hKm hxq1 (by assumption), cell_kept hKm hxq1 (by assumption), cell_kept hKm hxq1 (by assumption)⟩))
              (first
                | (go_at_call 59
                   refine (cH.out _ (by first | exact hBo4.out.h | exact hBo4.out.h.kept hKm hSq.out)).mono ?_
                   rintro e wh ⟨rfl, S1, hh1, hh2, hKh⟩
                   try replace hKh := Kept.undrew hKh)
                | (go_at_call 60
                   refine (cM.out _ r (by first | exact hBo4.out.m | exact hBo4.out.m.kept2 hKh hBo4.out.qS hBo4.out.rS)).mono ?_
                   rintro e wm ⟨rfl, r1, hm1, hm2, hKm⟩
                   try replace hKm := Kept.undrew hKm))
            all_goals
              have hm3 : (r1 = r ∧ (l = [] → l2 = [])) ∨ _ := hm2.imp_left fun ⟨a, e⟩ => ⟨a, fun e0 => e.trans e0⟩
              first
              | obtain ⟨S', g1, g2, g3⟩ := hBo4.out.go1 hr2.out (show HeapD w4 S b l2.length hp2 (.bool t) (.returned (.bool t)) wh from ⟨rfl, S1, hh1, hh2, hKh⟩) hm1 hm3 hKm
              | obtain ⟨S', g1, g2, g3⟩ := hBo4.out.go2 hr2.out hm1 hm3 hKm (show HeapD wm S b l2.length hp2 (.bool t) (.returned (.bool t)) wh from ⟨rfl, S1, hh1, hh2, hKh⟩)
              have hXX := Lib.hid (hx_of g1 g2 g3 (by omega : l2.length ≤ k + 1) hSB.out hqB HB4 hxS hxq x1)
              clear g1 g2 g3 hh1 hh2 hKh hm1 hm2 hm3 hKm x1 x2 x3
              go_wp2
              go_meet
              case rel => exact hXX.out.below (by (repeat' (first | exact Below.refl _ _ | assumption | apply bel_drewN | apply bel_drew | apply bel_alloc | (refine bel_trans ?_ (by assumption)))))
        case rest =>
          clear hSB hBo4 HB4 x1 x2 x3 x4
          obtain ⟨S5, r5, l5, hp5, hB5, hl5, hSB5, _, HB5, xx⟩ := hcut
          have hlx := World.block_lt_of_cell? _ _ xx
          obtain ⟨cs, cd, ct, hcase, cC⟩ := cost_cases hB5
          have hcase := Lib.hid hcase
          have cC := Lib.hid cC
          have hB5 := Lib.hid hB5
          have hSB5 := Lib.hid hSB5
          go_wp2_with fail
          refine (cC.out).mono ?_
          rintro e w5 ⟨rfl, hb5⟩
          go_upto_region 20 with (fail)
          refine wp_name ?_
          intro W5 hW5
          have HW5 : Below w5.heap.size w5 W5 := by rw [hW5]; (repeat' (first | exact Below.refl _ _ | assumption | apply bel_drewN | apply bel_drew | apply bel_alloc | (refine bel_trans ?_ (by assumption))))
          have hs5 : w5.heap.size < W5.heap.size := by rw [hW5]; simp
          have p1 : W5.cell? ⟨w5.heap.size, 0, none⟩ = some (.int .i64 cs) := by rw [hW5]; go_simp
          have p2 : W5.cell? ⟨w5.heap.size, 1, none⟩ = some (.int .i64 cd) := by rw [hW5]; go_simp
          clear hW5
          have HC := bel_trans hb5 HW5
          have xx := (HC.cell (by exact hlx)).trans xx
          have HB5 := bel_trans HB5 HC
          have hB6 : Both W5 S5 b q r5 l5 hp5 := ⟨hB5.out.h.below HC, hB5.out.m.below HC, hB5.out.rl, hB5.out.qS, hB5.out.rS⟩
          have hB6 := Lib.hid hB6
          clear hb5 HW5 HC cC hB5
          obtain ⟨A5, mm, h1, h2, h3, h4⟩ := hB6.out.m
          have k0 : W5.cell? ⟨q, 0, none⟩ = some (.slice A5 l5.length mm) := by simp [World.cell?, h1]
          have hq5 := hB6.out.m.lt
          have hx5 : wr.heap.size < W5.heap.size := World.block_lt_of_cell? _ _ xx
          have H3 := Lib.hid h3
          obtain ⟨n5, hn5⟩ : ∃ n5, l5.length = n5 := ⟨_, rfl⟩
          rw [hn5] at k0 h2 hl5
          have Hn5 := Lib.hid hn5
          clear h1 h3 hn5
          go_wp2_with fail
          obtain ⟨wo, rfl⟩ : ∃ wo : World, wo = wr := ⟨_, rfl⟩
          go_loopw [15, 16] (fun z iv wr => ∃ (j : Nat) (zz : Int), j ≤ n5 ∧ iv = .int .i64 j ∧ z = .int .i64 zz ∧ AtIs l5 id j zz ∧ Below W5.heap.size W5 wr) (fun _ iv _ => n5 - (intOf iv).toNat)
          case atStart => exact ⟨0, -1, by omega, rfl, rfl, .inl ⟨rfl, fun i hi => by omega⟩, Below.refl _ _⟩
          case round =>
            obtain ⟨j, zz, hj, rfl, rfl, hat, HBj⟩ := hrel
            have hat := Lib.hid hat
            have k1 := (HBj.cell (by exact hq5)).trans k0
            by_cases hlj : j < n5
            · obtain ⟨⟨⟨ys, yd⟩, yi⟩, hy⟩ : ∃ y, nthI l5 j = y := ⟨_, rfl⟩
              obtain ⟨o, rfl, hrr, c1, _, _⟩ := H3.out.one (by rw [Hn5.out]; exact hlj) hy
              simp only at c1
              have c1 := (HBj.cell hrr).trans c1
              have xj := (HBj.cell (by exact hx5)).trans xx
              have Hy := Lib.hid hy
              have q0 : (0 : Int) ≤ (j : Int) := by omega
              have q1 : (j : Int) < (n5 : Int) := by omega
              clear hy
              go_upto_region 24 with (fail)
              go_quiet (fail)
              have HBj2 : Below W5.heap.size W5 (wr.drewN nq) := bel_drewN HBj
              clear k1 c1 xj HBj
              generalize wr.drewN nq = w8 at HBj2 ⊢
              by_cases e : yi = id
              · subst e
                go_wp2
                go_roundw
                case rel => first | exact ⟨j + 1, _, by omega, by go_num, rfl, .inr ⟨j, by omega, rfl, by rw [Hy.out]⟩, HBj2⟩ | ((repeat apply Exists.intro); exact ⟨⟨j + 1, _, by omega, by go_num, rfl, .inr ⟨j, by omega, rfl, by rw [Hy.out]⟩, HBj2⟩, rfl⟩)
                case measure => simp [intOf]; omega
              · have hat2 : AtIs l5 id (j + 1) zz := by
                  rcases hat.out with ⟨h1, h2⟩ | ⟨i, h1, h2, h3⟩
                  · refine .inl ⟨h1, fun i hi => ?_⟩
                    by_cases ei : i = j
                    · subst ei; rw [Hy.out]; exact e
                    · exact h2 i (by omega)
                  · exact .inr ⟨i, by omega, h2, h3⟩
                have hat2 := Lib.hid hat2
                have e' : (yi == id) = false := by rw [beq_eq_false_iff_ne]; exact e
                go_wp2
                go_roundw
                case rel => first | exact ⟨j + 1, _, by omega, by go_num, rfl, hat2.out, HBj2⟩ | ((repeat apply Exists.intro); exact ⟨⟨j + 1, _, by omega, by go_num, rfl, hat2.out, HBj2⟩, rfl⟩)
                case measure => simp [intOf]; omega
            · obtain rfl : j = n5 := by omega
              have hat' : AtIs l5 id l5.length zz := by rw [Hn5.out]; exact hat.out
              have hB7 := hB6.out
              have cLen := fun w' (hb : Below W5.heap.size W5 w') => (heapLen w' S5 b _ hp5 (hB7.h.below hb)).mono (R' := fun e w'' => e = .returned (.int .i64 ((j : Nat) : Int)) ∧ Below w'.heap.size w' w'') (fun e w'' h => ⟨by rw [h.1, Hn5.out], by rw [← h.2]; exact Below.refl _ _⟩)
              have cLen := Lib.hid cLen
              have p1 := (HBj.cell (by exact hs5)).trans p1
              have p2 := (HBj.cell (by exact hs5)).trans p2
              clear hB7 hat
              rcases hcase.out with ⟨rfl, hsome⟩ | ⟨rfl, rfl, rfl, hnone⟩
              · obtain ⟨i, hi, rfl, hni⟩ := hat'.at hB6.out.rl hsome
                obtain ⟨o, rfl, hrr, _, c2, c3⟩ := H3.out.one hi hni
                simp only at c2 c3
                have c2 := (HBj.cell hrr).trans c2
                have c3 := (HBj.cell hrr).trans c3
                have c2q := cell_regrown c2
                have c3q := cell_regrown c3
                have hi' : i < j := by have := Hn5.out; omega
                have q0 : (0 : Int) ≤ (i : Int) := by omega
                have q1 : (i : Int) < (j : Int) := by omega
                have hd : decide ((0 : Int) ≤ (i : Int)) = true := by simp
                clear hni hsome hi
                have k1q := cell_regrown k1
                have p1q := cell_regrown p1
                have p2q := cell_regrown p2
                go_upto_region 26 with (fail)
                refine wp_region_quiet_below (by kernel_rfl) (by kernel_rfl) ?_
                repeat (first | go_big_quiet_step (with_reducible exact Calls.regrown_of (cLen.out _ (HBj.trans ((below_regrown wr _ _).mono HBj.size)))) | quiet_step (with_reducible exact Calls.regrown_of (cLen.out _ (HBj.trans ((below_regrown wr _ _).mono HBj.size)))))
                refine wpQuiet_nil ?_
                intro _ hw'
                obtain ⟨⟨dq, osq⟩, hw''⟩ := hw'
                have HB9 := bel_trans HBj (below_regrown wr dq osq)
                have hb2 := below_regrown wr dq osq
                subst hw''
                generalize grow (redrawn wr dq) osq = w9 at HB9 hb2 ⊢
                have hF : HS W0 b q (k + 1) w9 := ⟨S5, r5, l5, hp5, ⟨hB6.out.h.below HB9, hB6.out.m.below HB9, hB6.out.rl, hB6.out.qS, hB6.out.rS⟩, by rw [Hn5.out]; exact hl5, hSB5.out, hqB, bel_trans HB5 HB9⟩
                clear HB9 hb2
                go_wp2
                go_roundw
                case rel => first | exact ⟨k + 1, by omega, by go_num, hF⟩ | ((repeat apply Exists.intro); exact ⟨⟨k + 1, by omega, by go_num, hF⟩, rfl⟩)
                case measure => simp [intOf]; omega
              · obtain rfl := hat'.out hB6.out.rl hnone
                clear hnone
                have k1q := cell_regrown k1
                have p1q := cell_regrown p1
                have p2q := cell_regrown p2
                go_upto_region 26 with (fail)
                refine wp_region_quiet_below (by kernel_rfl) (by kernel_rfl) ?_
                repeat (first | go_big_quiet_step (with_reducible exact Calls.regrown_of (cLen.out _ (HBj.trans ((below_regrown wr _ _).mono HBj.size)))) | quiet_step (with_reducible exact Calls.regrown_of (cLen.out _ (HBj.trans ((below_regrown wr _ _).mono HBj.size)))))
                refine wpQuiet_nil ?_
                intro _ hw'
                obtain ⟨⟨dq, osq⟩, hw''⟩ := hw'
                have HB9 := bel_trans HBj (below_regrown wr dq osq)
                have hb2 := below_regrown wr dq osq
                subst hw''
                generalize grow (redrawn wr dq) osq = w9 at HB9 hb2 ⊢
                have hF : HS W0 b q (k + 1) w9 := ⟨S5, r5, l5, hp5, ⟨hB6.out.h.below HB9, hB6.out.m.below HB9, hB6.out.rl, hB6.out.qS, hB6.out.rS⟩, by rw [Hn5.out]; exact hl5, hSB5.out, hqB, bel_trans HB5 HB9⟩
                clear HB9 hb2
                go_wp2
                go_roundw
                case rel => first | exact ⟨k + 1, by omega, by go_num, hF⟩ | ((repeat apply Exists.intro); exact ⟨⟨k + 1, by omega, by go_num, hF⟩, rfl⟩)
                case measure => simp [intOf]; omega
      · have hna3 : 0 < na := by omega
        have HB4 := bel_trans HB0 (bel_trans HW hb4)
        go_wp2
        go_ret
        exact ⟨rfl, HB4⟩
    · obtain rfl : k = n := by omega
      have HB0 : Below W0.heap.size W0 wr := by obtain ⟨_, _, _, _, _, _, _, _, h⟩ := hHS; exact h
      go_wp2
      go_ret
      exact ⟨rfl, HB0⟩
end Go.Proofs.Ytkiogciokngjfaa
