/- What the reference's Set, NewGrid, May, To do; and To of package grid. -/
import Derived.Test.YtkiogciokngjfaaMay
import Derived.Test.YtkiogciokngjfaaGrid3
set_option linter.unusedVariables false
set_option linter.unusedSimpArgs false
namespace Go.Proofs.Ytkiogciokngjfaa
open Go.RowKit Go.Sort FR
theorem RGridAt.kept {S : List Nat} {w w' : World} {p : Nat} {g : G} {v : Int} (h : RGridAt w p g v) (hk : Kept S w w') (hp : p ∉ S) : RGridAt w' p g v :=
  ⟨h.1, (hk.block p h.lt hp).trans h.2⟩
def rNewRow (a b : Value) : Array Value := rowOf (fun k => if k = 0 then a else if k = 1 then b else if k = 258 then .int .i64 0 else .bool false) 259
theorem rNew_cells (a b : Value) : (Try.zeroCells68.setIfInBounds 0 a).setIfInBounds 1 b = rNewRow a b := by kernel_rfl
theorem rNew_ok (a b : Int) (w : World) (h : 1 ≤ a ∧ a ≤ 16 ∧ 1 ≤ b ∧ b ≤ 16) :
    Calls Try.prog 44 #[.int .i64 a, .int .i64 b] w fun e w' => e = .returned (.tuple #[.pointer (some ⟨w.heap.size, 0, none⟩), .int .i64 0]) ∧ RGridAt w' w.heap.size ⟨a.toNat, b.toNat, fun _ => false⟩ 0 ∧ Below w.heap.size w w' ∧ w'.heap.size = w.heap.size + 1 := by
  obtain ⟨h1, h2, h3, h4⟩ := h
  go_enter Try.func44, Try.ntmps44
  go_wp2
  go_ret2
  refine ⟨rfl, ?_, by (repeat' (first | exact Below.refl _ _ | assumption | apply bel_drewN | apply bel_drew | apply bel_alloc | (refine bel_trans ?_ (by assumption)))), by simp⟩
  refine ⟨⟨by simp only; omega, by simp only; omega, by simp only; omega, by simp only; omega⟩, ?_⟩
  rw [heap_alloc_new, rNew_cells]
  unfold rNewRow rcell
  simp only [Int.toNat_of_nonneg (show 0 ≤ a by omega), Int.toNat_of_nonneg (show 0 ≤ b by omega)]
theorem rNew_bad (a b : Int) (w : World) (h : ¬ (1 ≤ a ∧ a ≤ 16 ∧ 1 ≤ b ∧ b ≤ 16)) :
    Calls Try.prog 44 #[.int .i64 a, .int .i64 b] w fun e w' => e = .returned (.tuple #[.pointer none, .int .i64 1]) ∧ w = w' := by
  go_enter Try.func44, Try.ntmps44
  go_wp2
  all_goals
    go_ret2
    exact ⟨rfl, rfl⟩
theorem rSet_out (w : World) (p : Nat) (g : G) (v c : Int) (t : Bool) (h : RGridAt w p g v) (hc : c < 0 ∨ g.n ≤ c) :
    Calls Try.prog 46 #[.pointer (some ⟨p, 0, none⟩), .int .i64 c, .bool t] w fun e w' => e = .returned (.tuple #[.bool false, .int .i64 1]) ∧ Below w.heap.size w w' := by
  go_enter Try.func46, Try.ntmps46
  go_wp2_with fail
  refine (rIs_out w p g v c h hc).mono ?_
  rintro e w1 ⟨rfl, hb⟩
  go_wp2
  go_ret2
  exact ⟨rfl, by (repeat' (first | exact Below.refl _ _ | assumption | apply bel_drewN | apply bel_drew | apply bel_alloc | (refine bel_trans ?_ (by assumption))))⟩
theorem rSet_same (w : World) (p : Nat) (g : G) (v : Int) (c : Nat) (h : RGridAt w p g v) (hc : c < g.n) :
    Calls Try.prog 46 #[.pointer (some ⟨p, 0, none⟩), .int .i64 (c : Nat), .bool (g.b c)] w fun e w' => e = .returned (.tuple #[.bool false, .int .i64 0]) ∧ Below w.heap.size w w' := by
  have hn := G.n_le h.1
  have hi := Lib.hid (rIs_in w p g v c h hc)
  have kb := h.bit c (by omega)
  have hlt := h.lt
  generalize g.b c = t at kb ⊢
  clear h
  cases t
  all_goals
    go_enter Try.func46, Try.ntmps46
    go_wp2_with fail
    refine hi.out.mono ?_
    rintro e w1 ⟨rfl, hb⟩
    have kb' := (hb.cell (p := ⟨p, 2 + c, none⟩) hlt).trans kb
    clear kb
    go_wp2
    go_ret2
    exact ⟨rfl, by (repeat' (first | exact Below.refl _ _ | assumption | apply bel_drewN | apply bel_drew | apply bel_alloc | (refine bel_trans ?_ (by assumption))))⟩
theorem rset_heap (w : World) (p k : Nat) (cs : Array Value) (T : TypeId) (x y : Value) (h : w.heap[p]? = some (.cells cs T (0, 0))) :
    ((w.setCell ⟨p, k, none⟩ x).setCell ⟨p, 258, none⟩ y).heap[p]? = some (.cells ((cs.setIfInBounds k x).setIfInBounds 258 y) T (0, 0)) := by
  simp [World.setCell, Array.getElem?_modify, h]
theorem rset_at {w : World} {p : Nat} {g : G} {v : Int} {c : Nat} {t : Bool} (h : RGridAt w p g v) (hc : c < 256) :
    RGridAt ((w.setCell ⟨p, 2 + c, none⟩ (.bool t)).setCell ⟨p, 258, none⟩ (.int .i64 (v + 1))) p (gset g c t) (v + 1) := by
  refine ⟨h.1, ?_⟩
  rw [rset_heap _ _ _ _ _ _ _ h.2]
  congr 2
  apply Array.ext_getElem?
  intro i
  rw [Array.getElem?_setIfInBounds, Array.getElem?_setIfInBounds]
  have hsz : (rowOf (rcell g v) 259).size = 259 := rowOf_size _ _
  by_cases h1 : i < 259
  · rw [rowOf_get _ _ _ h1]
    by_cases h2 : 258 = i
    · subst h2; rw [if_pos rfl, if_pos (by simp [hsz])]; rfl
    · rw [if_neg h2]
      by_cases h3 : 2 + c = i
      · subst h3; rw [if_pos rfl, if_pos (by rw [hsz]; exact h1), rowOf_get _ _ _ h1]; simp [rcell, gset, upd, show 2 + c ≠ 0 by omega, show 2 + c ≠ 1 by omega, show 2 + c ≠ 258 by omega]
      · rw [if_neg h3, rowOf_get _ _ _ h1]
        unfold rcell gset
        by_cases a : i = 0
        · rw [if_pos a, if_pos a]
        · rw [if_neg a, if_neg a]
          by_cases b : i = 1
          · rw [if_pos b, if_pos b]
          · rw [if_neg b, if_neg b, if_neg (by omega), if_neg (by omega)]
            simp only
            rw [upd_ne _ _ (by omega)]
  · rw [if_neg (by omega), if_neg (by omega), Array.getElem?_eq_none (by rw [hsz]; omega), Array.getElem?_eq_none (by rw [rowOf_size]; omega)]
set_option maxHeartbeats 800000 in
theorem rSet_new (w : World) (p : Nat) (g : G) (v : Int) (c : Nat) (t : Bool) (h : RGridAt w p g v) (hc : c < g.n) (ht : g.b c = !t) (hv : 0 ≤ v ∧ v ≤ 1099511627776) :
    Calls Try.prog 46 #[.pointer (some ⟨p, 0, none⟩), .int .i64 (c : Nat), .bool t] w fun e w' => e = .returned (.tuple #[.bool true, .int .i64 0]) ∧ RGridAt w' p (gset g c t) (v + 1) ∧ Kept [p] w w' := by
  have hi := Lib.hid (rIs_in w p g v c h hc)
  have hn := G.n_le h.1
  obtain ⟨v0, v1⟩ := hv
  have hlt := h.lt
  have Ht := Lib.hid ht
  have kb0 := h.bit c (by omega)
  rw [ht] at kb0
  clear ht
  cases t
  all_goals
    go_enter Try.func46, Try.ntmps46
    go_wp2_with fail
    refine hi.out.mono ?_
    rintro e w1 ⟨rfl, hb1⟩
    have h' := h.below hb1 hlt
    have hk : Kept [p] w w1 := .of_below hb1
    have kb := (hb1.cell (p := ⟨p, 2 + c, none⟩) hlt).trans kb0
    have kv := h'.ver
    have kf : ∀ k, w1.frozen? ⟨p, k, none⟩ = false := by intro k; have := h'.2; simp [World.frozen?, this]
    clear kb0 hb1
    go_wp2
    go_ret2
    exact ⟨rfl, rset_at h' (by omega), (hk.setCell (.inl (by simp))).setCell (.inl (by simp))⟩
set_option maxHeartbeats 1600000 in
theorem rMay (w : World) (p : Nat) (g : G) (v x y : Int) (d : Nat) (h : RGridAt w p g v) (hd : d < 8) (hx : inP x) (hy : inP y) :
    Calls Try.prog 83 #[.pointer (some ⟨p, 0, none⟩), .int .i64 x, .int .i64 y, .int .i64 (d : Nat)] w fun e w' => e = .returned (.bool (g.may x y d)) ∧ Below w.heap.size w w' := by
  unfold inP at hx hy
  obtain ⟨b1, b2, b3, b4⟩ := dN_abs d
  obtain ⟨t1, h1⟩ : ∃ t, g.op x y = t := ⟨_, rfl⟩
  obtain ⟨t2, h2⟩ : ∃ t, g.op (x + dxN d) (y + dyN d) = t := ⟨_, rfl⟩
  obtain ⟨t3, h3⟩ : ∃ t, g.op (x + dxN d) y = t := ⟨_, rfl⟩
  obtain ⟨t4, h4⟩ : ∃ t, g.op x (y + dyN d) = t := ⟨_, rfl⟩
  rw [may_val h1 h2 h3 h4]
  have c1 := Lib.hid (fun w' h' => rOpen_at w' p g v _ _ _ h' h1)
  have c2 := Lib.hid (fun w' h' => rOpen_at w' p g v _ _ _ h' h2)
  have c3 := Lib.hid (fun w' h' => rOpen_at w' p g v _ _ _ h' h3)
  have c4 := Lib.hid (fun w' h' => rOpen_at w' p g v _ _ _ h' h4)
  clear h1 h2 h3 h4
  have hst := Lib.hid (fun w' => rstep_one d hd w')
  generalize dxN d = dx at *
  generalize dyN d = dy at *
  go_enter Try.func83, Try.ntmps83
  go_wp2_with fail
  refine (hst.out _).mono ?_
  rintro e w1 ⟨rfl, hb1⟩
  have h1 := h.below hb1 h.lt
  go_wp2_with fail
  refine (c1.out _ h1).mono ?_
  rintro e w2 ⟨rfl, hb2⟩
  have h2 := h1.below hb2 h1.lt
  have hb2 := bel_trans hb1 hb2
  cases t1
  · go_wp2
    go_ret
    exact ⟨rfl, by (repeat' (first | exact Below.refl _ _ | assumption | apply bel_drewN | apply bel_drew | apply bel_alloc | (refine bel_trans ?_ (by assumption))))⟩
  · go_wp2_with fail
    refine (c2.out _ h2).mono ?_
    rintro e w3 ⟨rfl, hb3⟩
    have h3 := h2.below hb3 h2.lt
    have hb3 := bel_trans hb2 hb3
    cases t2
    · go_wp2
      go_ret
      exact ⟨rfl, by (repeat' (first | exact Below.refl _ _ | assumption | apply bel_drewN | apply bel_drew | apply bel_alloc | (refine bel_trans ?_ (by assumption))))⟩
    · go_wp2_with fail
      refine (c3.out _ h3).mono ?_
      rintro e w4 ⟨rfl, hb4⟩
      have h4 := h3.below hb4 h3.lt
      have hb4 := bel_trans hb3 hb4
      cases t3
      · go_wp2
        go_ret
        exact ⟨rfl, by (repeat' (first | exact Below.refl _ _ | assumption | apply bel_drewN | apply bel_drew | apply bel_alloc | (refine bel_trans ?_ (by assumption))))⟩
      · go_wp2_with fail
        refine (c4.out _ h4).mono ?_
        rintro e w5 ⟨rfl, hb5⟩
        have hb5 := bel_trans hb4 hb5
        cases t4
        all_goals
          go_wp2
          go_ret
          exact ⟨rfl, by (repeat' (first | exact Below.refl _ _ | assumption | apply bel_drewN | apply bel_drew | apply bel_alloc | (refine bel_trans ?_ (by assumption))))⟩
end Go.Proofs.Ytkiogciokngjfaa
