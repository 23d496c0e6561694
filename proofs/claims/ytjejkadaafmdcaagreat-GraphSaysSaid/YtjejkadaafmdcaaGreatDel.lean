/- slices.DeleteFunc over edges: those that lead to one place go. -/
import Derived.Test.YtjejkadaafmdcaaGreatGraph6
import Derived.Lib.SliceRun
import Derived.Laws.CopyRow
set_option linter.unusedVariables false
set_option linter.unusedSimpArgs false
namespace Go.Proofs.YtjejkadaafmdcaaGreat
open Go.RowKit Go.Sort FR
/-- what the search hands back -/
def IdxD (w : World) (L : List Ed) (t : Int) (r : Ending) (w' : World) : Prop :=
  (r = .returned (.int .i64 (-1)) ∧ (∀ e ∈ L, e.to_ ≠ t) ∧ Below w.heap.size w w') ∨ ∃ (k : Nat) (e : Ed), r = .returned (.int .i64 (k : Nat)) ∧ L[k]? = some e ∧ e.to_ = t ∧ (∀ j e', L[j]? = some e' → j < k → e'.to_ ≠ t) ∧ Below w.heap.size w w'
theorem cut1Cl (w : World) (bt : Nat) (e : Ed) (t : Int) (hc : w.cell? ⟨bt, 0, none⟩ = some (.int .i64 t)) :
    Calls Tryz.prog 100 #[.agg #[.int .i64 e.to_, .int .i64 e.c.s, .int .i64 e.c.d, .int .i64 e.mid], .pointer (some ⟨bt, 0, none⟩)] w fun r w' => r = .returned (.bool (e.to_ == t)) ∧ Below w.heap.size w w' := by
  obtain ⟨x, ⟨s, d⟩, m⟩ := e
  have hne := World.new_ne w _ hc
  have hca := fun o => alloc_some (o := o) hc
  simp only
  go_enter Tryz.func100, Tryz.ntmps100
  go_wp2
  go_ret
  exact ⟨rfl, by (repeat' (first | exact Below.refl _ _ | assumption | apply bel_drewN | apply bel_drew | apply bel_alloc | (refine bel_trans ?_ (by assumption))))⟩
set_option maxRecDepth 100000 in
set_option maxHeartbeats 1600000 in
/-- the first edge that leads to t -/
theorem cut1Idx (w : World) (A : Option Addr) (n cap : Nat) (L : List Ed) (bt : Nat) (t : Int) (h : EdsAt w A L) (hn : L.length = n) (hl : n ≤ 100000) (hc : w.cell? ⟨bt, 0, none⟩ = some (.int .i64 t)) :
    Calls Tryz.prog 132 #[.slice A n cap, .func (.func 100) #[] #[.pointer (some ⟨bt, 0, none⟩)]] w (IdxD w L t) := by
  have Hn := Lib.hid hn
  have h := Lib.hid h
  have Hc := Lib.hid hc
  clear hn hc
  go_enter Tryz.func132, Tryz.ntmps132
  go_wp2_with fail
  go_loopw [8] (fun kv wr => ∃ k : Nat, kv = .int .i64 k ∧ k ≤ n ∧ (∀ j e, L[j]? = some e → j < k → e.to_ ≠ t) ∧ Below w.heap.size w wr) (fun kv _ => n - (intOf kv).toNat)
  case atStart => exact ⟨0, rfl, by omega, fun j e _ h => by omega, Below.refl _ _⟩
  case round =>
    obtain ⟨k, rfl, hk, hno, HB⟩ := hrel
    have Hno := Lib.hid hno
    clear hno
    by_cases hlt : k < n
    · obtain ⟨e, he⟩ : ∃ e, L[k]? = some e := ⟨L[k]'(by rw [Hn.out]; exact hlt), List.getElem?_eq_getElem _⟩
      obtain ⟨g, hA, a1, a2, a3, a4⟩ := (h.out.below HB).get he
      have hix := fun wx => idxE (m := cap) hA hlt wx
      have cF := Lib.hid (cut1Cl wr bt e t (bel_cell HB Hc.out))
      have He := Lib.hid he
      obtain ⟨u, hu⟩ : ∃ u, (e.to_ == t) = u := ⟨_, rfl⟩
      rw [hu] at cF
      have Hu := Lib.hid hu
      obtain ⟨x, hx⟩ : ∃ x, e.to_ = x := ⟨_, rfl⟩
      obtain ⟨xs, hxs⟩ : ∃ x, e.c.s = x := ⟨_, rfl⟩
      obtain ⟨xd, hxd⟩ : ∃ x, e.c.d = x := ⟨_, rfl⟩
      obtain ⟨xm, hxm⟩ : ∃ x, e.mid = x := ⟨_, rfl⟩
      rw [hx] at a1 cF
      rw [hxs] at a2 cF
      rw [hxd] at a3 cF
      rw [hxm] at a4 cF
      clear hA he hu hx hxs hxd hxm
      go_wp2_with fail
      (with_reducible refine cF.out.mono ?_)
      rintro r w2 ⟨rfl, hb2⟩
      have HB2 := bel_trans HB hb2
      clear a1 a2 a3 a4 cF hix hb2 HB
      cases u with
      | true =>
        have hfin : IdxD w L t (.returned (.int .i64 (k : Nat))) w2 := .inr ⟨k, e, rfl, He.out, by simpa using Hu.out, Hno.out, HB2⟩
        have hfin := Lib.hid hfin
        clear HB2
        go_wp2
        go_ret
        exact hfin.out
      | false =>
        have hno2 : ∀ j e', L[j]? = some e' → j < k + 1 → e'.to_ ≠ t := fun j e' he' hj => by
          by_cases e1 : j = k
          · subst e1
            rw [He.out] at he'
            injection he' with he'
            subst he'
            simpa using Hu.out
          · exact Hno.out j e' he' (by omega)
        have Hno2 := Lib.hid hno2
        clear hno2
        go_wp2
        go_roundw
        case rel => exact ⟨k + 1, by go_num, by omega, Hno2.out, HB2⟩
        case measure => simp [intOf]; omega
    · obtain rfl : k = n := by omega
      have hfin : IdxD w L t (.returned (.int .i64 (-1))) wr := .inl ⟨rfl, fun e he => by
        obtain ⟨j, hj⟩ := List.getElem?_of_mem he
        exact Hno.out j e hj (by have := (List.getElem?_eq_some_iff.1 hj).1; have := Hn.out; omega), HB⟩
      have hfin := Lib.hid hfin
      clear HB
      go_wp2
      go_ret
      exact hfin.out
theorem cut2Cl (w : World) (bt : Nat) (e : Ed) (t : Int) (hc : w.cell? ⟨bt, 0, none⟩ = some (.int .i64 t)) :
    Calls Tryz.prog 101 #[.agg #[.int .i64 e.to_, .int .i64 e.c.s, .int .i64 e.c.d, .int .i64 e.mid], .pointer (some ⟨bt, 0, none⟩)] w fun r w' => r = .returned (.bool (e.to_ == t)) ∧ Below w.heap.size w w' := by
  obtain ⟨x, ⟨s, d⟩, m⟩ := e
  have hne := World.new_ne w _ hc
  have hca := fun o => alloc_some (o := o) hc
  simp only
  go_enter Tryz.func101, Tryz.ntmps101
  go_wp2
  go_ret
  exact ⟨rfl, by (repeat' (first | exact Below.refl _ _ | assumption | apply bel_drewN | apply bel_drew | apply bel_alloc | (refine bel_trans ?_ (by assumption))))⟩
set_option maxRecDepth 100000 in
set_option maxHeartbeats 1600000 in
/-- the first edge that leads to t -/
theorem cut2Idx (w : World) (A : Option Addr) (n cap : Nat) (L : List Ed) (bt : Nat) (t : Int) (h : EdsAt w A L) (hn : L.length = n) (hl : n ≤ 100000) (hc : w.cell? ⟨bt, 0, none⟩ = some (.int .i64 t)) :
    Calls Tryz.prog 132 #[.slice A n cap, .func (.func 101) #[] #[.pointer (some ⟨bt, 0, none⟩)]] w (IdxD w L t) := by
  have Hn := Lib.hid hn
  have h := Lib.hid h
  have Hc := Lib.hid hc
  clear hn hc
  go_enter Tryz.func132, Tryz.ntmps132
  go_wp2_with fail
  go_loopw [8] (fun kv wr => ∃ k : Nat, kv = .int .i64 k ∧ k ≤ n ∧ (∀ j e, L[j]? = some e → j < k → e.to_ ≠ t) ∧ Below w.heap.size w wr) (fun kv _ => n - (intOf kv).toNat)
  case atStart => exact ⟨0, rfl, by omega, fun j e _ h => by omega, Below.refl _ _⟩
  case round =>
    obtain ⟨k, rfl, hk, hno, HB⟩ := hrel
    have Hno := Lib.hid hno
    clear hno
    by_cases hlt : k < n
    · obtain ⟨e, he⟩ : ∃ e, L[k]? = some e := ⟨L[k]'(by rw [Hn.out]; exact hlt), List.getElem?_eq_getElem _⟩
      obtain ⟨g, hA, a1, a2, a3, a4⟩ := (h.out.below HB).get he
      have hix := fun wx => idxE (m := cap) hA hlt wx
      have cF := Lib.hid (cut2Cl wr bt e t (bel_cell HB Hc.out))
      have He := Lib.hid he
      obtain ⟨u, hu⟩ : ∃ u, (e.to_ == t) = u := ⟨_, rfl⟩
      rw [hu] at cF
      have Hu := Lib.hid hu
      obtain ⟨x, hx⟩ : ∃ x, e.to_ = x := ⟨_, rfl⟩
      obtain ⟨xs, hxs⟩ : ∃ x, e.c.s = x := ⟨_, rfl⟩
      obtain ⟨xd, hxd⟩ : ∃ x, e.c.d = x := ⟨_, rfl⟩
      obtain ⟨xm, hxm⟩ : ∃ x, e.mid = x := ⟨_, rfl⟩
      rw [hx] at a1 cF
      rw [hxs] at a2 cF
      rw [hxd] at a3 cF
      rw [hxm] at a4 cF
      clear hA he hu hx hxs hxd hxm
      go_wp2_with fail
      (with_reducible refine cF.out.mono ?_)
      rintro r w2 ⟨rfl, hb2⟩
      have HB2 := bel_trans HB hb2
      clear a1 a2 a3 a4 cF hix hb2 HB
      cases u with
      | true =>
        have hfin : IdxD w L t (.returned (.int .i64 (k : Nat))) w2 := .inr ⟨k, e, rfl, He.out, by simpa using Hu.out, Hno.out, HB2⟩
        have hfin := Lib.hid hfin
        clear HB2
        go_wp2
        go_ret
        exact hfin.out
      | false =>
        have hno2 : ∀ j e', L[j]? = some e' → j < k + 1 → e'.to_ ≠ t := fun j e' he' hj => by
          by_cases e1 : j = k
          · subst e1
            rw [He.out] at he'
            injection he' with he'
            subst he'
            simpa using Hu.out
          · exact Hno.out j e' he' (by omega)
        have Hno2 := Lib.hid hno2
        clear hno2
        go_wp2
        go_roundw
        case rel => exact ⟨k + 1, by go_num, by omega, Hno2.out, HB2⟩
        case measure => simp [intOf]; omega
    · obtain rfl : k = n := by omega
      have hfin : IdxD w L t (.returned (.int .i64 (-1))) wr := .inl ⟨rfl, fun e he => by
        obtain ⟨j, hj⟩ := List.getElem?_of_mem he
        exact Hno.out j e hj (by have := (List.getElem?_eq_some_iff.1 hj).1; have := Hn.out; omega), HB⟩
      have hfin := Lib.hid hfin
      clear HB
      go_wp2
      go_ret
      exact hfin.out
/-- edges without those to t -/
def delE (L : List Ed) (t : Int) : List Ed := L.filter fun e => !(e.to_ == t)
/-- what DeleteFunc hands back -/
def DelD (w : World) (v : Value) (L : List Ed) (e : Ending) (w' : World) : Prop := ∃ v', e = .returned v' ∧ OwnE w' 0 v' L ∧ Kept v.ownBlock.toList w w' ∧ v'.ownBlock = v.ownBlock
/-- a row whose first n edges are these -/
def RowE (w : World) (g cap n : Nat) (M : List Ed) : Prop := ∃ cur, w.heap[g]? = some (.cells cur 70 (0, 0)) ∧ cur.size = cap * 4 ∧ n ≤ cap ∧ cap ≤ maxLen ∧ M.length = n ∧ cur.toList.take (n * 4) = edL M
theorem RowE.lt {w : World} {g cap n : Nat} {M : List Ed} (h : RowE w g cap n M) : g < w.heap.size := by
  obtain ⟨cur, h1, _⟩ := h
  exact (Array.getElem?_eq_some_iff.1 h1).1
theorem RowE.below {w w' : World} {g cap n : Nat} {M : List Ed} (h : RowE w g cap n M) (hb : Below w.heap.size w w') : RowE w' g cap n M := by
  have hl := h.lt
  obtain ⟨cur, h1, h2⟩ := h
  exact ⟨cur, (hb.block g hl).trans h1, h2⟩
theorem RowE.get {w : World} {g cap n : Nat} {M : List Ed} (h : RowE w g cap n M) {j : Nat} {e : Ed} (he : M[j]? = some e) : w.cell? ⟨g, j * 4, none⟩ = some (.int .i64 e.to_) ∧ w.cell? ⟨g, j * 4 + 1, none⟩ = some (.int .i64 e.c.s) ∧ w.cell? ⟨g, j * 4 + 2, none⟩ = some (.int .i64 e.c.d) ∧ w.cell? ⟨g, j * 4 + 3, none⟩ = some (.int .i64 e.mid) := by
  obtain ⟨cur, h1, h2, h3, h4, h5, h6⟩ := h
  have key : ∀ k v, (edL M)[k]? = some v → w.cell? ⟨g, k, none⟩ = some v := fun k v hv => by
    rw [← h6, List.getElem?_take] at hv
    split at hv
    · rw [Array.getElem?_toList] at hv; simp [World.cell?, h1, hv]
    · cases hv
  obtain ⟨a, b, c, d⟩ := edL_get M j e he
  exact ⟨key _ _ a, key _ _ b, key _ _ c, key _ _ d⟩
theorem edL_set : ∀ (M : List Ed) (i : Nat) (e : Ed), i < M.length → edL (M.set i e) = ((((edL M).set (i * 4) (.int .i64 e.to_)).set (i * 4 + 1) (.int .i64 e.c.s)).set (i * 4 + 2) (.int .i64 e.c.d)).set (i * 4 + 3) (.int .i64 e.mid)
  | [], i, e, h => by simp at h
  | x :: M, 0, e, h => by
    rw [List.set_cons_zero, edL_cons, edL_cons]
    simp [Ed.cells]
  | x :: M, i + 1, e, h => by
    rw [List.set_cons_succ, edL_cons, edL_cons, edL_set M i e (by simpa using h)]
    have l4 : x.cells.length = 4 := rfl
    have key : ∀ (a b : List Value) (k : Nat) (v : Value), a.length = 4 → (a ++ b).set (4 + k) v = a ++ b.set k v := fun a b k v ha => by
      rw [List.set_append_right _ _ (by omega), ha, show 4 + k - 4 = k by omega]
    rw [show (i + 1) * 4 + 1 = 4 + (i * 4 + 1) by omega, show (i + 1) * 4 + 2 = 4 + (i * 4 + 2) by omega, show (i + 1) * 4 + 3 = 4 + (i * 4 + 3) by omega, show (i + 1) * 4 = 4 + i * 4 by omega]
    rw [key _ _ _ _ l4, key _ _ _ _ l4, key _ _ _ _ l4, key _ _ _ _ l4]
theorem RowE.set {w : World} {g cap n : Nat} {M : List Ed} (h : RowE w g cap n M) {i : Nat} (hi : i < n) (e : Ed) :
    RowE ((((w.setCell ⟨g, i * 4, none⟩ (.int .i64 e.to_)).setCell ⟨g, i * 4 + 1, none⟩ (.int .i64 e.c.s)).setCell ⟨g, i * 4 + 2, none⟩ (.int .i64 e.c.d)).setCell ⟨g, i * 4 + 3, none⟩ (.int .i64 e.mid)) g cap n (M.set i e) := by
  obtain ⟨cur, h1, h2, h3, h4, h5, h6⟩ := h
  refine ⟨_, set_heap1 _ _ _ _ _ _ (set_heap1 _ _ _ _ _ _ (set_heap1 _ _ _ _ _ _ (set_heap1 _ _ _ _ _ _ h1))), by simp [h2], h3, h4, by simp [h5], ?_⟩
  rw [edL_set M i e (by omega), ← h6]
  simp only [Array.toList_setIfInBounds, List.take_set]
/-- what holds at a round's head: so many are kept of the first j -/
def DelI (w w1 : World) (g cap n : Nat) (L : List Ed) (t : Int) (i j : Nat) (wr : World) : Prop :=
  ∃ M, RowE wr g cap n M ∧ M.take i = delE (L.take j) t ∧ M.drop j = L.drop j ∧ Kept [g] w wr ∧ Kept [g] w1 wr
theorem DelI.start {w w1 : World} {g cap n : Nat} {L : List Ed} {t : Int} {k : Nat} {e : Ed} (h : RowE w g cap n L) (hb : Below w.heap.size w w1) (he : L[k]? = some e) (het : e.to_ = t) (hno : ∀ j e', L[j]? = some e' → j < k → e'.to_ ≠ t) : DelI w w1 g cap n L t k (k + 1) w1 := by
  refine ⟨L, h.below hb, ?_, rfl, Kept.of_below hb, Kept.refl _ _⟩
  unfold delE
  have hk := (List.getElem?_eq_some_iff.1 he).1
  rw [List.take_add_one, he, List.filter_append]
  have e1 : (L.take k).filter (fun e => !(e.to_ == t)) = L.take k := by
    rw [List.filter_eq_self]
    intro x hx
    obtain ⟨j, hj⟩ := List.getElem?_of_mem hx
    rw [List.getElem?_take] at hj
    split at hj
    · have := hno j x hj (by assumption)
      simpa using this
    · cases hj
  rw [e1]
  simp [het]
theorem DelI.below {w w1 wr w' : World} {g cap n : Nat} {L : List Ed} {t : Int} {i j : Nat} (h : DelI w w1 g cap n L t i j wr) (hb : Below wr.heap.size wr w') : DelI w w1 g cap n L t i j w' := by
  obtain ⟨M, h1, h2, h3, h4, h5⟩ := h
  exact ⟨M, h1.below hb, h2, h3, h4.trans (Kept.of_below hb), h5.trans (Kept.of_below hb)⟩
theorem DelI.lt {w w1 wr : World} {g cap n : Nat} {L : List Ed} {t : Int} {i j : Nat} (h : DelI w w1 g cap n L t i j wr) : g < wr.heap.size := by
  obtain ⟨M, h1, _⟩ := h
  exact h1.lt
theorem drop_get {M L : List Ed} {j : Nat} {e : Ed} (h : M.drop j = L.drop j) (he : L[j]? = some e) : M[j]? = some e := by
  have := congrArg (fun l : List Ed => l[0]?) h
  simp only [List.getElem?_drop, Nat.add_zero] at this
  rw [this]; exact he
theorem DelI.get {w w1 wr : World} {g cap n : Nat} {L : List Ed} {t : Int} {i j : Nat} (h : DelI w w1 g cap n L t i j wr) {e : Ed} (he : L[j]? = some e) : wr.cell? ⟨g, j * 4, none⟩ = some (.int .i64 e.to_) ∧ wr.cell? ⟨g, j * 4 + 1, none⟩ = some (.int .i64 e.c.s) ∧ wr.cell? ⟨g, j * 4 + 2, none⟩ = some (.int .i64 e.c.d) ∧ wr.cell? ⟨g, j * 4 + 3, none⟩ = some (.int .i64 e.mid) := by
  obtain ⟨M, h1, h2, h3, _⟩ := h
  exact h1.get (drop_get h3 he)
theorem DelI.there {w w1 wr : World} {g cap n : Nat} {L : List Ed} {t : Int} {i j : Nat} (h : DelI w w1 g cap n L t i j wr) (hi : i < n) : ∃ u1 u2 u3 u4 : Value, wr.cell? ⟨g, i * 4, none⟩ = some u1 ∧ wr.cell? ⟨g, i * 4 + 1, none⟩ = some u2 ∧ wr.cell? ⟨g, i * 4 + 2, none⟩ = some u3 ∧ wr.cell? ⟨g, i * 4 + 3, none⟩ = some u4 := by
  obtain ⟨M, h1, _⟩ := h
  have hl : i < M.length := by obtain ⟨_, _, _, _, _, q, _⟩ := h1; omega
  obtain ⟨a, b, c, d⟩ := h1.get (List.getElem?_eq_getElem hl)
  exact ⟨_, _, _, _, a, b, c, d⟩
theorem DelI.free {w w1 wr : World} {g cap n : Nat} {L : List Ed} {t : Int} {i j : Nat} (h : DelI w w1 g cap n L t i j wr) : wr.frozen? ⟨g, i * 4, none⟩ = false ∧ wr.frozen? ⟨g, i * 4 + 1, none⟩ = false ∧ wr.frozen? ⟨g, i * 4 + 2, none⟩ = false ∧ wr.frozen? ⟨g, i * 4 + 3, none⟩ = false := by
  obtain ⟨M, ⟨cur, h1, _⟩, _⟩ := h
  simp [World.frozen?, h1]
theorem DelI.cell {w w1 wr : World} {g cap n : Nat} {L : List Ed} {t : Int} {i j bt : Nat} {v : Value} (h : DelI w w1 g cap n L t i j wr) (hb : bt < w1.heap.size) (hne : bt ≠ g) (hc : w1.cell? ⟨bt, 0, none⟩ = some v) : wr.cell? ⟨bt, 0, none⟩ = some v := by
  obtain ⟨M, _, _, _, _, h5⟩ := h
  exact keptc h5 (by simpa using hne) hc
theorem DelI.skip {w w1 wr : World} {g cap n : Nat} {L : List Ed} {t : Int} {i j : Nat} {e : Ed} (h : DelI w w1 g cap n L t i j wr) (he : L[j]? = some e) (het : e.to_ = t) : DelI w w1 g cap n L t i (j + 1) wr := by
  obtain ⟨M, h1, h2, h3, h4, h5⟩ := h
  refine ⟨M, h1, ?_, ?_, h4, h5⟩
  · rw [h2]
    unfold delE
    rw [List.take_add_one, he, List.filter_append]
    simp [het]
  · have := congrArg (List.drop 1) h3
    simpa [List.drop_drop] using this
theorem DelI.keep {w w1 wr : World} {g cap n : Nat} {L : List Ed} {t : Int} {i j : Nat} {e : Ed} (h : DelI w w1 g cap n L t i j wr) (he : L[j]? = some e) (het : e.to_ ≠ t) (hij : i < j) :
    DelI w w1 g cap n L t (i + 1) (j + 1) ((((wr.setCell ⟨g, i * 4, none⟩ (.int .i64 e.to_)).setCell ⟨g, i * 4 + 1, none⟩ (.int .i64 e.c.s)).setCell ⟨g, i * 4 + 2, none⟩ (.int .i64 e.c.d)).setCell ⟨g, i * 4 + 3, none⟩ (.int .i64 e.mid)) := by
  obtain ⟨M, h1, h2, h3, h4, h5⟩ := h
  have hml : M.length = n := by obtain ⟨_, _, _, _, _, q, _⟩ := h1; exact q
  have hjm := (List.getElem?_eq_some_iff.1 (drop_get h3 he)).1
  have hK : Kept [g] wr ((((wr.setCell ⟨g, i * 4, none⟩ (.int .i64 e.to_)).setCell ⟨g, i * 4 + 1, none⟩ (.int .i64 e.c.s)).setCell ⟨g, i * 4 + 2, none⟩ (.int .i64 e.c.d)).setCell ⟨g, i * 4 + 3, none⟩ (.int .i64 e.mid)) := ((((Kept.refl _ _).setCell (.inl (by simp))).setCell (.inl (by simp))).setCell (.inl (by simp))).setCell (.inl (by simp))
  refine ⟨M.set i e, h1.set (by omega) e, ?_, ?_, h4.trans hK, h5.trans hK⟩
  · unfold delE at h2 ⊢
    rw [List.take_add_one (l := L), he, List.filter_append, ← h2]
    rw [List.take_add_one, List.getElem?_set_self (by omega)]
    simp [List.take_set, het]
    exact List.set_eq_of_length_le (by simp; omega)
  · rw [List.drop_set_of_lt (by omega)]
    have := congrArg (List.drop 1) h3
    simpa [List.drop_drop] using this
theorem edge_zero : ∀ w, (zeroValue 70).run Tryz.prog w = .ok (.agg #[.int .i64 0, .int .i64 0, .int .i64 0, .int .i64 0]) w := by
  intro w
  simp [Tryz.zeroValue70]
theorem DelI.clear {w w1 wr : World} {g cap n : Nat} {L : List Ed} {t : Int} {i : Nat} (h : DelI w w1 g cap n L t i n wr) (hn : L.length = n) (hi : i < n) :
    ∃ w3, (∀ ty, (Builtin.clear_ #[59] ty #[.slice (some ⟨g, i * 4, none⟩) (n - i) (cap - i)]).run Tryz.prog wr = .ok (.tuple #[]) w3) ∧ DelD w (.slice (some ⟨g, 0, none⟩) n cap) (delE L t) (.returned (.slice (some ⟨g, 0, none⟩) i cap)) w3 := by
  obtain ⟨M, ⟨cur, h1, c2, c3, c4, c5, c6⟩, h2, _, h4, _⟩ := h
  rw [show L.take n = L by rw [← hn, List.take_length]] at h2
  obtain ⟨zs, hzs⟩ : ∃ zs, (Builtin.zeroCells (Value.agg #[.int .i64 0, .int .i64 0, .int .i64 0, .int .i64 0]).cells (n - i)).toList = zs := ⟨_, rfl⟩
  have zl : zs.length = (n - i) * 4 := by
    rw [← hzs]
    simp [Builtin.zeroCells, Value.cells]
  have z1 : ∀ v ∈ zs, v.oneCell' = true := by
    intro v hv
    rw [← hzs] at hv
    simp [Builtin.zeroCells, Value.cells] at hv
    obtain ⟨k, _, rfl⟩ := hv
    have : k % 4 = 0 ∨ k % 4 = 1 ∨ k % 4 = 2 ∨ k % 4 = 3 := by omega
    rcases this with e | e | e | e <;> rw [e] <;> rfl
  have hst := run_storeCells_at Tryz.prog g (i * 4) 70 zs 0 cur wr h1 (by omega) z1
  simp only [Nat.add_zero] at hst
  refine ⟨wr.setRow g (cur.toList.take (i * 4) ++ zs ++ cur.toList.drop (i * 4 + zs.length)).toArray, fun ty => ?_, _, rfl, ?_, ?_, rfl⟩
  rotate_left
  · have hdl : (delE L t).length = i := by rw [← h2, List.length_take]; omega
    refine ⟨by rw [edL_length], .inr ⟨g, cap, _, by rw [hdl], Nat.zero_le _, setRow_heap wr g cur _ _ _ h1, by omega, c4, ?_, ?_⟩⟩
    · simp [zl]; omega
    · rw [hdl]
      rw [List.append_assoc, List.take_append_of_le_length (by simp; omega), List.take_take, Nat.min_self, ← h2, ← edL_take, ← c6, List.take_take, Nat.min_eq_left (by omega)]
  · refine ⟨h4.os, h4.tape, h4.output, by simpa [World.setRow] using h4.size, fun k hk hne => ?_⟩
    have hne' : k ≠ g := by simpa [Value.ownBlock] using hne
    exact (setRow_other wr g k _ hne').trans (h4.block k hk (by simpa using hne'))
  · obtain ⟨m, hm⟩ : ∃ m, n - i = m + 1 := ⟨n - i - 1, by omega⟩
    rw [hm] at hzs ⊢
    simp only [Value.cells] at hzs
    simp [Builtin.clear_, run_underlying Tryz.underlying59, edge_zero, Value.cells, hzs, hst, Result.andThen]
set_option maxRecDepth 100000 in
set_option maxHeartbeats 3200000 in
theorem cut1Del (w : World) (v : Value) (L : List Ed) (bt : Nat) (t : Int) (h : OwnE w 0 v L) (hl : L.length ≤ 100000) (hc : w.cell? ⟨bt, 0, none⟩ = some (.int .i64 t)) (hbt : v.ownBlock ≠ some bt) :
    Calls Tryz.prog 99 #[v, .func (.func 100) #[] #[.pointer (some ⟨bt, 0, none⟩)]] w (DelD w v (delE L t)) := by
  obtain ⟨A0, cap0, hv0, hEd⟩ := h.eds
  have cI := Lib.hid (cut1Idx w A0 L.length cap0 L bt t hEd rfl hl hc)
  by_cases hhas : ∃ e ∈ L, e.to_ = t
  case neg =>
    subst hv0
    have hsame : delE L t = L := by
      unfold delE
      rw [List.filter_eq_self]
      intro e he
      have : e.to_ ≠ t := fun e1 => hhas ⟨e, he, e1⟩
      simpa using this
    rw [hsame]
    obtain ⟨n, hn⟩ : ∃ n, L.length = n := ⟨_, rfl⟩
    rw [hn] at cI
    have H := Lib.hid h
    have Hn := Lib.hid hn
    have Hhas := Lib.hid hhas
    rw [hn]
    clear h hEd hn hhas hsame
    go_enter Tryz.func99, Tryz.ntmps99
    go_wp2_with fail
    (with_reducible refine cI.out.mono ?_)
    rintro r w1 (⟨rfl, hno, hb1⟩ | ⟨k, e, rfl, he, het, _, _⟩)
    · have hfin : DelD w (.slice A0 n cap0) L (.returned (.slice A0 n cap0)) w1 := by
        have hk := Kept.of_below (S := (Value.slice A0 n cap0).ownBlock.toList) hb1
        exact ⟨_, rfl, by have := H.out.kept (T := []) (.of_below hb1) (fun _ _ => by simp); rw [Hn.out] at this; exact this, hk, rfl⟩
      have hfin := Lib.hid hfin
      clear cI hno hb1
      go_wp2
      go_ret
      exact hfin.out
    · exact absurd ⟨e, List.mem_of_getElem? he, het⟩ Hhas.out
  rcases h.2 with ⟨e0, h0⟩ | ⟨g, cap, cur, e0, _, hg, hnc, hcm, hcs, htake⟩
  · exfalso
    obtain ⟨e, he, _⟩ := hhas
    have : L = [] := List.eq_nil_of_length_eq_zero h0
    subst this
    simp at he
  subst e0
  injection hv0 with e1 e2 e3
  subst e1; subst e3
  have hrow : RowE w g cap L.length L := ⟨cur, hg, hcs, hnc, hcm, rfl, htake⟩
  have hbg : bt ≠ g := fun e => hbt (by rw [e]; rfl)
  have hlen : L.length = L.length := rfl
  obtain ⟨n, hn⟩ : ∃ n, L.length = n := ⟨_, rfl⟩
  rw [hn] at cI hrow hnc hl ⊢
  have Hn := Lib.hid hn
  have Hhas := Lib.hid hhas
  have Hc := Lib.hid hc
  have Hrow := Lib.hid hrow
  have hcm : cap ≤ 9223372036854775807 := hcm
  clear h hEd hhas hg hcs htake hrow hlen hn hc
  go_enter Tryz.func99, Tryz.ntmps99
  go_wp2_with fail
  (with_reducible refine cI.out.mono ?_)
  rintro r w1 (⟨rfl, hno, hb1⟩ | ⟨k, e, rfl, he, het, hbefore, hb1⟩)
  · obtain ⟨e, he, het⟩ := Hhas.out
    exact absurd het (hno e he)
  have hkn : k < n := by have := (List.getElem?_eq_some_iff.1 he).1; have := Hn.out; omega
  have hk0 : ((k : Int) == -1) = false := beq_eq_false_iff_ne.2 (by omega)
  have hstart : DelI w w1 g cap n L t k (k + 1) w1 := DelI.start Hrow.out hb1 he het hbefore
  have hc1 := Lib.hid (bel_cell hb1 Hc.out)
  have hB1 := Lib.hid hb1
  have hbt1 : bt < w1.heap.size := World.block_lt_of_cell? _ _ hc1.out
  have hw1 : IntKind.i64.wrap ((k : Int) + 1) = ((k + 1 : Nat) : Int) := by rw [IntWalk.i64_in _ (by omega)]; omega
  clear cI he het hbefore hb1
  go_wp2_with fail
  clear hw1 hk0
  obtain ⟨wz, rfl⟩ : ∃ wz : World, wz = w1 := ⟨_, rfl⟩
  go_loopw [5, 6] (fun iv jv wr => ∃ i j : Nat, iv = .int .i64 i ∧ jv = .int .i64 j ∧ i < j ∧ j ≤ n ∧ DelI w wz g cap n L t i j wr) (fun _ jv _ => n - (intOf jv).toNat)
  case atStart => exact ⟨k, k + 1, rfl, rfl, by omega, by omega, hstart⟩
  case round =>
    obtain ⟨i, j, rfl, rfl, hij, hjn, hI⟩ := hrel
    have HI := Lib.hid hI
    clear hstart hI
    by_cases hlt : j < n
    · obtain ⟨e, he⟩ : ∃ e, L[j]? = some e := ⟨L[j]'(by rw [Hn.out]; exact hlt), List.getElem?_eq_getElem _⟩
      have He := Lib.hid he
      obtain ⟨a1, a2, a3, a4⟩ := HI.out.get he
      have hix := fun wx => idxE (A := some ⟨g, 0, none⟩) (m := cap) rfl hlt wx
      have hixi := fun wx => idxE (A := some ⟨g, 0, none⟩) (m := cap) (n := n) (k := i) rfl (by omega) wx
      have hcr := HI.out.cell hbt1 hbg hc1.out
      have cF := Lib.hid (fun w' (hb : Below wr.heap.size wr w') => cut1Cl w' bt e t (bel_cell hb hcr))
      obtain ⟨u, hu⟩ : ∃ u, (e.to_ == t) = u := ⟨_, rfl⟩
      rw [hu] at cF
      have Hu := Lib.hid hu
      have hgw := HI.out.lt
      obtain ⟨x, hx⟩ : ∃ x, e.to_ = x := ⟨_, rfl⟩
      obtain ⟨xs, hxs⟩ : ∃ x, e.c.s = x := ⟨_, rfl⟩
      obtain ⟨xd, hxd⟩ : ∃ x, e.c.d = x := ⟨_, rfl⟩
      obtain ⟨xm, hxm⟩ : ∃ x, e.mid = x := ⟨_, rfl⟩
      rw [hx] at a1 cF
      rw [hxs] at a2 cF
      rw [hxd] at a3 cF
      rw [hxm] at a4 cF
      have Hx := Lib.hid (And.intro hx (And.intro hxs (And.intro hxd hxm)))
      clear he hu hcr hx hxs hxd hxm
      go_upto_region 8 with (fail)
      refine wp_name ?_
      intro Wq hWq
      have HWq : Below wr.heap.size wr Wq := by rw [hWq]; (repeat' (first | exact Below.refl _ _ | assumption | apply bel_drewN | apply bel_drew | apply bel_alloc | (refine bel_trans ?_ (by assumption))))
      have q0 : Wq.cell? ⟨wr.heap.size, 0, none⟩ = some (.int .i64 x) := by rw [hWq]; go_simp
      have q1 : Wq.cell? ⟨wr.heap.size, 1, none⟩ = some (.int .i64 xs) := by rw [hWq]; go_simp
      have q2 : Wq.cell? ⟨wr.heap.size, 2, none⟩ = some (.int .i64 xd) := by rw [hWq]; go_simp
      have q3 : Wq.cell? ⟨wr.heap.size, 3, none⟩ = some (.int .i64 xm) := by rw [hWq]; go_simp
      obtain ⟨bq, hbq⟩ : ∃ z, wr.heap.size = z := ⟨_, rfl⟩
      have hgq : g < bq := by omega
      have HIq := Lib.hid (HI.out.below HWq)
      have Hbq := Lib.hid hbq
      rw [hbq] at q0 q1 q2 q3 ⊢
      clear hWq hbq a1 a2 a3 a4 hix
      go_wp2_with fail
      (with_reducible refine (cF.out _ HWq).mono ?_)
      rintro r w2 ⟨rfl, hb2⟩
      have HI2 := Lib.hid (HIq.out.below hb2)
      have q0 := bel_cell hb2 q0
      have q1 := bel_cell hb2 q1
      have q2 := bel_cell hb2 q2
      have q3 := bel_cell hb2 q3
      clear hb2 HWq cF HI HIq
      cases u with
      | true =>
        have hF : DelI w wz g cap n L t i (j + 1) w2 := HI2.out.skip He.out (by simpa using Hu.out)
        have hF := Lib.hid hF
        clear q0 q1 q2 q3
        go_wp2
        go_roundw
        case rel => first | exact ⟨i, j + 1, rfl, by go_num, by omega, by omega, hF.out⟩ | ((repeat apply Exists.intro); exact ⟨⟨i, j + 1, rfl, by go_num, by omega, by omega, hF.out⟩, rfl⟩)
        case measure => simp [intOf]; omega
      | false =>
        obtain ⟨f1, f2, f3, f4⟩ := HI2.out.free (i := i)
        obtain ⟨p1, p2, p3, p4, o1, o2, o3, o4⟩ := HI2.out.there (i := i) (by omega)
        have hF : DelI w wz g cap n L t (i + 1) (j + 1) ((((w2.setCell ⟨g, i * 4, none⟩ (.int .i64 x)).setCell ⟨g, i * 4 + 1, none⟩ (.int .i64 xs)).setCell ⟨g, i * 4 + 2, none⟩ (.int .i64 xd)).setCell ⟨g, i * 4 + 3, none⟩ (.int .i64 xm)) := by
          have := HI2.out.keep He.out (by simpa using Hu.out) (by omega : i < j)
          rw [Hx.out.1, Hx.out.2.1, Hx.out.2.2.1, Hx.out.2.2.2] at this
          exact this
        have hF := Lib.hid hF
        go_upto_region 10 with (fail)
        clear f1 f2 f3 f4 o1 o2 o3 o4 q0 q1 q2 q3 hixi
        generalize ((((w2.setCell ⟨g, i * 4, none⟩ (.int .i64 x)).setCell ⟨g, i * 4 + 1, none⟩ (.int .i64 xs)).setCell ⟨g, i * 4 + 2, none⟩ (.int .i64 xd)).setCell ⟨g, i * 4 + 3, none⟩ (.int .i64 xm)) = w3 at hF ⊢
        have hwi : IntKind.i64.wrap ((i : Int) + 1) = ((i + 1 : Nat) : Int) := by rw [IntWalk.i64_in _ (by omega)]; omega
        go_wp2
        go_roundw
        case rel => first | exact ⟨i + 1, j + 1, rfl, by go_num, by omega, by omega, hF.out⟩ | ((repeat apply Exists.intro); exact ⟨⟨i + 1, j + 1, rfl, by go_num, by omega, by omega, hF.out⟩, rfl⟩)
        case measure => simp [intOf]; omega
    · obtain rfl : j = n := by omega
      obtain ⟨w3, hcl, hfin⟩ := HI.out.clear Hn.out hij
      have hfin := Lib.hid hfin
      have hci : ¬ cap = i := by omega
      have hin : i ≤ j := by omega
      have hic : i ≤ cap := by omega
      clear HI
      go_wp2
      go_ret
      exact hfin.out
set_option maxRecDepth 100000 in
set_option maxHeartbeats 3200000 in
theorem cut2Del (w : World) (v : Value) (L : List Ed) (bt : Nat) (t : Int) (h : OwnE w 0 v L) (hl : L.length ≤ 100000) (hc : w.cell? ⟨bt, 0, none⟩ = some (.int .i64 t)) (hbt : v.ownBlock ≠ some bt) :
    Calls Tryz.prog 99 #[v, .func (.func 101) #[] #[.pointer (some ⟨bt, 0, none⟩)]] w (DelD w v (delE L t)) := by
  obtain ⟨A0, cap0, hv0, hEd⟩ := h.eds
  have cI := Lib.hid (cut2Idx w A0 L.length cap0 L bt t hEd rfl hl hc)
  by_cases hhas : ∃ e ∈ L, e.to_ = t
  case neg =>
    subst hv0
    have hsame : delE L t = L := by
      unfold delE
      rw [List.filter_eq_self]
      intro e he
      have : e.to_ ≠ t := fun e1 => hhas ⟨e, he, e1⟩
      simpa using this
    rw [hsame]
    obtain ⟨n, hn⟩ : ∃ n, L.length = n := ⟨_, rfl⟩
    rw [hn] at cI
    have H := Lib.hid h
    have Hn := Lib.hid hn
    have Hhas := Lib.hid hhas
    rw [hn]
    clear h hEd hn hhas hsame
    go_enter Tryz.func99, Tryz.ntmps99
    go_wp2_with fail
    (with_reducible refine cI.out.mono ?_)
    rintro r w1 (⟨rfl, hno, hb1⟩ | ⟨k, e, rfl, he, het, _, _⟩)
    · have hfin : DelD w (.slice A0 n cap0) L (.returned (.slice A0 n cap0)) w1 := by
        have hk := Kept.of_below (S := (Value.slice A0 n cap0).ownBlock.toList) hb1
        exact ⟨_, rfl, by have := H.out.kept (T := []) (.of_below hb1) (fun _ _ => by simp); rw [Hn.out] at this; exact this, hk, rfl⟩
      have hfin := Lib.hid hfin
      clear cI hno hb1
      go_wp2
      go_ret
      exact hfin.out
    · exact absurd ⟨e, List.mem_of_getElem? he, het⟩ Hhas.out
  rcases h.2 with ⟨e0, h0⟩ | ⟨g, cap, cur, e0, _, hg, hnc, hcm, hcs, htake⟩
  · exfalso
    obtain ⟨e, he, _⟩ := hhas
    have : L = [] := List.eq_nil_of_length_eq_zero h0
    subst this
    simp at he
  subst e0
  injection hv0 with e1 e2 e3
  subst e1; subst e3
  have hrow : RowE w g cap L.length L := ⟨cur, hg, hcs, hnc, hcm, rfl, htake⟩
  have hbg : bt ≠ g := fun e => hbt (by rw [e]; rfl)
  have hlen : L.length = L.length := rfl
  obtain ⟨n, hn⟩ : ∃ n, L.length = n := ⟨_, rfl⟩
  rw [hn] at cI hrow hnc hl ⊢
  have Hn := Lib.hid hn
  have Hhas := Lib.hid hhas
  have Hc := Lib.hid hc
  have Hrow := Lib.hid hrow
  have hcm : cap ≤ 9223372036854775807 := hcm
  clear h hEd hhas hg hcs htake hrow hlen hn hc
  go_enter Tryz.func99, Tryz.ntmps99
  go_wp2_with fail
  (with_reducible refine cI.out.mono ?_)
  rintro r w1 (⟨rfl, hno, hb1⟩ | ⟨k, e, rfl, he, het, hbefore, hb1⟩)
  · obtain ⟨e, he, het⟩ := Hhas.out
    exact absurd het (hno e he)
  have hkn : k < n := by have := (List.getElem?_eq_some_iff.1 he).1; have := Hn.out; omega
  have hk0 : ((k : Int) == -1) = false := beq_eq_false_iff_ne.2 (by omega)
  have hstart : DelI w w1 g cap n L t k (k + 1) w1 := DelI.start Hrow.out hb1 he het hbefore
  have hc1 := Lib.hid (bel_cell hb1 Hc.out)
  have hB1 := Lib.hid hb1
  have hbt1 : bt < w1.heap.size := World.block_lt_of_cell? _ _ hc1.out
  have hw1 : IntKind.i64.wrap ((k : Int) + 1) = ((k + 1 : Nat) : Int) := by rw [IntWalk.i64_in _ (by omega)]; omega
  clear cI he het hbefore hb1
  go_wp2_with fail
  clear hw1 hk0
  obtain ⟨wz, rfl⟩ : ∃ wz : World, wz = w1 := ⟨_, rfl⟩
  go_loopw [5, 6] (fun iv jv wr => ∃ i j : Nat, iv = .int .i64 i ∧ jv = .int .i64 j ∧ i < j ∧ j ≤ n ∧ DelI w wz g cap n L t i j wr) (fun _ jv _ => n - (intOf jv).toNat)
  case atStart => exact ⟨k, k + 1, rfl, rfl, by omega, by omega, hstart⟩
  case round =>
    obtain ⟨i, j, rfl, rfl, hij, hjn, hI⟩ := hrel
    have HI := Lib.hid hI
    clear hstart hI
    by_cases hlt : j < n
    · obtain ⟨e, he⟩ : ∃ e, L[j]? = some e := ⟨L[j]'(by rw [Hn.out]; exact hlt), List.getElem?_eq_getElem _⟩
      have He := Lib.hid he
      obtain ⟨a1, a2, a3, a4⟩ := HI.out.get he
      have hix := fun wx => idxE (A := some ⟨g, 0, none⟩) (m := cap) rfl hlt wx
      have hixi := fun wx => idxE (A := some ⟨g, 0, none⟩) (m := cap) (n := n) (k := i) rfl (by omega) wx
      have hcr := HI.out.cell hbt1 hbg hc1.out
      have cF := Lib.hid (fun w' (hb : Below wr.heap.size wr w') => cut2Cl w' bt e t (bel_cell hb hcr))
      obtain ⟨u, hu⟩ : ∃ u, (e.to_ == t) = u := ⟨_, rfl⟩
      rw [hu] at cF
      have Hu := Lib.hid hu
      have hgw := HI.out.lt
      obtain ⟨x, hx⟩ : ∃ x, e.to_ = x := ⟨_, rfl⟩
      obtain ⟨xs, hxs⟩ : ∃ x, e.c.s = x := ⟨_, rfl⟩
      obtain ⟨xd, hxd⟩ : ∃ x, e.c.d = x := ⟨_, rfl⟩
      obtain ⟨xm, hxm⟩ : ∃ x, e.mid = x := ⟨_, rfl⟩
      rw [hx] at a1 cF
      rw [hxs] at a2 cF
      rw [hxd] at a3 cF
      rw [hxm] at a4 cF
      have Hx := Lib.hid (And.intro hx (And.intro hxs (And.intro hxd hxm)))
      clear he hu hcr hx hxs hxd hxm
      go_upto_region 8 with (fail)
      refine wp_name ?_
      intro Wq hWq
      have HWq : Below wr.heap.size wr Wq := by rw [hWq]; (repeat' (first | exact Below.refl _ _ | assumption | apply bel_drewN | apply bel_drew | apply bel_alloc | (refine bel_trans ?_ (by assumption))))
      have q0 : Wq.cell? ⟨wr.heap.size, 0, none⟩ = some (.int .i64 x) := by rw [hWq]; go_simp
      have q1 : Wq.cell? ⟨wr.heap.size, 1, none⟩ = some (.int .i64 xs) := by rw [hWq]; go_simp
      have q2 : Wq.cell? ⟨wr.heap.size, 2, none⟩ = some (.int .i64 xd) := by rw [hWq]; go_simp
      have q3 : Wq.cell? ⟨wr.heap.size, 3, none⟩ = some (.int .i64 xm) := by rw [hWq]; go_simp
      obtain ⟨bq, hbq⟩ : ∃ z, wr.heap.size = z := ⟨_, rfl⟩
      have hgq : g < bq := by omega
      have HIq := Lib.hid (HI.out.below HWq)
      have Hbq := Lib.hid hbq
      rw [hbq] at q0 q1 q2 q3 ⊢
      clear hWq hbq a1 a2 a3 a4 hix
      go_wp2_with fail
      (with_reducible refine (cF.out _ HWq).mono ?_)
      rintro r w2 ⟨rfl, hb2⟩
      have HI2 := Lib.hid (HIq.out.below hb2)
      have q0 := bel_cell hb2 q0
      have q1 := bel_cell hb2 q1
      have q2 := bel_cell hb2 q2
      have q3 := bel_cell hb2 q3
      clear hb2 HWq cF HI HIq
      cases u with
      | true =>
        have hF : DelI w wz g cap n L t i (j + 1) w2 := HI2.out.skip He.out (by simpa using Hu.out)
        have hF := Lib.hid hF
        clear q0 q1 q2 q3
        go_wp2
        go_roundw
        case rel => first | exact ⟨i, j + 1, rfl, by go_num, by omega, by omega, hF.out⟩ | ((repeat apply Exists.intro); exact ⟨⟨i, j + 1, rfl, by go_num, by omega, by omega, hF.out⟩, rfl⟩)
        case measure => simp [intOf]; omega
      | false =>
        obtain ⟨f1, f2, f3, f4⟩ := HI2.out.free (i := i)
        obtain ⟨p1, p2, p3, p4, o1, o2, o3, o4⟩ := HI2.out.there (i := i) (by omega)
        have hF : DelI w wz g cap n L t (i + 1) (j + 1) ((((w2.setCell ⟨g, i * 4, none⟩ (.int .i64 x)).setCell ⟨g, i * 4 + 1, none⟩ (.int .i64 xs)).setCell ⟨g, i * 4 + 2, none⟩ (.int .i64 xd)).setCell ⟨g, i * 4 + 3, none⟩ (.int .i64 xm)) := by
          have := HI2.out.keep He.out (by simpa using Hu.out) (by omega : i < j)
          rw [Hx.out.1, Hx.out.2.1, Hx.out.2.2.1, Hx.out.2.2.2] at this
          exact this
        have hF := Lib.hid hF
        go_upto_region 10 with (fail)
        clear f1 f2 f3 f4 o1 o2 o3 o4 q0 q1 q2 q3 hixi
        generalize ((((w2.setCell ⟨g, i * 4, none⟩ (.int .i64 x)).setCell ⟨g, i * 4 + 1, none⟩ (.int .i64 xs)).setCell ⟨g, i * 4 + 2, none⟩ (.int .i64 xd)).setCell ⟨g, i * 4 + 3, none⟩ (.int .i64 xm)) = w3 at hF ⊢
        have hwi : IntKind.i64.wrap ((i : Int) + 1) = ((i + 1 : Nat) : Int) := by rw [IntWalk.i64_in _ (by omega)]; omega
        go_wp2
        go_roundw
        case rel => first | exact ⟨i + 1, j + 1, rfl, by go_num, by omega, by omega, hF.out⟩ | ((repeat apply Exists.intro); exact ⟨⟨i + 1, j + 1, rfl, by go_num, by omega, by omega, hF.out⟩, rfl⟩)
        case measure => simp [intOf]; omega
    · obtain rfl : j = n := by omega
      obtain ⟨w3, hcl, hfin⟩ := HI.out.clear Hn.out hij
      have hfin := Lib.hid hfin
      have hci : ¬ cap = i := by omega
      have hin : i ≤ j := by omega
      have hic : i ≤ cap := by omega
      clear HI
      go_wp2
      go_ret
      exact hfin.out
end Go.Proofs.YtjejkadaafmdcaaGreat
