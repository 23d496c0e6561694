/- Lemmas of this claim: Nav1. -/
import Derived.Test.YtkpcenjnjjmmkaaGreatDoorKTopBack9
import Derived.Test.YtkpcenjnjjmmkaaGreatDoorKTopBack3
import Derived.Test.YtkpcenjnjjmmkaaGreatDoorKTopBack4
import Derived.Test.YtkpcenjnjjmmkaaGreatDoorKTopBack14
import Derived.Test.YtkpcenjnjjmmkaaGreatDoorKTopBack18
import Derived.Test.YtkpcenjnjjmmkaaGreatDoorKTopBack27
import Derived.Test.YtkpcenjnjjmmkaaGreatDoorTxParse
set_option linter.unusedVariables false
set_option linter.unusedSimpArgs false
/- A service over a grid: how it is laid. -/
namespace Go.Proofs.YtkpcenjnjjmmkaaGreatDoor
open Go.RowKit Go.Sort FR Go.Lib
/-- block s is a service over a grid -/
def ServAt (w : World) (s : Nat) (g : G) (v : Int) (most : Nat) : Prop :=
  ∃ pg pt rb rp rm lb lm le S E Sb nl, w.heap[s]? = some (.cells #[.pointer (some ⟨pg, 0, none⟩), .pointer (some ⟨pt, 0, none⟩), .pointer (some ⟨rb, 0, none⟩), .pointer (some ⟨lb, 0, none⟩), .int .i64 (most : Nat)] 75 (0, 0)) ∧ 1 ≤ most ∧ most ≤ 6 ∧
    GridAt w pg g v ∧ GraphOf w rb rp rm S g v E ∧ GSpec g (fun _ _ => True) E ∧ LvOf w lb lm le Sb ((LS.all g (cornersN g) most).2 : Nat) (levV g (LS.all g (cornersN g) most).1) nl (egE g (LS.all g (cornersN g) most).1)
theorem ServAt.below {w w' : World} {s : Nat} {g : G} {v : Int} {most : Nat} (h : ServAt w s g v most) (hb : Below w.heap.size w w') : ServAt w' s g v most := by
  obtain ⟨pg, pt, rb, rp, rm, lb, lm, le, S, E, Sb, nl, h1, h2, h3, h4, h5, h6, h7⟩ := h
  exact ⟨pg, pt, rb, rp, rm, lb, lm, le, S, E, Sb, nl, (hb.block s (Array.getElem?_eq_some_iff.1 h1).1).trans h1, h2, h3, h4.below hb h4.lt, h5.below hb, h6, h7.below hb⟩
/-- a service is handed back -/
def ServD (w : World) (g : G) (v : Int) (most : Nat) (e : Ending) (w' : World) : Prop := ∃ s, e = .returned (.tuple #[.pointer (some ⟨s, 0, none⟩), .nilIface]) ∧ w.heap.size ≤ s ∧ ServAt w' s g v most ∧ Below w.heap.size w w'
set_option maxRecDepth 100000 in
set_option maxHeartbeats 1600000 in
theorem navOver_bad (w : World) (q : Nat) (g : G) (v most : Int) (h : GridAt w q g v) (hm : most < 1 ∨ 6 < most) :
    Calls Tryz.prog 23 #[.pointer (some ⟨q, 0, none⟩), .int .i64 most] w fun e w' => e = .returned (.tuple #[.pointer none, .iface 39 (.int .i64 1)]) ∧ Below w.heap.size w w' := by
  have cT := Lib.hid (tabNew w q g v h)
  replace hm := Lib.hid hm
  go_enter Tryz.func23, Tryz.ntmps23
  go_wp2_with fail
  refine cT.out.mono ?_
  rintro e w1 ⟨t, p1, rfl, _, _, f, _, _, _, hb1⟩
  have cG := Lib.hid (graphNew w1 q g v (h.below hb1 h.lt))
  clear h cT
  go_wp2_with fail
  refine cG.out.mono ?_
  rintro e w2 ⟨b, p, mb, S, E, rfl, _, _, _, hb2⟩
  have HB2 := bel_trans hb1 hb2
  clear cG hb1 hb2
  go_wp2_with fail
  refine (lvNew_bad _ b most hm.out).mono ?_
  rintro e w3 ⟨rfl, hb3⟩
  have HB3 := bel_trans (bel_alloc HB2) hb3
  go_wp2_with fail
  go_ret2
  exact ⟨rfl, HB3⟩
set_option maxRecDepth 100000 in
set_option maxHeartbeats 1600000 in
theorem navOver_ok (w : World) (q : Nat) (g : G) (v : Int) (most : Nat) (h : GridAt w q g v) (h1 : 1 ≤ most) (h2 : most ≤ 6) :
    Calls Tryz.prog 23 #[.pointer (some ⟨q, 0, none⟩), .int .i64 (most : Nat)] w (ServD w g v most) := by
  have cT := Lib.hid (tabNew w q g v h)
  go_enter Tryz.func23, Tryz.ntmps23
  go_wp2_with fail
  refine cT.out.mono ?_
  rintro e w1 ⟨t, p1, rfl, _, _, f, _, _, _, hb1⟩
  have cG := Lib.hid (graphNew w1 q g v (h.below hb1 h.lt))
  replace h := Lib.hid h
  clear cT
  go_wp2_with fail
  refine cG.out.mono ?_
  rintro e w2 ⟨b, p, mb, S, E, rfl, hGr, hGs, _, hb2⟩
  have HB2 := bel_trans hb1 hb2
  obtain ⟨s, hs⟩ : ∃ s, w2.heap.size = s := ⟨_, rfl⟩
  have cL := Lib.hid (lvNew_ok (w2.alloc (.cells #[.pointer (some ⟨q, 0, none⟩), .pointer (some ⟨t, 0, none⟩), .pointer (some ⟨b, 0, none⟩), .pointer none, .int .i64 (most : Nat)] 75)) b p mb S g v E most (hGr.below (bel_alloc (Below.refl _ _))) hGs h1 h2)
  have hnew : (w2.alloc (.cells #[.pointer (some ⟨q, 0, none⟩), .pointer (some ⟨t, 0, none⟩), .pointer (some ⟨b, 0, none⟩), .pointer none, .int .i64 (most : Nat)] 75)).heap[s]? = some (.cells #[.pointer (some ⟨q, 0, none⟩), .pointer (some ⟨t, 0, none⟩), .pointer (some ⟨b, 0, none⟩), .pointer none, .int .i64 (most : Nat)] 75 (0, 0)) := by
    rw [← hs]; exact heap_alloc_new _ _
  replace hnew := Lib.hid hnew
  replace hGr := Lib.hid hGr
  replace hGs := Lib.hid hGs
  clear cG hb1 hb2
  go_wp2_with fail
  refine cL.out.mono ?_
  rintro e w4 ⟨bl, ml, me, Sb, nl, rfl, hLv, hall, hb4⟩
  have hs4 := (hb4.block s (by rw [← hs]; simp)).trans hnew.out
  have k3 : w4.cell? ⟨s, 3, none⟩ = some (.pointer none) := by rw [Lib.cell_of_heap hs4]; rfl
  have f3 : w4.frozen? ⟨s, 3, none⟩ = false := Lib.frozen_of_heap hs4 3
  have B4 := bel_trans (bel_alloc (Below.refl w2.heap.size w2)) hb4
  have B5 := B4.setCell (p := ⟨s, 3, none⟩) (by rw [hs]; exact Nat.le_refl _) (.pointer (some ⟨bl, 0, none⟩))
  have HB5 := bel_trans HB2 B5
  have hs5 := set_heap1 w4 s 3 _ _ (.pointer (some ⟨bl, 0, none⟩)) hs4
  have hL5 := hLv.kept ((Kept.refl [s] w4).setCell (p := ⟨s, 3, none⟩) (u := .pointer (some ⟨bl, 0, none⟩)) (.inl (by simp))) (fun k hk => by
    have := hall k hk
    simp at this
    simp
    omega)
  have hG5 := hGr.out.below B5
  replace hs5 := Lib.hid hs5
  replace hL5 := Lib.hid hL5
  replace hG5 := Lib.hid hG5
  replace hs4 := Lib.hid hs4
  have hws := HB2.size
  clear hLv hall hb4 B4 B5
  go_wp2_with fail
  go_ret2
  exact ⟨s, rfl, by omega, ⟨q, t, b, p, mb, bl, ml, me, S, E, Sb, nl, hs5.out, h1, h2, h.out.below HB5 h.out.lt, hG5.out, hGs.out, hL5.out⟩, HB5⟩
/-- what Load hands back -/
def LoadD (w : World) (l : List UInt8) (most : Int) (e : Ending) (w' : World) : Prop :=
  (∃ k : Nat, 0 < k ∧ e = .returned (.tuple #[.pointer none, .iface 39 (.int .i64 (k : Nat))]) ∧ Below w.heap.size w w' ∧ ((parseS l = .bad k) ∨ ((∃ a b R, parseS l = .ok a b R) ∧ (most < 1 ∨ 6 < most) ∧ k = 1))) ∨
  ∃ a b R m s, parseS l = .ok a b R ∧ most = ((m : Nat) : Int) ∧ 1 ≤ m ∧ m ≤ 6 ∧ e = .returned (.tuple #[.pointer (some ⟨s, 0, none⟩), .nilIface]) ∧ w.heap.size ≤ s ∧ ServAt w' s (partG a b R (b * a)) (cntB (rowsB a R) (b * a)) m ∧ Below w.heap.size w w'
set_option maxRecDepth 100000 in
theorem navLoad (w : World) (hV : LibS w) (l : List UInt8) (most : Int) :
    Calls Tryz.prog 14 #[.string (bs l), .int .i64 most] w (LoadD w l most) := by
  have cP := Lib.hid (textParse w l hV)
  go_enter Tryz.func14, Tryz.ntmps14
  go_wp2_with fail
  refine cP.out.mono ?_
  rintro e w1 (⟨k, h1, h2, rfl, hb1⟩ | ⟨a, b, R, p, h1, rfl, h3, hG, hb1⟩)
  · replace h1 := Lib.hid h1
    go_wp2_with fail
    go_ret2
    exact .inl ⟨k, h2, rfl, hb1, .inl h1.out⟩
  · replace h1 := Lib.hid h1
    by_cases hm : most < 1 ∨ 6 < most
    · have cO := Lib.hid (navOver_bad w1 p _ _ most hG hm)
      replace hm := Lib.hid hm
      clear hG
      go_wp2_with fail
      refine cO.out.mono ?_
      rintro e w2 ⟨rfl, hb2⟩
      go_wp2_with fail
      go_ret2
      exact .inl ⟨1, by decide, rfl, bel_trans hb1 hb2, .inr ⟨⟨a, b, R, h1.out⟩, hm.out, rfl⟩⟩
    · obtain ⟨m, rfl⟩ := Int.eq_ofNat_of_zero_le (show 0 ≤ most by omega)
      have m1 : 1 ≤ m := by omega
      have m2 : m ≤ 6 := by omega
      have cO := Lib.hid (navOver_ok w1 p _ _ m hG m1 m2)
      clear hG hm
      go_wp2_with fail
      refine cO.out.mono ?_
      rintro e w2 ⟨s, rfl, hs, hS, hb2⟩
      have := hb1.size
      go_wp2_with fail
      go_ret2
      exact .inr ⟨a, b, R, m, s, h1.out, rfl, m1, m2, rfl, by omega, hS, bel_trans hb1 hb2⟩
end Go.Proofs.YtkpcenjnjjmmkaaGreatDoor
