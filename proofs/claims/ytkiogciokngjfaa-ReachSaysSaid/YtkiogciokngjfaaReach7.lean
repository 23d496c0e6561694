/- reach.Way: the way between two cells that are near, diagonal steps first. -/
import Derived.Test.YtkiogciokngjfaaReach6
set_option linter.unusedVariables false
set_option linter.unusedSimpArgs false
namespace Go.Proofs.Ytkiogciokngjfaa
open Go.RowKit Go.Sort FR
/-- the cells of the first places of a way -/
def wayL (g : G) (ca cb : Nat) (P : Nat → Nat × Nat) (n : Nat) : List Int := (List.range n).map fun k => ((g.fcell ca cb (P k).1 (P k).2 : Nat) : Int)
theorem wayL_succ (g : G) (ca cb : Nat) (P : Nat → Nat × Nat) (n : Nat) : wayL g ca cb P (n + 1) = wayL g ca cb P n ++ [((g.fcell ca cb (P n).1 (P n).2 : Nat) : Int)] := by
  simp [wayL, List.range_succ]
theorem wayL_length (g : G) (ca cb : Nat) (P : Nat → Nat × Nat) (n : Nat) : (wayL g ca cb P n).length = n := by simp [wayL]
theorem reachWay_bad (w : World) (p : Nat) (g : G) (v x y : Int) (f : Nat) (h : GridAt w p g v) (hf : flt2 g x y = f) (h0 : f ≠ 0) :
    Calls Try.prog 66 #[.pointer (some ⟨p, 0, none⟩), .int .i64 x, .int .i64 y] w fun e w' => e = .returned (.tuple #[.slice none 0 0, .iface 137 (.int .i64 (f : Nat))]) ∧ Below w.heap.size w w' := by
  have cF := Lib.hid (reachNear_bad w p g v x y f h hf h0)
  clear h hf h0
  go_enter Try.func66, Try.ntmps66
  go_wp2_with fail
  (with_reducible refine cF.out.mono ?_)
  rintro e w1 ⟨rfl, hb1⟩
  go_wp2
  go_ret2
  exact ⟨rfl, hb1⟩
theorem reachWay_none (w : World) (p : Nat) (g : G) (v : Int) (ca cb : Nat) (h : GridAt w p g v) (hca : ca < g.n) (hcb : cb < g.n) (ha : g.b ca = false) (hb : g.b cb = false) (hn : ¬ g.Near ca cb) :
    Calls Try.prog 66 #[.pointer (some ⟨p, 0, none⟩), .int .i64 (ca : Nat), .int .i64 (cb : Nat)] w fun e w' => e = .returned (.tuple #[.slice none 0 0, .iface 137 (.int .i64 5)]) ∧ Below w.heap.size w w' := by
  have cF := Lib.hid (reachNear_ok w p g v ca cb false h hca hcb ha hb (by simp [hn]))
  clear h hn
  go_enter Try.func66, Try.ntmps66
  go_wp2_with fail
  (with_reducible refine cF.out.mono ?_)
  rintro e w1 ⟨rfl, hb1⟩
  go_wp2
  go_ret2
  exact ⟨rfl, hb1⟩
theorem OwnI.mono {w : World} {B B' : Nat} {v : Value} {zs : List Int} (h : OwnI w B v zs) (hB : B' ≤ B) : OwnI w B' v zs := by
  refine ⟨h.1, ?_⟩
  rcases h.2 with hn | ⟨g, cap, cur, rfl, hb, rest⟩
  · exact .inl hn
  · exact .inr ⟨g, cap, cur, rfl, Nat.le_trans hB hb, rest⟩
def WayRD (w : World) (g : G) (ca cb : Nat) (e : Ending) (w' : World) : Prop := ∃ P, g.WayP ca cb P ∧ RetInts2N w (wayL g ca cb P (g.fI ca cb + g.fJ ca cb + 1)) e w'
/-- what holds at a round's head -/
def WayI (w2 : World) (g : G) (ca cb : Nat) (P : Nat → Nat × Nat) (n k : Nat) (sl iv jv : Value) (wr : World) : Prop :=
  k ≤ n ∧ iv = .int .i64 ((P k).1 : Nat) ∧ jv = .int .i64 ((P k).2 : Nat) ∧ OwnI wr w2.heap.size sl (wayL g ca cb P (k + 1)) ∧ Below w2.heap.size w2 wr
set_option maxRecDepth 100000 in
set_option maxHeartbeats 3200000 in
theorem reachWay_ok (w : World) (p : Nat) (g : G) (v : Int) (ca cb : Nat) (h : GridAt w p g v) (hca : ca < g.n) (hcb : cb < g.n) (ha : g.b ca = false) (hb : g.b cb = false) (hn : g.Near ca cb) :
    Calls Try.prog 66 #[.pointer (some ⟨p, 0, none⟩), .int .i64 (ca : Nat), .int .i64 (cb : Nat)] w (WayRD w g ca cb) := by
  have cF := Lib.hid (reachNear_ok w p g v ca cb true h hca hcb ha hb (by simp [hn]))
  have hpl := h.lt
  have hok := h.1
  have hNn := G.n_le hok
  have cN := Lib.hid (fun w' h' => newField w' p g v ca cb h' hca hcb)
  have H := Lib.hid h
  obtain ⟨P, hP⟩ := G.wayP_exist g ca cb
  have HW := Lib.hid (G.wayP_ok hok hcb hca hn hP)
  have Hok := Lib.hid hok
  have HP := Lib.hid hP
  obtain ⟨q1, q2⟩ := G.fI_le hok hcb hca
  clear h hok hP hn
  go_enter Try.func66, Try.ntmps66
  go_wp2_with fail
  (with_reducible refine cF.out.mono ?_)
  rintro e w1 ⟨rfl, hb1⟩
  go_wp2_with fail
  (with_reducible refine (cN.out _ (H.out.below hb1 hpl)).mono ?_)
  rintro e w2 ⟨b, mo, mk, rfl, hF, hb2⟩
  have HB2 := bel_trans hb1 hb2
  have HF := Lib.hid hF
  clear hF hb1 hb2 cF cN H
  obtain ⟨I, hI⟩ : ∃ z, g.fI ca cb = z := ⟨_, rfl⟩
  obtain ⟨J, hJ⟩ : ∃ z, g.fJ ca cb = z := ⟨_, rfl⟩
  rw [hI] at q1
  rw [hJ] at q2
  have HIJ := Lib.hid (And.intro hI hJ)
  clear hI hJ
  go_upto_region 8 with (fail)
  refine wp_name ?_
  intro W hW
  have HW2 : Below w2.heap.size w2 W := by rw [hW]; (repeat' (first | exact Below.refl _ _ | assumption | apply bel_drewN | apply bel_drew | apply bel_alloc | (refine bel_trans ?_ (by assumption))))
  have hO : OwnI W w2.heap.size (.slice (some ⟨w2.heap.size, 0, none⟩) 1 1) (wayL g ca cb P 1) := by
    have e : wayL g ca cb P 1 = [((ca : Nat) : Int)] := by
      unfold wayL
      simp only [List.range_one, List.map_cons, List.map_nil]
      rw [HP.out.1, G.fcell_zero]
    rw [e, hW]
    refine ⟨rfl, .inr ⟨w2.heap.size, 1, #[.int .i64 (ca : Nat)], rfl, Nat.le_refl _, ?_, by simp, by decide, rfl, rfl⟩⟩
    exact heap_alloc_new w2 (.cells #[.int .i64 (ca : Nat)] 3 (0, 0))
  have hP0 := HP.out.1
  have e1 : (P 0).1 = 0 := by rw [hP0]
  have e2 : (P 0).2 = 0 := by rw [hP0]
  have hstart : ∃ k, WayI w2 g ca cb P (I + J) k (.slice (some ⟨w2.heap.size, 0, none⟩) 1 1) (.int .i64 0) (.int .i64 0) W := ⟨0, Nat.zero_le _, by rw [e1]; rfl, by rw [e2]; rfl, hO, HW2⟩
  clear hW HW2 hO hP0 e1 e2
  go_wp2_with fail
  go_loopw [11, 12, 13] (fun sl iv jv wr => ∃ k, WayI w2 g ca cb P (I + J) k sl iv jv wr) (fun _ iv jv _ => I + J - ((intOf iv).toNat + (intOf jv).toNat))
  case atStart => exact hstart
  case round =>
    obtain ⟨k, hk, rfl, rfl, hO, hB⟩ := hrel
    clear hstart
    have hw := HW.out k (by rw [HIJ.out.1, HIJ.out.2]; exact hk)
    rw [HIJ.out.1, HIJ.out.2] at hw
    have hnx := HP.out.2 k
    obtain ⟨⟨i, j⟩, hPk⟩ : ∃ z, P k = z := ⟨_, rfl⟩
    rw [hPk] at hw hnx ⊢
    simp only at hw ⊢
    obtain ⟨w1', w2', w3', w4', w5'⟩ := hw
    have Hnx := Lib.hid hnx
    have HPk := Lib.hid hPk
    have HOB := Lib.hid (And.intro w4' w5')
    have Hij := Lib.hid w3'
    have HF2 := HF.out.below hB
    obtain ⟨_, _, _, _, _, k5, k6, _, _⟩ := HF2.cell
    rw [HIJ.out.1] at k5
    rw [HIJ.out.2] at k6
    have HF2 := Lib.hid HF2
    obtain ⟨A, mm, rfl, hI0⟩ := hO.ints
    have hll := wayL_length g ca cb P (k + 1)
    rw [hll] at hO hI0 ⊢
    have Hll := Lib.hid hll
    have HO := Lib.hid hO
    clear hnx hPk w4' w5' hO hI0 hll
    by_cases hend : k < I + J
    · go_upto_region 9 with (fail)
      go_cut [50] (fun s wx => s = .bool true ∧ wx = wr)
      case first =>
        by_cases hi : i < I
        · have hi' : (i : Int) < (I : Int) := by omega
          go_wp2
          go_meet
          case rel => exact ⟨rfl, rfl⟩
        · have hi' : ¬ (i : Int) < (I : Int) := by omega
          have hj' : (j : Int) < (J : Int) := by have := Hij.out; omega
          go_wp2
          go_meet
          case rel => exact ⟨rfl, rfl⟩
      case rest =>
      obtain ⟨rfl, rfl⟩ := hcut
      clear k5 k6
      obtain ⟨td, htd⟩ : ∃ t, dB g ca cb i j = t := ⟨_, rfl⟩
      obtain ⟨ts, hts⟩ : ∃ t, sB g ca cb i j = t := ⟨_, rfl⟩
      have cNx := Lib.hid (fieldNext _ b p mo mk g v ca cb _ _ i j td ts HF2.out (by rw [HIJ.out.1]; exact w1') (by rw [HIJ.out.2]; exact w2') htd hts)
      have Htd := Lib.hid htd
      clear htd hts
      go_wp2_with fail
      (with_reducible refine cNx.out.mono ?_)
      rintro e w4 ⟨rfl, hb4⟩
      have HF4 := HF2.out.below hb4
      have hB4 := bel_trans hB hb4
      obtain ⟨_, _, _, _, _, _, _, _, k8⟩ := HF4.cell
      obtain ⟨t2, ht2, hl2⟩ := HF4.bk.look ((i + 1 : Nat) : Int) (j : Int)
      have hl2 := hl2 w4 (Below.refl _ _)
      rw [natS_at] at ht2
      rw [show (((i + 1 : Nat) : Int)) = (i : Int) + 1 by omega] at hl2
      have hO4 := HO.out.below (B' := 0) hb4
      have HO4 := Lib.hid hO4
      have HF4 := Lib.hid HF4
      obtain ⟨⟨i', j'⟩, hP1⟩ : ∃ z, P (k + 1) = z := ⟨_, rfl⟩
      have hn1 := HW.out (k + 1) (by rw [HIJ.out.1, HIJ.out.2]; omega)
      rw [HIJ.out.1, HIJ.out.2, hP1] at hn1
      simp only at hn1
      obtain ⟨n1, n2, n3, n4, n5⟩ := hn1
      have hx := Hnx.out
      rw [hP1] at hx
      have hsel : (td = true ∧ t2 = true ∧ i' = i + 1 ∧ j' = j) ∨ ((td = false ∨ t2 = false) ∧ i' = i ∧ j' = j + 1) := by
        rcases hx with ⟨x1, x2, x3⟩ | ⟨x1, x3⟩
        · injection x3 with x3 x4
          exact .inl ⟨by rw [← Htd.out]; exact dB_iff.2 x1, ht2.2 x2, x3, x4⟩
        · injection x3 with x3 x4
          refine .inr ⟨?_, x3, x4⟩
          cases td with
          | false => exact .inl rfl
          | true =>
            cases t2 with
            | false => exact .inr rfl
            | true => exact absurd ⟨dB_iff.1 Htd.out, ht2.1 rfl⟩ x1
      have Hsel := Lib.hid hsel
      have HP1 := Lib.hid hP1
      clear hb4 ht2 hO4 hP1 n4 n5 hx hsel cNx hB
      go_upto_region 11 with (fail)
      obtain ⟨r, hr⟩ : ∃ r, r = (td && t2) := ⟨_, rfl⟩
      go_cut [69] (fun s wx => s = .bool r ∧ wx = w4)
      case first =>
        cases td with
        | false =>
          have hr2 : r = false := by rw [hr]; rfl
          clear hl2 hr
          subst hr2
          go_wp2
          go_meet
          case rel => exact ⟨rfl, rfl⟩
        | true =>
          have hr2 : r = t2 := by rw [hr]; rfl
          clear hr
          subst hr2
          go_wp2
          go_meet
          case rel => exact ⟨rfl, rfl⟩
      case rest =>
      obtain ⟨rfl, rfl⟩ := hcut
      have hsel2 : (r = true ∧ i' = i + 1 ∧ j' = j) ∨ (r = false ∧ i' = i ∧ j' = j + 1) := by
        rcases Hsel.out with ⟨rfl, rfl, h1, h2⟩ | ⟨h0 | h0, h1, h2⟩
        · exact .inl ⟨hr, h1, h2⟩
        · exact .inr ⟨by rw [hr, h0]; rfl, h1, h2⟩
        · exact .inr ⟨by rw [hr, h0]; simp, h1, h2⟩
      have Hsel := Lib.hid hsel2
      clear hr hsel2 hl2 k8
      go_upto_if 69 with (fail)
      obtain ⟨w4, hw4⟩ : ∃ z : World, wc = z := ⟨_, rfl⟩
      rw [hw4] at HO4 HF4 hB4 ⊢
      clear hw4
      go_cut [12, 13] (fun iv jv wx => iv = .int .i64 (i' : Nat) ∧ jv = .int .i64 (j' : Nat) ∧ wx = w4)
      case first =>
        rcases Hsel.out with ⟨rfl, rfl, rfl⟩ | ⟨rfl, rfl, rfl⟩
        · go_wp2
          go_meet
          case rel => exact ⟨by go_num, rfl, rfl⟩
        · go_wp2
          go_meet
          case rel => exact ⟨rfl, by go_num, rfl⟩
      case rest =>
      obtain ⟨rfl, rfl, hwc⟩ := hcut
      have hwc : wc = w4 := hwc
      rw [hwc]
      clear hwc Hsel
      have cP := Lib.hid (fieldPlace w4 b p mo mk g v ca cb _ _ i' j' HF4.out (by rw [HIJ.out.1]; exact n1) (by rw [HIJ.out.2]; exact n2))
      have cC := fun w' h' => cellAt w' p g v ca cb i' j' h' hca hcb (by rw [HIJ.out.1]; exact n1) (by rw [HIJ.out.2]; exact n2)
      obtain ⟨c, hc⟩ : ∃ c, g.fcell ca cb i' j' = c := ⟨_, rfl⟩
      rw [hc] at cC
      have cC := Lib.hid cC
      have hnew : wayL g ca cb P (k + 1 + 1) = wayL g ca cb P (k + 1) ++ [((c : Nat) : Int)] := by rw [wayL_succ, HP1.out, hc]
      have Hnew := Lib.hid hnew
      have Hc := Lib.hid hc
      clear hc hnew
      go_wp2_with fail
      (with_reducible refine cP.out.mono ?_)
      rintro e w7 ⟨rfl, hb7⟩
      have HF7 := Lib.hid (HF4.out.below hb7)
      have HO7 := Lib.hid (HO4.out.below (B' := 0) hb7)
      have hB7 := bel_trans hB4 hb7
      clear hb7 cP HF4 HO4 hB4
      go_wp2_with fail
      (with_reducible refine (cC.out _ HF7.out.grid).mono ?_)
      rintro e w' ⟨rfl, rfl⟩
      clear cC
      have hml : (wayL g ca cb P (k + 1)).length < 1099511627776 := by rw [Hll.out]; omega
      have hs7 := hB7.size
      have hs2 := HB2.size
      go_wp2_with (at_builtin; (refine wpList_append_int _ rfl _ _ rfl w2.heap.size _ _ _ rfl (HO7.out.alloc _) ⟨w7.heap.size, 0, none⟩ rfl (cell1_new _ _ _) hml (by simp; omega) ?_); intro v' w9 hown9 hgrow)
      have hB9 := below_grown (hB7.alloc (by omega) _) (by simp; omega) (HO7.out.alloc _) hgrow
      have hown9' : OwnI w9 w2.heap.size v' (wayL g ca cb P (k + 1 + 1)) := by rw [Hnew.out]; exact hown9
      have hin : WayI w2 g ca cb P (I + J) (k + 1) v' (.int .i64 (i' : Nat)) (.int .i64 (j' : Nat)) w9 := ⟨by omega, by rw [HP1.out], by rw [HP1.out], hown9', hB9⟩
      have hin := Lib.hid hin
      clear hown9 hown9' hgrow HO7 hml hB9
      go_wp2
      go_roundw
      case rel => first | exact ⟨k + 1, hin.out⟩ | ((repeat apply Exists.intro); exact ⟨⟨k + 1, hin.out⟩, rfl⟩)
      case measure => have := Hij.out; simp [intOf]; omega
    · have hwe : i = I ∧ j = J := by have := Hij.out; omega
      obtain ⟨rfl, rfl⟩ := hwe
      have hek : k = i + j := Hij.out.symm
      have hfin : WayRD w g ca cb (.returned (.tuple #[.slice A (k + 1) mm, .nilIface])) wr := by
        refine ⟨P, HP.out, ?_⟩
        rw [HIJ.out.1, HIJ.out.2]
        have hO := HO.out
        rw [hek] at hO ⊢
        exact ret_ints2N (hO.mono HB2.size) (bel_trans HB2 hB)
      clear HO
      go_wp2
      go_ret2
      exact hfin
end Go.Proofs.Ytkiogciokngjfaa
