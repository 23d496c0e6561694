/- Lemmas of this claim: TopText. -/
import Derived.Test.YtjejkadaafmdcaaDoorTxParse
import Derived.Test.YtjejkadaafmdcaaDoorTxPrint
import Derived.Test.YtjejkadaafmdcaaDoorTxMaps
import Derived.Test.YtjejkadaafmdcaaDoorOpen
set_option linter.unusedVariables false
set_option linter.unusedSimpArgs false
/- The law TopText: it returns true. -/
namespace Go.Proofs.YtjejkadaafmdcaaDoor
open Go.RowKit Go.Sort FR
def g11 : G := ⟨1, 1, fun _ => false⟩
theorem lit11 : ([116, 121, 112, 101, 32, 111, 99, 116, 105, 108, 101, 10, 104, 101, 105, 103, 104, 116, 32, 49, 10, 119, 105, 100, 116, 104, 32, 49, 10, 109, 97, 112, 10, 46, 10] : List UInt8) = printS g11 := by
  unfold printS
  rw [show g11.h = 1 from rfl, show g11.w = 1 from rfl, Lib.decDigits_one (by decide)]
  decide +kernel
set_option maxRecDepth 100000 in
set_option maxHeartbeats 1600000 in
theorem alike_true (w : World) (p q : Nat) (ga gb : G) (va vb : Int) (hA : GridAt w p ga va) (hB : GridAt w q gb vb) (hw : ga.w = gb.w) (hh : ga.h = gb.h) (hb : ∀ c, c < ga.w * ga.h → ga.b c = gb.b c) :
    Calls Tryd.prog 16 #[.pointer (some ⟨p, 0, none⟩), .pointer (some ⟨q, 0, none⟩)] w fun e w' => e = .returned (.bool true) ∧ Below w.heap.size w w' := by
  obtain ⟨o1, o2, o3, o4⟩ := hA.1
  obtain ⟨N, hN⟩ : ∃ N, ga.w * ga.h = N := ⟨_, rfl⟩
  have hN2 : N ≤ 256 := by rw [← hN]; exact Nat.mul_le_mul o2 o4
  have eN : (ga.w : Int) * ga.h = (N : Nat) := by rw [← hN]; simp
  rw [hN] at hb
  have hn1 : ga.n = N := hN
  have hn2 : gb.n = N := by rw [← hN, hw, hh]; rfl
  have s2 := Lib.hid (fun (wx : World) (hx : GridAt wx q gb vb) => gridSize wx q gb vb hx)
  rw [← hw, ← hh] at s2
  replace hb := Lib.hid hb
  replace hn1 := Lib.hid hn1
  replace hn2 := Lib.hid hn2
  clear hw hh hN
  go_enter Tryd.func16, Tryd.ntmps16
  go_wp2_with fail
  refine (gridSize w p ga va hA).mono ?_
  rintro e w1 ⟨rfl, hb1⟩
  go_wp2_with fail
  refine (s2.out w1 (hB.below hb1 hB.lt)).mono ?_
  rintro e w2 ⟨rfl, hb2⟩
  have HB2 := bel_trans hb1 hb2
  clear hb1 hb2 s2
  go_wp2_with fail
  go_loopw [9] (fun i wr => ∃ c : Nat, c ≤ N ∧ i = .int .i64 (c : Nat) ∧ Below w.heap.size w wr) (fun i _ => N - (intOf i).toNat)
  case atStart => exact ⟨0, by omega, rfl, HB2⟩
  case round =>
    clear HB2
    obtain ⟨c, hc, rfl, HB⟩ := hrel
    by_cases hlt : c < N
    · have qc : (c : Int) < N := by omega
      have e := hb.out c hlt
      have C1 := gridFree_in wr p ga va c (hA.below HB hA.lt) (by rw [hn1.out]; exact hlt)
      have C2 := fun (wx : World) (hx : GridAt wx q gb vb) => gridFree_in wx q gb vb c hx (by rw [hn2.out]; exact hlt)
      rw [e] at C1
      obtain ⟨t, ht⟩ : ∃ t, gb.b c = t := ⟨_, rfl⟩
      rw [ht] at C1
      simp only [ht] at C2
      replace C1 := Lib.hid C1
      replace C2 := Lib.hid C2
      clear e ht
      go_wp2_with fail
      refine C1.out.mono ?_
      rintro e w3 ⟨rfl, hb3⟩
      have HB3 := bel_trans HB hb3
      go_wp2_with fail
      refine (C2.out w3 (hB.below HB3 hB.lt)).mono ?_
      rintro e w4 ⟨rfl, hb4⟩
      have HB4 := bel_trans HB3 hb4
      cases t <;>
      · go_wp2_with fail
        go_roundw
        case rel => exact ⟨c + 1, by omega, by go_num, HB4⟩
        case measure => simp [intOf]; omega
    · obtain rfl : c = N := by omega
      go_wp2_with fail
      go_ret
      exact ⟨rfl, HB⟩
set_option maxRecDepth 100000 in
set_option maxHeartbeats 3200000 in
theorem topText (W0 : World) (hV : LibS W0) (a b : Int) (A : Option Addr) (n m : Nat) (f : Nat → Int) (h : SlI W0 A n f) (s : ByteArray) :
    Calls Tryd.prog 5 #[.agg #[.int .i64 a, .int .i64 b, .slice A n m], .string s] W0 fun e w' => e = .returned (.bool true) ∧ Below W0.heap.size W0 w' := by
  obtain ⟨l, rfl⟩ := bs_of s
  obtain ⟨hI, hl, _⟩ := h
  have hl := Lib.hid hl
  replace hV := Lib.hid hV
  have C := fun (wx : World) (hx : LibS wx) => textParse wx (printS g11) hx
  rw [← lit11] at C
  replace C := Lib.hid C
  go_enter Tryd.func5, Tryd.ntmps5
  go_upto_region 1 with (fail)
  refine wp_name ?_
  intro W hW
  have HW : Below W0.heap.size W0 W := by rw [hW]; (repeat' (first | exact Below.refl _ _ | assumption | apply bel_drewN | apply bel_drew | apply bel_alloc | (refine bel_trans ?_ (by assumption))))
  have k0 : ∀ w', Below W.heap.size W w' → w'.cell? ⟨W0.heap.size, 0, none⟩ = some (.int .i64 a : Value) := fun w' hbw => (hbw.cell (p := ⟨W0.heap.size, 0, none⟩) (by rw [hW]; simp <;> omega)).trans (by rw [hW]; go_simp)
  have k1 : ∀ w', Below W.heap.size W w' → w'.cell? ⟨W0.heap.size, 1, none⟩ = some (.int .i64 b : Value) := fun w' hbw => (hbw.cell (p := ⟨W0.heap.size, 1, none⟩) (by rw [hW]; simp <;> omega)).trans (by rw [hW]; go_simp)
  have k2 : ∀ w', Below W.heap.size W w' → w'.cell? ⟨W0.heap.size, 2, none⟩ = some (.slice A n m : Value) := fun w' hbw => (hbw.cell (p := ⟨W0.heap.size, 2, none⟩) (by rw [hW]; simp <;> omega)).trans (by rw [hW]; go_simp)
  clear hW
  go_wp2_with fail
  refine (C.out _ (hV.out.below HW)).mono ?_
  intro e w1 hP
  rw [lit11] at hP
  obtain ⟨R, p0, rfl, -, -, HB, -⟩ := hP.print ⟨by decide, by decide, by decide, by decide⟩
  have c0 := k0 w1 HB
  have c1 := k1 w1 HB
  have c2 := k2 w1 HB
  have HB1 := bel_trans HW HB
  clear k0 k1 k2 HB hP C
  go_wp2_with fail
  refine (laid_any a b A n m f _ (hI.below HB1) hl.out).mono ?_
  intro e w2 hL
  rcases laid_split hL with ⟨rfl, hb2⟩ | ⟨p, q', g, v, rfl, hG, -, hb2⟩
  · have HB2 := bel_trans HB1 hb2
    clear hL c0 c1 c2 HB1 hb2
    by_cases h12 : 1200 < l.length
    · have q : (1200 : Int) < l.length := by omega
      clear h12
      go_wp2_with fail
      go_ret
      exact ⟨rfl, HB2⟩
    have q : ¬ ((1200 : Int) < l.length) := by omega
    clear h12
    go_wp2_with fail
    refine (textParse w2 l (hV.out.below HB2)).mono ?_
    intro e w8 hP
    rcases hP with ⟨k, -, hk, rfl, hb8⟩ | ⟨a', b', R', p8, -, rfl, -, hG8, hb8⟩
    · have HB8 := bel_trans HB2 hb8
      go_wp2_with fail
      go_ret
      exact ⟨rfl, HB8⟩
    · have HB8 := bel_trans HB2 hb8
      go_wp2_with fail
      refine (textPrint w8 p8 _ _ hG8).mono ?_
      rintro e w9 ⟨rfl, hb9⟩
      have HB9 := bel_trans HB8 hb9
      go_wp2_with fail
      refine (textParse w9 _ (hV.out.below HB9)).mono ?_
      intro e w10 hP
      obtain ⟨R1, p10, rfl, -, hG10, hb10, hbb⟩ := hP.print hG8.1
      have HB10 := bel_trans HB9 hb10
      have cZ := Lib.hid (alike_true w10 p10 p8 _ _ _ _ hG10 ((hG8.below hb9 hG8.lt).below hb10 (by have := hb9.size; have := hG8.lt; omega)) rfl rfl hbb)
      clear hG8 hG10 hbb hP hb9 hb10 HB9 HB8
      go_wp2_with fail
      refine cZ.out.mono ?_
      rintro e w11 ⟨rfl, hb11⟩
      go_wp2_with fail
      go_ret
      exact ⟨rfl, bel_trans HB10 hb11⟩
  · have HB2 := bel_trans HB1 hb2
    clear hL c0 c1 c2 HB1 hb2
    go_wp2_with fail
    refine (textPrint w2 p g v hG).mono ?_
    rintro e w5 ⟨rfl, hb5⟩
    have HB5 := bel_trans HB2 hb5
    go_wp2_with fail
    refine (textParse w5 (printS g) (hV.out.below HB5)).mono ?_
    intro e w6 hP
    obtain ⟨R1, p1, rfl, -, hG1, hb6, hbb⟩ := hP.print hG.1
    have HB6 := bel_trans HB5 hb6
    have cA := Lib.hid (alike_true w6 p1 p _ g _ v hG1 ((hG.below hb5 hG.lt).below hb6 (by have := hb5.size; have := hG.lt; omega)) rfl rfl hbb)
    clear hG hG1 hbb hP hb5 hb6 HB5 HB2
    go_wp2_with fail
    refine cA.out.mono ?_
    rintro e w7 ⟨rfl, hb7⟩
    have HB7 := bel_trans HB6 hb7
    clear cA HB6 hb7
    by_cases h12 : 1200 < l.length
    · have q : (1200 : Int) < l.length := by omega
      clear h12
      go_wp2_with fail
      go_ret
      exact ⟨rfl, HB7⟩
    have q : ¬ ((1200 : Int) < l.length) := by omega
    clear h12
    go_wp2_with fail
    refine (textParse w7 l (hV.out.below HB7)).mono ?_
    intro e w8 hP
    rcases hP with ⟨k, -, hk, rfl, hb8⟩ | ⟨a', b', R', p8, -, rfl, -, hG8, hb8⟩
    · have HB8 := bel_trans HB7 hb8
      go_wp2_with fail
      go_ret
      exact ⟨rfl, HB8⟩
    · have HB8 := bel_trans HB7 hb8
      go_wp2_with fail
      refine (textPrint w8 p8 _ _ hG8).mono ?_
      rintro e w9 ⟨rfl, hb9⟩
      have HB9 := bel_trans HB8 hb9
      go_wp2_with fail
      refine (textParse w9 _ (hV.out.below HB9)).mono ?_
      intro e w10 hP
      obtain ⟨R1, p10, rfl, -, hG10, hb10, hbb⟩ := hP.print hG8.1
      have HB10 := bel_trans HB9 hb10
      have cZ := Lib.hid (alike_true w10 p10 p8 _ _ _ _ hG10 ((hG8.below hb9 hG8.lt).below hb10 (by have := hb9.size; have := hG8.lt; omega)) rfl rfl hbb)
      clear hG8 hG10 hbb hP hb9 hb10 HB9 HB8
      go_wp2_with fail
      refine cZ.out.mono ?_
      rintro e w11 ⟨rfl, hb11⟩
      go_wp2_with fail
      go_ret
      exact ⟨rfl, bel_trans HB10 hb11⟩
end Go.Proofs.YtjejkadaafmdcaaDoor
