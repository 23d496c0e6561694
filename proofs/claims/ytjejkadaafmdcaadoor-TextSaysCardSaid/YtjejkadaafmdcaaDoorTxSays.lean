/- Lemmas of this claim: TxSays. -/
import Derived.Test.YtjejkadaafmdcaaDoorRTx7
import Derived.Test.YtjejkadaafmdcaaDoorRTx2
import Derived.Test.YtjejkadaafmdcaaDoorTxPrint
import Derived.Test.YtjejkadaafmdcaaDoorTxMaps
import Derived.Test.YtjejkadaafmdcaaDoorKTextSays18
set_option linter.unusedVariables false
set_option linter.unusedSimpArgs false
/- The law TextSays: it returns true. -/
namespace Go.Proofs.YtjejkadaafmdcaaDoor
open Go.RowKit Go.Sort FR
def g12 : G := ⟨2, 1, fun c => decide (c = 1)⟩
theorem lit12 : ([116, 121, 112, 101, 32, 111, 99, 116, 105, 108, 101, 10, 104, 101, 105, 103, 104, 116, 32, 49, 10, 119, 105, 100, 116, 104, 32, 50, 10, 109, 97, 112, 10, 46, 64, 10] : List UInt8) = printS g12 := by
  unfold printS
  rw [show g12.h = 1 from rfl, show g12.w = 2 from rfl, Lib.decDigits_one (by decide), Lib.decDigits_one (by decide)]
  decide +kernel
set_option maxRecDepth 100000 in
theorem maps_true (w : World) (hV : LibS w) : Calls Tryd.prog 9 #[] w fun e w' => e = .returned (.bool true) ∧ Below w.heap.size w w' := by
  have C := textParse w (printS g12) hV
  rw [← lit12] at C
  replace C := Lib.hid C
  go_enter Tryd.func9, Tryd.ntmps9
  go_wp2_with fail
  refine C.out.mono ?_
  intro e w1 hP
  rw [lit12] at hP
  obtain ⟨R, p, rfl, hp, hG, HB, hb⟩ := hP.print ⟨by decide, by decide, by decide, by decide⟩
  have hG : GridAt w1 p (partG 2 1 R 2) (cntB (rowsB 2 R) 2) := hG
  have b0 : (partG 2 1 R 2).op 0 0 = true := by
    have := op_in (partG 2 1 R 2) 0 0 (show 0 < 2 by decide) (show 0 < 1 by decide)
    rw [show (partG 2 1 R 2).b (0 * (partG 2 1 R 2).w + 0) = g12.b 0 from hb 0 (by decide)] at this
    exact this
  have b1 : (partG 2 1 R 2).op 1 0 = false := by
    have := op_in (partG 2 1 R 2) 1 0 (show 1 < 2 by decide) (show 0 < 1 by decide)
    rw [show (partG 2 1 R 2).b (0 * (partG 2 1 R 2).w + 1) = g12.b 1 from hb 1 (by decide)] at this
    exact this
  have c0 := gridOpen w1 p (partG 2 1 R 2) _ 0 0 hG
  have c1 := gridOpen w1 p (partG 2 1 R 2) _ 1 0 hG
  rw [b0] at c0
  rw [b1] at c1
  replace c0 := Lib.hid c0
  replace c1 := Lib.hid c1
  clear b0 b1 hb hG hP
  go_wp2_with fail
  (with_reducible refine (same_ok _).mono ?_)
  rintro e w' ⟨rfl, rfl⟩
  go_wp2_with fail
  refine c0.out.mono ?_
  rintro e w' ⟨rfl, rfl⟩
  go_wp2_with fail
  refine c1.out.mono ?_
  rintro e w' ⟨rfl, rfl⟩
  go_wp2_with fail
  go_ret
  exact ⟨rfl, HB⟩
/-- both readings of one text -/
def Two (w : World) (x y z f : Value) (w' : World) : Prop :=
  (∃ k : Nat, 0 < k ∧ x = .pointer none ∧ y = .iface 23 (.int .i64 (k : Nat)) ∧ z = .pointer none ∧ f = .int .i64 (k : Nat) ∧ Below w.heap.size w w') ∨
  ∃ p q g v, x = .pointer (some ⟨p, 0, none⟩) ∧ y = .nilIface ∧ z = .pointer (some ⟨q, 0, none⟩) ∧ f = .int .i64 0 ∧ GridAt w' p g v ∧ RGridAt w' q g v ∧ Below w.heap.size w w'
theorem two_of {w w1 w2 : World} {l : List UInt8} {e1 e2 : Ending} (h1 : ParsedG w l e1 w1) (h2 : RParsed w1 l e2 w2) :
    ∃ x y z f, e1 = .returned (.tuple #[x, y]) ∧ e2 = .returned (.tuple #[z, f]) ∧ Two w x y z f w2 := by
  rcases h1 with ⟨k, p1, p2, rfl, p4⟩ | ⟨a, b, R, p, p1, rfl, p3, p4, p5⟩ <;> rcases h2 with ⟨k', q1, q2, rfl, q4⟩ | ⟨a', b', R', q, q1, rfl, q3, q4, q5⟩
  · rw [p1] at q1; cases q1
    exact ⟨_, _, _, _, rfl, rfl, .inl ⟨k, p2, rfl, rfl, rfl, rfl, bel_trans p4 q4⟩⟩
  · rw [p1] at q1; cases q1
  · rw [p1] at q1; cases q1
  · rw [p1] at q1; cases q1
    exact ⟨_, _, _, _, rfl, rfl, .inr ⟨p, q, _, _, rfl, rfl, rfl, rfl, p4.below q5 p4.lt, q4, bel_trans p5 q5⟩⟩
set_option maxRecDepth 100000 in
set_option maxHeartbeats 3200000 in
theorem textSays (W0 : World) (hV : LibS W0) (a b : Int) (A : Option Addr) (n m : Nat) (f : Nat → Int) (h : SlI W0 A n f) (s : ByteArray) :
    Calls Tryd.prog 4 #[.agg #[.int .i64 a, .int .i64 b, .slice A n m], .string s] W0 fun e w' => e = .returned (.bool true) ∧ Below W0.heap.size W0 w' := by
  obtain ⟨l, rfl⟩ := bs_of s
  obtain ⟨hI, hl, _⟩ := h
  have hl := Lib.hid hl
  replace hV := Lib.hid hV
  go_enter Tryd.func4, Tryd.ntmps4
  go_upto_region 1 with (fail)
  refine wp_name ?_
  intro W hW
  have HW : Below W0.heap.size W0 W := by rw [hW]; (repeat' (first | exact Below.refl _ _ | assumption | apply bel_drewN | apply bel_drew | apply bel_alloc | (refine bel_trans ?_ (by assumption))))
  have k0 : ∀ w', Below W.heap.size W w' → w'.cell? ⟨W0.heap.size, 0, none⟩ = some (.int .i64 a : Value) := fun w' hbw => (hbw.cell (p := ⟨W0.heap.size, 0, none⟩) (by rw [hW]; simp <;> omega)).trans (by rw [hW]; go_simp)
  have k1 : ∀ w', Below W.heap.size W w' → w'.cell? ⟨W0.heap.size, 1, none⟩ = some (.int .i64 b : Value) := fun w' hbw => (hbw.cell (p := ⟨W0.heap.size, 1, none⟩) (by rw [hW]; simp <;> omega)).trans (by rw [hW]; go_simp)
  have k2 : ∀ w', Below W.heap.size W w' → w'.cell? ⟨W0.heap.size, 2, none⟩ = some (.slice A n m : Value) := fun w' hbw => (hbw.cell (p := ⟨W0.heap.size, 2, none⟩) (by rw [hW]; simp <;> omega)).trans (by rw [hW]; go_simp)
  clear hW
  go_wp2_with fail
  refine (maps_true _ (hV.out.below HW)).mono ?_
  rintro e w1 ⟨rfl, HB⟩
  by_cases h15 : 1500 < l.length
  · have q : (1500 : Int) < l.length := by omega
    clear h15
    go_wp2_with fail
    go_ret
    exact ⟨rfl, bel_trans HW HB⟩
  have q : ¬ ((1500 : Int) < l.length) := by omega
  clear h15
  have c0 := k0 w1 HB
  have c1 := k1 w1 HB
  have c2 := k2 w1 HB
  have HB1 := bel_trans HW HB
  clear k0 k1 k2 HB
  go_wp2_with fail
  refine (laid_any a b A n m f _ (hI.below HB1) hl.out).mono ?_
  intro e w2 hL
  rcases laid_split hL with ⟨rfl, hb2⟩ | ⟨p, q', g, v, rfl, hG, hR, hb2⟩
  · have HB2 := bel_trans HB1 hb2
    clear hL c0 c1 c2 HB1 hb2
    go_wp2_with fail
    refine (textParse w2 l (hV.out.below HB2)).mono ?_
    intro e1 w3 h1
    obtain ⟨⟨x, y, rfl⟩, hb3⟩ := h1.two
    go_wp2_with fail
    refine (rParse w3 l).mono ?_
    intro e2 w4 h2
    obtain ⟨x', y', z, fv, e1', rfl, hT⟩ := two_of h1 h2
    cases e1'
    rcases hT with ⟨k, hk, rfl, rfl, rfl, rfl, hb4⟩ | ⟨p4, q4, g4, v4, rfl, rfl, rfl, rfl, hG4, hR4, hb4⟩
    · have hk' : (0 : Int) < k := by omega
      have HB4 := bel_trans HB2 hb4
      clear h1 h2 hb3 hb4
      go_wp2_with fail
      (with_reducible refine (same_bad (k : Nat) _ hk').mono ?_)
      rintro e w' ⟨rfl, rfl⟩
      go_wp2_with fail
      go_ret
      exact ⟨rfl, HB4⟩
    · have HB4 := bel_trans HB2 hb4
      have cA := Lib.hid (asGrid w4 p4 q4 g4 v4 hG4 hR4)
      clear h1 h2 hb3 hb4 hG4 hR4
      go_wp2_with fail
      refine cA.out.mono ?_
      rintro e w' ⟨rfl, hb5⟩
      go_wp2_with fail
      go_ret
      exact ⟨rfl, bel_trans HB4 hb5⟩
  · have HB2 := bel_trans HB1 hb2
    have cR := Lib.hid (fun (wx : World) (hx : RGridAt wx q' g v) => rPrint wx q' g v hx)
    clear hL c0 c1 c2 HB1 hb2
    go_wp2_with fail
    refine (textPrint w2 p g v hG).mono ?_
    rintro e w5 ⟨rfl, hb5⟩
    have hR5 := hR.below hb5 hR.lt
    have HB5 := bel_trans HB2 hb5
    clear hG hR hb5 HB2
    go_wp2_with fail
    refine (cR.out w5 hR5).mono ?_
    rintro e w6 ⟨rfl, hb6⟩
    have HB6 := bel_trans HB5 hb6
    clear hR5 hb6 HB5 cR
    go_wp2_with fail
    refine (textParse w6 l (hV.out.below HB6)).mono ?_
    intro e1 w3 h1
    obtain ⟨⟨x, y, rfl⟩, hb3⟩ := h1.two
    go_wp2_with fail
    refine (rParse w3 l).mono ?_
    intro e2 w4 h2
    obtain ⟨x', y', z, fv, e1', rfl, hT⟩ := two_of h1 h2
    cases e1'
    rcases hT with ⟨k, hk, rfl, rfl, rfl, rfl, hb4⟩ | ⟨p4, q4, g4, v4, rfl, rfl, rfl, rfl, hG4, hR4, hb4⟩
    · have hk' : (0 : Int) < k := by omega
      have HB4 := bel_trans HB6 hb4
      clear h1 h2 hb3 hb4
      go_wp2_with fail
      (with_reducible refine (same_bad (k : Nat) _ hk').mono ?_)
      rintro e w' ⟨rfl, rfl⟩
      go_wp2_with fail
      go_ret
      exact ⟨rfl, HB4⟩
    · have HB4 := bel_trans HB6 hb4
      have cA := Lib.hid (asGrid w4 p4 q4 g4 v4 hG4 hR4)
      clear h1 h2 hb3 hb4 hG4 hR4
      go_wp2_with fail
      refine cA.out.mono ?_
      rintro e w' ⟨rfl, hb5⟩
      go_wp2_with fail
      go_ret
      exact ⟨rfl, bel_trans HB4 hb5⟩
end Go.Proofs.YtjejkadaafmdcaaDoor
