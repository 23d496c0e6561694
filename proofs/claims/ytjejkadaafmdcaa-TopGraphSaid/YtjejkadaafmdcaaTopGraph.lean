/- The law TopGraph: for any plot, it returns true. -/
import Derived.Test.YtjejkadaafmdcaaSpan
import Derived.Test.YtjejkadaafmdcaaFloodSays
set_option linter.unusedVariables false
set_option linter.unusedSimpArgs false
namespace Go.Proofs.Ytjejkadaafmdcaa
open Go.RowKit Go.Sort FR
theorem GraphOf.kept {w w' : World} {b p mb : Nat} {S T : List Nat} {g : G} {v : Int} {E : Int → Option (List Ed)} (h : GraphOf w b p mb S g v E) (hk : Kept T w w') (hT : ∀ k, k ∈ b :: p :: mb :: S → k ∉ T) : GraphOf w' b p mb S g v E := by
  obtain ⟨g1, g2, g3, g4⟩ := h
  exact ⟨(hk.block b (Array.getElem?_eq_some_iff.1 g1).1 (hT b (by simp))).trans g1, g2.kept hk (hT p (by simp)), g3.kept hk (fun s hs => hT s (by simp [hs])) (hT mb (by simp)), g4⟩
set_option maxRecDepth 100000 in
set_option maxHeartbeats 6400000 in
theorem topGraph (W0 : World) (a b : Int) (A0 : Option Addr) (n0 m0 : Nat) (f0 : Nat → Int) (h0 : SlI W0 A0 n0 f0) :
    Calls Try.prog 3 #[.agg #[.int .i64 a, .int .i64 b, .slice A0 n0 m0]] W0 fun e w' => e = .returned (.bool true) ∧ Below W0.heap.size W0 w' := by
  obtain ⟨hI0, hl0, _⟩ := h0
  have hl0 := Lib.hid hl0
  go_enter Try.func3, Try.ntmps3
  go_upto_region 1 with (fail)
  refine wp_name ?_
  intro W hW
  have HW : Below W0.heap.size W0 W := by rw [hW]; (repeat' (first | exact Below.refl _ _ | assumption | apply bel_drewN | apply bel_drew | apply bel_alloc | (refine bel_trans ?_ (by assumption))))
  have k0 : ∀ w', Below W.heap.size W w' → w'.cell? ⟨W0.heap.size, 0, none⟩ = some (.int .i64 a : Value) := fun w' hbw => (hbw.cell (p := ⟨W0.heap.size, 0, none⟩) (by rw [hW]; simp <;> omega)).trans (by rw [hW]; go_simp)
  have k1 : ∀ w', Below W.heap.size W w' → w'.cell? ⟨W0.heap.size, 1, none⟩ = some (.int .i64 b : Value) := fun w' hbw => (hbw.cell (p := ⟨W0.heap.size, 1, none⟩) (by rw [hW]; simp <;> omega)).trans (by rw [hW]; go_simp)
  have k2 : ∀ w', Below W.heap.size W w' → w'.cell? ⟨W0.heap.size, 2, none⟩ = some (.slice A0 n0 m0 : Value) := fun w' hbw => (hbw.cell (p := ⟨W0.heap.size, 2, none⟩) (by rw [hW]; simp <;> omega)).trans (by rw [hW]; go_simp)
  clear hW
  go_wp2_with fail
  (with_reducible refine (gridNew_ex 3 3 _ (by decide)).mono ?_)
  rintro e w1 ⟨p0, rfl, hp0, hG, hb1⟩
  go_wp2_with fail
  refine (gridSet_new _ p0 _ _ 4 true hG (by decide) (by decide) (by decide)).mono ?_
  rintro e w2 ⟨rfl, hG2, hk2⟩
  have HB2 := Kept.below hb1 hk2 hb1.size (by simp; omega)
  have hG2 : GridAt w2 p0 g33 (0 + 1) := hG2
  have cN := Lib.hid (graphNew w2 p0 g33 _ hG2)
  clear hG hG2 hk2 hb1
  go_wp2_with fail
  (with_reducible refine cN.out.mono ?_)
  rintro e w3 ⟨b3, p3, mb3, S3, E3, rfl, hGr, hGs, _, hb3⟩
  have HB3 := bel_trans HB2 hb3
  have cD := graphNodes w3 b3 p3 mb3 S3 g33 (0 + 1) E3 hGr hGs.1
  rw [corners33] at cD
  have cD := Lib.hid cD
  clear hGr hGs hb3 HB2 cN
  go_wp2_with fail
  (with_reducible refine cD.out.mono ?_)
  rintro e w4 ⟨A4, m4, rfl, hI4, hb4⟩
  have HB4 := bel_trans HB3 hb4
  clear hI4 hb4 HB3 cD
  go_wp2_with fail
  (with_reducible refine (laid_any a b A0 n0 m0 f0 _ ((hI0.below HW).below HB4) hl0.out).mono ?_)
  rintro e w5 (⟨rfl, hb5⟩ | ⟨p, q, g, v, rfl, hp1, hpq, hG, hR, hv0, hv1, hb5⟩)
  · have HB5 := bel_trans (bel_trans HW HB4) hb5
    clear hb5 HB4 k0 k1 k2
    go_upto_region 9 with (fail)
    go_quiet (fail)
    go_wp2
    go_ret
    exact ⟨rfl, bel_drewN HB5⟩
  have HB5 := bel_trans (bel_trans HW HB4) hb5
  have hok := hG.1
  have hgn := G.n_le hok
  obtain ⟨o1, o2, o3, o4⟩ := hok
  have en : ((g.n : Nat) : Int) = (g.w : Int) * g.h := by unfold G.n; simp
  have e1 : (g.w : Int) * g.h ≤ (g.n : Nat) := by omega
  have m1 : 0 ≤ (g.w : Int) * g.h := by omega
  obtain ⟨s1, s2⟩ := hR.size
  have hw : IntKind.i64.wrap ((g.w : Int) * g.h) = (g.w : Int) * g.h := IntWalk.i64_in _ (by omega)
  have HG := Lib.hid hG
  have HR := Lib.hid hR
  clear en k0 k1 k2 hb5 HB4 hG hR
  by_cases hbig : 80 < (g.w : Int) * g.h
  · have hd : decide (80 < (g.w : Int) * g.h) = true := by simp; omega
    clear hbig e1 m1
    go_upto_region 9 with (fail)
    go_quiet (fail)
    go_wp2
    go_ret
    exact ⟨rfl, bel_drewN HB5⟩
  · have hd : decide (80 < (g.w : Int) * g.h) = false := by simp; omega
    clear hbig e1 m1
    go_upto_region 9 with (fail)
    go_quiet (fail)
    have hG1 : GridAt (w5.drewN nq) p g v := HG.out
    have HR1 : Hid (RGridAt (w5.drewN nq) q g v) := HR
    have HB6 : Below W0.heap.size W0 (w5.drewN nq) := bel_drewN HB5
    clear s1 s2 hw hd HG HR HB5
    generalize w5.drewN nq = w6 at hG1 HR1 HB6 ⊢
    have cN := Lib.hid (graphNew w6 p g v hG1)
    clear hG1
    go_wp2_with fail
    (with_reducible refine cN.out.mono ?_)
    rintro e w7 ⟨b7, p7, mb7, S7, E7, rfl, hGr, hGs, _, hb7⟩
    have cD := Lib.hid (graphNodes w7 b7 p7 mb7 S7 g v E7 hGr hGs.1)
    have HGr := Lib.hid hGr
    have HGs := Lib.hid hGs
    have HB7 := bel_trans HB6 hb7
    have HR7 := Lib.hid (HR1.out.below hb7 HR1.out.lt)
    clear hGr hGs hb7 cN HB6 HR1
    go_wp2_with fail
    (with_reducible refine cD.out.mono ?_)
    rintro e w8 ⟨A8, m8, rfl, hI8, hb8⟩
    obtain ⟨n, hn⟩ : ∃ n, (cornersI g).length = n := ⟨_, rfl⟩
    rw [hn] at hI8 ⊢
    have Hn := Lib.hid hn
    have HI8 := Lib.hid hI8
    have HGr8 := Lib.hid (HGr.out.below hb8)
    have HR8 := Lib.hid (HR7.out.below hb8 HR7.out.lt)
    have HB8 := bel_trans HB7 hb8
    have hn256 : n ≤ 256 := by rw [← hn]; exact corners_le HGr.out.2.1.1
    clear hn hI8 hb8 cD HB7 HGr HR7
    go_wp2_with fail
    go_loopw [10] (fun kv wr => ∃ i : Nat, kv = .int .i64 i ∧ i ≤ n ∧ Below w8.heap.size w8 wr) (fun kv _ => n - (intOf kv).toNat)
    case atStart => exact ⟨0, rfl, by omega, Below.refl _ _⟩
    case round =>
      obtain ⟨i, rfl, hi, hB⟩ := hrel
      by_cases hlt : i < n
      · have hIr := HI8.out.below hB
        have HIr := Lib.hid hIr
        obtain ⟨ad, hA⟩ := hIr.addr (by omega)
        rw [hA] at hIr
        have hix := fun wx => idx_run (m := m8) hA hlt wx
        have hE := hIr.cell (Below.refl _ _) hlt
        rw [(cf_at (by rw [Hn.out]; exact hlt)).1] at hE
        have hxc : g.Corner (cf g i) := (cf_at (by rw [Hn.out]; exact hlt)).2
        have cS := Lib.hid (spannedT wr b7 p7 mb7 S7 g v v E7 q A8 n m8 (cf g i) (HGr8.out.below hB) HGs.out (HR8.out.below hB HR8.out.lt) HIr.out Hn.out hxc)
        clear hIr hA hxc
        go_wp2_with fail
        (with_reducible refine cS.out.mono ?_)
        rintro e w9 ⟨rfl, hb9⟩
        have HB9 := bel_trans hB hb9
        clear hE hix cS hb9 hB
        go_wp2
        go_roundw
        case rel => exact ⟨i + 1, by go_num, by omega, HB9⟩
        case measure => simp [intOf]; omega
      · obtain rfl : i = n := by omega
        go_wp2
        go_ret
        exact ⟨rfl, bel_trans HB8 hB⟩
end Go.Proofs.Ytjejkadaafmdcaa
