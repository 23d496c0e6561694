/- The law GraphSays: for any plot and any cells it returns true. -/
import Derived.Test.YtjejkadaafmdcaaGreatLinks
set_option linter.unusedVariables false
set_option linter.unusedSimpArgs false
namespace Go.Proofs.YtjejkadaafmdcaaGreat
open Go.RowKit Go.Sort FR Go.Lib
theorem mem_geB {b p2 mb B : Nat} {S S' : List Nat} {w : World} (h : ∀ s ∈ b :: p2 :: mb :: S, B ≤ s) (hl : B ≤ w.heap.size) (hS : ∀ k ∈ S', k ∈ S ∨ w.heap.size ≤ k) : ∀ s ∈ b :: p2 :: mb :: S', B ≤ s := fun s hm => by
  rcases List.mem_cons.1 hm with r | hm
  · exact h s (by simp [r])
  rcases List.mem_cons.1 hm with r | hm
  · exact h s (by simp [r])
  rcases List.mem_cons.1 hm with r | hm
  · exact h s (by simp [r])
  rcases hS s hm with r | r
  · exact h s (by simp [r])
  · omega
theorem graphSet_same (w : World) (b p mb : Nat) (S : List Nat) (g : G) (v : Int) (E : Int → Option (List Ed)) (c : Nat) (h : GraphOf w b p mb S g v E) (hc : c < g.n) :
    Calls Tryz.prog 11 #[.pointer (some ⟨b, 0, none⟩), .int .i64 (c : Nat), .bool (g.b c)] w fun e w' => e = .returned (.tuple #[.bool false, .nilIface]) ∧ Below w.heap.size w w' := by
  have kb0 : w.cell? ⟨b, 0, none⟩ = some (.pointer (some ⟨p, 0, none⟩)) := by simp [World.cell?, h.1]
  have cS := Lib.hid (gridSet_same w p g v c h.2.1 hc)
  obtain ⟨t, ht⟩ : ∃ t, g.b c = t := ⟨_, rfl⟩
  rw [ht] at cS ⊢
  clear h ht
  go_enter Tryz.func11, Tryz.ntmps11
  go_wp2_with fail
  (with_reducible refine cS.out.mono ?_)
  rintro e w1 ⟨rfl, hb1⟩
  go_wp2
  go_ret2
  exact ⟨rfl, hb1⟩
theorem graphSet_out (w : World) (b p mb : Nat) (S : List Nat) (g : G) (v c : Int) (t : Bool) (E : Int → Option (List Ed)) (h : GraphOf w b p mb S g v E) (hc : c < 0 ∨ g.n ≤ c) :
    Calls Tryz.prog 11 #[.pointer (some ⟨b, 0, none⟩), .int .i64 c, .bool t] w fun e w' => e = .returned (.tuple #[.bool false, .iface 107 (.int .i64 1)]) ∧ Below w.heap.size w w' := by
  have kb0 : w.cell? ⟨b, 0, none⟩ = some (.pointer (some ⟨p, 0, none⟩)) := by simp [World.cell?, h.1]
  have cS := Lib.hid (gridSet_out w p g v c t h.2.1 hc)
  clear h
  go_enter Tryz.func11, Tryz.ntmps11
  go_wp2_with fail
  (with_reducible refine cS.out.mono ?_)
  rintro e w1 ⟨rfl, hb1⟩
  go_wp2
  go_ret2
  exact ⟨rfl, hb1⟩
/-- a graph above B -/
def GrAt (w : World) (B b : Nat) (g : G) (v : Int) : Prop := ∃ p mb S E, GraphOf w b p mb S g v E ∧ GSpec g (fun _ _ => True) E ∧ ∀ k ∈ b :: p :: mb :: S, B ≤ k
theorem GrAt.kept {w w' : World} {B b q : Nat} {g : G} {v : Int} (h : GrAt w B b g v) (hq : q < B) (hk : Kept [q] w w') : GrAt w' B b g v := by
  obtain ⟨p, mb, S, E, h1, h2, h3⟩ := h
  exact ⟨p, mb, S, E, h1.kept hk (fun k hk => by have := h3 k hk; simp; omega), h2, h3⟩
theorem GrAt.below {w w' : World} {B b : Nat} {g : G} {v : Int} (h : GrAt w B b g v) (hb : Below w.heap.size w w') : GrAt w' B b g v := by
  obtain ⟨p, mb, S, E, h1, h2, h3⟩ := h
  exact ⟨p, mb, S, E, h1.below hb, h2, h3⟩
theorem gset_both (w : World) (B b q : Nat) (g : G) (v c : Int) (t : Bool) (hT : GrAt w B b g v) (hR : RGridAt w q g v) (hB : B ≤ w.heap.size) (hv : 0 ≤ v ∧ v ≤ 1099511627000) :
    ∃ (did : Bool) (ev : Value) (fe : Int) (g' : G) (v' : Int), v ≤ v' ∧ v' ≤ v + 1 ∧
      Calls Tryz.prog 11 #[.pointer (some ⟨b, 0, none⟩), .int .i64 c, .bool t] w (fun e w' => e = .returned (.tuple #[.bool did, ev]) ∧ GrAt w' B b g' v' ∧ Below B w w') ∧
      (∀ w1, RGridAt w1 q g v → Calls Tryz.prog 12 #[.pointer (some ⟨q, 0, none⟩), .int .i64 c, .bool t] w1 (fun e w' => e = .returned (.tuple #[.bool did, .int .i64 fe]) ∧ RGridAt w' q g' v' ∧ Kept [q] w1 w')) ∧
      (∀ w1, Calls Tryz.prog 13 #[ev, .int .i64 fe] w1 (fun e w' => e = .returned (.bool true) ∧ w1 = w')) := by
  obtain ⟨p, mb, S, E, h1, h2, h3⟩ := hT
  by_cases hin : 0 ≤ c ∧ c < g.n
  · obtain ⟨i0, i1⟩ := hin
    obtain ⟨k, rfl⟩ := Int.eq_ofNat_of_zero_le i0
    have hk : k < g.n := by omega
    by_cases hs : g.b k = t
    · subst hs
      exact ⟨false, .nilIface, 0, g, v, by omega, by omega, (graphSet_same w b p mb S g v E k h1 hk).mono fun _ _ ⟨a1, a2⟩ => ⟨a1, ⟨p, mb, S, E, h1.below a2, h2, h3⟩, a2.mono hB⟩,
        fun w1 h => (rSet_same w1 q g v k h hk).mono fun _ _ ⟨a1, a2⟩ => ⟨a1, h.below a2 h.lt, .of_below a2⟩, fun w1 => same_ok w1⟩
    · have ht : g.b k = !t := by cases h : g.b k <;> cases t <;> simp_all
      exact ⟨true, .nilIface, 0, gset g k t, v + 1, by omega, by omega, (graphSet_new w b p mb S g v E k t h1 h2 hk ht (by omega)).mono fun _ _ ⟨a1, S', E', a2, a3, a4, a5⟩ => ⟨a1, ⟨p, mb, S', E', a2, a3, mem_geB h3 hB a4⟩, Kept.below (Below.refl _ _) a5 hB (fun i hi => h3 i (List.mem_cons_of_mem _ hi))⟩,
        fun w1 h => rSet_new w1 q g v k t h hk ht (by omega), fun w1 => same_ok w1⟩
  · have hout : c < 0 ∨ g.n ≤ c := by omega
    exact ⟨false, .iface 107 (.int .i64 1), 1, g, v, by omega, by omega, (graphSet_out w b p mb S g v c t E h1 hout).mono fun _ _ ⟨a1, a2⟩ => ⟨a1, ⟨p, mb, S, E, h1.below a2, h2, h3⟩, a2.mono hB⟩,
      fun w1 h => (rSet_out w1 q g v c t h hout).mono fun _ _ ⟨a1, a2⟩ => ⟨a1, h.below a2 h.lt, .of_below a2⟩, fun w1 => same_bad 1 w1 (by decide)⟩
/-- what holds at a round's head -/
def GyR (W0 : World) (B b q k : Nat) (wr : World) : Prop := ∃ g v, GrAt wr B b g v ∧ RGridAt wr q g v ∧ 0 ≤ v ∧ v ≤ 1000000 + k ∧ B ≤ wr.heap.size ∧ Below W0.heap.size W0 wr
set_option maxRecDepth 100000 in
set_option maxHeartbeats 6400000 in
theorem graphSays (W0 : World) (a b : Int) (A0 : Option Addr) (n0 m0 : Nat) (f0 : Nat → Int) (h0 : SlI W0 A0 n0 f0)
    (A : Option Addr) (n m : Nat) (f : Nat → Int) (h : SlI W0 A n f) (A2 : Option Addr) (n2 m2 : Nat) (f2 : Nat → Bool) (h2 : SlB W0 A2 n2 f2) (A3 : Option Addr) (n3 m3 : Nat) (f3 : Nat → Int) (h3 : SlI W0 A3 n3 f3) :
    Calls Tryz.prog 3 #[.agg #[.int .i64 a, .int .i64 b, .slice A0 n0 m0], .slice A n m, .slice A2 n2 m2, .slice A3 n3 m3] W0 fun e w' => e = .returned (.bool true) ∧ Below W0.heap.size W0 w' := by
  obtain ⟨hI0, hl0, _⟩ := h0
  obtain ⟨hI, hl, _⟩ := h
  obtain ⟨hJ, hl2⟩ := h2
  obtain ⟨hI3, hl3, _⟩ := h3
  have hl0 := Lib.hid hl0
  have HI3 := Lib.hid hI3
  clear hI3
  go_enter Tryz.func3, Tryz.ntmps3
  go_upto_region 1 with (fail)
  refine wp_name ?_
  intro W hW
  have HW : Below W0.heap.size W0 W := by rw [hW]; (repeat' (first | exact Below.refl _ _ | assumption | apply bel_drewN | apply bel_drew | apply bel_alloc | (refine bel_trans ?_ (by assumption))))
  have k0 : ∀ w', Below W.heap.size W w' → w'.cell? ⟨W0.heap.size, 0, none⟩ = some (.int .i64 a : Value) := fun w' hbw => (hbw.cell (p := ⟨W0.heap.size, 0, none⟩) (by rw [hW]; simp <;> omega)).trans (by rw [hW]; go_simp)
  have k1 : ∀ w', Below W.heap.size W w' → w'.cell? ⟨W0.heap.size, 1, none⟩ = some (.int .i64 b : Value) := fun w' hbw => (hbw.cell (p := ⟨W0.heap.size, 1, none⟩) (by rw [hW]; simp <;> omega)).trans (by rw [hW]; go_simp)
  have k2 : ∀ w', Below W.heap.size W w' → w'.cell? ⟨W0.heap.size, 2, none⟩ = some (.slice A0 n0 m0 : Value) := fun w' hbw => (hbw.cell (p := ⟨W0.heap.size, 2, none⟩) (by rw [hW]; simp <;> omega)).trans (by rw [hW]; go_simp)
  clear hW
  go_wp2_with fail
  (with_reducible refine (links_true _).mono ?_)
  rintro e w1 ⟨rfl, HB⟩
  by_cases hn : 30 < n
  · go_wp2
    go_ret
    exact ⟨rfl, bel_trans HW HB⟩
  by_cases hn2 : 30 < n2
  · go_wp2
    go_ret
    exact ⟨rfl, bel_trans HW HB⟩
  by_cases hn3 : 10 < n3
  · go_wp2
    go_ret
    exact ⟨rfl, bel_trans HW HB⟩
  clear hl hl2 hl3
  go_wp2_with fail
  (with_reducible refine (laid_any a b A0 n0 m0 f0 _ ((hI0.below HW).below HB) hl0.out).mono ?_)
  rintro e w5 (⟨rfl, hb5⟩ | ⟨p, q, g, v, rfl, hp1, hpq, hG, hR, hv0, hv1, hb5⟩)
  · have HB5 := bel_trans (bel_trans HW HB) hb5
    clear hb5 HB k0 k1 k2
    go_upto_region 5 with (fail)
    go_quiet (fail)
    go_wp2
    go_ret
    exact ⟨rfl, bel_drewN HB5⟩
  have HB5 := bel_trans (bel_trans HW HB) hb5
  have hwq : W0.heap.size ≤ q := by have := (bel_trans HW HB).size; omega
  have hgn := G.n_le hG.1
  have en : ((g.n : Nat) : Int) = (g.w : Int) * g.h := by unfold G.n; simp
  have e1 : (g.w : Int) * g.h ≤ (g.n : Nat) := by omega
  have m1 : 0 ≤ (g.w : Int) * g.h := by omega
  obtain ⟨s1, s2⟩ := hR.size
  have hw : IntKind.i64.wrap ((g.w : Int) * g.h) = (g.w : Int) * g.h := IntWalk.i64_in _ (by omega)
  have HG := Lib.hid hG
  have HR := Lib.hid hR
  clear en k0 k1 k2 hb5 HB hG hR
  by_cases hbig : 100 < (g.w : Int) * g.h
  · have hd : decide (100 < (g.w : Int) * g.h) = true := by simp; omega
    clear hbig e1 m1
    go_upto_region 5 with (fail)
    go_quiet (fail)
    go_wp2
    go_ret
    exact ⟨rfl, bel_drewN HB5⟩
  have hd : decide (100 < (g.w : Int) * g.h) = false := by simp; omega
  clear hbig e1 m1
  go_upto_region 5 with (fail)
  go_quiet (fail)
  have hG1 : GridAt (w5.drewN nq) p g v := HG.out
  have HR1 : Hid (RGridAt (w5.drewN nq) q g v) := HR
  have HB6 : Below W0.heap.size W0 (w5.drewN nq) := bel_drewN HB5
  clear s1 s2 hw hd HG HR HB5
  generalize w5.drewN nq = w6 at hG1 HR1 HB6 ⊢
  have cN := Lib.hid (graphNew w6 p g v hG1)
  have hq6 := HR1.out.lt
  clear hG1
  go_wp2_with fail
  (with_reducible refine cN.out.mono ?_)
  rintro e w7 ⟨b7, p7, mb7, S7, E7, rfl, hGr, hGs, hS7, hb7⟩
  have HB7 := bel_trans HB6 hb7
  have hR7 := HR1.out.below hb7 hq6
  obtain ⟨B, hB⟩ : ∃ B, w6.heap.size = B := ⟨_, rfl⟩
  rw [hB] at hS7 hq6
  have hB7 : B ≤ w7.heap.size := by rw [← hB]; exact hb7.size
  have hWB : W0.heap.size ≤ B := by omega
  have hT7 : GrAt w7 B b7 g v := ⟨p7, mb7, S7, E7, hGr, hGs, hS7⟩
  have cA := Lib.hid (asGraph w7 b7 p7 mb7 S7 g v E7 q A3 n3 m3 f3 hGr hGs hR7 (HI3.out.below HB7) (by omega))
  have HT7 := Lib.hid hT7
  have HR7 := Lib.hid hR7
  have hq7 : q < w7.heap.size := by omega
  clear hGr hGs hS7 cN HR1 hb7 hT7 hR7 HB6
  go_wp2_with fail
  (with_reducible refine cA.out.mono ?_)
  rintro e w8 ⟨rfl, hb8⟩
  have hstart : GyR W0 B b7 q 0 w8 := ⟨g, v, HT7.out.below hb8, HR7.out.below hb8 hq7, by omega, by omega, by have := hb8.size; omega, bel_trans HB7 hb8⟩
  clear HT7 HR7 hb8 cA HB7 hv0 hv1 hB hB7
  go_wp2_with fail
  go_loopw [15] (fun i wr => ∃ k : Nat, k ≤ n ∧ k ≤ n2 ∧ i = .int .i64 k ∧ GyR W0 B b7 q k wr) (fun i _ => n - (intOf i).toNat)
  case atStart => exact ⟨0, by omega, by omega, rfl, hstart⟩
  case round =>
    obtain ⟨k, hk1, hk2, rfl, g, v, hT, hR, hv0, hv, hBr, HBk⟩ := hrel
    clear hstart
    by_cases hlt : k < n ∧ k < n2
    · obtain ⟨hl1, hl2⟩ := hlt
      obtain ⟨ad, hA⟩ := hI.addr (by omega)
      obtain ⟨ad2, hA2⟩ := hJ.addr (by omega)
      have hI' := hI
      rw [hA] at hI'
      have hJ' := hJ
      rw [hA2] at hJ'
      have hix := fun wx => idx_run (m := m) hA hl1 wx
      have hix2 := fun wx => bidx_run (m := m2) hA2 hl2 wx
      clear hA hA2
      have hE := hI'.cell HBk hl1
      have hE2 := hJ'.cell HBk hl2
      have q1 : (k : Int) < (n : Int) := by omega
      have q2 : (k : Int) < (n2 : Int) := by omega
      obtain ⟨did, ev, fe, g', v', v1, v2, cS, cRS, cE⟩ := gset_both wr.drew B b7 q g v (f k) (f2 k) hT hR hBr (by omega)
      have cS := Lib.hid cS
      have cRS := Lib.hid cRS
      have cE := Lib.hid cE
      have HR := Lib.hid hR
      clear hT hR
      go_upto_region 16 with (fail)
      go_cut [16, 17] (fun x y wx => x = .bool did ∧ y = ev ∧ GrAt wx B b7 g' v' ∧ RGridAt wx q g v ∧ B ≤ wx.heap.size ∧ Below W0.heap.size W0 wx)
      case first =>
        go_region_with (go_at_call 11; refine (cS.out).mono ?_; rintro e w4 ⟨rfl, hT4, hk4⟩)
        all_goals
          have hsz := hk4.size
          have hR4 : RGridAt w4 q g v := RGridAt.below (w := wr.drew) HR.out hk4 hq6
          have hB4 : Below W0.heap.size W0 w4 := HBk.drew.trans (hk4.mono hWB)
          go_wp2
          go_meet
          case rel => exact ⟨rfl, rfl, hT4, hR4, by simp at hsz; omega, hB4⟩
      case rest =>
        obtain ⟨rfl, rfl, hT4, hR4, hBw, HB4⟩ := hcut
        have hE := hI'.cell HB4 hl1
        have hE2 := hJ'.cell HB4 hl2
        go_upto_region 17 with (fail)
        go_cut [18, 19] (fun x y wx => x = .bool did ∧ y = .int .i64 fe ∧ GrAt wx B b7 g' v' ∧ RGridAt wx q g' v' ∧ B ≤ wx.heap.size ∧ Below W0.heap.size W0 wx)
        case first =>
          go_region_with (go_at_call 12; refine (cRS.out wc.drew hR4).mono ?_; rintro e w5 ⟨rfl, hR5, hk5⟩)
          all_goals
            have hsz := hk5.size
            go_wp2
            go_meet
            case rel => exact ⟨rfl, rfl, GrAt.kept (w := wc.drew) hT4 hq6 hk5, hR5, by simp at hsz; omega, Kept.below (HB4.drew) hk5 HB4.size (by simp; omega)⟩
        case rest =>
          obtain ⟨rfl, rfl, hT5, hR5, hB5, HB5⟩ := hcut
          cases did
          all_goals
            go_wp2_with fail
            (with_reducible refine (cE.out _).mono ?_)
            rintro e w' ⟨rfl, rfl⟩
            go_wp2
            go_roundw
            case rel => exact ⟨k + 1, by omega, by omega, by go_num, _, _, hT5, hR5, by omega, by omega, hB5, HB5⟩
            case measure => simp [intOf]; omega
    · have hge : n ≤ k ∨ (k < n ∧ n2 ≤ k) := by omega
      obtain ⟨p9, mb9, S9, E9, h1, h2, h3⟩ := hT
      have cA := Lib.hid (asGraph wr b7 p9 mb9 S9 g v E9 q A3 n3 m3 f3 h1 h2 hR (HI3.out.below HBk) (by omega))
      clear hlt h1 h2 h3 hR
      rcases hge with h | ⟨h, h'⟩
      all_goals
        go_wp2_with fail
        (with_reducible refine cA.out.mono ?_)
        rintro e w9 ⟨rfl, hb9⟩
        go_wp2
        go_ret
        exact ⟨rfl, bel_trans HBk hb9⟩
end Go.Proofs.YtjejkadaafmdcaaGreat
