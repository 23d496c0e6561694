/- The law TopFlood: for any plot and any cell, it returns true. -/
import Derived.Test.YtkiogciokngjfaaFloodSays
import Derived.Test.YtkiogciokngjfaaTopOct
import Derived.StillTailTactics
set_option linter.unusedVariables false
set_option linter.unusedSimpArgs false
namespace Go.Proofs.Ytkiogciokngjfaa
open Go.RowKit Go.Sort FR
theorem from21 {done : Nat → Option C} {back : Nat → Option Nat} (H : FloodOk (G.E ⟨2, 1, fun _ => false⟩) 0 (G.n ⟨2, 1, fun _ => false⟩) done back) : cntS done (G.n ⟨2, 1, fun _ => false⟩) = 2 := by
  have hn : G.n ⟨2, 1, fun _ => false⟩ = 2 := by decide
  have e01 : G.E ⟨2, 1, fun _ => false⟩ 0 1 ⟨1, 0⟩ := ⟨by decide, 2, by decide, by decide +kernel, by decide +kernel, by decide⟩
  have s : ∀ t c, Walk (G.E ⟨2, 1, fun _ => false⟩) 0 t c → (done t).isSome = true := by
    intro t c hw
    cases hd : done t with
    | none => exact absurd hw (H.out t hd c)
    | some x => rfl
  rw [hn]
  unfold cntS cntN
  simp [sumN, s 0 _ (.nil 0), s 1 _ (Walk.single e01)]
namespace FloodFacts
variable {g : G} {fr : Nat} {done : Nat → Option C} {back : Nat → Option Nat}
theorem step (H : FloodOk g.E fr g.n done back) {c t : Nat} {a e : C} (hc : done c = some a) (he : g.E c t e) : ∃ b, done t = some b ∧ C.cmp b (C.add a e) ≤ 0 := by
  cases ht : done t with
  | none => exact absurd ((H.in_ c a hc).1.snoc he) (H.out t ht _)
  | some b => exact ⟨b, rfl, C.cmp_le_zero.2 ((H.in_ c a hc).step he (H.in_ t b ht))⟩
theorem free (hg : g.ok) (H : FloodOk g.E fr g.n done back) (hfr : g.b fr = false) {c : Nat} {a : C} (hc : done c = some a) : g.b c = false := by
  rcases (H.in_ c a hc).1.inv with ⟨e, _⟩ | ⟨m, d, e, _, he, _⟩
  · rw [e]; exact hfr
  · exact (G.E_open hg he).2
theorem back_ (H : FloodOk g.E fr g.n done back) {c : Nat} {a : C} (hc : done c = some a) {done2 : Nat → Option C} {back2 : Nat → Option Nat} (H2 : FloodOk g.E c g.n done2 back2) : done2 fr = some a := by
  have hD := Dist.symm (E := g.E) (fun _ _ _ he => G.E_symm he) (H.in_ c a hc)
  cases h : done2 fr with
  | none => exact absurd hD.1 (H2.out fr h a)
  | some b => rw [(H2.in_ fr b h).unique hD]
theorem oct (H : FloodOk g.E fr g.n done back) {c : Nat} {a : C} (hc : done c = some a) : 0 ≤ C.cmp a (g.oct fr c) := C.cmp_nonneg.2 (G.oct_le (H.in_ c a hc).1)
end FloodFacts
theorem oct_bd {g : G} (hg : g.ok) {a b : Nat} (ha : a < g.n) (hb : b < g.n) : inCC (g.oct a b) := by
  obtain ⟨o1, o2, o3, o4⟩ := hg
  have h1 := G.X_lt ⟨o1, o2, o3, o4⟩ a
  have h2 := G.X_lt ⟨o1, o2, o3, o4⟩ b
  have h3 := G.Y_lt ha
  have h4 := G.Y_lt hb
  unfold G.oct octI
  split <;> refine ⟨?_, ?_⟩ <;> unfold inC <;> simp only <;> omega
set_option maxRecDepth 100000 in
set_option maxHeartbeats 6400000 in
theorem topFlood (W0 : World) (a b : Int) (A0 : Option Addr) (n0 m0 : Nat) (f0 : Nat → Int) (h0 : SlI W0 A0 n0 f0) (x : Int) (hx : -9223372036854775808 ≤ x ∧ x ≤ 9223372036854775807) :
    Calls Try.prog 16 #[.agg #[.int .i64 a, .int .i64 b, .slice A0 n0 m0], .int .i64 x] W0 fun e w' => e = .returned (.bool true) ∧ Below W0.heap.size W0 w' := by
  obtain ⟨hI0, hl0, _⟩ := h0
  have hl0 := Lib.hid hl0
  go_enter Try.func16, Try.ntmps16
  go_upto_region 1 with (fail)
  refine wp_name ?_
  intro W hW
  have HW : Below W0.heap.size W0 W := by rw [hW]; (repeat' (first | exact Below.refl _ _ | assumption | apply bel_drewN | apply bel_drew | apply bel_alloc | (refine bel_trans ?_ (by assumption))))
  have k0 : ∀ w', Below W.heap.size W w' → w'.cell? ⟨W0.heap.size, 0, none⟩ = some (.int .i64 a : Value) := fun w' hbw => (hbw.cell (p := ⟨W0.heap.size, 0, none⟩) (by rw [hW]; simp <;> omega)).trans (by rw [hW]; go_simp)
  have k1 : ∀ w', Below W.heap.size W w' → w'.cell? ⟨W0.heap.size, 1, none⟩ = some (.int .i64 b : Value) := fun w' hbw => (hbw.cell (p := ⟨W0.heap.size, 1, none⟩) (by rw [hW]; simp <;> omega)).trans (by rw [hW]; go_simp)
  have k2 : ∀ w', Below W.heap.size W w' → w'.cell? ⟨W0.heap.size, 2, none⟩ = some (.slice A0 n0 m0 : Value) := fun w' hbw => (hbw.cell (p := ⟨W0.heap.size, 2, none⟩) (by rw [hW]; simp <;> omega)).trans (by rw [hW]; go_simp)
  clear hW
  go_wp2_with fail
  (with_reducible refine (gridNew_ex 2 1 _ (by decide)).mono ?_)
  rintro e w1 ⟨p0, rfl, hp0, hG, hb1⟩
  have hG : GridAt w1 p0 ⟨2, 1, fun _ => false⟩ 0 := hG
  go_wp2_with fail
  refine (floodFrom_ok _ p0 _ _ 0 hG (by decide) rfl).mono ?_
  rintro e w2 ⟨bf, done, back, rfl, hF, hbl, hb2, _⟩
  have HB2 := bel_trans hb1 hb2
  have d3 := from21 (by obtain ⟨_, _, _, _, _, _, h, _⟩ := hF; exact h)
  have cRe := floodReached _ bf _ 0 done back hF
  rw [d3] at cRe
  have cRe := Lib.hid cRe
  clear d3 hF hb1 hb2 hG hbl
  go_wp2_with fail
  refine cRe.out.mono ?_
  rintro e w' ⟨rfl, rfl⟩
  clear cRe
  go_wp2_with fail
  (with_reducible refine (laid_any a b A0 n0 m0 f0 _ ((hI0.below HW).below HB2) hl0.out).mono ?_)
  rintro e w3 (⟨rfl, hb3⟩ | ⟨p, q, g, v, rfl, hp1, hpq, hG, hR, hv0, hv1, hb3⟩)
  · have HB3 := bel_trans (bel_trans HW HB2) hb3
    go_wp2
    go_ret
    exact ⟨rfl, HB3⟩
  have HB3 := bel_trans (bel_trans HW HB2) hb3
  clear k0 k1 k2 hb3 HB2 HW
  by_cases hin : 0 ≤ x ∧ x < g.n
  · obtain ⟨hin0, hin1⟩ := hin
    obtain ⟨fr, rfl⟩ := Int.eq_ofNat_of_zero_le hin0
    have hfr : fr < g.n := by omega
    cases hbl : g.b fr with
    | true =>
      go_wp2_with fail
      (with_reducible refine (floodFrom_blocked _ p g v fr hG hfr hbl).mono ?_)
      rintro e w4 ⟨rfl, hb4⟩
      go_wp2
      go_ret
      exact ⟨rfl, bel_trans HB3 hb4⟩
    | false =>
      go_wp2_with fail
      (with_reducible refine (floodFrom_ok _ p g v fr hG hfr hbl).mono ?_)
      rintro e w4 ⟨bf, done, back, rfl, hF, hbf, hb4, _⟩
      have hG4 := Lib.hid (hG.below hb4 hG.lt)
      have hR4 := Lib.hid (hR.below hb4 hR.lt)
      have hF4 := Lib.hid hF
      have HB4 := Lib.hid (bel_trans HB3 hb4)
      obtain ⟨_, _, _, _, _, hFI, hOk, _⟩ := hF
      have hok := hG.1
      have hNn := G.n_le hok
      have hOk := Lib.hid hOk
      clear hFI hb4 hG hR HB3 hbf
      go_wp2_with fail
      go_loopw [11] (fun kv wr => ∃ c : Nat, c ≤ g.n ∧ kv = .int .i64 c ∧ Below w4.heap.size w4 wr) (fun kv _ => g.n - (intOf kv).toNat)
      case atStart => exact ⟨0, by omega, rfl, Below.refl _ _⟩
      case round =>
        obtain ⟨c, hc, rfl, HB⟩ := hrel
        go_wp2_with fail
        (with_reducible refine (gridCellsN _ p g v (hG4.out.below HB hG4.out.lt)).mono ?_)
        rintro e w5 ⟨rfl, hb5⟩
        have HB5 := bel_trans HB hb5
        clear hb5 HB
        by_cases hcn : c < g.n
        · cases hd : done c with
          | none =>
            go_wp2_with fail
            (with_reducible refine (floodCost_none _ bf g fr done back c (hF4.out.below HB5) hcn hd).mono ?_)
            rintro e w6 ⟨rfl, hb6⟩
            have HB6 := bel_trans HB5 (bel_trans hb6 (bel_alloc (Below.refl _ _) (o := .cells #[.int .i64 0, .int .i64 0] 23)))
            clear hb6 HB5
            go_wp2
            go_roundw
            case rel => first | exact ⟨c + 1, by omega, by go_num, HB6⟩ | ((repeat apply Exists.intro); exact ⟨⟨c + 1, by omega, by go_num, HB6⟩, rfl⟩)
            case measure => simp [intOf]; omega
          | some y =>
            obtain ⟨xs, xd⟩ := y
            have hab := hOk.out.small _ _ hd
            simp only at hab
            obtain ⟨ab1, ab2, ab3, ab4⟩ := hab
            have Hd := Lib.hid hd
            go_wp2_with fail
            (with_reducible refine (floodCost_some _ bf g fr done back c xs xd (hF4.out.below HB5) hd).mono ?_)
            rintro e w6 ⟨rfl, hb6⟩
            go_upto_region 18 with (fail)
            refine wp_name ?_
            intro W6 hW6
            have HW6 : Below w6.heap.size w6 W6 := by rw [hW6]; (repeat' (first | exact Below.refl _ _ | assumption | apply bel_drewN | apply bel_drew | apply bel_alloc | (refine bel_trans ?_ (by assumption))))
            have c0 : W6.cell? ⟨w6.heap.size, 0, none⟩ = some (.int .i64 xs) := by rw [hW6]; go_simp
            have c1 : W6.cell? ⟨w6.heap.size, 1, none⟩ = some (.int .i64 xd) := by rw [hW6]; go_simp
            have HB6 := bel_trans HB5 (bel_trans hb6 HW6)
            obtain ⟨ba, hba⟩ : ∃ z, w6.heap.size = z := ⟨_, rfl⟩
            rw [hba] at c0 c1 ⊢
            clear hW6 HW6 hb6 HB5 hd hba
            go_wp2_with fail
            (with_reducible refine (rMovesN _ q g v c (hR4.out.below HB6 hR4.out.lt) hcn).mono ?_)
            rintro e w7 ⟨A1, m1, rfl, hI1, hN1, hb7⟩
            have c0 := Lib.hid (bel_cell hb7 c0)
            have c1 := Lib.hid (bel_cell hb7 c1)
            have HB7 := Lib.hid (bel_trans HB6 hb7)
            obtain ⟨nl, hnl⟩ : ∃ nl, (movesI g c).length = nl := ⟨_, rfl⟩
            rw [hnl] at hI1 ⊢
            have hnl8 : nl ≤ 8 := by rw [← hnl]; exact upTo_len _ _
            have HI1 := Lib.hid hI1
            have Hnl := Lib.hid hnl
            clear hb7 HB6 hN1 hI1 hnl
            go_wp2_with fail
            obtain ⟨wo, rfl⟩ : ∃ wo : World, wo = wr := ⟨_, rfl⟩
            go_loopw [15] (fun kv wr => ∃ j : Nat, j ≤ nl ∧ kv = .int .i64 j ∧ Below w7.heap.size w7 wr) (fun kv _ => nl - (intOf kv).toNat)
            case atStart => exact ⟨0, by omega, rfl, Below.refl _ _⟩
            case round =>
              obtain ⟨j, hj, rfl, HBj⟩ := hrel
              have HBw := bel_trans HB7.out HBj
              by_cases hlj : j < nl
              · have hIj := HI1.out.below HBj
                obtain ⟨ad1, hA1⟩ := hIj.addr (by omega)
                have hIb := hIj
                rw [hA1] at hIb
                have hix1 := fun wx => idx_run (m := m1) hA1 hlj wx
                have hE1 := hIb.cell (Below.refl _ _) hlj
                obtain ⟨d, hd8, hmay, hgd, hnth⟩ := moves_at (g := g) (k := c) (j := j) (by rw [Hnl.out]; exact hlj)
                rw [hgd] at hE1
                obtain ⟨ht1, ht2⟩ := to_eq hmay
                obtain ⟨tt, hto⟩ : ∃ tt, g.to c d = tt := ⟨_, rfl⟩
                rw [hto] at ht1 ht2
                obtain ⟨⟨bs, bd⟩, hbt, hcmp⟩ := FloodFacts.step hOk.out Hd.out (⟨hcn, d, hd8, hmay, hto.symm, rfl⟩ : g.E c tt (stepC d))
                obtain ⟨es, ed, hst, hr1, hr2, hr3, hr4⟩ := step_parts d
                rw [hst] at hcmp
                have hbb := hOk.out.small _ _ hbt
                simp only at hbb
                obtain ⟨bb1, bb2, bb3, bb4⟩ := hbb
                have cA := Lib.hid (fun w => costAdd xs xd es ed w (by unfold inC; omega) (by unfold inC; omega) (by unfold inC; omega) (by unfold inC; omega))
                have cC := fun w => costCompare bs bd (xs + es) (xd + ed) w (by unfold inC; omega) (by unfold inC; omega) (by unfold inC; omega) (by unfold inC; omega)
                obtain ⟨cv, hcv⟩ : ∃ cv, C.cmp ⟨bs, bd⟩ ⟨xs + es, xd + ed⟩ = cv := ⟨_, rfl⟩
                have hcv0 : cv ≤ 0 := by rw [← hcv]; exact hcmp
                rw [hcv] at cC
                have cC := Lib.hid cC
                have hwr2 : IntKind.i64.wrap (1 - ed) = es := by rw [← hr2]; exact IntWalk.i64_in _ (by omega)
                have cT := Lib.hid (fun w' h' => To_eq w' p g v c d (tt : Nat) h' hcn hd8 ht1)
                have Hbt := Lib.hid hbt
                have d0 : (0 : Int) ≤ (d : Int) := by omega
                have jq0 : (0 : Int) ≤ (j : Int) := by omega
                have jq1 : (j : Int) < (nl : Int) := by omega
                have c0 := bel_cell HBj c0.out
                have c1 := bel_cell HBj c1.out
                clear hA1 hIb hIj hgd hto hmay hnth hst hr2 hr3 hr4 hcmp hcv hbt bb1 bb2 bb3 bb4
                go_wp2_with fail
                (with_reducible refine (cT.out _ (hG4.out.below HBw hG4.out.lt)).mono ?_)
                rintro e w8 ⟨rfl, hb8⟩
                have HBw := bel_trans HBw hb8
                have HBj := bel_trans HBj hb8
                have hE1 := bel_cell hb8 hE1
                have c0 := bel_cell hb8 c0
                have c1 := bel_cell hb8 c1
                clear hb8 cT
                go_wp2_with fail
                (with_reducible refine (floodCost_some _ bf g fr done back tt bs bd (hF4.out.below HBw) Hbt.out).mono ?_)
                rintro e w9 ⟨rfl, hb9⟩
                go_upto_region 23 with (fail)
                refine wp_name ?_
                intro W9 hW9
                have HW9 : Below w9.heap.size w9 W9 := by rw [hW9]; (repeat' (first | exact Below.refl _ _ | assumption | apply bel_drewN | apply bel_drew | apply bel_alloc | (refine bel_trans ?_ (by assumption))))
                have b0 : W9.cell? ⟨w9.heap.size, 0, none⟩ = some (.int .i64 bs) := by rw [hW9]; go_simp
                have b1 : W9.cell? ⟨w9.heap.size, 1, none⟩ = some (.int .i64 bd) := by rw [hW9]; go_simp
                have hb9 := bel_trans hb9 HW9
                have HBw := bel_trans HBw hb9
                have HBj := bel_trans HBj hb9
                have hE1 := bel_cell hb9 hE1
                have c0 := bel_cell hb9 c0
                have c1 := bel_cell hb9 c1
                obtain ⟨bb, hbb⟩ : ∃ z, w9.heap.size = z := ⟨_, rfl⟩
                rw [hbb] at b0 b1 ⊢
                clear hb9 HW9 hW9 hbb
                have n2 := World.new_ne W9 _ hE1
                have hE1a := fun o => alloc_some (o := o) hE1
                have H0 := Lib.hid (And.intro HBw HBj)
                have H1 := Lib.hid (And.intro c0 (And.intro c1 (And.intro b0 b1)))
                clear HBw HBj c0 c1 b0 b1
                go_cut [18] (fun s wx => ∃ D, s = .pointer (some ⟨D, 0, none⟩) ∧ wx.cell? ⟨D, 0, none⟩ = some (.int .i64 es) ∧ wx.cell? ⟨D, 1, none⟩ = some (.int .i64 ed) ∧ Below W9.heap.size W9 wx)
                case first =>
                  go_region_held3 (fun w' => w'.cell? (ad1.add j) = some (.int .i64 (d : Nat)))
                    (first
                      | (go_keep; done)
                      | exact alloc_swap (by rw [add_block]; have := World.block_lt_of_cell? _ _ hE1; rw [add_block] at this; simp; omega) (by assumption))
                    (fail)
                  all_goals
                    go_wp2
                    go_meet
                    case rel => exact ⟨_, rfl, by go_simp, by go_simp, by first | (repeat' (first | exact Below.refl _ _ | assumption | apply bel_drewN | apply bel_drew | apply bel_alloc | (refine bel_trans ?_ (by assumption)))) | exact ((bel_drew (bel_alloc (Below.refl _ _))).setCell (by simp) _).setCell (by simp) _⟩
                case rest =>
                obtain ⟨D, rfl, s0, s1, hdr⟩ := hcut
                have HBw := bel_trans H0.out.1 hdr
                have HBj := bel_trans H0.out.2 hdr
                have c0 := bel_cell hdr H1.out.1
                have c1 := bel_cell hdr H1.out.2.1
                have b0 := bel_cell hdr H1.out.2.2.1
                have b1 := bel_cell hdr H1.out.2.2.2
                clear hdr hE1 n2 hE1a H0 H1 hix1
                obtain ⟨WX, hWX⟩ : ∃ z : World, wc = z := ⟨_, rfl⟩
                rw [hWX] at s0 s1 HBw HBj c0 c1 b0 b1 ⊢
                clear hWX
                go_upto_region 24 with (fail)
                go_upto_region 24 with (fail)
                have b0q := cell_regrown b0
                have b1q := cell_regrown b1
                have c0q := cell_regrown c0
                have c1q := cell_regrown c1
                have s0q := cell_regrown s0
                have s1q := cell_regrown s1
                have HBX := Below.refl WX.heap.size WX
                refine wp_region_quiet_below (by kernel_rfl) (by kernel_rfl) ?_
                repeat (first | go_big_quiet_step (first | (with_reducible exact Calls.regrown_of (cA.out _)) | (with_reducible exact Calls.regrown_of (cC.out _))) | quiet_step (first | (with_reducible exact Calls.regrown_of (cA.out _)) | (with_reducible exact Calls.regrown_of (cC.out _))))
                refine wpQuiet_nil ?_
                intro _ hw'
                obtain ⟨⟨dq, osq⟩, hw''⟩ := hw'
                have HBY := bel_trans HBX (below_regrown WX dq osq)
                have hb2 := below_regrown WX dq osq
                subst hw''
                generalize grow (redrawn WX dq) osq = wY at HBY hb2 ⊢
                have HBj := bel_trans HBj HBY
                have hgt : ¬ ((0 : Int) < cv) := by omega
                have hgt2 : decide ((0 : Int) < cv) = false := by simp; omega
                clear HBw HBY hb2 b0 b1 c0 c1 s0 s1 b0q b1q c0q c1q s0q s1q cA cC
                go_wp2
                go_roundw
                case rel => first | exact ⟨j + 1, by omega, by go_num, HBj⟩ | ((repeat apply Exists.intro); exact ⟨⟨j + 1, by omega, by go_num, HBj⟩, rfl⟩)
                case measure => simp [intOf]; omega
              · obtain rfl : j = nl := by omega
                have hcb := FloodFacts.free hok hOk.out hbl Hd.out
                have hoc := FloodFacts.oct hOk.out Hd.out
                have c0 := bel_cell HBj c0.out
                have c1 := bel_cell HBj c1.out
                go_wp2_with fail
                (with_reducible refine (floodFrom_ok _ p g v c (hG4.out.below HBw hG4.out.lt) hcn hcb).mono ?_)
                rintro e w8 ⟨b2f, done2, back2, rfl, hF2, _, hb8, _⟩
                have HBw := bel_trans HBw hb8
                have c0 := bel_cell hb8 c0
                have c1 := bel_cell hb8 c1
                have hd2 : done2 fr = some ⟨xs, xd⟩ := by
                  obtain ⟨_, _, _, _, _, _, h, _⟩ := hF2
                  exact FloodFacts.back_ hOk.out Hd.out h
                clear hb8 HBj hcb
                go_wp2_with fail
                (with_reducible refine (floodCost_some _ b2f g c done2 back2 fr xs xd hF2 hd2).mono ?_)
                rintro e w9 ⟨rfl, hb9⟩
                go_upto_region 30 with (fail)
                refine wp_name ?_
                intro W9 hW9
                have HW9 : Below w9.heap.size w9 W9 := by rw [hW9]; (repeat' (first | exact Below.refl _ _ | assumption | apply bel_drewN | apply bel_drew | apply bel_alloc | (refine bel_trans ?_ (by assumption))))
                have b0 : W9.cell? ⟨w9.heap.size, 0, none⟩ = some (.int .i64 xs) := by rw [hW9]; go_simp
                have b1 : W9.cell? ⟨w9.heap.size, 1, none⟩ = some (.int .i64 xd) := by rw [hW9]; go_simp
                have hb9 := bel_trans hb9 HW9
                have HBw := bel_trans HBw hb9
                have c0 := bel_cell hb9 c0
                have c1 := bel_cell hb9 c1
                obtain ⟨bb, hbb⟩ : ∃ z, w9.heap.size = z := ⟨_, rfl⟩
                rw [hbb] at b0 b1 ⊢
                clear hb9 HW9 hW9 hbb hF2 hd2
                obtain ⟨⟨os, od⟩, hox⟩ : ∃ z, g.oct fr c = z := ⟨_, rfl⟩
                have hob := oct_bd hok hfr hcn
                rw [hox] at hob hoc
                obtain ⟨ob1, ob2⟩ := hob
                have cO := Lib.hid (fun w => topOct w g fr c ⟨os, od⟩ hok hfr hcn hox)
                have cC := fun w => costCompare xs xd os od w (by unfold inC; omega) (by unfold inC; omega) ob1 ob2
                obtain ⟨cv, hcv⟩ : ∃ cv, C.cmp ⟨xs, xd⟩ ⟨os, od⟩ = cv := ⟨_, rfl⟩
                rw [hcv] at cC hoc
                have cC := Lib.hid cC
                have kw := (hR4.out.below HBw hR4.out.lt).size.1
                have b0q := cell_regrown b0
                have b1q := cell_regrown b1
                have c0q := cell_regrown c0
                have c1q := cell_regrown c1
                have kwq := cell_regrown kw
                clear hox hcv ob1 ob2
                have HBX := Below.refl W9.heap.size W9
                refine wp_region_quiet_below (by kernel_rfl) (by kernel_rfl) ?_
                repeat (first | go_big_quiet_step (first | (with_reducible exact Calls.regrown_of (cO.out _)) | (with_reducible exact Calls.regrown_of (cC.out _))) | quiet_step (first | (with_reducible exact Calls.regrown_of (cO.out _)) | (with_reducible exact Calls.regrown_of (cC.out _))))
                refine wpQuiet_nil ?_
                intro _ hw'
                obtain ⟨⟨dq, osq⟩, hw''⟩ := hw'
                have HBY := bel_trans HBX (below_regrown W9 dq osq)
                have hb2 := below_regrown W9 dq osq
                subst hw''
                generalize grow (redrawn W9 dq) osq = wY at HBY hb2 ⊢
                have HBw := bel_trans HBw HBY
                have hlt2 : decide (cv < (0 : Int)) = false := by simp; omega
                clear HBY hb2 b0 b1 c0 c1 kw b0q b1q c0q c1q kwq cO cC
                by_cases hbrk : 64 < g.n ∧ 20 < c
                · obtain ⟨hbk1, hbk2⟩ := hbrk
                  go_wp2_with fail
                  (with_reducible refine (gridCellsN _ p g v (hG4.out.below HBw hG4.out.lt)).mono ?_)
                  rintro e wZ ⟨rfl, hbZ⟩
                  have HBw := bel_trans HBw hbZ
                  clear hbZ
                  go_wp2
                  go_ret
                  exact ⟨rfl, bel_trans HB4.out HBw⟩
                · go_wp2_with fail
                  (with_reducible refine (gridCellsN _ p g v (hG4.out.below HBw hG4.out.lt)).mono ?_)
                  rintro e wZ ⟨rfl, hbZ⟩
                  have HBw := bel_trans HBw hbZ
                  clear hbZ
                  by_cases h64 : 64 < g.n
                  · have h20 : ¬ 20 < c := fun h => hbrk ⟨h64, h⟩
                    clear hbrk
                    go_wp2
                    go_roundw
                    case rel => first | exact ⟨c + 1, by omega, by go_num, HBw⟩ | ((repeat apply Exists.intro); exact ⟨⟨c + 1, by omega, by go_num, HBw⟩, rfl⟩)
                    case measure => simp [intOf]; omega
                  · clear hbrk
                    go_wp2
                    go_roundw
                    case rel => first | exact ⟨c + 1, by omega, by go_num, HBw⟩ | ((repeat apply Exists.intro); exact ⟨⟨c + 1, by omega, by go_num, HBw⟩, rfl⟩)
                    case measure => simp [intOf]; omega
        · obtain rfl : c = g.n := by omega
          go_wp2
          go_ret
          exact ⟨rfl, bel_trans HB4.out HB5⟩
  · go_wp2_with fail
    (with_reducible refine (floodFrom_out _ p g v x hG (by omega)).mono ?_)
    rintro e w4 ⟨rfl, hb4⟩
    go_wp2
    go_ret
    exact ⟨rfl, bel_trans HB3 hb4⟩
end Go.Proofs.Ytkiogciokngjfaa
