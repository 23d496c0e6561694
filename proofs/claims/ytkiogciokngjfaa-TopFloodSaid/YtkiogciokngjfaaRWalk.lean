/- R.Walk: what a way costs, by the document's words. -/
import Derived.Test.YtkiogciokngjfaaFlood7
import Derived.Test.YtkiogciokngjfaaRFlood
set_option linter.unusedVariables false
set_option linter.unusedSimpArgs false
namespace Go.Proofs.Ytkiogciokngjfaa
open Go.RowKit Go.Sort FR
set_option maxRecDepth 100000 in
theorem rFault (w : World) (p : Nat) (g : G) (v x : Int) (h : RGridAt w p g v) :
    Calls Try.prog 67 #[.pointer (some ⟨p, 0, none⟩), .int .i64 x] w fun e w' => e = .returned (.int .i64 (g.fault x : Nat)) ∧ Below w.heap.size w w' := by
  by_cases hin : 0 ≤ x ∧ x < g.n
  · obtain ⟨h0, h1⟩ := hin
    obtain ⟨c, rfl⟩ := Int.eq_ofNat_of_zero_le h0
    have hc : c < g.n := by omega
    have hn := G.n_le h.1
    have hb := fun w' (hb : Below w.heap.size w w') => (h.below hb h.lt).bit c (by omega)
    rw [G.fault_in hc]
    obtain ⟨t, ht⟩ : ∃ t, g.b c = t := ⟨_, rfl⟩
    rw [ht] at hb ⊢
    have hb := Lib.hid hb
    have hc256 : (c : Int) < 256 := by omega
    go_enter Try.func67, Try.ntmps67
    go_wp2_with fail
    (with_reducible refine (rIs_in _ p g v c h hc).mono ?_)
    rintro e w1 ⟨rfl, hb1⟩
    have k := hb.out _ hb1
    cases t with
    | true =>
      go_wp2
      go_ret
      exact ⟨rfl, hb1⟩
    | false =>
      go_wp2
      go_ret
      exact ⟨rfl, hb1⟩
  · rw [G.fault_out (by omega)]
    go_enter Try.func67, Try.ntmps67
    go_wp2_with fail
    (with_reducible refine (rIs_out _ p g v x h (by omega)).mono ?_)
    rintro e w1 ⟨rfl, hb1⟩
    go_wp2
    go_ret
    exact ⟨rfl, hb1⟩
def costWI (x : C × Nat) : Value := .tuple #[.agg #[.int .i64 x.1.s, .int .i64 x.1.d], .int .i64 (x.2 : Nat)]
def RWkD (w : World) (x : C × Nat) (e : Ending) (w' : World) : Prop := e = .returned (costWI x) ∧ Below w.heap.size w w'
/-- the cost, when so many moves have been looked at -/
def cAt (g : G) (k : Nat) (c : C) (o : Option Nat) (j : Nat) : C := match o with | some kk => if kk < j then C.add c (g.wst k kk) else c | none => c
def fAt (o : Option Nat) (j : Nat) : Bool := match o with | some kk => decide (kk < j) | none => false
theorem at_zero (g : G) (k : Nat) (c : C) (o : Option Nat) : cAt g k c o 0 = c ∧ fAt o 0 = false := by
  unfold cAt fAt
  cases o <;> simp
theorem at_miss {g : G} {k j : Nat} {c : C} {o : Option Nat} (h : o ≠ some j) : cAt g k c o (j + 1) = cAt g k c o j ∧ fAt o (j + 1) = fAt o j := by
  unfold cAt fAt
  cases o with
  | none => simp
  | some kk =>
    have : kk ≠ j := fun e => h (by rw [e])
    have e1 : (kk < j + 1) = (kk < j) := by simp; omega
    simp only [e1, and_self]
theorem at_hit {g : G} {k j : Nat} {c : C} {o : Option Nat} (h : o = some j) : cAt g k c o (j + 1) = C.add c (g.wst k j) ∧ fAt o (j + 1) = true ∧ cAt g k c o j = c := by
  subst h; simp [cAt, fAt]
/-- what holds at a round's head: what the first cells cost -/
def RWI (W : World) (b6 : Nat) (g : G) (f : Nat → Int) (i : Nat) (wr : World) : Prop := WkI W b6 g f i wr
/-- and at the head of a round within a round -/
def RWJ (W : World) (b6 : Nat) (x : C) (wr : World) : Prop := wr.cell? ⟨b6, 0, none⟩ = some (.int .i64 x.s) ∧ wr.cell? ⟨b6, 1, none⟩ = some (.int .i64 x.d) ∧ wr.frozen? ⟨b6, 0, none⟩ = false ∧ wr.frozen? ⟨b6, 1, none⟩ = false ∧ Kept [b6] W wr
theorem adK {S : List Nat} {w w' : World} {ad : Addr} {k : Nat} {v : Value} (h : Kept S w w') (hb : ad.block ∉ S) (hc : w.cell? (ad.add k) = some v) : w'.cell? (ad.add k) = some v := by
  have hl := World.block_lt_of_cell? _ _ hc
  rw [add_block] at hl
  have e : w'.cell? (ad.add k) = w.cell? (ad.add k) := World.cell?_of_block (by rw [add_block]; exact h.block _ hl hb)
  rw [e]; exact hc
theorem RWJ.below {W w w' : World} {b6 : Nat} {x : C} (h : RWJ W b6 x w) (hb : Below w.heap.size w w') : RWJ W b6 x w' := by
  obtain ⟨h1, h2, h3, h4, h5⟩ := h
  have l := World.block_lt_of_cell? _ _ h1
  exact ⟨bel_cell hb h1, bel_cell hb h2, bframe hb l h3, bframe hb l h4, h5.trans (Kept.of_below hb)⟩
theorem RWJ.of_set {W w7 wA : World} {b6 : Nat} {x y : Int} {u v : Value} (hK7 : Kept [b6] W w7) (hb : Below w7.heap.size w7 wA) (c60 : wA.cell? ⟨b6, 0, none⟩ = some u) (c61 : wA.cell? ⟨b6, 1, none⟩ = some v)
    (r60 : wA.frozen? ⟨b6, 0, none⟩ = false) (r61 : wA.frozen? ⟨b6, 1, none⟩ = false) : RWJ W b6 ⟨x, y⟩ ((wA.setCell ⟨b6, 0, none⟩ (.int .i64 x)).setCell ⟨b6, 1, none⟩ (.int .i64 y)) := by
  have e := set_two (x := .int .i64 x) (y := .int .i64 y) c60 c61
  refine ⟨e.1, e.2, by simpa using r60, by simpa using r61, ?_⟩
  exact hK7.trans (((Kept.of_below hb).setCell (.inl (by simp))).setCell (.inl (by simp)))
set_option maxRecDepth 100000 in
set_option maxHeartbeats 3200000 in
theorem rWalk (w : World) (p : Nat) (g : G) (v : Int) (A : Option Addr) (n m : Nat) (f : Nat → Int) (hG : RGridAt w p g v) (hI : Ints w A n f) (hn : n ≤ 1000000) :
    Calls Try.prog 73 #[.pointer (some ⟨p, 0, none⟩), .slice A n m] w (RWkD w (g.wout f n)) := by
  go_enter Try.func73, Try.ntmps73
  go_upto_region 2 with (fail)
  refine wp_name ?_
  intro W hW
  have HW : Below w.heap.size w W := by rw [hW]; (repeat' (first | exact Below.refl _ _ | assumption | apply bel_drewN | apply bel_drew | apply bel_alloc | (refine bel_trans ?_ (by assumption))))
  obtain ⟨b4, hb4⟩ : ∃ b, w.heap.size = b := ⟨_, rfl⟩
  have hWs : W.heap.size = b4 + 1 + 1 := by rw [hW]; simp; omega
  have q40 : W.cell? ⟨b4, 0, none⟩ = some (.int .i64 0) := by rw [hW, ← hb4]; go_simp
  have q41 : W.cell? ⟨b4, 1, none⟩ = some (.int .i64 0) := by rw [hW, ← hb4]; go_simp
  have r40 : W.frozen? ⟨b4, 0, none⟩ = false := by rw [hW, ← hb4]; go_simp
  have r41 : W.frozen? ⟨b4, 1, none⟩ = false := by rw [hW, ← hb4]; go_simp
  have q60 : W.cell? ⟨b4 + 1, 0, none⟩ = some (.int .i64 0) := by rw [hW, ← hb4]; go_simp
  have q61 : W.cell? ⟨b4 + 1, 1, none⟩ = some (.int .i64 0) := by rw [hW, ← hb4]; go_simp
  have r60 : W.frozen? ⟨b4 + 1, 0, none⟩ = false := by rw [hW, ← hb4]; go_simp
  have r61 : W.frozen? ⟨b4 + 1, 1, none⟩ = false := by rw [hW, ← hb4]; go_simp
  have hGW := Lib.hid (hG.below HW hG.lt)
  have hIW := Lib.hid (hI.below HW)
  have hpl := hG.lt
  rw [hb4] at hpl ⊢
  obtain ⟨b6, hb6⟩ : ∃ b, b4 + 1 = b := ⟨_, rfl⟩
  rw [hb6] at hWs q60 q61 r60 r61 ⊢
  have hok := hG.1
  have hNn := G.n_le hok
  have hAd : 0 < n → ∀ ad, A = some ad → ad.block < b4 := fun h0 ad e => by
    obtain ⟨ad', e', hlt, _⟩ := hI h0
    rw [e'] at e; injection e with e; subst e; omega
  have hAd := Lib.hid hAd
  clear hW hG hI
  have hstart : WkI W b6 g f 0 W := ⟨0, 0, rfl, q60, q61, r60, r61, Kept.refl _ _⟩
  go_wp2_with fail
  go_loopw [7] (fun kv wr => ∃ i : Nat, i ≤ n ∧ kv = .int .i64 i ∧ WkI W b6 g f i wr) (fun kv _ => n - (intOf kv).toNat)
  case atStart => exact ⟨0, by omega, rfl, hstart⟩
  case round =>
    obtain ⟨i, hi, rfl, cs, cd, hres, c60, c61, r60, r61, hK⟩ := hrel
    clear hstart q60 q61
    have q40 := cellK hK (by simp; omega) q40
    have q41 := cellK hK (by simp; omega) q41
    have r40 := kframe hK (by simp; omega) (by omega) r40
    have r41 := kframe hK (by simp; omega) (by omega) r41
    have hGr := Lib.hid (hGW.out.kept hK (by simp; omega))
    have hIr := Lib.hid (hIW.out.kept0 hK (fun h0 ad e => by have := hAd.out h0 ad e; simp; omega))
    have hBr : Below w.heap.size w wr := Kept.below HW hK HW.size (by simp; omega)
    have hBr := Lib.hid hBr
    have HK := Lib.hid hK
    have hsz := hK.size
    clear hK
    by_cases hlt : i < n
    · obtain ⟨ad, hA⟩ := hIr.out.addr (by omega)
      have hIb := hIr.out
      rw [hA] at hIb
      have hix := fun wx => idx_run (m := m) hA hlt wx
      have hE := hIb.cell (Below.refl _ _) hlt
      have Hres := Lib.hid hres
      clear hA hIb hres
      obtain ⟨fi, hfi⟩ : ∃ fi, f i = fi := ⟨_, rfl⟩
      rw [hfi] at hE
      have cF := Lib.hid (fun w' h' => rFault w' p g v fi h')
      obtain ⟨fa, hfa⟩ : ∃ fa, g.fault fi = fa := ⟨_, rfl⟩
      rw [hfa] at cF
      have Hfi := Lib.hid hfi
      have Hfa := Lib.hid hfa
      clear hfi hfa
      go_wp2_with fail
      (with_reducible refine (cF.out _ hGr.out).mono ?_)
      rintro e w6 ⟨rfl, hb6'⟩
      have hs6 := hb6'.size
      have q40 := bel_cell hb6' q40
      have q41 := bel_cell hb6' q41
      have r40 := bframe hb6' (by simp only; omega) r40
      have r41 := bframe hb6' (by simp only; omega) r41
      have c60 := bel_cell hb6' c60
      have c61 := bel_cell hb6' c61
      have r60 := bframe hb6' (by simp only; omega) r60
      have r61 := bframe hb6' (by simp only; omega) r61
      have hG6 := Lib.hid (hGr.out.below hb6' hGr.out.lt)
      have hI6 := Lib.hid (hIr.out.below hb6')
      have hB6 := Lib.hid (bel_trans hBr.out hb6')
      have hK6 := Lib.hid (HK.out.trans (Kept.of_below hb6'))
      have hE := bel_cell hb6' hE
      clear cF hb6' hGr hIr hBr HK
      rcases Nat.eq_zero_or_pos fa with hfa | hfa
      · subst hfa
        obtain ⟨c, hc, hcn, hbl⟩ := G.fault_zero Hfa.out
        subst hc
        have Hf0 : g.fault (f i) = 0 := by rw [Hfi.out]; exact Hfa.out
        have Hf0 := Lib.hid Hf0
        rcases Nat.eq_zero_or_pos i with hi0 | hi0
        · subst hi0
          have hz : cs = 0 ∧ cd = 0 := by
            have h := Hres.out
            unfold G.wres at h
            injection h with h
            unfold C.zero at h
            injection h with h1 h2
            exact ⟨h1.symm, h2.symm⟩
          obtain ⟨rfl, rfl⟩ := hz
          have hin : WkI W b6 g f 1 w6 := ⟨0, 0, G.wres_first Hf0.out, c60, c61, r60, r61, hK6.out⟩
          have hin := Lib.hid hin
          clear c60 c61 r60 r61 q40 q41 r40 r41
          go_wp2
          go_roundw
          case rel => exact ⟨1, by omega, by go_num, hin.out⟩
          case measure => simp [intOf]; omega
        · obtain ⟨i', hii⟩ : ∃ i', i = i' + 1 := ⟨i - 1, by omega⟩
          have hii' : i' < n := by omega
          have hne : ((i : Int) == 0) = false := by simp; omega
          have Hres2 := Hres.out
          rw [hii] at Hres2
          obtain ⟨k, hfk, hkn, hkb⟩ := G.wres_ok Hres2
          have hbd := G.wres_bd Hres2
          simp only at hbd
          obtain ⟨bd1, bd2, bd3, bd4⟩ := hbd
          have Hres3 := Lib.hid Hres2
          have Hf1 : g.fault (f (i' + 1)) = 0 := by rw [← hii]; exact Hf0.out
          have Hf1 := Lib.hid Hf1
          have Hc : f (i' + 1) = (c : Nat) := by rw [← hii]; exact Hfi.out
          have Hc := Lib.hid Hc
          obtain ⟨ad, hA⟩ := hI6.out.addr (by omega)
          have hIb := hI6.out
          rw [hA] at hIb
          have hix2 := fun wx => idx_run (m := m) hA hii' wx
          have hE2 := hIb.cell (Below.refl _ _) hii'
          have hbad := hIb.blk' (by omega)
          have hA6 : ad.block < b4 := hAd.out (by omega) ad hA
          rw [hfk] at hE2
          have hwr : IntKind.i64.wrap ((i : Int) - 1) = (i' : Int) := by
            rw [show (i : Int) - 1 = (i' : Int) by omega]; exact IntWalk.i64_in _ (by omega)
          have hE3 := hIb.cell (Below.refl _ _) hlt
          rw [Hfi.out] at hE3
          have hix3 := fun wx => idx_run (m := m) hA hlt wx
          have Hii := Lib.hid hii
          have Hfk := Lib.hid hfk
          clear hA hIb Hres2 hfk hii hE hix
          go_wp2_with fail
          (with_reducible refine (rMovesN _ p g v k hG6.out hkn).mono ?_)
          rintro e w7 ⟨A1, m1, rfl, hI1, hN1, hb7'⟩
          have hs7 := hb7'.size
          have Q40 := Lib.hid (bel_cell hb7' q40)
          have Q41 := Lib.hid (bel_cell hb7' q41)
          have R40 := Lib.hid (bframe hb7' (by simp only; omega) r40)
          have R41 := Lib.hid (bframe hb7' (by simp only; omega) r41)
          have c60 := bel_cell hb7' c60
          have c61 := bel_cell hb7' c61
          have r60 := bframe hb7' (by simp only; omega) r60
          have r61 := bframe hb7' (by simp only; omega) r61
          have hG7 := Lib.hid (hG6.out.below hb7' hG6.out.lt)
          have hB7 := Lib.hid (bel_trans hB6.out hb7')
          have hK7 := Lib.hid (hK6.out.trans (Kept.of_below hb7'))
          have HE2 := Lib.hid (bel_cell hb7' hE2)
          have HE3 := Lib.hid (bel_cell hb7' hE3)
          obtain ⟨nl, hnl⟩ : ∃ nl, (movesI g k).length = nl := ⟨_, rfl⟩
          rw [hnl] at hI1 ⊢
          have hnl8 : nl ≤ 8 := by rw [← hnl]; exact upTo_len _ _
          have hN1 : 0 < nl → ∀ ad, A1 = some ad → ad.block ∉ [b6] := fun _ ad e => by have := hN1 ad e; simp; omega
          have HN1 := Lib.hid hN1
          have HI1 := Lib.hid hI1
          have Hnl := Lib.hid hnl
          obtain ⟨o, ho⟩ : ∃ o, g.widx k c = o := ⟨_, rfl⟩
          have Ho := Lib.hid ho
          have hAb6 : ad.block ≠ b6 := by omega
          have hpb6 : p ≠ b6 := by omega
          clear hE2 hE3 q40 q41 r40 r41 hG6 hI6 hB6 hK6 hb7' hI1 hN1 hnl ho hbad
          have hstart2 : RWJ w7 b6 (cAt g k ⟨cs, cd⟩ o 0) w7 := by rw [(at_zero g k ⟨cs, cd⟩ o).1]; exact ⟨c60, c61, r60, r61, Kept.refl _ _⟩
          have hf0 := (at_zero g k ⟨cs, cd⟩ o).2
          clear c60 c61 r60 r61
          go_wp2_with fail
          obtain ⟨wo, rfl⟩ : ∃ wo : World, wo = wr := ⟨_, rfl⟩
          go_loopw [10, 11] (fun fv kv wr => ∃ j : Nat, j ≤ nl ∧ fv = .bool (fAt o j) ∧ kv = .int .i64 j ∧ RWJ w7 b6 (cAt g k ⟨cs, cd⟩ o j) wr) (fun _ kv _ => nl - (intOf kv).toNat)
          case atStart => exact ⟨0, by omega, by rw [hf0], rfl, hstart2⟩
          case round =>
            obtain ⟨j, hj, rfl, rfl, hJ⟩ := hrel
            clear hstart2 hf0
            obtain ⟨c60, c61, r60, r61, hKj⟩ := hJ
            have hE2 := adK hKj (by simpa using hAb6) HE2.out
            have hE3 := adK hKj (by simpa using hAb6) HE3.out
            have q40 := cellK hKj (by simp; omega) Q40.out
            have q41 := cellK hKj (by simp; omega) Q41.out
            have r40 := kframe hKj (by simp; omega) (by omega) R40.out
            have r41 := kframe hKj (by simp; omega) (by omega) R41.out
            have hGj := Lib.hid (hG7.out.kept hKj (by simpa using hpb6))
            have hIj := Lib.hid (HI1.out.kept0 hKj HN1.out)
            have hsj := hKj.size
            have HKj := Lib.hid hKj
            obtain ⟨⟨xs, xd⟩, hx⟩ : ∃ x, cAt g k ⟨cs, cd⟩ o j = x := ⟨_, rfl⟩
            obtain ⟨fb, hfb⟩ : ∃ x, fAt o j = x := ⟨_, rfl⟩
            rw [hx] at c60 c61
            rw [hfb] at ⊢
            simp only at c60 c61
            have Hx := Lib.hid hx
            have Hfb := Lib.hid hfb
            clear hKj hx hfb
            by_cases hlj : j < nl
            · obtain ⟨ad1, hA1⟩ := hIj.out.addr (by omega)
              have hIb := hIj.out
              rw [hA1] at hIb
              have hix1 := fun wx => idx_run (m := m1) hA1 hlj wx
              have hE1 := hIb.cell (Below.refl _ _) hlj
              obtain ⟨d, hd8, hmay, hgd, hnth⟩ := moves_at (g := g) (k := k) (j := j) (by rw [Hnl.out]; exact hlj)
              rw [hgd] at hE1
              obtain ⟨ht1, ht2⟩ := to_eq hmay
              obtain ⟨tt, hto⟩ : ∃ tt, g.to k d = tt := ⟨_, rfl⟩
              rw [hto] at ht1 ht2
              obtain ⟨t, ht⟩ : ∃ t, ((tt : Int) == (c : Int)) = t := ⟨_, rfl⟩
              have hto2 : t = true ↔ o = some j := by
                have e1 : t = true ↔ g.to k d = c := by rw [← ht, hto]; simp; omega
                rw [e1, ← Ho.out]
                cases hw : g.widx k c with
                | none => simp; exact G.widx_none hw j d hnth
                | some i2 =>
                  obtain ⟨d2, z1, z2, z3⟩ := G.widx_some hw
                  rw [z3 j d hnth]; simp; omega
              have hwst : g.wst k j = stepC d := by unfold G.wst; rw [List.getD_eq_getElem?_getD, hnth]; rfl
              have cT := Lib.hid (fun w' h' => rTo_eq w' p g v k d (tt : Nat) h' hkn hd8 ht1)
              have Ht := Lib.hid hto2
              have Hwst := Lib.hid hwst
              have hp := hGj.out.lt
              have HB := Below.refl wr.heap.size wr
              have hE1q := cell_regrown hE1
              have hE2q := cell_regrown hE2
              have hE3q := cell_regrown hE3
              clear hA1 hIb hgd ht1 hto2 hto hmay hnth hwst
              go_upto_region 14 with (fail)
              refine wp_region_quiet_below (by kernel_rfl) (by kernel_rfl) ?_
              repeat (first | go_big_quiet_step ((with_reducible exact Calls.regrown_of (cT.out _ (hGj.out.below (HB.trans ((below_regrown wr _ _).mono HB.size)) hp)))) | quiet_step ((with_reducible exact Calls.regrown_of (cT.out _ (hGj.out.below (HB.trans ((below_regrown wr _ _).mono HB.size)) hp)))))
              refine wpQuiet_nil ?_
              intro _ hw'
              obtain ⟨⟨dq, osq⟩, hw''⟩ := hw'
              have HB8 := bel_trans HB (below_regrown wr dq osq)
              have hb2 := below_regrown wr dq osq
              subst hw''
              generalize grow (redrawn wr dq) osq = w8 at HB8 hb2 ⊢
              have hs8 := HB8.size
              have k60 := bel_cell HB8 c60
              have k61 := bel_cell HB8 c61
              have f60 := bframe HB8 (by simp only; omega) r60
              have f61 := bframe HB8 (by simp only; omega) r61
              have hK8 := Lib.hid (HKj.out.trans (Kept.of_below HB8))
              have hE1 := bel_cell HB8 hE1
              clear hE1q hE2q hE3q hE2 hE3 c60 c61 r60 r61 q40 q41 r40 r41 HKj hIj hGj hb2 HB8 cT
              cases t with
              | false =>
                have hnj : o ≠ some j := fun e => by have := Ht.out.2 e; cases this
                obtain ⟨m1', m2'⟩ := at_miss (g := g) (k := k) (c := ⟨cs, cd⟩) hnj
                have hJ : RWJ w7 b6 (cAt g k ⟨cs, cd⟩ o (j + 1)) w8 := by rw [m1', Hx.out]; exact ⟨k60, k61, f60, f61, hK8.out⟩
                have hJ := Lib.hid hJ
                have hf := Lib.hid (m2'.trans Hfb.out)
                clear hnj m1' m2' k60 k61 f60 f61
                go_wp2
                go_roundw
                case rel => first | exact ⟨j + 1, by omega, by rw [hf.out], by go_num, hJ.out⟩ | ((repeat apply Exists.intro); exact ⟨⟨j + 1, by omega, by rw [hf.out], by go_num, hJ.out⟩, rfl⟩)
                case measure => simp [intOf]; omega
              | true =>
                obtain ⟨m1', m2', m3'⟩ := at_hit (g := g) (k := k) (c := ⟨cs, cd⟩) (Ht.out.1 rfl)
                have hxx := Hx.out
                rw [m3'] at hxx
                injection hxx with hx1 hx2
                subst hx1
                subst hx2
                obtain ⟨es, ed, hst, hr1, hr2, hr3, hr4⟩ := step_parts d
                have cP := Lib.hid (fun w => refPlus cs cd es ed w (by unfold inC; omega) (by unfold inC; omega) (by unfold inC; omega) (by unfold inC; omega))
                have hwr2 : IntKind.i64.wrap (1 - ed) = es := by rw [← hr2]; exact IntWalk.i64_in _ (by omega)
                have hnew : cAt g k ⟨cs, cd⟩ o (j + 1) = ⟨cs + es, cd + ed⟩ := by rw [m1', Hwst.out, hst]; rfl
                have hnew := Lib.hid hnew
                have hf := Lib.hid m2'
                have d0 : (0 : Int) ≤ (d : Int) := by omega
                have jq0 : (0 : Int) ≤ (j : Int) := by omega
                have jq1 : (j : Int) < (nl : Int) := by omega
                clear m1' m2' m3' hst hr2 hr3 hr4
                go_upto_region 15 with (fail)
                go_cut [] (fun wx => RWJ w7 b6 ⟨cs + es, cd + ed⟩ wx)
                case first =>
                  go_region_with (go_at_call 29; refine (cP.out _).mono ?_; rintro e wA ⟨rfl, hbA⟩; have k60 := bel_cell hbA k60; have k61 := bel_cell hbA k61; have f60 := bframe hbA (by simp only; simp; omega) f60; have f61 := bframe hbA (by simp only; simp; omega) f61)
                  all_goals
                    have hbw : Below w8.heap.size w8 wA := bel_trans (bel_drew (Below.refl w8.heap.size w8)) hbA
                    have hin := Lib.hid (RWJ.of_set (x := cs + es) (y := cd + ed) hK8.out hbw k60 k61 f60 f61)
                    clear k60 k61 f60 f61 hbA hbw hE1 hix1
                    go_wp2
                    go_meet
                    case rel => exact hin.out
                case rest =>
                  have hJ : RWJ w7 b6 (cAt g k ⟨cs, cd⟩ o (j + 1)) wc := by rw [hnew.out]; exact hcut
                  have hJ := Lib.hid hJ
                  clear hcut cP k60 k61 f60 f61 hE1 hix1
                  go_wp2
                  go_roundw
                  case rel => first | exact ⟨j + 1, by omega, by rw [hf.out], by go_num, hJ.out⟩ | ((repeat apply Exists.intro); exact ⟨⟨j + 1, by omega, by rw [hf.out], by go_num, hJ.out⟩, rfl⟩)
                  case measure => simp [intOf]; omega
            · obtain rfl : j = nl := by omega
              have hK8 := HKj.out
              cases o with
              | none =>
                have hb0 : fb = false := by rw [← Hfb.out]; rfl
                subst hb0
                have hwo := Lib.hid (G.wout_bad (G.wres_none Hres3.out Hf1.out Hfk.out Hc.out Ho.out) (n := n) (by have := Hii.out; omega))
                have hBj : Below w.heap.size w wr := Kept.below hB7.out hK8 hB7.out.size (by simp; omega)
                clear c60 c61 r60 r61 hE2 hE3
                go_wp2
                have e2 := set_two (x := .int .i64 0) (y := .int .i64 0) q40 q41
                refine bodyPost_ret (v := .tuple #[.agg #[.int .i64 0, .int .i64 0], .int .i64 7]) (by simp [results, Try.results73, go_sem, e2]) rfl ?_
                exact ⟨by rw [hwo.out]; rfl, (hBj.setCell (by simp only; omega) _).setCell (by simp only; omega) _⟩
              | some kk =>
                have hkl : kk < j := by
                  obtain ⟨d', hd1, _, _⟩ := G.widx_some Ho.out
                  have h1 := (List.getElem?_eq_some_iff.1 hd1).1
                  have h2 : (g.moves k).length = j := by rw [← Hnl.out, movesI_eq, List.length_map]
                  omega
                have hb1 : fb = true := by rw [← Hfb.out]; simp [fAt, hkl]
                subst hb1
                have hxx : C.add ⟨cs, cd⟩ (g.wst k kk) = ⟨xs, xd⟩ := by rw [← Hx.out]; simp [cAt, hkl]
                have hnew := G.wres_some Hres3.out Hf1.out Hfk.out Hc.out Ho.out
                rw [hxx] at hnew
                have hin : WkI W b6 g f (i + 1) wr := ⟨xs, xd, by rw [Hii.out]; exact hnew, c60, c61, r60, r61, hK7.out.trans hK8⟩
                have hin := Lib.hid hin
                clear c60 c61 r60 r61 hE2 hE3 q40 q41 r40 r41 hxx hnew hK8
                go_wp2
                go_roundw
                case rel => first | exact ⟨i + 1, by omega, by go_num, hin.out⟩ | ((repeat apply Exists.intro); exact ⟨⟨i + 1, by omega, by go_num, hin.out⟩, rfl⟩)
                case measure => simp [intOf]; omega
      · have hwo := G.wout_bad (G.wres_fault Hres.out (by rw [Hfi.out, Hfa.out]; omega)) (n := n) (by omega)
        rw [Hfi.out, Hfa.out] at hwo
        have hwo := Lib.hid hwo
        have hfp : ((0 : Int) < (fa : Int)) := by omega
        clear c60 c61 r60 r61
        go_wp2
        have e2 := set_two (x := .int .i64 0) (y := .int .i64 0) q40 q41
        refine bodyPost_ret (v := .tuple #[.agg #[.int .i64 0, .int .i64 0], .int .i64 (fa : Nat)]) (by simp [results, Try.results73, go_sem, e2]) rfl ?_
        exact ⟨by rw [hwo.out]; rfl, (hB6.out.setCell (by simp only; omega) _).setCell (by simp only; omega) _⟩
    · obtain rfl : i = n := by omega
      rcases Nat.eq_zero_or_pos i with hi0 | hi0
      · subst hi0
        go_wp2
        have e2 := set_two (x := .int .i64 0) (y := .int .i64 0) q40 q41
        refine bodyPost_ret (v := .tuple #[.agg #[.int .i64 0, .int .i64 0], .int .i64 7]) (by simp [results, Try.results73, go_sem, e2]) rfl ?_
        exact ⟨rfl, (hBr.out.setCell (by simp only; omega) _).setCell (by simp only; omega) _⟩
      · have hne : ((i : Int) == 0) = false := by simp; omega
        have hwo := Lib.hid (G.wout_ok hres hi0)
        clear hres
        go_wp2
        have e2 := set_two (x := .int .i64 cs) (y := .int .i64 cd) q40 q41
        refine bodyPost_ret (v := .tuple #[.agg #[.int .i64 cs, .int .i64 cd], .int .i64 0]) (by simp [results, Try.results73, go_sem, e2]) rfl ?_
        exact ⟨by rw [hwo.out]; rfl, (hBr.out.setCell (by simp only; omega) _).setCell (by simp only; omega) _⟩
end Go.Proofs.Ytkiogciokngjfaa
