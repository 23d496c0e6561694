/- Lemmas of this claim: Trk. -/
import Derived.Test.YtjejkadaafmdcaaGreatSr7
import Derived.Test.YtjejkadaafmdcaaGreatBst2
set_option linter.unusedVariables false
set_option linter.unusedSimpArgs false
/- tracked: a way that is told is one: the walk. -/
namespace Go.Proofs.YtjejkadaafmdcaaGreat
open Go.RowKit Go.Sort FR Go.Lib
theorem lw_small {g : G} (hok : g.ok) : ∀ {W : List Nat} {c : C}, LS.LW g.GE W c → 0 ≤ c.s ∧ c.s ≤ 15 * (W.length : Int) ∧ 0 ≤ c.d ∧ c.d ≤ 15 * (W.length : Int) := by
  intro W c h
  induction h with
  | one a => simp [C.zero]
  | @cons a b l e c he _ ih =>
    have := ge_small hok he
    simp only [C.add, List.length_cons] at ih ⊢
    omega
theorem lw_nn {g : G} {l : List Nat} {c : C} (h : LS.LW g.GE l c) : C.Nn c := by
  induction h with
  | one => exact C.nn_zero
  | cons he _ ih => exact C.nn_add (G.GE_nn he) ih
/-- the way's cost up to place j -/
def TkI (g : G) (W : List Nat) (cw c1 : C) (j : Nat) : Prop := ∃ c2, C.add c1 c2 = cw ∧ LS.LW g.GE (W.drop j) c2 ∧ C.Nn c1 ∧ C.Nn c2
theorem TkI.start {g : G} {W : List Nat} {cw : C} (h : LS.LW g.GE W cw) (hn : C.Nn cw) : TkI g W cw C.zero 0 := ⟨cw, C.zero_add cw, h, C.nn_zero, hn⟩
theorem TkI.fin {g : G} {W : List Nat} {cw c1 : C} {j : Nat} (h : TkI g W cw c1 j) (hj : j + 1 = W.length) : c1 = cw := by
  obtain ⟨c2, h1, h2, _⟩ := h
  have : W.drop j = [W[j]'(by omega)] := by
    rw [List.drop_eq_getElem_cons (by omega), List.drop_of_length_le (by omega)]
  rw [this] at h2
  cases h2
  rw [C.add_zero] at h1
  exact h1
theorem TkI.step {g : G} {W : List Nat} {cw c1 : C} {j x y : Nat} (h : TkI g W cw c1 j) (hx : W[j]? = some x) (hy : W[j + 1]? = some y) : ∃ e, g.GE x y e ∧ TkI g W cw (C.add c1 e) (j + 1) := by
  obtain ⟨c2, h1, h2, n1, n2⟩ := h
  obtain ⟨q1, q2⟩ := List.getElem?_eq_some_iff.1 hx
  obtain ⟨q3, q4⟩ := List.getElem?_eq_some_iff.1 hy
  rw [List.drop_eq_getElem_cons q1, q2, List.drop_eq_getElem_cons q3, q4] at h2
  cases h2 with
  | @cons _ _ _ e c hE hl =>
    refine ⟨e, hE, c, by rw [C.add_assoc]; exact h1, ?_, C.nn_add n1 (G.GE_nn hE), ?_⟩
    · rw [List.drop_eq_getElem_cons q3, q4]; exact hl
    · exact lw_nn hl
/-- the edge that leads on stands in one place -/
theorem edge_place {g : G} {x y : Nat} {e : C} (h : g.GE x y e) : ∃ p, (EgL (LS.first g) g.n x)[p]? = some ⟨(y : Nat), e, -1⟩ ∧ ∀ (k : Nat) (z : Ed), (EgL (LS.first g) g.n x)[k]? = some z → z.to_ = (y : Nat) → k = p := by
  have hm : (⟨(y : Nat), e, -1⟩ : Ed) ∈ EgL (LS.first g) g.n x := mem_EgL.2 ⟨y, h.2.1.1, rfl, LS.first_of h⟩
  obtain ⟨p, hp⟩ := List.getElem?_of_mem hm
  refine ⟨p, hp, fun k z hk hz => ?_⟩
  have hs := srt_EgL (LS.first g) g.n x
  rcases Nat.lt_trichotomy k p with q | q | q
  · have := hs k p z _ q hk hp
    rw [hz] at this
    simp only at this; omega
  · exact q
  · have := hs p k _ z q hp hk
    rw [hz] at this
    simp only at this; omega
theorem emapLook2 {w : World} {S : List Nat} {mb : Nat} {E : Int → Option (List Ed)} (h : EMap w S mb E) {z : Int} {L : List Ed} (hL : E z = some L) :
    ∃ A cap, EdsAt w A L ∧ (∀ ad, A = some ad → ad.block ∈ S) ∧ ∀ w', Below w.heap.size w w' → (Instr.lookup 54 (.map (some mb)) (.int .i64 z) false).run Tryz.prog w' = .ok (.slice A L.length cap) w' := by
  obtain ⟨V, N, q1, q2, q3, q4, _, _, _⟩ := h
  obtain ⟨u, hu⟩ : ∃ u, V z = some u := by
    cases hV : V z with
    | none => rw [(q2 z).2 hV] at hL; cases hL
    | some u => exact ⟨u, rfl⟩
  obtain ⟨A, cap, rfl, hEd⟩ := (q3 z u L hu hL).eds
  refine ⟨A, cap, hEd, fun ad e => q4 z _ _ hu (by rw [e]; rfl), fun w' hb => ?_⟩
  have := ((q1.below hb).look (int_fit Tryz.underlying3) Tryz.underlying54 (z := .slice none 0 0) (by simp [Tryz.zeroValue59]) z).2
  rw [hu] at this; exact this
theorem TkI.small {g : G} {W : List Nat} {cw c1 : C} {j : Nat} (h : TkI g W cw c1 j) : 0 ≤ c1.s ∧ c1.s ≤ cw.s ∧ 0 ≤ c1.d ∧ c1.d ≤ cw.d := by
  obtain ⟨c2, h1, _, n1, n2⟩ := h
  obtain ⟨a1, a2⟩ := n1
  obtain ⟨b1, b2⟩ := n2
  have e1 := congrArg C.s h1
  have e2 := congrArg C.d h1
  simp only [C.add] at e1 e2
  omega
/-- the sum under way, in a cell -/
def MidAt (W wr : World) (b11 : Nat) (c : C) : Prop := wr.heap[b11]? = some (.cells #[.int .i64 c.s, .int .i64 c.d] 68 (0, 0)) ∧ Kept [b11] W wr
theorem MidAt.below {W wr w' : World} {b11 : Nat} {c : C} (h : MidAt W wr b11 c) (hb : Below wr.heap.size wr w') : MidAt W w' b11 c := ⟨(hb.block b11 (Array.getElem?_eq_some_iff.1 h.1).1).trans h.1, h.2.trans (.of_below hb)⟩
theorem MidAt.cells {W wr : World} {b11 : Nat} {c : C} (h : MidAt W wr b11 c) : wr.cell? ⟨b11, 0, none⟩ = some (.int .i64 c.s) ∧ wr.cell? ⟨b11, 1, none⟩ = some (.int .i64 c.d) ∧ wr.frozen? ⟨b11, 0, none⟩ = false ∧ wr.frozen? ⟨b11, 1, none⟩ = false := by
  have := h.1
  simp [World.cell?, World.frozen?, this]
set_option maxRecDepth 100000 in
set_option maxHeartbeats 6400000 in
theorem trackedTrue (w : World) (gb gmb : Nat) (GS : List Nat) (A : Option Addr) (n0 m0 : Nat) (g : G) (hok : g.ok) (h : RGraphOf w gb gmb GS A n0 m0 g)
    (Aw : Option Addr) (nw mw : Nat) (Wy : List Nat) (hW : Ints w Aw nw (fun k => (natI Wy).getD k 0)) (hnw : Wy.length = nw) (hwl : nw ≤ 2000000)
    (A1 : Option Addr) (n1 m1 : Nat) (out : List Ed) (hE1 : EdsO w A1 out) (hn1 : out.length = n1) (hb1 : n1 ≤ 1000) (ho : EdsOk out)
    (A2 : Option Addr) (n2 m2 : Nat) (inn : List Ed) (hE2 : EdsO w A2 inn) (hn2 : inn.length = n2) (hb2 : n2 ≤ 1000) (hi : EdsOk inn)
    (s t : Nat) (d cw e : C) (hsrc : SrcO g out s d) (hhd : Wy.head? = some s) (hls : Wy.getLast? = some t) (hlw : LS.LW g.GE Wy cw) (hin : ∃ (k : Nat) (x : Ed), inn[k]? = some x ∧ x.to_ = (t : Nat) ∧ x.c = e) (cs cd : Int) (htot : C.add (C.add d cw) e = ⟨cs, cd⟩) :
    Calls Tryz.prog 33 #[.pointer (some ⟨gb, 0, none⟩), .slice Aw nw mw, .slice A1 n1 m1, .slice A2 n2 m2, .agg #[.int .i64 cs, .int .i64 cd]] w fun e w' => e = .returned (.bool true) ∧ Below w.heap.size w w' := by
  have hn := G.n_le hok
  obtain ⟨g1, _, hn0, _, hE⟩ := h
  rw [← hn0, EGr_egE] at hE
  have kg1 : w.cell? ⟨gb, 1, none⟩ = some (.map (some gmb)) := by simp [World.cell?, g1]
  have hgl : gb < w.heap.size := (Array.getElem?_eq_some_iff.1 g1).1
  have hEl := hE
  obtain ⟨_, _, qm, _, _, _, _, _, hGSl⟩ := hEl
  have hml := qm.lt
  obtain ⟨hsc, i0, e0, hi0, hei, heto, hec⟩ := hsrc
  obtain ⟨k0, x0, hxk, hxto, hxc⟩ := hin
  have hw0 : 0 < nw := by
    rw [← hnw]
    cases Wy with
    | nil => cases hhd
    | cons a l => simp
  have hcws := lw_small hok hlw
  rw [hnw] at hcws
  have hcwn := lw_nn hlw
  obtain ⟨adw, hAw'⟩ := hW.addr hw0
  have hAw := Lib.hid hAw'
  clear hAw'
  have HIW := Lib.hid hW
  have HE := Lib.hid hE
  have HE1 := Lib.hid hE1
  have HE2 := Lib.hid hE2
  have HG := Lib.hid (And.intro hok (And.intro hn (And.intro hn0 (And.intro hGSl hml))))
  have Hn := Lib.hid (And.intro hnw (And.intro hn1 hn2))
  have HO := Lib.hid (And.intro ho hi)
  have HS := Lib.hid (And.intro hi0 (And.intro hei (And.intro heto (And.intro hec (And.intro hxk (And.intro hxto (And.intro hxc htot)))))))
  have HW := Lib.hid (And.intro hhd (And.intro hls (And.intro hlw (And.intro hcws hcwn))))
  have hne0 : (((nw : Nat) : Int) == 0) = false := by simp; omega
  clear g1 hE qm hGSl hok hn hn0 hml hnw hn1 hn2 ho hi hi0 hei heto hec hxk hxto hxc htot hhd hls hlw hcws hcwn hW hE1 hE2
  go_enter Tryz.func33, Tryz.ntmps33
  go_upto_region 4 with (fail)
  refine wp_name ?_
  intro W2 hW2
  have HW2 : Below w.heap.size w W2 := by rw [hW2]; (repeat' (first | exact Below.refl _ _ | assumption | apply bel_drewN | apply bel_drew | apply bel_alloc | (refine bel_trans ?_ (by assumption))))
  have c0 : W2.cell? ⟨w.heap.size, 0, none⟩ = some (.int .i64 cs) := by rw [hW2]; go_simp
  have c1 : W2.cell? ⟨w.heap.size, 1, none⟩ = some (.int .i64 cd) := by rw [hW2]; go_simp
  have hm11 : W2.heap[w.heap.size + 1]? = some (.cells #[.int .i64 0, .int .i64 0] 68 (0, 0)) := by
    rw [hW2]
    have := heap_alloc_new (w.alloc (.cells #[.int .i64 cs, .int .i64 cd] 68)) (.cells #[.int .i64 0, .int .i64 0] 68 (0, 0))
    rw [show (w.alloc (.cells #[.int .i64 cs, .int .i64 cd] 68)).heap.size = w.heap.size + 1 by simp] at this
    exact this
  obtain ⟨b9, hb9⟩ : ∃ z, w.heap.size = z := ⟨_, rfl⟩
  obtain ⟨b11, hb11⟩ : ∃ z, b9 + 1 = z := ⟨_, rfl⟩
  rw [hb9] at c0 c1 hm11 ⊢
  rw [hb11] at hm11 ⊢
  have hM0 : MidAt W2 W2 b11 C.zero := ⟨hm11, Kept.refl _ _⟩
  have hT0 := TkI.start HW.out.2.2.1 HW.out.2.2.2.2
  have hb9n : b9 ∉ [b11] := by simp; omega
  have hgbn : gb ∉ [b11] := by simp; omega
  have HB := Lib.hid (And.intro HW2 (And.intro hb9 (show w.heap.size ≤ b11 by omega)))
  have hGn : (∀ s ∈ GS, s ∉ [b11]) ∧ gmb ∉ [b11] := ⟨fun s hs => by have := HG.out.2.2.2.1 s hs; simp; omega, by have := HG.out.2.2.2.2; simp; omega⟩
  have hWn : 0 < nw → ∀ ad, Aw = some ad → ad.block ∉ [b11] := fun hp ad e => by
    obtain ⟨ad', e', hlt, _⟩ := HIW.out hp
    rw [e'] at e; injection e with e; subst e
    simp; omega
  have h1n : 0 < out.length → ∀ ad, A1 = some ad → ad.block ∉ [b11] := fun hp ad e => by
    obtain ⟨g', o', e', hlt, _⟩ := HE1.out hp
    rw [e'] at e; injection e with e; subst e
    simp; omega
  have h2n : 0 < inn.length → ∀ ad, A2 = some ad → ad.block ∉ [b11] := fun hp ad e => by
    obtain ⟨g', o', e', hlt, _⟩ := HE2.out hp
    rw [e'] at e; injection e with e; subst e
    simp; omega
  have HGn := Lib.hid (And.intro hGn (And.intro hWn (And.intro h1n h2n)))
  have HIW := Lib.hid (HIW.out.below HW2)
  have HE := Lib.hid (HE.out.below HW2)
  have HE1 := Lib.hid (HE1.out.below HW2)
  have HE2 := Lib.hid (HE2.out.below HW2)
  have HK := Lib.hid (And.intro (bel_cell HW2 kg1) (And.intro c0 c1))
  clear hW2 hm11 hGn hWn h1n h2n c0 c1 kg1 hb9 hb11 HW2 hgl
  go_wp2_with fail
  go_loopw [12] (fun iv wr => ∃ (j : Nat) (xi : Int) (cc : C), iv = .int .i64 xi ∧ xi = (j : Int) + 1 ∧ j + 1 ≤ nw ∧ TkI g Wy cw cc j ∧ MidAt W2 wr b11 cc) (fun iv _ => nw - (intOf iv).toNat)
  case atStart => exact ⟨0, 1, _, rfl, rfl, by omega, hT0, hM0⟩
  case round =>
    obtain ⟨j, xi, cc, rfl, hxi, hj, hT, hM⟩ := hrel
    clear hT0 hM0
    have hAI := HIW.out.kept0 hM.2 HGn.out.2.1
    by_cases hlt : j + 1 < nw
    · obtain ⟨x, hx⟩ : ∃ x, Wy[j]? = some x := ⟨_, List.getElem?_eq_getElem (by rw [Hn.out.1]; omega)⟩
      obtain ⟨y, hy⟩ : ∃ y, Wy[j + 1]? = some y := ⟨_, List.getElem?_eq_getElem (by rw [Hn.out.1]; omega)⟩
      obtain ⟨e1, hge, hT2⟩ := hT.step hx hy
      obtain ⟨p, hp, hpu⟩ := edge_place hge
      have hgs := ge_small HG.out.1 hge
      have hts := hT.small
      rw [hAw.out] at hAI
      have w1 := hAI.cell (Below.refl _ _) (show j < nw by omega)
      have w2 := hAI.cell (Below.refl _ _) hlt
      rw [natI_getD hx] at w1
      rw [natI_getD hy] at w2
      have hix1 : ∀ wx, (Instr.indexAt 22 (.slice Aw nw mw) (.int .i64 ((j : Nat) : Int))).run Tryz.prog wx = .ok (.pointer (some (adw.add j))) wx := fun wx => idx_run hAw.out (by omega) wx
      have hix2 : ∀ wx, (Instr.indexAt 22 (.slice Aw nw mw) (.int .i64 xi)).run Tryz.prog wx = .ok (.pointer (some (adw.add (j + 1)))) wx := fun wx => by
        have := idx_run (m := mw) hAw.out hlt wx
        rw [show ((j + 1 : Nat) : Int) = xi by omega] at this; exact this
      have hadn : adw.block ∉ [b11] := HGn.out.2.1 (by omega) adw hAw.out
      obtain ⟨ad2, had2⟩ : ∃ q, adw.add (j + 1) = q := ⟨_, rfl⟩
      have hadn : ad2.block ∉ [b11] := by rw [← had2, add_block]; exact hadn
      rw [had2] at w2
      simp only [had2] at hix2
      clear had2
      have hw1 : IntKind.i64.wrap (xi - 1) = ((j : Nat) : Int) := by rw [IntWalk.i64_in _ (by omega)]; omega
      have hw2 : IntKind.i64.wrap (xi + 1) = xi + 1 := IntWalk.i64_in _ (by omega)
      have hxl : xi < (nw : Int) := by omega
      obtain ⟨A5, m5, hEd, hA5, hlk⟩ := emapLook2 (HE.out.kept hM.2 HGn.out.1.1 HGn.out.1.2) (egE_at (S := LS.first g) hge.1)
      have kg1 := cellK hM.2 hgbn HK.out.1
      obtain ⟨L, hL⟩ : ∃ L, EgL (LS.first g) g.n x = L := ⟨_, rfl⟩
      rw [hL] at hEd hlk hp hpu
      obtain ⟨nL, hnL⟩ : ∃ z, L.length = z := ⟨_, rfl⟩
      have hnl256 : nL ≤ 256 := by rw [← hnL, ← hL]; exact Nat.le_trans (len_EgL _ _ _) HG.out.2.1
      have hpn : p < nL := by rw [← hnL]; exact (List.getElem?_eq_some_iff.1 hp).1
      rw [hnL] at hlk
      have hlkn : ∀ n, (Instr.lookup 54 (.map (some gmb)) (.int .i64 ((x : Nat) : Int)) false).run Tryz.prog (wr.drewN n) = .ok (.slice A5 nL m5) (wr.drewN n) := fun n => hlk _ (bel_drewN (Below.refl _ _))
      have HT := Lib.hid (And.intro hT2 (And.intro hgs (And.intro hts hxi)))
      have HP := Lib.hid (And.intro hp (And.intro hpu hnL))
      have HEd := Lib.hid (And.intro hEd (show 0 < L.length → ∀ ad, A5 = some ad → ad.block ∉ [b11] from fun _ ad e => HGn.out.1.1 _ (hA5 ad e)))
      have HM := Lib.hid hM
      clear hx hy hge hT hT2 hp hpu hgs hts hAI hxi hEd hA5 hlk hL hnL hM
      go_upto_region 8 with (fail)
      go_quiet (fail)
      have HB5 : Below wr.heap.size wr (wr.drewN nq) := bel_drewN (Below.refl _ _)
      have w2 := bel_cell HB5 w2
      have HM5 := Lib.hid (HM.out.below HB5)
      have HEd := Lib.hid (And.intro (HEd.out.1.below HB5) HEd.out.2)
      clear hlkn kg1 w1 HM HB5 hix1 hw1
      generalize wr.drewN nq = w5 at w2 HM5 HEd ⊢
      have hst : MidAt W2 w5 b11 cc := HM5.out
      go_wp2_with fail
      go_loopw [13, 15] (fun sv kv wx => ∃ (fd : Bool) (k : Nat) (c' : C), sv = .bool fd ∧ kv = .int .i64 k ∧ k ≤ nL ∧ (k ≤ p → fd = false ∧ c' = cc) ∧ (p < k → fd = true ∧ c' = C.add cc e1) ∧ MidAt W2 wx b11 c' ∧ Kept [b11] w5 wx) (fun _ kv _ => nL - (intOf kv).toNat)
      case atStart => exact ⟨false, 0, cc, rfl, rfl, by omega, fun _ => ⟨rfl, rfl⟩, fun h => by omega, hst, Kept.refl _ _⟩
      case round =>
        obtain ⟨fd, k, c', rfl, rfl, hk, hf1, hf2, hMk, hKk⟩ := hrel
        clear hst
        by_cases hkn : k < nL
        · obtain ⟨z, hz⟩ : ∃ z, L[k]? = some z := ⟨_, List.getElem?_eq_getElem (by rw [HP.out.2.2]; exact hkn)⟩
          obtain ⟨g5, hA5, a1, a2, a3, a4⟩ := (edsKept0 HEd.out.1 hKk HEd.out.2).get hz
          have hix5 := fun wx => idxE (m := m5) hA5 hkn wx
          have w2 := keptc hKk hadn w2
          by_cases hkp : k = p
          · subst hkp
            have hze : z = ⟨(y : Nat), e1, -1⟩ := by rw [HP.out.1] at hz; injection hz with hz; exact hz.symm
            subst hze
            simp only at a1 a2 a3 a4
            obtain ⟨rfl, rfl⟩ := hf1 (Nat.le_refl _)
            obtain ⟨m0, m1', f0, f1⟩ := hMk.cells
            obtain ⟨es, ed⟩ := e1
            obtain ⟨ccs, ccd⟩ := c'
            simp only at a2 a3 m0 m1'
            have hbnd : inC ccs ∧ inC ccd ∧ inC es ∧ inC ed := by
              have h1 := HT.out.2.1
              have h2 := HT.out.2.2.1
              have h3 := HW.out.2.2.2.1
              simp only at h1 h2
              unfold inC; omega
            have cP := Lib.hid (fun w => refPlus ccs ccd es ed w hbnd.1 hbnd.2.1 hbnd.2.2.1 hbnd.2.2.2)
            have HMk := Lib.hid (And.intro hMk hKk)
            have hg5 : g5 ∉ [b11] := HEd.out.2 (by rw [HP.out.2.2]; omega) _ hA5
            clear hz hA5 hf1 hf2 hMk hKk hbnd
            have hd1 := bel_drew (Below.refl wr.heap.size wr)
            have q0 : wr.drew.cell? ⟨g5, k * 4, none⟩ = some (.int .i64 (y : Nat)) ∧ wr.drew.cell? ad2 = some (.int .i64 (y : Nat)) := ⟨bel_cell hd1 a1, bel_cell hd1 w2⟩
            go_upto_region 12 with (fail)
            go_region_held3 (fun w' => w'.cell? ⟨g5, k * 4, none⟩ = some (.int .i64 (y : Nat)) ∧ w'.cell? ad2 = some (.int .i64 (y : Nat)))
              (first
                | exact q0)
              (fail)
            have a2 := bel_cell hd1 a2
            have a3 := bel_cell hd1 a3
            have m0 := bel_cell hd1 m0
            have m1' := bel_cell hd1 m1'
            have HMk := Lib.hid (And.intro (HMk.out.1.below hd1) (HMk.out.2.trans (Kept.of_below hd1)))
            clear a1 a4 f0 f1 hd1 q0
            generalize wr.drew = w6 at a2 a3 m0 m1' HMk ⊢
            have hd := bel_drew (Below.refl w6.heap.size w6)
            have q0 : w6.drew.cell? ⟨g5, k * 4 + 1, none⟩ = some (.int .i64 es) ∧ w6.drew.cell? ⟨g5, k * 4 + 2, none⟩ = some (.int .i64 ed) := ⟨bel_cell hd a2, bel_cell hd a3⟩
            have m0d := bel_cell hd m0
            have m1d := bel_cell hd m1'
            clear a2 a3 m0 m1'
            go_upto_region 13 with (fail)
            have q01 := q0.1
            have q02 := q0.2
            go_region_with
              (first
                | (go_at_call 69
                   refine (cP.out _).mono ?_
                   rintro e wA ⟨rfl, hbA⟩
                   have q1 : wA.cell? ⟨g5, k * 4 + 1, none⟩ = some (.int .i64 es) ∧ wA.cell? ⟨g5, k * 4 + 2, none⟩ = some (.int .i64 ed) := ⟨bel_cell hbA q0.1, bel_cell hbA q0.2⟩
                   have hMA := Lib.hid (And.intro (HMk.out.1.below (bel_trans hd hbA)) (HMk.out.2.trans (Kept.of_below (bel_trans hd hbA))))
                   obtain ⟨z0, z1, f0, f1⟩ := hMA.out.1.cells
                   have q2 : ∀ u v : Value, ((wA.setCell ⟨b11, 0, none⟩ u).setCell ⟨b11, 1, none⟩ v).cell? ⟨g5, k * 4 + 1, none⟩ = some (.int .i64 es) ∧ ((wA.setCell ⟨b11, 0, none⟩ u).setCell ⟨b11, 1, none⟩ v).cell? ⟨g5, k * 4 + 2, none⟩ = some (.int .i64 ed) := fun u v => by
                     have hk2 := ((Kept.refl [b11] wA).setCell (p := ⟨b11, 0, none⟩) (u := u) (.inl (by simp))).setCell (p := ⟨b11, 1, none⟩) (u := v) (.inl (by simp))
                     exact ⟨cellK hk2 hg5 q1.1, cellK hk2 hg5 q1.2⟩))
            all_goals
              have hF : MidAt W2 ((wA.setCell ⟨b11, 0, none⟩ (.int .i64 (ccs + es))).setCell ⟨b11, 1, none⟩ (.int .i64 (ccd + ed))) b11 (C.add ⟨ccs, ccd⟩ ⟨es, ed⟩) ∧ Kept [b11] w5 ((wA.setCell ⟨b11, 0, none⟩ (.int .i64 (ccs + es))).setCell ⟨b11, 1, none⟩ (.int .i64 (ccd + ed))) :=
                ⟨⟨set_heap2 hMA.out.1.1, (hMA.out.1.2.setCell (.inl (by simp))).setCell (.inl (by simp))⟩, (hMA.out.2.setCell (.inl (by simp))).setCell (.inl (by simp))⟩
              have hF := Lib.hid hF
              clear hMA z0 z1 f0 f1 q01 q02 q0 q1 q2 m0d m1d hbA hd HMk cP
              go_wp2
              go_roundw
              case rel => first | exact ⟨true, k + 1, _, rfl, by go_num, by omega, fun h => by omega, fun _ => ⟨rfl, rfl⟩, hF.out.1, hF.out.2⟩ | ((repeat apply Exists.intro); exact ⟨⟨true, k + 1, _, rfl, by go_num, by omega, fun h => by omega, fun _ => ⟨rfl, rfl⟩, hF.out.1, hF.out.2⟩, rfl⟩)
              case measure => simp [intOf]; omega
          · have hzy : z.to_ ≠ ((y : Nat) : Int) := fun h => hkp (HP.out.2.1 k z hz h)
            obtain ⟨zt, hzt⟩ : ∃ q, z.to_ = q := ⟨_, rfl⟩
            rw [hzt] at a1 hzy
            have hbq : (zt == ((y : Nat) : Int)) = false := by simp; exact hzy
            have hF : (k + 1 ≤ p → fd = false ∧ c' = cc) ∧ (p < k + 1 → fd = true ∧ c' = C.add cc e1) := ⟨fun h => hf1 (by omega), fun h => hf2 (by omega)⟩
            have HF := Lib.hid (And.intro hF (And.intro hMk hKk))
            clear hz hA5 hf1 hf2 hMk hKk hzy hzt hkp hF a2 a3 a4
            have hd1 := bel_drew (Below.refl wr.heap.size wr)
            have q0 : wr.drew.cell? ⟨g5, k * 4, none⟩ = some (.int .i64 zt) ∧ wr.drew.cell? ad2 = some (.int .i64 (y : Nat)) := ⟨bel_cell hd1 a1, bel_cell hd1 w2⟩
            go_upto_region 12 with (fail)
            go_region_held3 (fun w' => w'.cell? ⟨g5, k * 4, none⟩ = some (.int .i64 zt) ∧ w'.cell? ad2 = some (.int .i64 (y : Nat)))
              (first
                | exact q0)
              (fail)
            have HF := Lib.hid (And.intro HF.out.1 (And.intro (HF.out.2.1.below hd1) (HF.out.2.2.trans (Kept.of_below hd1))))
            clear a1 hd1 q0
            go_wp2
            go_roundw
            case rel => first | exact ⟨fd, k + 1, _, rfl, by go_num, by omega, HF.out.1.1, HF.out.1.2, HF.out.2.1, HF.out.2.2⟩ | ((repeat apply Exists.intro); exact ⟨⟨fd, k + 1, _, rfl, by go_num, by omega, HF.out.1.1, HF.out.1.2, HF.out.2.1, HF.out.2.2⟩, rfl⟩)
            case measure => simp [intOf]; omega
        · obtain rfl : k = nL := by omega
          obtain ⟨rfl, rfl⟩ := hf2 hpn
          have hxe : xi + 1 = ((j + 1 : Nat) : Int) + 1 := by have := HT.out.2.2.2; omega
          have HF := Lib.hid (And.intro HT.out.1 (And.intro hMk hxe))
          clear hf1 hf2 hMk hKk hxe
          go_wp2
          go_roundw
          case rel => first | exact ⟨j + 1, _, _, rfl, HF.out.2.2, by omega, HF.out.1, HF.out.2.1⟩ | ((repeat apply Exists.intro); exact ⟨⟨j + 1, _, _, rfl, HF.out.2.2, by omega, HF.out.1, HF.out.2.1⟩, rfl⟩)
          case measure => have := HT.out.2.2.2; simp [intOf]; omega
    · obtain rfl : nw = j + 1 := by omega
      have hcc : cc = cw := hT.fin Hn.out.1.symm
      subst hcc
      have hxn : ¬ xi < ((j + 1 : Nat) : Int) := by omega
      obtain ⟨m0, m1', _, _⟩ := hM.cells
      obtain ⟨ms, md⟩ := cc
      simp only at m0 m1'
      rw [hAw.out] at hAI
      have w1 := hAI.cell (Below.refl _ _) (show 0 < j + 1 by omega)
      have w2 := hAI.cell (Below.refl _ _) (show j < j + 1 by omega)
      have hx : Wy[0]? = some s := by rw [← List.head?_eq_getElem?]; exact HW.out.1
      have hy : Wy[j]? = some t := by
        have := HW.out.2.1
        rw [List.getLast?_eq_getElem?, Hn.out.1] at this
        exact this
      rw [natI_getD hx] at w1
      rw [natI_getD hy] at w2
      obtain ⟨ad1, had1⟩ : ∃ q, adw.add 0 = q := ⟨_, rfl⟩
      obtain ⟨ad2, had2⟩ : ∃ q, adw.add j = q := ⟨_, rfl⟩
      have hix1 : ∀ wx, (Instr.indexAt 22 (.slice Aw (j + 1) mw) (.int .i64 0)).run Tryz.prog wx = .ok (.pointer (some ad1)) wx := fun wx => by
        have := idx_run (m := mw) hAw.out (show 0 < j + 1 by omega) wx
        rw [had1] at this; exact this
      have hix2 : ∀ wx, (Instr.indexAt 22 (.slice Aw (j + 1) mw) (.int .i64 ((j : Nat) : Int))).run Tryz.prog wx = .ok (.pointer (some ad2)) wx := fun wx => by
        have := idx_run (m := mw) hAw.out (show j < j + 1 by omega) wx
        rw [had2] at this; exact this
      have hw1 : IntKind.i64.wrap (((j + 1 : Nat) : Int) - 1) = ((j : Nat) : Int) := by rw [IntWalk.i64_in _ (by omega)]; omega
      rw [had1] at w1
      rw [had2] at w2
      have c0 := cellK hM.2 hb9n HK.out.2.1
      have c1 := cellK hM.2 hb9n HK.out.2.2
      have hEd1 := HE1.out.kept hM.2 HGn.out.2.2.1
      have hEd2 := HE2.out.kept hM.2 HGn.out.2.2.2
      have hbw : Below w.heap.size w wr := Kept.below HB.out.1 hM.2 HB.out.1.size (fun q hq => by
        have h1 := HB.out.2.2
        simp only [List.mem_cons, List.not_mem_nil, or_false] at hq
        omega)
      have hcws := HW.out.2.2.2.1
      simp only at hcws
      have HF := Lib.hid (And.intro hEd1 (And.intro hEd2 (And.intro hbw hcws)))
      clear hAI hT hM hx hy had1 had2 hEd1 hEd2 hbw hcws hxi
      obtain ⟨nj, hnj⟩ : ∃ q, j + 1 = q := ⟨_, rfl⟩
      rw [hnj] at hix1 hix2 hw1 hxn ⊢
      have Hnj := Lib.hid hnj
      clear hnj
      go_wp2_with fail
      obtain ⟨wz, rfl⟩ : ∃ wz : World, wz = wr := ⟨_, rfl⟩
      go_loopw [16] (fun iv wr => ∃ i : Nat, iv = .int .i64 i ∧ i ≤ i0 ∧ Below wz.heap.size wz wr) (fun iv _ => n1 - (intOf iv).toNat)
      case atStart => exact ⟨0, rfl, by omega, Below.refl _ _⟩
      case round =>
        obtain ⟨i, rfl, hii, hB1⟩ := hrel
        have hin1 : i < n1 := by have := HS.out.1; have := Hn.out.2.1; omega
        go_wp2_with fail
        obtain ⟨wo, rfl⟩ : ∃ wo : World, wo = wr := ⟨_, rfl⟩
        go_loopw [17] (fun kv wr => ∃ k : Nat, kv = .int .i64 k ∧ k ≤ n2 ∧ (i = i0 → k ≤ k0) ∧ Below wz.heap.size wz wr) (fun kv _ => n2 - (intOf kv).toNat)
        case atStart => exact ⟨0, rfl, by omega, fun _ => by omega, hB1⟩
        case round =>
          obtain ⟨k, rfl, hk, hik, hB2⟩ := hrel
          by_cases hkn : k < n2
          · obtain ⟨eo, heo⟩ : ∃ e, out[i]? = some e := ⟨_, List.getElem?_eq_getElem (by rw [Hn.out.2.1]; exact hin1)⟩
            obtain ⟨ei, hei⟩ : ∃ e, inn[k]? = some e := ⟨_, List.getElem?_eq_getElem (by rw [Hn.out.2.2]; exact hkn)⟩
            obtain ⟨gq, oq, hA1, a1, a2, a3, a4⟩ := (HF.out.1.below hB2).get heo
            obtain ⟨gr, or, hA2, b1, b2, b3, b4⟩ := (HF.out.2.1.below hB2).get hei
            have hix3 := fun wx => idxO (m := m1) hA1 hin1 wx
            have hix4 := fun wx => idxO (m := m2) hA2 hkn wx
            have hoo := HO.out.1 eo (List.mem_of_getElem? heo)
            have hoi := HO.out.2 ei (List.mem_of_getElem? hei)
            have w1 := bel_cell hB2 w1
            have w2 := bel_cell hB2 w2
            have m0 := bel_cell hB2 m0
            have m1' := bel_cell hB2 m1'
            have c0 := bel_cell hB2 c0
            have c1 := bel_cell hB2 c1
            have hgood : i = i0 → k = k0 → eo.to_ = (s : Nat) ∧ ei.to_ = (t : Nat) ∧ eo.c.s + ms + ei.c.s = cs ∧ eo.c.d + md + ei.c.d = cd := fun h1 h2 => by
              subst h1; subst h2
              obtain ⟨_, q2, q3, q4, q5, q6, q7, q8⟩ := HS.out
              rw [q2] at heo; injection heo with heo; subst heo
              rw [q5] at hei; injection hei with hei; subst hei
              rw [← q4, ← q7] at q8
              have e1 := congrArg C.s q8
              have e2 := congrArg C.d q8
              simp only [C.add] at e1 e2
              exact ⟨q3, q6, e1, e2⟩
            obtain ⟨xt, ⟨xs, xd⟩, xm⟩ := eo
            obtain ⟨yt, ⟨ys, yd⟩, ym⟩ := ei
            simp only at a1 a2 a3 a4 b1 b2 b3 b4 hoo hoi hgood
            have hcws := HF.out.2.2.2
            have cP1 := Lib.hid (fun w => refPlus xs xd ms md w (by unfold inC; omega) (by unfold inC; omega) (by unfold inC; omega) (by unfold inC; omega))
            have cP2 := Lib.hid (fun w => refPlus (xs + ms) (xd + md) ys yd w (by unfold inC; omega) (by unfold inC; omega) (by unfold inC; omega) (by unfold inC; omega))
            have Hgood := Lib.hid hgood
            have HBk := Lib.hid (And.intro hB2 hik)
            clear hA1 hA2 heo hei hoo hoi hgood hcws hik
            have HR0 := Below.refl wr.heap.size wr
            have a1q := cell_regrown a1
            have a2q := cell_regrown a2
            have a3q := cell_regrown a3
            have b1q := cell_regrown b1
            have b2q := cell_regrown b2
            have b3q := cell_regrown b3
            have w1q := cell_regrown w1
            have w2q := cell_regrown w2
            have m0q := cell_regrown m0
            have m1q := cell_regrown m1'
            have c0q := cell_regrown c0
            have c1q := cell_regrown c1
            go_upto_region 23 with (fail)
            go_cut [114] (fun sv wx => ∃ tt : Bool, sv = .bool tt ∧ (i = i0 → k = k0 → tt = true) ∧ Below wr.heap.size wr wx)
            case first =>
              by_cases h1 : xt = (s : Nat)
              · subst h1
                by_cases h2 : yt = (t : Nat)
                · subst h2
                  obtain ⟨zs, hzs⟩ : ∃ q, xs + ms + ys = q := ⟨_, rfl⟩
                  obtain ⟨zd, hzd⟩ : ∃ q, xd + md + yd = q := ⟨_, rfl⟩
                  have cP2 := cP2.out
                  simp only [hzs, hzd] at cP2
                  have cP2 := Lib.hid cP2
                  have Hz := Lib.hid (And.intro hzs hzd)
                  clear hzs hzd
                  by_cases h3 : zs = cs
                  · by_cases h4 : zd = cd
                    · subst h3; subst h4
                      refine wp_region_quiet_below (by kernel_rfl) (by kernel_rfl) ?_
                      repeat (first | go_big_quiet_step ((first | with_reducible exact Calls.regrown_of (cP1.out _) | with_reducible exact Calls.regrown_of (cP2.out _))) | quiet_step ((first | with_reducible exact Calls.regrown_of (cP1.out _) | with_reducible exact Calls.regrown_of (cP2.out _))))
                      refine wpQuiet_nil ?_
                      intro _ hw'
                      obtain ⟨⟨dq, osq⟩, hw''⟩ := hw'
                      have HR9 := bel_trans HR0 (below_regrown wr dq osq)
                      have hb2 := below_regrown wr dq osq
                      subst hw''
                      generalize grow (redrawn wr dq) osq = W9 at HR9 hb2 ⊢
                      go_wp2
                      go_meet
                      case rel => exact ⟨true, rfl, fun _ _ => rfl, HR9⟩
                    · subst h3
                      have h4b : (zd == cd) = false := by simp; exact h4
                      refine wp_region_quiet_below (by kernel_rfl) (by kernel_rfl) ?_
                      repeat (first | go_big_quiet_step ((first | with_reducible exact Calls.regrown_of (cP1.out _) | with_reducible exact Calls.regrown_of (cP2.out _))) | quiet_step ((first | with_reducible exact Calls.regrown_of (cP1.out _) | with_reducible exact Calls.regrown_of (cP2.out _))))
                      refine wpQuiet_nil ?_
                      intro _ hw'
                      obtain ⟨⟨dq, osq⟩, hw''⟩ := hw'
                      have HR9 := bel_trans HR0 (below_regrown wr dq osq)
                      have hb2 := below_regrown wr dq osq
                      subst hw''
                      generalize grow (redrawn wr dq) osq = W9 at HR9 hb2 ⊢
                      go_wp2
                      go_meet
                      case rel => exact ⟨false, rfl, fun q1 q2 => absurd (Hz.out.2.symm.trans (Hgood.out q1 q2).2.2.2) h4, HR9⟩
                  · have h3b : (zs == cs) = false := by simp; exact h3
                    refine wp_region_quiet_below (by kernel_rfl) (by kernel_rfl) ?_
                    repeat (first | go_big_quiet_step ((first | with_reducible exact Calls.regrown_of (cP1.out _) | with_reducible exact Calls.regrown_of (cP2.out _))) | quiet_step ((first | with_reducible exact Calls.regrown_of (cP1.out _) | with_reducible exact Calls.regrown_of (cP2.out _))))
                    refine wpQuiet_nil ?_
                    intro _ hw'
                    obtain ⟨⟨dq, osq⟩, hw''⟩ := hw'
                    have HR9 := bel_trans HR0 (below_regrown wr dq osq)
                    have hb2 := below_regrown wr dq osq
                    subst hw''
                    generalize grow (redrawn wr dq) osq = W9 at HR9 hb2 ⊢
                    go_wp2
                    go_meet
                    case rel => exact ⟨false, rfl, fun q1 q2 => absurd (Hz.out.1.symm.trans (Hgood.out q1 q2).2.2.1) h3, HR9⟩
                · have hq : (yt == ((t : Nat) : Int)) = false := by simp; exact h2
                  clear a1q a2q a3q b1q b2q b3q w1q w2q m0q m1q c0q c1q
                  go_quiet (fail)
                  go_wp2
                  go_meet
                  case rel => exact ⟨false, rfl, fun q1 q2 => absurd (Hgood.out q1 q2).2.1 h2, by (repeat' (first | exact Below.refl _ _ | assumption | apply bel_drewN | apply bel_drew | apply bel_alloc | (refine bel_trans ?_ (by assumption))))⟩
              · have hq : (xt == ((s : Nat) : Int)) = false := by simp; exact h1
                clear a1q a2q a3q b1q b2q b3q w1q w2q m0q m1q c0q c1q
                go_quiet (fail)
                go_wp2
                go_meet
                case rel => exact ⟨false, rfl, fun q1 q2 => absurd (Hgood.out q1 q2).1 h1, by (repeat' (first | exact Below.refl _ _ | assumption | apply bel_drewN | apply bel_drew | apply bel_alloc | (refine bel_trans ?_ (by assumption))))⟩
            case rest =>
              obtain ⟨tt, rfl, htt, hbe⟩ := hcut
              have hB4 := bel_trans HBk.out.1 hbe
              have Htt := Lib.hid htt
              clear a1q a2q a3q b1q b2q b3q w1q w2q m0q m1q c0q c1q HR0 htt hbe
              cases tt with
              | true =>
                have hf := bel_trans HF.out.2.2.1 hB4
                have hf := Lib.hid hf
                go_wp2
                go_ret
                exact ⟨rfl, hf.out⟩
              | false =>
                have hnx : i = i0 → k + 1 ≤ k0 := fun q => by
                  have h1 := HBk.out.2 q
                  by_cases h2 : k = k0
                  · exact nomatch (Htt.out q h2)
                  · omega
                have hnx := Lib.hid hnx
                have hB4 := Lib.hid hB4
                go_wp2
                go_roundw
                case rel => first | exact ⟨k + 1, by go_num, by omega, hnx.out, hB4.out⟩ | ((repeat apply Exists.intro); exact ⟨⟨k + 1, by go_num, by omega, hnx.out, hB4.out⟩, rfl⟩)
                case measure => simp [intOf]; omega
          · obtain rfl : k = n2 := by omega
            have hne1 : i ≠ i0 := fun q => by
              have h1 := hik q
              have h2 := (List.getElem?_eq_some_iff.1 HS.out.2.2.2.2.1).1
              have := Hn.out.2.2
              omega
            have hB3 := Lib.hid hB2
            clear hik
            go_wp2
            go_roundw
            case rel => first | exact ⟨i + 1, by go_num, by omega, hB3.out⟩ | ((repeat apply Exists.intro); exact ⟨⟨i + 1, by go_num, by omega, hB3.out⟩, rfl⟩)
            case measure => simp [intOf]; omega
end Go.Proofs.YtjejkadaafmdcaaGreat
