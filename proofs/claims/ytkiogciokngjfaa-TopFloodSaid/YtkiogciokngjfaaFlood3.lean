/- flood.From: the moves from one cell are gone over. -/
import Derived.Test.YtkiogciokngjfaaFlood2
set_option linter.unusedVariables false
set_option linter.unusedSimpArgs false
namespace Go.Proofs.Ytkiogciokngjfaa
open Go.RowKit Go.Sort FR
/-- what holds at a round's head, when the moves from one are gone over -/
def SpI (W : World) (b gp mc mb q eb : Nat) (g : G) (v : Int) (fr k nl : Nat) (A1 : Option Addr) (done : Nat → Option C) (cs cd : Int) (j : Nat) (wr : World) : Prop :=
  ∃ S hp back nb, FlS W wr b gp mc mb q S g v done hp back nb ∧ FS g.E fr g.n done hp back k (PendM g k j) ∧ Ints wr A1 nl (fun x => (movesI g k).getD x 0) ∧ (0 < nl → ∀ ad, A1 = some ad → ad.block ∉ S ∧ ad.block ≠ mb) ∧ eb ∉ S ∧ eb ≠ mb ∧
    wr.cell? ⟨eb, 0, none⟩ = some (.int .i64 cs) ∧ wr.cell? ⟨eb, 1, none⟩ = some (.int .i64 cd)
/-- behind the push, before it is noted who was come from -/
def SpC (W : World) (b gp mc mb q eb : Nat) (g : G) (v : Int) (k nl : Nat) (A1 : Option Addr) (done hp : Nat → Option C) (back : Nat → Option Nat) (nb : Nat) (cs cd : Int) (wr : World) : Prop :=
  ∃ S, FlS W wr b gp mc mb q S g v done hp back nb ∧ Ints wr A1 nl (fun x => (movesI g k).getD x 0) ∧ (0 < nl → ∀ ad, A1 = some ad → ad.block ∉ S ∧ ad.block ≠ mb) ∧ eb ∉ S ∧ eb ≠ mb ∧
    wr.cell? ⟨eb, 0, none⟩ = some (.int .i64 cs) ∧ wr.cell? ⟨eb, 1, none⟩ = some (.int .i64 cd)
def SpD (W : World) (b gp mc mb q : Nat) (g : G) (v : Int) (fr k : Nat) (done : Nat → Option C) (e : Ending) (w' : World) : Prop :=
  e = .returned (.tuple #[]) ∧ ∃ S hp back nb, FlS W w' b gp mc mb q S g v done hp back nb ∧ FS g.E fr g.n done hp back k (fun _ _ => False)
theorem SpC.of_push {W w w' : World} {b gp mc mb q eb : Nat} {S : List Nat} {g : G} {v : Int} {k nl : Nat} {A1 : Option Addr} {done hp hp2 : Nat → Option C} {back : Nat → Option Nat} {nb : Nat} {cs cd : Int} (h : FlS W w b gp mc mb q S g v done hp back nb)
    (hI : Ints w A1 nl (fun x => (movesI g k).getD x 0)) (hN : 0 < nl → ∀ ad, A1 = some ad → ad.block ∉ S ∧ ad.block ≠ mb) (he : eb ∉ S) (he2 : eb ≠ mb) (c0 : w.cell? ⟨eb, 0, none⟩ = some (.int .i64 cs)) (c1 : w.cell? ⟨eb, 1, none⟩ = some (.int .i64 cd))
    {u : Value} {e : Ending} (hD : HeapD w S q (cntS hp2 g.n) (hpI hp2) u e w') : SpC W b gp mc mb q eb g v k nl A1 done hp2 back nb cs cd w' := by
  obtain ⟨S', h1, h2, h3⟩ := h.pushed hD
  have l0 := World.block_lt_of_cell? _ _ c0
  simp only at l0
  refine ⟨S', h1, ?_, ?_, ?_, he2, cellK h3 he c0, cellK h3 he c1⟩
  · intro hn
    obtain ⟨ad, e, hlt, hc⟩ := hI hn
    have hb := h3.block ad.block hlt (hN hn ad e).1
    refine ⟨ad, e, Nat.lt_of_lt_of_le hlt h3.size, fun x hx => ?_⟩
    have e1 : w'.cell? (ad.add x) = w.cell? (ad.add x) := World.cell?_of_block (by rw [add_block]; exact hb)
    rw [e1]; exact hc x hx
  · intro hn ad e
    refine ⟨fun hm => ?_, (hN hn ad e).2⟩
    obtain ⟨ad', e', hlt, _⟩ := hI hn
    rw [e'] at e; injection e with e; subst e
    rcases h2 _ hm with x | x
    · exact (hN hn ad' e').1 x
    · omega
  · intro hm
    rcases h2 _ hm with x | x
    · exact he x
    · omega
theorem SpC.below {W w w' : World} {b gp mc mb q eb : Nat} {g : G} {v : Int} {k nl : Nat} {A1 : Option Addr} {done hp : Nat → Option C} {back : Nat → Option Nat} {nb : Nat} {cs cd : Int} (h : SpC W b gp mc mb q eb g v k nl A1 done hp back nb cs cd w) (hb : Below w.heap.size w w') :
    SpC W b gp mc mb q eb g v k nl A1 done hp back nb cs cd w' := by
  obtain ⟨S, h1, h2, h3, h4, h5, h6, h7⟩ := h
  exact ⟨S, h1.below hb, h2.below hb, h3, h4, h5, bel_cell hb h6, bel_cell hb h7⟩
theorem SpC.to {W w : World} {b gp mc mb q eb : Nat} {g : G} {v : Int} {fr k nl j : Nat} {A1 : Option Addr} {done hp : Nat → Option C} {back : Nat → Option Nat} {nb : Nat} {cs cd : Int} (h : SpC W b gp mc mb q eb g v k nl A1 done hp back nb cs cd w) (hF : FS g.E fr g.n done hp back k (PendM g k j)) :
    SpI W b gp mc mb q eb g v fr k nl A1 done cs cd j w := by
  obtain ⟨S, h1, h2, h3, h4, h5, h6, h7⟩ := h
  exact ⟨S, hp, back, nb, h1, hF, h2, h3, h4, h5, h6, h7⟩
theorem SpC.stored {W w w' : World} {b gp mc mb q eb : Nat} {g : G} {v : Int} {k nl : Nat} {A1 : Option Addr} {done hp : Nat → Option C} {back : Nat → Option Nat} {nb nb' : Nat} {cs cd : Int} {t x : Nat} (h : SpC W b gp mc mb q eb g v k nl A1 done hp back nb cs cd w)
    (hM : MapAt (fun z : Int => Value.int .i64 z) w' mb (updK (mapI (backV back)) (t : Nat) (some (.int .i64 (x : Nat)))) nb') (hK : Kept [mb] w w') : SpC W b gp mc mb q eb g v k nl A1 done hp (upd back t (some x)) nb' cs cd w' := by
  obtain ⟨S, h1, h2, h3, h4, h5, h6, h7⟩ := h
  refine ⟨S, h1.back hM hK, ?_, h3, h4, h5, cellK hK (by simpa using h5) h6, cellK hK (by simpa using h5) h7⟩
  intro hn
  obtain ⟨ad, e, hlt, hc⟩ := h2 hn
  have hb := hK.block ad.block hlt (by simpa using (h3 hn ad e).2)
  refine ⟨ad, e, Nat.lt_of_lt_of_le hlt hK.size, fun x hx => ?_⟩
  have e1 : w'.cell? (ad.add x) = w.cell? (ad.add x) := World.cell?_of_block (by rw [add_block]; exact hb)
  rw [e1]; exact hc x hx
theorem step_inC (d : Nat) : 0 ≤ (stepC d).s ∧ (stepC d).s ≤ 1 ∧ 0 ≤ (stepC d).d ∧ (stepC d).d ≤ 1 := by unfold stepC; split <;> simp
set_option maxRecDepth 100000 in
set_option maxHeartbeats 1600000 in
theorem floodSpread (W w : World) (b gp mc mb q : Nat) (S : List Nat) (g : G) (v : Int) (fr k : Nat) (done hp : Nat → Option C) (back : Nat → Option Nat) (nb : Nat) (cs cd : Int) (h : FlS W w b gp mc mb q S g v done hp back nb)
    (hF : FS g.E fr g.n done hp back k (g.E k)) (hk : done k = some ⟨cs, cd⟩) (hok : g.ok) :
    Calls Try.prog 126 #[.pointer (some ⟨b, 0, none⟩), .pointer (some ⟨q, 0, none⟩), .int .i64 (k : Nat), .agg #[.int .i64 cs, .int .i64 cd]] w (SpD W b gp mc mb q g v fr k done) := by
  have hn := G.n_le hok
  have hkn : k < g.n := hF.rngD k (by rw [hk]; simp)
  have hcb := hF.small (fun _ _ _ => G.E_nn) hn (.inl hk)
  simp only at hcb
  obtain ⟨cb1, cb2, cb3, cb4⟩ := hcb
  have hSl := h.heap.lt
  have l1 := h.fl.lt
  have l2 := h.fl.grid.lt
  have l3 := h.fl.mapC.lt
  have l4 := h.fl.mapB.lt
  go_enter Try.func126, Try.ntmps126
  go_upto_region 1 with (fail)
  refine wp_name ?_
  intro W1 hW1
  have HW1 : Below w.heap.size w W1 := by rw [hW1]; (repeat' (first | exact Below.refl _ _ | assumption | apply bel_drewN | apply bel_drew | apply bel_alloc | (refine bel_trans ?_ (by assumption))))
  have hs1 : w.heap.size < W1.heap.size := by rw [hW1]; simp
  have e0 : W1.cell? ⟨w.heap.size, 0, none⟩ = some (.int .i64 cs) := by rw [hW1]; go_simp
  have e1 : W1.cell? ⟨w.heap.size, 1, none⟩ = some (.int .i64 cd) := by rw [hW1]; go_simp
  obtain ⟨eb, heb⟩ : ∃ eb, w.heap.size = eb := ⟨_, rfl⟩
  have heS : eb ∉ S := fun hm => by have := hSl _ hm; omega
  have hem : eb ≠ mb := by omega
  have h1 := h.below HW1
  clear hW1
  rw [heb] at e0 e1 hs1 ⊢
  have HFl := Lib.hid h1
  obtain ⟨k0, k1, k2⟩ := h1.fl.cells
  have hHF := Lib.hid hF
  have Hk := Lib.hid hk
  clear h h1 hF hk HW1 heb hSl
  go_wp2_with fail
  (with_reducible refine (gridMovesN _ gp g v k HFl.out.fl.grid hkn).mono ?_)
  rintro e w2 ⟨A1, m1, rfl, hI1, hN1, hb2⟩
  have hS2 := HFl.out.below hb2
  have e0 := bel_cell hb2 e0
  have e1 := bel_cell hb2 e1
  obtain ⟨nl, hnl⟩ : ∃ nl, (movesI g k).length = nl := ⟨_, rfl⟩
  rw [hnl] at hI1 ⊢
  have hnl8 : nl ≤ 8 := by rw [← hnl]; exact upTo_len _ _
  have Hnl := Lib.hid hnl
  have hin : SpI W b gp mc mb q eb g v fr k nl A1 done cs cd 0 w2 := by
    refine ⟨S, hp, back, nb, hS2, hHF.out.weaken ?_, hI1, ?_, heS, hem, e0, e1⟩
    · rintro b e ⟨_, d, hd, hm, rfl, rfl⟩
      exact ⟨d, by simpa [G.moves] using ⟨hd, hm⟩, rfl, rfl⟩
    · intro _ ad ha
      have := hN1 ad ha
      exact ⟨fun hm => by have := HFl.out.heap.lt _ hm; omega, by have := HFl.out.fl.mapB.lt; omega⟩
  clear hI1 hN1 hb2 hS2 e0 e1 HFl hHF heS hem k0 k1 k2 hnl l1 l2 l3 l4
  go_wp2_with fail
  go_loopw [26] (fun kv wr => ∃ j : Nat, j ≤ nl ∧ kv = .int .i64 j ∧ SpI W b gp mc mb q eb g v fr k nl A1 done cs cd j wr) (fun kv _ => nl - (intOf kv).toNat)
  case atStart => exact ⟨0, by omega, rfl, hin⟩
  case round =>
    obtain ⟨j, hj, rfl, S, hp, back, nb, hS, hF, hI, hN, heS, hem, e0, e1⟩ := hrel
    clear hin
    have HS := Lib.hid hS
    have HF := Lib.hid hF
    have HN := Lib.hid hN
    by_cases hlj : j < nl
    · have HI := Lib.hid hI
      obtain ⟨ad1, hA1⟩ := hI.addr (by omega)
      have hIb := hI
      rw [hA1] at hIb
      have hix1 := fun wx => idx_run (m := m1) hA1 hlj wx
      have hE1 := hIb.cell (Below.refl _ _) hlj
      obtain ⟨d, hd8, hmay, hgd, hnth⟩ := moves_at (g := g) (k := k) (j := j) (by rw [Hnl.out]; exact hlj)
      rw [hgd] at hE1
      obtain ⟨ht1, ht2⟩ := to_eq hmay
      obtain ⟨tt, hto⟩ : ∃ tt, g.to k d = tt := ⟨_, rfl⟩
      rw [hto] at ht1 ht2
      have cT := Lib.hid (fun w' h' => To_eq w' gp g v k d (tt : Nat) h' hkn hd8 ht1)
      have Hd := Lib.hid (And.intro hmay (And.intro hto hnth))
      obtain ⟨k0, k1, k2⟩ := hS.fl.cells
      have lb := hS.fl.lt
      have hE : g.E k tt (stepC d) := ⟨hkn, d, hd8, hmay, hto.symm, rfl⟩
      have HE := Lib.hid hE
      clear hA1 hI hIb hgd ht1 hmay hto hnth hS hF hN hE
      go_wp2_with fail
      (with_reducible refine (cT.out _ HS.out.fl.grid).mono ?_)
      rintro e w4 ⟨rfl, hb4⟩
      have k1 := bel_cell hb4 k1
      have k2 := bel_cell hb4 k2
      have e0 := bel_cell hb4 e0
      have e1 := bel_cell hb4 e1
      have hS4 := Lib.hid (HS.out.below hb4)
      have hI4 := Lib.hid (HI.out.below hb4)
      have le0 := World.block_lt_of_cell? _ _ e0
      have lb4 := World.block_lt_of_cell? _ _ k1
      clear HS HI hb4 k0 hE1 hix1 cT
      cases hdt : done tt with
      | some x =>
        obtain ⟨xs, xd⟩ := x
        have hl := costLook_in hS4.out.fl.mapC (z := (tt : Nat)) (v := .agg #[.int .i64 xs, .int .i64 xd]) (by rw [mapI_nat]; unfold doneV; rw [hdt]; rfl)
        have hP : SpC W b gp mc mb q eb g v k nl A1 done hp back nb cs cd w4 := ⟨S, hS4.out, hI4.out, HN.out, heS, hem, e0, e1⟩
        have hP := Lib.hid hP
        have hFn := Lib.hid (HF.out.skip (pend' := PendM g k (j + 1)) (b := tt) (by rw [hdt]; simp) (fun b' e' h => (pend_next Hd.out.2.2 Hd.out.2.1 b' e' h).imp_right And.left))
        clear hdt hS4 hI4 e0 e1
        go_upto_region 7 with (fail)
        go_quiet (fail)
        go_wp2
        go_roundw
        case rel => exact ⟨j + 1, by omega, by go_num, (hP.out.below (by (repeat' (first | exact Below.refl _ _ | assumption | apply bel_drewN | apply bel_drew | apply bel_alloc | (refine bel_trans ?_ (by assumption)))))).to hFn.out⟩
        case measure => simp [intOf]; omega
      | none =>
        have hl := costLook_out hS4.out.fl.mapC (z := (tt : Nat)) (by rw [mapI_nat]; unfold doneV; rw [hdt]; rfl)
        go_upto_region 7 with (fail)
        refine wp_name ?_
        intro W4 hW4
        have HW4 : Below w4.heap.size w4 W4 := by rw [hW4]; (repeat' (first | exact Below.refl _ _ | assumption | apply bel_drewN | apply bel_drew | apply bel_alloc | (refine bel_trans ?_ (by assumption))))
        have e0 := bel_cell HW4 e0
        have e1 := bel_cell HW4 e1
        have HS4 := Lib.hid (hS4.out.below HW4)
        have HI4 := Lib.hid (hI4.out.below HW4)
        clear hW4 hS4 hI4 hl k1 k2 HW4 le0 lb4
        obtain ⟨es, ed, hst, _, _, hr3, hr4⟩ := step_parts d
        have hr5 := step_inC d
        rw [hst] at hr5
        simp only at hr5
        obtain ⟨hr5, hr6, hr7, hr8⟩ := hr5
        have cS := Lib.hid (fun w => floodStep w d hd8)
        rw [hst] at cS
        have cA := Lib.hid (fun w => costAdd cs cd es ed w (by unfold inC; omega) (by unfold inC; omega) (by unfold inC; omega) (by unfold inC; omega))
        obtain ⟨t, ht⟩ : ∃ t, lower? hp tt ⟨cs + es, cd + ed⟩ = t := ⟨_, rfl⟩
        have cP := Lib.hid (fun w' h' => heapPushN w' S q g.n hp tt (cs + es) (cd + ed) t h' ht2 (by omega) ⟨by unfold inC; simp only; omega, by unfold inC; simp only; omega⟩ ht)
        have Ht := Lib.hid ht
        have Hst := Lib.hid hst
        have Hdt := Lib.hid hdt
        clear ht hst hdt hr3 hr4 hr5 hr6 hr7 hr8
        go_cut [56] (fun s wx => s = .bool t ∧ SpC W b gp mc mb q eb g v k nl A1 done (pushed hp tt ⟨cs + es, cd + ed⟩ t) back nb cs cd wx)
        case first =>
          go_region_held3 (fun w' => w'.cell? ⟨eb, 0, none⟩ = some (.int .i64 cs) ∧ w'.cell? ⟨eb, 1, none⟩ = some (.int .i64 cd))
            (first
              | (go_keep; done)
              | (go_split_ands
                 first
                 | exact ⟨cellK hKh heS (by assumption), cellK hKh heS (by assumption)⟩
                 | exact ⟨bel_cell hbA (by assumption), bel_cell hbA (by assumption)⟩
                 | exact ⟨bel_cell hbS (by assumption), bel_cell hbS (by assumption)⟩))
            (first
              | (go_at_call 125
                 refine (cS.out _).mono ?_
                 rintro e wS ⟨rfl, hbS⟩)
              | (go_at_call 28
                 refine (cA.out _).mono ?_
                 rintro e wA ⟨rfl, hbA⟩)
              | (go_at_call 59
                 refine (cP.out _ (((HS4.out.below (bel_drew (Below.refl _ _))).below hbS).below hbA).heap).mono ?_
                 rintro e wh ⟨rfl, S1, hh1, hh2, hKh⟩))
          have hd4 := bel_drew (Below.refl W4.heap.size W4)
          have hXX := Lib.hid (SpC.of_push (((HS4.out.below hd4).below hbS).below hbA) (((HI4.out.below hd4).below hbS).below hbA) HN.out heS hem (bel_cell hbA (bel_cell hbS (bel_cell hd4 e0))) (bel_cell hbA (bel_cell hbS (bel_cell hd4 e1))) (u := .bool t) (e := .returned (.bool t)) (⟨rfl, S1, hh1, hh2, hKh⟩ : HeapD wA S q _ _ _ _ wh))
          clear hh1 hh2 hKh hd4 hbS hbA e0 e1
          go_wp2
          go_meet
          case rel => exact ⟨rfl, hXX.out⟩
        case rest =>
          obtain ⟨rfl, hC⟩ := hcut
          have HC := Lib.hid hC
          have hadd : C.add ⟨cs, cd⟩ (stepC d) = ⟨cs + es, cd + ed⟩ := by rw [Hst.out]; rfl
          clear cS cA cP HS4 HI4 e0 e1
          cases t with
          | false =>
            obtain ⟨dd, hd1, hd2⟩ := lower_no Ht.out
            have hFn := Lib.hid (HF.out.keep (pend' := PendM g k (j + 1)) (b := tt) (e := stepC d) Hk.out hd1 (by rw [hadd]; exact hd2) (pend_next Hd.out.2.2 Hd.out.2.1))
            clear hd1 hd2 hadd hC
            go_wp2
            go_roundw
            case rel => first | exact ⟨j + 1, by omega, by go_num, HC.out.to hFn.out⟩ | ((repeat apply Exists.intro); exact ⟨⟨j + 1, by omega, by go_num, HC.out.to hFn.out⟩, rfl⟩)
            case measure => simp [intOf]; omega
          | true =>
            have hFn := HF.out.push (fun _ _ _ => G.E_nn) (pend' := PendM g k (j + 1)) (b := tt) (e := stepC d) Hk.out HE.out (stepC_le d) ht2 Hdt.out (by rw [hadd]; exact lower_yes Ht.out) (pend_next Hd.out.2.2 Hd.out.2.1)
            rw [hadd] at hFn
            have hFn := Lib.hid hFn
            obtain ⟨S2, hS2, _⟩ := hC
            obtain ⟨k0, k1, k2⟩ := hS2.fl.cells
            have lb2 := hS2.fl.lt
            obtain ⟨w5, hrun, hM5, hK5⟩ := hS2.fl.mapB.store (P := Try.prog) (mt := 154) (int_fit Try.underlying3) Try.underlying154 (tt : Nat) (.int .i64 (k : Nat))
            have hIn := Lib.hid ((HC.out.stored hM5 hK5).to hFn.out)
            clear hS2 hM5 hK5 hadd k0 k1
            go_wp2
            go_roundw
            case rel => first | exact ⟨j + 1, by omega, by go_num, hIn.out⟩ | ((repeat apply Exists.intro); exact ⟨⟨j + 1, by omega, by go_num, hIn.out⟩, rfl⟩)
            case measure => simp [intOf]; omega
    · obtain rfl : j = nl := by omega
      have hfin : SpD W b gp mc mb q g v fr k done (.returned (.tuple #[])) wr := ⟨rfl, S, hp, back, nb, hS, hF.weaken (pend_done Hnl.out)⟩
      go_wp2
      go_end0
      exact hfin
end Go.Proofs.Ytkiogciokngjfaa
