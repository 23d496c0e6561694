/- flood.Walk: the walk. -/
import Derived.Test.YtkiogciokngjfaaFlood6
set_option linter.unusedVariables false
set_option linter.unusedSimpArgs false
namespace Go.Proofs.Ytkiogciokngjfaa
open Go.RowKit Go.Sort FR
def errV (k : Nat) : Value := if k = 0 then .nilIface else .iface 137 (.int .i64 (k : Nat))
def costWE (x : C × Nat) : Value := .tuple #[.agg #[.int .i64 x.1.s, .int .i64 x.1.d], errV x.2]
/-- what holds at a round's head: what the first cells cost -/
def WkI (W : World) (b6 : Nat) (g : G) (f : Nat → Int) (i : Nat) (wr : World) : Prop := ∃ cs cd, g.wres f i = .inr ⟨cs, cd⟩ ∧ wr.cell? ⟨b6, 0, none⟩ = some (.int .i64 cs) ∧ wr.cell? ⟨b6, 1, none⟩ = some (.int .i64 cd) ∧ wr.frozen? ⟨b6, 0, none⟩ = false ∧ wr.frozen? ⟨b6, 1, none⟩ = false ∧ Kept [b6] W wr
def WkD (w : World) (x : C × Nat) (e : Ending) (w' : World) : Prop := e = .returned (costWE x) ∧ Below w.heap.size w w'
theorem kframe {S : List Nat} {w w' : World} {b o : Nat} (h : Kept S w w') (hb : b ∉ S) (hl : b < w.heap.size) {t : Bool} (hf : w.frozen? ⟨b, o, none⟩ = t) : w'.frozen? ⟨b, o, none⟩ = t := by
  have e : w'.frozen? ⟨b, o, none⟩ = w.frozen? ⟨b, o, none⟩ := by simp only [World.frozen?, h.block b hl hb]
  rw [e]; exact hf
theorem Ints.kept0 {S : List Nat} {w w' : World} {A : Option Addr} {n : Nat} {f : Nat → Int} (h : Ints w A n f) (hk : Kept S w w') (hS : 0 < n → ∀ ad, A = some ad → ad.block ∉ S) : Ints w' A n f := by
  intro hn
  obtain ⟨ad, h1, h2, h3⟩ := h hn
  exact ⟨ad, h1, Nat.lt_of_lt_of_le h2 hk.size, fun k hk' => by
    have e : w'.cell? (ad.add k) = w.cell? (ad.add k) := World.cell?_of_block (by rw [add_block]; exact hk.block _ h2 (hS hn ad h1))
    rw [e]; exact h3 k hk'⟩
theorem WkI.of_set {W w7 wA : World} {b6 i : Nat} {g : G} {f : Nat → Int} {x y : Int} {u v : Value} (hK7 : Kept [b6] W w7) (hb : Below w7.heap.size w7 wA) (hres : g.wres f i = .inr ⟨x, y⟩) (c60 : wA.cell? ⟨b6, 0, none⟩ = some u) (c61 : wA.cell? ⟨b6, 1, none⟩ = some v)
    (r60 : wA.frozen? ⟨b6, 0, none⟩ = false) (r61 : wA.frozen? ⟨b6, 1, none⟩ = false) : WkI W b6 g f i ((wA.setCell ⟨b6, 0, none⟩ (.int .i64 x)).setCell ⟨b6, 1, none⟩ (.int .i64 y)) := by
  have e := set_two (x := .int .i64 x) (y := .int .i64 y) c60 c61
  refine ⟨x, y, hres, e.1, e.2, by simpa using r60, by simpa using r61, ?_⟩
  exact hK7.trans (((Kept.of_below hb).setCell (.inl (by simp))).setCell (.inl (by simp)))
theorem bframe {w w' : World} {a : Addr} {t : Bool} (h : Below w.heap.size w w') (hl : a.block < w.heap.size) (hf : w.frozen? a = t) : w'.frozen? a = t := (h.frozen hl).trans hf
set_option maxRecDepth 100000 in
set_option maxHeartbeats 3200000 in
theorem floodWalk (w : World) (p : Nat) (g : G) (v : Int) (A : Option Addr) (n m : Nat) (f : Nat → Int) (hG : GridAt w p g v) (hI : Ints w A n f) (hn : n ≤ 1000000) :
    Calls Try.prog 72 #[.pointer (some ⟨p, 0, none⟩), .slice A n m] w (WkD w (g.wout f n)) := by
  go_enter Try.func72, Try.ntmps72
  go_upto_region 2 with (fail)
  refine wp_name ?_
  intro W hW
  have HW : Below w.heap.size w W := by rw [hW]; (repeat' (first | exact Below.refl _ _ | assumption | apply bel_drewN | apply bel_drew | apply bel_alloc | (refine bel_trans ?_ (by assumption))))
  obtain ⟨b2, hb2⟩ : ∃ b, w.heap.size = b := ⟨_, rfl⟩
  have hWs : W.heap.size = b2 + 1 + 1 + 1 + 1 := by rw [hW]; simp; omega
  have q2 : W.cell? ⟨b2, 0, none⟩ = some (.pointer (some ⟨p, 0, none⟩)) := by rw [hW, ← hb2]; go_simp
  have q3 : W.cell? ⟨b2 + 1, 0, none⟩ = some (.slice A n m) := by rw [hW, ← hb2]; go_simp
  have q40 : W.cell? ⟨b2 + 1 + 1, 0, none⟩ = some (.int .i64 0) := by rw [hW, ← hb2]; go_simp
  have q41 : W.cell? ⟨b2 + 1 + 1, 1, none⟩ = some (.int .i64 0) := by rw [hW, ← hb2]; go_simp
  have r40 : W.frozen? ⟨b2 + 1 + 1, 0, none⟩ = false := by rw [hW, ← hb2]; go_simp
  have r41 : W.frozen? ⟨b2 + 1 + 1, 1, none⟩ = false := by rw [hW, ← hb2]; go_simp
  have q60 : W.cell? ⟨b2 + 1 + 1 + 1, 0, none⟩ = some (.int .i64 0) := by rw [hW, ← hb2]; go_simp
  have q61 : W.cell? ⟨b2 + 1 + 1 + 1, 1, none⟩ = some (.int .i64 0) := by rw [hW, ← hb2]; go_simp
  have r60 : W.frozen? ⟨b2 + 1 + 1 + 1, 0, none⟩ = false := by rw [hW, ← hb2]; go_simp
  have r61 : W.frozen? ⟨b2 + 1 + 1 + 1, 1, none⟩ = false := by rw [hW, ← hb2]; go_simp
  have hGW := Lib.hid (hG.below HW hG.lt)
  have hIW := Lib.hid (hI.below HW)
  have hpl := hG.lt
  rw [hb2] at hpl ⊢
  obtain ⟨b3, hb3⟩ : ∃ b, b2 + 1 = b := ⟨_, rfl⟩
  rw [hb3] at hWs q3 q40 q41 r40 r41 q60 q61 r60 r61 ⊢
  obtain ⟨b4, hb4⟩ : ∃ b, b3 + 1 = b := ⟨_, rfl⟩
  rw [hb4] at hWs q40 q41 r40 r41 q60 q61 r60 r61 ⊢
  obtain ⟨b6, hb6⟩ : ∃ b, b4 + 1 = b := ⟨_, rfl⟩
  rw [hb6] at hWs q60 q61 r60 r61 ⊢
  have hok := hG.1
  have hNn := G.n_le hok
  clear hW hG
  have hAd : 0 < n → ∀ ad, A = some ad → ad.block < b2 := fun h0 ad e => by
    obtain ⟨ad', e', hlt, _⟩ := hI h0
    rw [e'] at e; injection e with e; subst e; omega
  have hAd := Lib.hid hAd
  clear hI
  have hstart : WkI W b6 g f 0 W := ⟨0, 0, rfl, q60, q61, r60, r61, Kept.refl _ _⟩
  go_wp2_with fail
  go_loopw [16] (fun kv wr => ∃ i : Nat, i ≤ n ∧ kv = .int .i64 i ∧ WkI W b6 g f i wr) (fun kv _ => n - (intOf kv).toNat)
  case atStart => exact ⟨0, by omega, rfl, hstart⟩
  case round =>
    obtain ⟨i, hi, rfl, cs, cd, hres, c60, c61, r60, r61, hK⟩ := hrel
    clear hstart q60 q61
    have q2 := cellK hK (by simp; omega) q2
    have q3 := cellK hK (by simp; omega) q3
    have q40 := cellK hK (by simp; omega) q40
    have q41 := cellK hK (by simp; omega) q41
    have r40 := kframe hK (by simp; omega) (by omega) r40
    have r41 := kframe hK (by simp; omega) (by omega) r41
    have hGr := Lib.hid (hGW.out.keptS hK (by simp; omega))
    have hIr := Lib.hid (hIW.out.kept0 hK (fun h0 ad e => by have := hAd.out h0 ad e; simp; omega))
    have hBr : Below w.heap.size w wr := Kept.below HW hK HW.size (by simp; omega)
    have hBr := Lib.hid hBr
    have HK := Lib.hid hK
    have hsz := hK.size
    clear hK
    by_cases hlt : i < n
    · obtain ⟨ad, hA⟩ := hIr.out.addr (by omega)
      have hIb := hIr.out
      rw [hA] at hIb
      have hix := fun wx => idx_run (m := m) hA hlt wx
      have hE := hIb.cell (Below.refl _ _) hlt
      have Hres := Lib.hid hres
      clear hA hIb hres
      obtain ⟨fi, hfi⟩ : ∃ fi, f i = fi := ⟨_, rfl⟩
      rw [hfi] at hE
      have Hfi := Lib.hid hfi
      clear hfi
      go_upto_region 5 with (fail)
      refine wp_name ?_
      intro W5 hW5
      have HW5 : Below wr.heap.size wr W5 := by rw [hW5]; (repeat' (first | exact Below.refl _ _ | assumption | apply bel_drewN | apply bel_drew | apply bel_alloc | (refine bel_trans ?_ (by assumption))))
      obtain ⟨b7, hb7⟩ : ∃ b, wr.heap.size = b := ⟨_, rfl⟩
      have hs5 : W5.heap.size = b7 + 1 + 1 := by rw [hW5]; simp; omega
      have q7 : W5.cell? ⟨b7, 0, none⟩ = some (.int .i64 (i : Nat)) := by rw [hW5, ← hb7]; go_simp
      have q8 : W5.cell? ⟨b7 + 1, 0, none⟩ = some (.int .i64 fi) := by rw [hW5, ← hb7]; go_simp
      rw [hb7] at ⊢
      obtain ⟨b8, hb8⟩ : ∃ b, b7 + 1 = b := ⟨_, rfl⟩
      rw [hb8] at hs5 q8 ⊢
      have q2 := bel_cell HW5 q2
      have q3 := bel_cell HW5 q3
      have q40 := bel_cell HW5 q40
      have q41 := bel_cell HW5 q41
      have r40 := bframe HW5 (by simp only; omega) r40
      have r41 := bframe HW5 (by simp only; omega) r41
      have c60 := bel_cell HW5 c60
      have c61 := bel_cell HW5 c61
      have r60 := bframe HW5 (by simp only; omega) r60
      have r61 := bframe HW5 (by simp only; omega) r61
      have hE := bel_cell HW5 hE
      have hG5 := Lib.hid (hGr.out.below HW5 hGr.out.lt)
      have hI5 := Lib.hid (hIr.out.below HW5)
      have hB5 := Lib.hid (bel_trans hBr.out HW5)
      have hK5 := Lib.hid (HK.out.trans (Kept.of_below HW5))
      clear hW5 HW5 hGr hIr hBr HK hix hE
      by_cases hin : 0 ≤ fi ∧ fi < g.n
      · obtain ⟨hin0, hin1⟩ := hin
        obtain ⟨c, hc⟩ := Int.eq_ofNat_of_zero_le hin0
        subst hc
        have hcn : c < g.n := by omega
        have cF := gridFree_in W5 p g v c hG5.out hcn
        cases hbl : g.b c with
        | true =>
          rw [hbl] at cF
          have hwo : g.wout f n = (C.zero, 4) := by
            have hf4 : g.fault (f i) = 4 := by rw [Hfi.out, G.fault_in hcn, hbl]; rfl
            have := G.wout_bad (G.wres_fault Hres.out (by rw [hf4]; decide)) (n := n) (by omega)
            rw [hf4] at this; exact this
          have hwo := Lib.hid hwo
          go_wp2_with fail
          (with_reducible refine cF.mono ?_)
          rintro e w6 ⟨rfl, hb6'⟩
          have q40 := bel_cell hb6' q40
          have q41 := bel_cell hb6' q41
          have r40 := bframe hb6' (by simp only; omega) r40
          have r41 := bframe hb6' (by simp only; omega) r41
          clear cF
          go_wp2
          have e2 := set_two (x := .int .i64 0) (y := .int .i64 0) q40 q41
          refine bodyPost_ret (v := .tuple #[.agg #[.int .i64 0, .int .i64 0], .iface 137 (.int .i64 4)]) (by simp [results, Try.results72, go_sem, e2]) rfl ?_
          exact ⟨by rw [hwo.out]; rfl, ((bel_trans hB5.out hb6').setCell (by simp only; omega) _).setCell (by simp only; omega) _⟩
        | false =>
          rw [hbl] at cF
          have hf0 : g.fault (f i) = 0 := by rw [Hfi.out, G.fault_in hcn, hbl]; rfl
          have Hf0 := Lib.hid hf0
          clear hf0
          go_wp2_with fail
          (with_reducible refine cF.mono ?_)
          rintro e w6 ⟨rfl, hb6'⟩
          have hs6 := hb6'.size
          have q2 := bel_cell hb6' q2
          have q3 := bel_cell hb6' q3
          have q40 := bel_cell hb6' q40
          have q41 := bel_cell hb6' q41
          have q7 := bel_cell hb6' q7
          have q8 := bel_cell hb6' q8
          have r40 := bframe hb6' (by simp only; omega) r40
          have r41 := bframe hb6' (by simp only; omega) r41
          have c60 := bel_cell hb6' c60
          have c61 := bel_cell hb6' c61
          have r60 := bframe hb6' (by simp only; omega) r60
          have r61 := bframe hb6' (by simp only; omega) r61
          have hG6 := Lib.hid (hG5.out.below hb6' hG5.out.lt)
          have hI6 := Lib.hid (hI5.out.below hb6')
          have hB6 := Lib.hid (bel_trans hB5.out hb6')
          have hK6 := Lib.hid (hK5.out.trans (Kept.of_below hb6'))
          clear cF hb6' hG5 hI5 hB5 hK5
          rcases Nat.eq_zero_or_pos i with hi0 | hi0
          · subst hi0
            have hz : cs = 0 ∧ cd = 0 := by
              have h := Hres.out
              unfold G.wres at h
              injection h with h
              unfold C.zero at h
              injection h with h1 h2
              exact ⟨h1.symm, h2.symm⟩
            obtain ⟨rfl, rfl⟩ := hz
            have hin : WkI W b6 g f 1 w6 := ⟨0, 0, G.wres_first Hf0.out, c60, c61, r60, r61, hK6.out⟩
            have hin := Lib.hid hin
            clear c60 c61 r60 r61 q40 q41 r40 r41
            go_wp2
            go_roundw
            case rel => exact ⟨1, by omega, by go_num, hin.out⟩
            case measure => simp [intOf]; omega
          · obtain ⟨i', hii⟩ : ∃ i', i = i' + 1 := ⟨i - 1, by omega⟩
            have hii' : i' < n := by omega
            have hne : ((i : Int) == 0) = false := by simp; omega
            have Hres2 := Hres.out
            rw [hii] at Hres2
            obtain ⟨k, hfk, hkn, hkb⟩ := G.wres_ok Hres2
            have hbd := G.wres_bd Hres2
            simp only at hbd
            obtain ⟨bd1, bd2, bd3, bd4⟩ := hbd
            have Hres3 := Lib.hid Hres2
            have Hf1 : g.fault (f (i' + 1)) = 0 := by rw [← hii]; exact Hf0.out
            have Hf1 := Lib.hid Hf1
            have Hc : f (i' + 1) = (c : Nat) := by rw [← hii]; exact Hfi.out
            have Hc := Lib.hid Hc
            obtain ⟨ad, hA⟩ := hI6.out.addr (by omega)
            have hIb := hI6.out
            rw [hA] at hIb
            have hix := fun wx => idx_run (m := m) hA hii' wx
            have hE := hIb.cell (Below.refl _ _) hii'
            rw [hfk] at hE
            have hwr : IntKind.i64.wrap ((i : Int) - 1) = (i' : Int) := by
              rw [show (i : Int) - 1 = (i' : Int) by omega]; exact IntWalk.i64_in _ (by omega)
            have Hii := Lib.hid hii
            have Hfk := Lib.hid hfk
            clear hA hIb Hres2 hfk hii
            go_upto_region 11 with (fail)
            go_region_held3 (fun w' => w'.cell? ⟨b2, 0, none⟩ = some (.pointer (some ⟨p, 0, none⟩)) ∧ w'.cell? ⟨b3, 0, none⟩ = some (.slice A n m) ∧ w'.cell? ⟨b7, 0, none⟩ = some (.int .i64 (i : Nat)) ∧ w'.cell? (ad.add i') = some (.int .i64 (k : Nat)))
              (first
                | (go_keep; done)
                | (go_split_ands
                   exact ⟨bel_cell hbM (by assumption), bel_cell hbM (by assumption), bel_cell hbM (by assumption), bel_cell hbM (by assumption)⟩))
              (first
                | (go_at_call 81
                   refine (gridMovesN _ p g v k (hG6.out.below (bel_drew (Below.refl _ _)) hG6.out.lt) hkn).mono ?_
                   rintro e wM ⟨A1, m1, rfl, hI1, hN1, hbM⟩))
            have HbM : Below w6.heap.size w6 wM := bel_trans (bel_drew (Below.refl _ _)) hbM
            have hsM := HbM.size
            have q2 := bel_cell HbM q2
            have q3 := bel_cell HbM q3
            have q40 := bel_cell HbM q40
            have q41 := bel_cell HbM q41
            have q7 := bel_cell HbM q7
            have q8 := bel_cell HbM q8
            have r40 := bframe HbM (by simp only; omega) r40
            have r41 := bframe HbM (by simp only; omega) r41
            have c60 := bel_cell HbM c60
            have c61 := bel_cell HbM c61
            have r60 := bframe HbM (by simp only; omega) r60
            have r61 := bframe HbM (by simp only; omega) r61
            have hBM := Lib.hid (bel_trans hB6.out HbM)
            have hKM := Lib.hid (hK6.out.trans (Kept.of_below HbM))
            obtain ⟨nl, hnl⟩ : ∃ nl, (movesI g k).length = nl := ⟨_, rfl⟩
            rw [hnl] at hI1 ⊢
            obtain ⟨r, hr⟩ : ∃ r, idxR (g.widx k c) = r := ⟨_, rfl⟩
            have cI := idxFunc wM b2 b3 b7 b8 p g v A A1 n m m1 nl f i' i k c (hG6.out.below HbM hG6.out.lt) (hI6.out.below HbM) hii' Hii.out (by omega) Hfk.out hkn hI1 hnl q2 q3 q7 q8
            rw [hr] at cI
            have cI := Lib.hid cI
            have HI1 := Lib.hid hI1
            have Hnl := Lib.hid hnl
            clear hG6 hI6 hB6 hK6 HbM hbM hix hE hI1 hN1 hnl q2 q3 q7 q8
            go_wp2_with fail
            (with_reducible refine cI.out.mono ?_)
            rintro e w7 ⟨rfl, hb7'⟩
            have hs7 := hb7'.size
            have q40 := bel_cell hb7' q40
            have q41 := bel_cell hb7' q41
            have r40 := bframe hb7' (by simp only; omega) r40
            have r41 := bframe hb7' (by simp only; omega) r41
            have c60 := bel_cell hb7' c60
            have c61 := bel_cell hb7' c61
            have r60 := bframe hb7' (by simp only; omega) r60
            have r61 := bframe hb7' (by simp only; omega) r61
            have hB7 := Lib.hid (bel_trans hBM.out hb7')
            have hK7 := Lib.hid (hKM.out.trans (Kept.of_below hb7'))
            have HI7 := Lib.hid (HI1.out.below hb7')
            clear hBM hKM HI1 hb7' cI
            cases hw : g.widx k c with
            | none =>
              rw [hw] at hr
              have hr1 : r = -1 := hr.symm
              subst hr1
              have hwo := Lib.hid (G.wout_bad (G.wres_none Hres3.out Hf1.out Hfk.out Hc.out hw) (n := n) (by have := Hii.out; omega))
              clear hr hw c60 c61 r60 r61
              go_wp2
              have e2 := set_two (x := .int .i64 0) (y := .int .i64 0) q40 q41
              refine bodyPost_ret (v := .tuple #[.agg #[.int .i64 0, .int .i64 0], .iface 137 (.int .i64 7)]) (by simp [results, Try.results72, go_sem, e2]) rfl ?_
              exact ⟨by rw [hwo.out]; rfl, (hB7.out.setCell (by simp only; omega) _).setCell (by simp only; omega) _⟩
            | some kk =>
              rw [hw] at hr
              have hr1 : r = (kk : Nat) := hr.symm
              subst hr1
              obtain ⟨d', hd1, hd2, _⟩ := G.widx_some hw
              have hkl : kk < nl := by
                have h1 := (List.getElem?_eq_some_iff.1 hd1).1
                have h2 : (g.moves k).length = nl := by rw [← Hnl.out, movesI_eq, List.length_map]
                omega
              obtain ⟨d, hd8, hmay, hgd, hnth⟩ := moves_at (g := g) (k := k) (j := kk) (by rw [Hnl.out]; exact hkl)
              have hwst : g.wst k kk = stepC d := by unfold G.wst; rw [List.getD_eq_getElem?_getD, hnth]; rfl
              have hnew := G.wres_some Hres3.out Hf1.out Hfk.out Hc.out hw
              rw [hwst] at hnew
              obtain ⟨es, ed, hst, _, _, hr3, hr4⟩ := step_parts d
              have hr5 := step_inC d
              rw [hst] at hr5 hnew
              simp only at hr5
              obtain ⟨hr5, hr6, hr7, hr8⟩ := hr5
              have cS := Lib.hid (fun w => floodStep w d hd8)
              rw [hst] at cS
              have cA := Lib.hid (fun w => costAdd cs cd es ed w (by unfold inC; omega) (by unfold inC; omega) (by unfold inC; omega) (by unfold inC; omega))
              obtain ⟨ad1, hA1⟩ := HI7.out.addr (by omega)
              have hIb := HI7.out
              rw [hA1] at hIb
              have hix := fun wx => idx_run (m := m1) hA1 hkl wx
              have hE := hIb.cell (Below.refl _ _) hkl
              rw [hgd] at hE
              have Hnew := Lib.hid hnew
              have hq0 : ((kk : Int) < 0) = False := by simp
              clear hr hw hd1 hd2 hmay hgd hnth hwst hnew hst hA1 hIb HI7
              go_upto_region 15 with (fail)
              clear q40 q41 r40 r41
              go_region_with (first
                | (go_at_call 125
                   refine (cS.out _).mono ?_
                   rintro e wS ⟨rfl, hbS⟩
                   have c60 := bel_cell hbS c60
                   have c61 := bel_cell hbS c61
                   have r60 := bframe hbS (by simp only; simp; omega) r60
                   have r61 := bframe hbS (by simp only; simp; omega) r61)
                | (go_at_call 28
                   refine (cA.out _).mono ?_
                   rintro e wA ⟨rfl, hbA⟩
                   have c60 := bel_cell hbA c60
                   have c61 := bel_cell hbA c61
                   have r60 := bframe hbA (by simp only; have := hbS.size; simp at this; omega) r60
                   have r61 := bframe hbA (by simp only; have := hbS.size; simp at this; omega) r61))
              all_goals
                have hbw : Below w7.heap.size w7 wA := bel_trans (bel_trans (bel_drew (Below.refl w7.heap.size w7)) hbS) hbA
                have hin := Lib.hid (WkI.of_set hK7.out hbw (by rw [Hii.out]; exact Hnew.out : g.wres f (i + 1) = .inr ⟨cs + es, cd + ed⟩) c60 c61 r60 r61)
                clear c60 c61 r60 r61 hbS hbA hbw
                go_wp2
                go_roundw
                case rel => first | exact ⟨i + 1, by omega, by go_num, hin.out⟩ | ((repeat apply Exists.intro); exact ⟨⟨i + 1, by omega, by go_num, hin.out⟩, rfl⟩)
                case measure => simp [intOf]; omega
      · have hwo : g.wout f n = (C.zero, 1) := by
          have hf1 : g.fault (f i) = 1 := by rw [Hfi.out]; exact G.fault_out (by omega)
          have := G.wout_bad (G.wres_fault Hres.out (by rw [hf1]; decide)) (n := n) (by omega)
          rw [hf1] at this; exact this
        have hwo := Lib.hid hwo
        go_wp2_with fail
        (with_reducible refine (gridFree_out _ p g v fi hG5.out (by omega)).mono ?_)
        rintro e w6 ⟨rfl, hb6'⟩
        have q40 := bel_cell hb6' q40
        have q41 := bel_cell hb6' q41
        have r40 := bframe hb6' (by simp only; omega) r40
        have r41 := bframe hb6' (by simp only; omega) r41
        go_wp2
        have e2 := set_two (x := .int .i64 0) (y := .int .i64 0) q40 q41
        refine bodyPost_ret (v := .tuple #[.agg #[.int .i64 0, .int .i64 0], .iface 137 (.int .i64 1)]) (by simp [results, Try.results72, go_sem, e2]) rfl ?_
        exact ⟨by rw [hwo.out]; rfl, ((bel_trans hB5.out hb6').setCell (by simp only; omega) _).setCell (by simp only; omega) _⟩
    · obtain rfl : i = n := by omega
      rcases Nat.eq_zero_or_pos i with hi0 | hi0
      · subst hi0
        go_wp2
        have e2 := set_two (x := .int .i64 0) (y := .int .i64 0) q40 q41
        refine bodyPost_ret (v := .tuple #[.agg #[.int .i64 0, .int .i64 0], .iface 137 (.int .i64 7)]) (by simp [results, Try.results72, go_sem, e2]) rfl ?_
        exact ⟨rfl, (hBr.out.setCell (by simp only; omega) _).setCell (by simp only; omega) _⟩
      · have hne : ((i : Int) == 0) = false := by simp; omega
        have hwo := Lib.hid (G.wout_ok hres hi0)
        clear hres
        go_wp2
        have e2 := set_two (x := .int .i64 cs) (y := .int .i64 cd) q40 q41
        refine bodyPost_ret (v := .tuple #[.agg #[.int .i64 cs, .int .i64 cd], .nilIface]) (by simp [results, Try.results72, go_sem, e2]) rfl ?_
        exact ⟨by rw [hwo.out]; rfl, (hBr.out.setCell (by simp only; omega) _).setCell (by simp only; omega) _⟩
end Go.Proofs.Ytkiogciokngjfaa
