/- flood.Walk: what a way costs. -/
import Derived.Test.YtkiogciokngjfaaFlood5
set_option linter.unusedVariables false
set_option linter.unusedSimpArgs false
namespace Go.Proofs.Ytkiogciokngjfaa
open Go.RowKit Go.Sort FR
/-- the closure in Walk: does a direction lead from the one before to this one? -/
theorem walkCl (w : World) (b1 b2 b3 b4 gp : Nat) (g : G) (v : Int) (A : Option Addr) (n m : Nat) (f : Nat → Int) (i iv k d : Nat) (cell z : Int) (t : Bool) (hG : GridAt w gp g v) (hI : Ints w A n f) (hin : i < n) (hiv : iv = i + 1) (hi9 : iv ≤ 1000000) (hfk : f i = (k : Nat)) (hkn : k < g.n) (hd : d < 8)
    (hz : g.toI k d = z) (ht : (z == cell) = t)
    (c1 : w.cell? ⟨b1, 0, none⟩ = some (.pointer (some ⟨gp, 0, none⟩))) (c2 : w.cell? ⟨b2, 0, none⟩ = some (.slice A n m)) (c3 : w.cell? ⟨b3, 0, none⟩ = some (.int .i64 (iv : Nat))) (c4 : w.cell? ⟨b4, 0, none⟩ = some (.int .i64 cell)) :
    Calls Try.prog 124 #[.int .i64 (d : Nat), .pointer (some ⟨b1, 0, none⟩), .pointer (some ⟨b2, 0, none⟩), .pointer (some ⟨b3, 0, none⟩), .pointer (some ⟨b4, 0, none⟩)] w fun e w' => e = .returned (.bool t) ∧ Below w.heap.size w w' := by
  obtain ⟨ad, hA⟩ := hI.addr (by omega)
  have hIb := hI
  rw [hA] at hIb
  have hix := fun wx => idx_run (m := m) hA hin wx
  have hE := hIb.cell (Below.refl _ _) hin
  rw [hfk] at hE
  have hwr : IntKind.i64.wrap ((iv : Int) - 1) = (i : Int) := by
    rw [show (iv : Int) - 1 = (i : Int) by omega]; exact IntWalk.i64_in _ (by omega)
  have hp := Lib.hid hG.lt
  have c1q := cell_regrown c1
  have c2q := cell_regrown c2
  have c3q := cell_regrown c3
  have c4q := cell_regrown c4
  have hEq := cell_regrown hE
  have HB := Below.refl w.heap.size w
  have hbv : ∀ wx wy, Ending.returned (Value.bool (z == cell)) = .returned (.bool t) ∧ Below w.heap.size wx wy ↔ Below w.heap.size wx wy := fun _ _ => by rw [ht]; simp
  have hbv := Lib.hid hbv
  have HG := Lib.hid hG
  have Hz := Lib.hid hz
  clear hA hI hIb hfk hG hiv ht hz
  go_enter Try.func124, Try.ntmps124
  go_wp2_with fail
  refine wp_region_quiet_below (by kernel_rfl) (by kernel_rfl) ?_
  repeat (first | go_big_quiet_step ((with_reducible exact Calls.regrown_of (To_eq _ gp g v k d _ (HG.out.below (HB.trans ((below_regrown w _ _).mono HB.size)) hp.out) hkn hd Hz.out))) | quiet_step ((with_reducible exact Calls.regrown_of (To_eq _ gp g v k d _ (HG.out.below (HB.trans ((below_regrown w _ _).mono HB.size)) hp.out) hkn hd Hz.out))))
  refine wpQuiet_nil ?_
  intro _ hw'
  obtain ⟨⟨dq, osq⟩, hw''⟩ := hw'
  have HB2 := bel_trans HB (below_regrown w dq osq)
  have hb2 := below_regrown w dq osq
  subst hw''
  generalize grow (redrawn w dq) osq = w2 at HB2 hb2 ⊢
  go_wp2
  go_ret
  exact (hbv.out _ _).2 HB2
/-- which of the moves leads there: its number, or -1 -/
def idxR (o : Option Nat) : Int := match o with | some i => (i : Nat) | none => -1
set_option maxRecDepth 100000 in
set_option maxHeartbeats 1600000 in
theorem idxFunc (w : World) (b1 b2 b3 b4 gp : Nat) (g : G) (v : Int) (A A1 : Option Addr) (n m m1 nl : Nat) (f : Nat → Int) (i iv k c : Nat) (hG : GridAt w gp g v) (hI : Ints w A n f) (hin : i < n) (hiv : iv = i + 1) (hi9 : iv ≤ 1000000) (hfk : f i = (k : Nat)) (hkn : k < g.n)
    (hI1 : Ints w A1 nl (fun x => (movesI g k).getD x 0)) (hnl : (movesI g k).length = nl)
    (c1 : w.cell? ⟨b1, 0, none⟩ = some (.pointer (some ⟨gp, 0, none⟩))) (c2 : w.cell? ⟨b2, 0, none⟩ = some (.slice A n m)) (c3 : w.cell? ⟨b3, 0, none⟩ = some (.int .i64 (iv : Nat))) (c4 : w.cell? ⟨b4, 0, none⟩ = some (.int .i64 (c : Nat))) :
    Calls Try.prog 123 #[.slice A1 nl m1, .func (.func 124) #[] #[.pointer (some ⟨b1, 0, none⟩), .pointer (some ⟨b2, 0, none⟩), .pointer (some ⟨b3, 0, none⟩), .pointer (some ⟨b4, 0, none⟩)]] w fun e w' => e = .returned (.int .i64 (idxR (g.widx k c))) ∧ Below w.heap.size w w' := by
  have hnl8 : nl ≤ 8 := by rw [← hnl]; exact upTo_len _ _
  have Hnl := Lib.hid hnl
  have cC := Lib.hid (fun w' (hb : Below w.heap.size w w') d z t hd hz ht => walkCl w' b1 b2 b3 b4 gp g v A n m f i iv k d (c : Nat) z t (hG.below hb hG.lt) (hI.below hb) hin hiv hi9 hfk hkn hd hz ht (bel_cell hb c1) (bel_cell hb c2) (bel_cell hb c3) (bel_cell hb c4))
  have HI1 := Lib.hid hI1
  clear hG hI hin hiv hi9 hfk c1 c2 c3 c4 hI1 hnl
  go_enter Try.func123, Try.ntmps123
  go_wp2_with fail
  go_loopw [8] (fun kv wr => ∃ j : Nat, j ≤ nl ∧ kv = .int .i64 j ∧ (∀ j' d : Nat, j' < j → (g.moves k)[j']? = some d → g.to k d ≠ c) ∧ Below w.heap.size w wr) (fun kv _ => nl - (intOf kv).toNat)
  case atStart => exact ⟨0, by omega, rfl, fun j' d h => by omega, Below.refl _ _⟩
  case round =>
    obtain ⟨j, hj, rfl, hno, HB⟩ := hrel
    have hno := Lib.hid hno
    by_cases hlj : j < nl
    · obtain ⟨ad1, hA1⟩ := HI1.out.addr (by omega)
      have hIb := HI1.out
      rw [hA1] at hIb
      have hix1 := fun wx => idx_run (m := m1) hA1 hlj wx
      have hE1 := hIb.cell HB hlj
      obtain ⟨d, hd8, hmay, hgd, hnth⟩ := moves_at (g := g) (k := k) (j := j) (by rw [Hnl.out]; exact hlj)
      rw [hgd] at hE1
      obtain ⟨ht1, ht2⟩ := to_eq hmay
      obtain ⟨t, ht⟩ : ∃ t, (((g.to k d : Nat) : Int) == (c : Nat)) = t := ⟨_, rfl⟩
      have cD := Lib.hid (cC.out wr HB d _ t hd8 ht1 ht)
      have Ht := Lib.hid ht
      have Hnth := Lib.hid hnth
      clear hA1 hIb hgd ht1 ht hnth hmay ht2
      go_wp2_with fail
      (with_reducible refine (cD.out).mono ?_)
      rintro e w2 ⟨rfl, hb2⟩
      have HB2 := bel_trans HB hb2
      clear cD HB hb2 hE1
      cases t with
      | true =>
        have hr : idxR (g.widx k c) = (j : Nat) := by
          have htc : g.to k d = c := by have := Ht.out; simp at this; omega
          cases hw : g.widx k c with
          | none => exact absurd htc (G.widx_none hw j d Hnth.out)
          | some i' =>
            obtain ⟨d', h1, h2, h3⟩ := G.widx_some hw
            rw [(h3 j d Hnth.out).1 htc]; rfl
        have Hr := Lib.hid hr
        clear hr
        go_wp2
        go_ret
        exact ⟨by rw [Hr.out]; rfl, HB2⟩
      | false =>
        have hno2 : ∀ j' d' : Nat, j' < j + 1 → (g.moves k)[j']? = some d' → g.to k d' ≠ c := by
          intro j' d' h1 h2
          by_cases e : j' = j
          · subst e
            have := Hnth.out
            rw [h2] at this; injection this with this; subst this
            have := Ht.out
            simp at this; omega
          · exact hno.out j' d' (by omega) h2
        have hno2 := Lib.hid hno2
        go_wp2
        go_roundw
        case rel => exact ⟨j + 1, by omega, by go_num, hno2.out, HB2⟩
        case measure => simp [intOf]; omega
    · obtain rfl : j = nl := by omega
      have hr : idxR (g.widx k c) = -1 := by
        cases hw : g.widx k c with
        | none => rfl
        | some i' =>
          obtain ⟨d', h1, h2, h3⟩ := G.widx_some hw
          have hlt := (List.getElem?_eq_some_iff.1 h1).1
          have hln : (g.moves k).length = j := by rw [← Hnl.out, movesI_eq, List.length_map]
          exact absurd h2 (hno.out i' d' (by omega) h1)
      have Hr := Lib.hid hr
      clear hr
      go_wp2
      go_ret
      exact ⟨by rw [Hr.out]; rfl, HB⟩
end Go.Proofs.Ytkiogciokngjfaa
