/- Lemmas of this claim: SearchSays. -/
import Derived.Test.YtjejkadaafmdcaaGreatTrk
import Derived.Test.YtjejkadaafmdcaaGreatKSearchSays36
import Derived.Test.YtjejkadaafmdcaaGreatKSearchSays37
set_option linter.unusedVariables false
set_option linter.unusedSimpArgs false
/- The law SearchSays: for any plot, so many levels, edges from the beginning and to the end, it returns true. -/
namespace Go.Proofs.YtjejkadaafmdcaaGreat
open Go.RowKit Go.Sort FR Go.Lib
theorem costOk_of {a b : Int} (h : costOk a b) : 0 ≤ a ∧ a ≤ 1048576 ∧ 0 ≤ b ∧ b ≤ 1048576 := by unfold costOk at h; omega
theorem rGraphOf_below {w w' : World} {b mb : Nat} {S : List Nat} {A : Option Addr} {n m : Nat} {g : G} (h : RGraphOf w b mb S A n m g) (hb : Below w.heap.size w w') : RGraphOf w' b mb S A n m g := by
  obtain ⟨h1, h2, h3, h4, h5⟩ := h
  exact ⟨(hb.block b (Array.getElem?_eq_some_iff.1 h1).1).trans h1, h2.below hb, h3, h4, h5.below hb⟩
theorem rIs_any (w : World) (q : Nat) (g : G) (v c : Int) (h : RGridAt w q g v) : ∃ ni : Int, (∀ w', Below w.heap.size w w' → Calls Tryz.prog 30 #[.pointer (some ⟨q, 0, none⟩), .int .i64 c] w' fun e w2 => e = .returned (.int .i64 ni) ∧ Below w'.heap.size w' w2) ∧ (ni = 0 → 0 ≤ c ∧ c < (g.n : Nat)) ∧ (ni = 0 ∨ ni = 1) := by
  by_cases hc : 0 ≤ c ∧ c < (g.n : Nat)
  · obtain ⟨n, rfl⟩ := Int.eq_ofNat_of_zero_le hc.1
    exact ⟨0, fun w' hb => rIs_in w' q g v n (h.below hb h.lt) (by omega), fun _ => hc, .inl rfl⟩
  · exact ⟨1, fun w' hb => rIs_out w' q g v c (h.below hb h.lt) (by omega), fun h => by omega, .inr rfl⟩
/-- a way that is told: its cost is what is told -/
theorem way_total {g : G} {out inn : List Ed} {c : C} {f : Int → Option C} {Wy : List Nat} (hb : BestIs g out inn c true) (hf : FinK inn inn.length f) (hw : WayIs g (srF f) out c Wy) :
    ∃ (s t : Nat) (d cw e : C), SrcO g out s d ∧ Wy.head? = some s ∧ Wy.getLast? = some t ∧ LS.LW g.GE Wy cw ∧ (∃ (k : Nat) (x : Ed), inn[k]? = some x ∧ x.to_ = (t : Nat) ∧ x.c = e) ∧ C.add (C.add d cw) e = c := by
  obtain ⟨s, t, d, cw, e, h1, h2, h3, h4, h5, h6⟩ := hw
  obtain ⟨x, hx, hxt, hxc⟩ := hf.some_ _ _ h5
  obtain ⟨k, hk⟩ := List.getElem?_of_mem hx
  refine ⟨s, t, d, cw, e, h1, h2, h3, h4, ⟨k, x, hk, hxt, hxc⟩, ?_⟩
  have hwk : Walk g.GE s t cw := by
    cases Wy with
    | nil => cases h2
    | cons a l =>
      simp at h2; subst h2
      exact LS.LW.walk h4 h3
  have hT : TotL g out inn (C.add (C.add d cw) e) := ⟨t, C.add d cw, x, ⟨s, d, cw, h1, hwk, rfl⟩, hx, hxt, by rw [hxc]⟩
  refine C.le_antisymm ?_ ((hb.2 rfl).2 _ hT)
  rw [C.add_assoc]; exact h6
set_option maxRecDepth 100000 in
set_option maxHeartbeats 6400000 in
theorem searchSays (W0 : World) (a b : Int) (A0 : Option Addr) (n0 m0 : Nat) (f0 : Nat → Int) (h0 : SlI W0 A0 n0 f0) (x : Int) (hx : -9223372036854775808 ≤ x ∧ x ≤ 9223372036854775807)
    (A1 : Option Addr) (n1 m1 : Nat) (out : List Ed) (h1 : SlE W0 A1 n1 out) (A2 : Option Addr) (n2 m2 : Nat) (inn : List Ed) (h2 : SlE W0 A2 n2 inn) (go : Int) (hgo : -9223372036854775808 ≤ go ∧ go ≤ 9223372036854775807) :
    Calls Tryz.prog 5 #[.agg #[.int .i64 a, .int .i64 b, .slice A0 n0 m0], .int .i64 x, .slice A1 n1 m1, .slice A2 n2 m2, .int .i64 go] W0 fun e w' => e = .returned (.bool true) ∧ Below W0.heap.size W0 w' := by
  obtain ⟨hI0, hl0, _⟩ := h0
  obtain ⟨hE1, hn1, hb1⟩ := h1
  obtain ⟨hE2, hn2, hb2⟩ := h2
  have hl0 := Lib.hid hl0
  have HE1 := Lib.hid hE1
  have HE2 := Lib.hid hE2
  have Hn := Lib.hid (And.intro hn1 hn2)
  clear hx hgo hE1 hE2 hn1 hn2
  go_enter Tryz.func5, Tryz.ntmps5
  go_upto_region 1 with (fail)
  refine wp_name ?_
  intro W hW
  have HW : Below W0.heap.size W0 W := by rw [hW]; (repeat' (first | exact Below.refl _ _ | assumption | apply bel_drewN | apply bel_drew | apply bel_alloc | (refine bel_trans ?_ (by assumption))))
  have k0 : ∀ w', Below W.heap.size W w' → w'.cell? ⟨W0.heap.size, 0, none⟩ = some (.int .i64 a : Value) := fun w' hbw => (hbw.cell (p := ⟨W0.heap.size, 0, none⟩) (by rw [hW]; simp <;> omega)).trans (by rw [hW]; go_simp)
  have k1 : ∀ w', Below W.heap.size W w' → w'.cell? ⟨W0.heap.size, 1, none⟩ = some (.int .i64 b : Value) := fun w' hbw => (hbw.cell (p := ⟨W0.heap.size, 1, none⟩) (by rw [hW]; simp <;> omega)).trans (by rw [hW]; go_simp)
  have k2 : ∀ w', Below W.heap.size W w' → w'.cell? ⟨W0.heap.size, 2, none⟩ = some (.slice A0 n0 m0 : Value) := fun w' hbw => (hbw.cell (p := ⟨W0.heap.size, 2, none⟩) (by rw [hW]; simp <;> omega)).trans (by rw [hW]; go_simp)
  clear hW
  go_wp2_with fail
  (with_reducible refine (hunts_true _).mono ?_)
  rintro e w1 ⟨rfl, HB⟩
  by_cases hg1 : 30 < n1
  · have hd : decide ((30 : Int) < (n1 : Nat)) = true := by simp; omega
    have HB2 := bel_trans HW HB
    clear k0 k1 k2
    go_wp2
    go_ret
    exact ⟨rfl, by (repeat' (first | exact Below.refl _ _ | assumption | apply bel_drewN | apply bel_drew | apply bel_alloc | (refine bel_trans ?_ (by assumption))))⟩
  have hd1 : decide ((30 : Int) < (n1 : Nat)) = false := by simp; omega
  by_cases hg2 : 30 < n2
  · have hd : decide ((30 : Int) < (n2 : Nat)) = true := by simp; omega
    have HB2 := bel_trans HW HB
    clear k0 k1 k2
    go_wp2
    go_ret
    exact ⟨rfl, by (repeat' (first | exact Below.refl _ _ | assumption | apply bel_drewN | apply bel_drew | apply bel_alloc | (refine bel_trans ?_ (by assumption))))⟩
  have hd2 : decide ((30 : Int) < (n2 : Nat)) = false := by simp; omega
  have hl1 : n1 ≤ 30 := by omega
  have hl2 : n2 ≤ 30 := by omega
  have HB1 := bel_trans HW HB
  have Hk := Lib.hid (And.intro k0 (And.intro k1 k2))
  clear hg1 hg2 k0 k1 k2
  go_wp2_with fail
  clear hd1 hd2
  go_loopw [12] (fun kv wr => ∃ k : Nat, kv = .int .i64 k ∧ k ≤ n1 ∧ (∀ (j : Nat) (e : Ed), j < k → out[j]? = some e → 0 ≤ e.c.s ∧ e.c.s ≤ 1048576 ∧ 0 ≤ e.c.d ∧ e.c.d ≤ 1048576) ∧ Below w1.heap.size w1 wr) (fun kv _ => n1 - (intOf kv).toNat)
  case atStart => exact ⟨0, rfl, by omega, fun j e h => by omega, Below.refl _ _⟩
  case round =>
    obtain ⟨k, rfl, hk, hall, hB⟩ := hrel
    have Hall := Lib.hid hall
    clear hall
    by_cases hlt : k < n1
    · obtain ⟨e, he⟩ : ∃ e, out[k]? = some e := ⟨out[k]'(by rw [Hn.out.1]; exact hlt), List.getElem?_eq_getElem _⟩
      obtain ⟨gq, oq, hA, a1, a2, a3, a4⟩ := (HE1.out.below (bel_trans HB1 hB)).get he
      have hix := fun wx => idxO (m := m1) hA hlt wx
      have He := Lib.hid he
      obtain ⟨xt, ⟨xs, xd⟩, xm⟩ := e
      simp only at a1 a2 a3 a4
      obtain ⟨na, cF, hna1, hna2, hna⟩ := fault_of xs xd
      have cF := Lib.hid cF
      have Hna := Lib.hid hna
      clear hA he hna
      go_wp2_with fail
      (with_reducible refine (cF.out _).mono ?_)
      rintro e w2 ⟨rfl, hb2'⟩
      have hB2 := bel_trans hB hb2'
      clear cF hb2' hix a1 a2 a3 a4
      by_cases h0 : na = 0
      · have hok := costOk_of (Hna.out h0)
        subst h0
        have hF : ∀ (j : Nat) (e : Ed), j < k + 1 → out[j]? = some e → 0 ≤ e.c.s ∧ e.c.s ≤ 1048576 ∧ 0 ≤ e.c.d ∧ e.c.d ≤ 1048576 := fun j e hj hje => by
          by_cases e1 : j = k
          · subst e1
            rw [He.out] at hje; injection hje with hje; subst hje
            exact hok
          · exact Hall.out j e (by omega) hje
        have hF := Lib.hid hF
        have hB3 := Lib.hid hB2
        clear hok hB2
        go_wp2
        go_roundw
        case rel => first | exact ⟨k + 1, by go_num, by omega, hF.out, hB3.out⟩ | ((repeat apply Exists.intro); exact ⟨⟨k + 1, by go_num, by omega, hF.out, hB3.out⟩, rfl⟩)
        case measure => simp [intOf]; omega
      · have hpos : 0 < na := by omega
        have hB3 := Lib.hid (bel_trans HB1 hB2)
        clear hB2
        go_wp2
        go_ret
        exact ⟨rfl, hB3.out⟩
    · obtain rfl : n1 = k := by omega
      have ho : EdsOk out := fun e he => by
        obtain ⟨j, hj⟩ := List.getElem?_of_mem he
        exact Hall.out j e (by rw [← Hn.out.1]; exact (List.getElem?_eq_some_iff.1 hj).1) hj
      have Ho := Lib.hid ho
      have HB2 := bel_trans HB1 hB
      have HBW2 := bel_trans HB hB
      clear ho Hall hB
      obtain ⟨wz, rfl⟩ : ∃ wz : World, wz = wr := ⟨_, rfl⟩
      go_wp2_with fail
      go_loopw [13] (fun kv wx => ∃ k : Nat, kv = .int .i64 k ∧ k ≤ n2 ∧ (∀ (j : Nat) (e : Ed), j < k → inn[j]? = some e → 0 ≤ e.c.s ∧ e.c.s ≤ 1048576 ∧ 0 ≤ e.c.d ∧ e.c.d ≤ 1048576) ∧ Below wz.heap.size wz wx) (fun kv _ => n2 - (intOf kv).toNat)
      case atStart => exact ⟨0, rfl, by omega, fun j e h => by omega, Below.refl _ _⟩
      case round =>
        obtain ⟨k, rfl, hk, hall, hB⟩ := hrel
        have Hall := Lib.hid hall
        clear hall
        by_cases hlt : k < n2
        · obtain ⟨e, he⟩ : ∃ e, inn[k]? = some e := ⟨inn[k]'(by rw [Hn.out.2]; exact hlt), List.getElem?_eq_getElem _⟩
          obtain ⟨gq, oq, hA, a1, a2, a3, a4⟩ := (HE2.out.below (bel_trans HB2 hB)).get he
          have hix := fun wx => idxO (m := m2) hA hlt wx
          have He := Lib.hid he
          obtain ⟨xt, ⟨xs, xd⟩, xm⟩ := e
          simp only at a1 a2 a3 a4
          obtain ⟨na, cF, hna1, hna2, hna⟩ := fault_of xs xd
          have cF := Lib.hid cF
          have Hna := Lib.hid hna
          clear hA he hna
          go_wp2_with fail
          (with_reducible refine (cF.out _).mono ?_)
          rintro e w2 ⟨rfl, hb2'⟩
          have hB2 := bel_trans hB hb2'
          clear cF hb2' hix a1 a2 a3 a4
          by_cases h0 : na = 0
          · have hok := costOk_of (Hna.out h0)
            subst h0
            have hF : ∀ (j : Nat) (e : Ed), j < k + 1 → inn[j]? = some e → 0 ≤ e.c.s ∧ e.c.s ≤ 1048576 ∧ 0 ≤ e.c.d ∧ e.c.d ≤ 1048576 := fun j e hj hje => by
              by_cases e1 : j = k
              · subst e1
                rw [He.out] at hje; injection hje with hje; subst hje
                exact hok
              · exact Hall.out j e (by omega) hje
            have hF := Lib.hid hF
            have hB3 := Lib.hid hB2
            clear hok hB2
            go_wp2
            go_roundw
            case rel => first | exact ⟨k + 1, by go_num, by omega, hF.out, hB3.out⟩ | ((repeat apply Exists.intro); exact ⟨⟨k + 1, by go_num, by omega, hF.out, hB3.out⟩, rfl⟩)
            case measure => simp [intOf]; omega
          · have hpos : 0 < na := by omega
            have hB3 := Lib.hid (bel_trans HB2 hB2)
            clear hB2
            go_wp2
            go_ret
            exact ⟨rfl, hB3.out⟩
        · obtain rfl : n2 = k := by omega
          have hi : EdsOk inn := fun e he => by
            obtain ⟨j, hj⟩ := List.getElem?_of_mem he
            exact Hall.out j e (by rw [← Hn.out.2]; exact (List.getElem?_eq_some_iff.1 hj).1) hj
          have Hi := Lib.hid hi
          have HB3 := bel_trans HB2 hB
          have HBW3 := bel_trans HBW2 hB
          have kk0 := Hk.out.1 wr HBW3
          have kk1 := Hk.out.2.1 wr HBW3
          have kk2 := Hk.out.2.2 wr HBW3
          have hI3 := hI0.below HB3
          clear hi Hall hB HBW2 HBW3 Hk HB HW HB1 HB2
          go_wp2_with fail
          (with_reducible refine (laid_any a b A0 n0 m0 f0 _ hI3 hl0.out).mono ?_)
          rintro e w5 (⟨rfl, hb5⟩ | ⟨p, q, g, v, rfl, hp1, hpq, hG, hR, hv0, hv1, hb5⟩)
          · have HB5 := bel_trans HB3 hb5
            clear hb5 HB3 kk0 kk1 kk2
            go_upto_region 15 with (fail)
            go_quiet (fail)
            go_wp2
            go_ret
            exact ⟨rfl, by (repeat' (first | exact Below.refl _ _ | assumption | apply bel_drewN | apply bel_drew | apply bel_alloc | (refine bel_trans ?_ (by assumption))))⟩
          have HB5 := bel_trans HB3 hb5
          have hwq : W0.heap.size ≤ q := by have := HB3.size; omega
          have hgn := G.n_le hG.1
          have en : ((g.n : Nat) : Int) = (g.w : Int) * g.h := by unfold G.n; simp
          have e1 : (g.w : Int) * g.h ≤ (g.n : Nat) := by omega
          have m1' : 0 ≤ (g.w : Int) * g.h := by omega
          have hql := hR.lt
          go_upto_region 15 with (fail)
          refine wp_name ?_
          intro W5 hW5
          have HW5 : Below w5.heap.size w5 W5 := by rw [hW5]; (repeat' (first | exact Below.refl _ _ | assumption | apply bel_drewN | apply bel_drew | apply bel_alloc | (refine bel_trans ?_ (by assumption))))
          have kq : W5.cell? ⟨w5.heap.size, 0, none⟩ = some (.pointer (some ⟨q, 0, none⟩)) := by rw [hW5]; go_simp
          obtain ⟨b15, hb15⟩ : ∃ z, w5.heap.size = z := ⟨_, rfl⟩
          rw [hb15] at kq ⊢
          have HB5 := bel_trans HB5 HW5
          obtain ⟨s1, s2⟩ := (hR.below HW5 hql).size
          have hw : IntKind.i64.wrap ((g.w : Int) * g.h) = (g.w : Int) * g.h := IntWalk.i64_in _ (by omega)
          have HG := Lib.hid (hG.below HW5 hG.lt)
          have HR := Lib.hid (hR.below HW5 hql)
          have Hok := Lib.hid hG.1
          have En := Lib.hid en
          clear en kk0 kk1 kk2 hb5 hG hR hW5 hb15 hI3 HB3 hI0
          by_cases hbig : 100 < (g.w : Int) * g.h
          · have hd : decide (100 < (g.w : Int) * g.h) = true := by simp; omega
            clear hbig e1 m1'
            go_quiet (fail)
            go_wp2
            go_ret
            exact ⟨rfl, by (repeat' (first | exact Below.refl _ _ | assumption | apply bel_drewN | apply bel_drew | apply bel_alloc | (refine bel_trans ?_ (by assumption))))⟩
          have hd : decide (100 < (g.w : Int) * g.h) = false := by simp; omega
          clear hbig e1 m1'
          by_cases hx1 : x < 1
          · have hdx : decide (x < 1) = true := by simp; omega
            go_quiet (fail)
            go_wp2
            go_ret
            exact ⟨rfl, by (repeat' (first | exact Below.refl _ _ | assumption | apply bel_drewN | apply bel_drew | apply bel_alloc | (refine bel_trans ?_ (by assumption))))⟩
          have hdx : decide (x < 1) = false := by simp; omega
          by_cases hx6 : 6 < x
          · have hdy : decide (6 < x) = true := by simp; omega
            go_quiet (fail)
            go_wp2
            go_ret
            exact ⟨rfl, by (repeat' (first | exact Below.refl _ _ | assumption | apply bel_drewN | apply bel_drew | apply bel_alloc | (refine bel_trans ?_ (by assumption))))⟩
          have hdy : decide (6 < x) = false := by simp; omega
          go_quiet (fail)
          have hd5 := bel_drewN (n := nq) (Below.refl W5.heap.size W5)
          have HG1 := Lib.hid (HG.out.below hd5 HG.out.lt)
          have HR1 := Lib.hid (HR.out.below hd5 HR.out.lt)
          have kq := bel_cell hd5 kq
          have HB6 := bel_trans HB5 hd5
          obtain ⟨most, rfl⟩ := Int.eq_ofNat_of_zero_le (show 0 ≤ x by omega)
          have hm1 : 1 ≤ most := by omega
          have hm6 : most ≤ 6 := by omega
          clear s1 s2 hw hd hdx hdy HG HR HB5 hd5 hx1 hx6 HW5
          generalize W5.drewN nq = w6 at HG1 HR1 kq HB6 ⊢
          have cN := Lib.hid (graphNew w6 p g v HG1.out)
          have hq6 := HR1.out.lt
          clear HG1
          go_wp2_with fail
          (with_reducible refine cN.out.mono ?_)
          rintro e w7 ⟨b7, p7, mb7, S7, E7, rfl, hGr, hGs, hS7, hb7⟩
          have HB7 := bel_trans HB6 hb7
          have HR7 := Lib.hid (HR1.out.below hb7 hq6)
          have kq := bel_cell hb7 kq
          obtain ⟨HF, htp1, htp2⟩ := LS.all_fin Hok.out (cornersN g) (fun n => mem_cornersN) hm1 hm6
          have cL := Lib.hid (lvNew_ok w7 b7 p7 mb7 S7 g v E7 most hGr hGs hm1 hm6)
          obtain ⟨S, hS⟩ : ∃ S, (LS.all g (cornersN g) most).1 = S := ⟨_, rfl⟩
          obtain ⟨tp, htp⟩ : ∃ tp, (LS.all g (cornersN g) most).2 = tp := ⟨_, rfl⟩
          rw [hS, htp] at HF
          rw [htp] at htp1 htp2
          have htp2' : tp ≤ 6 := by omega
          have HF := Lib.hid HF
          have Hsl := Lib.hid (And.intro hS htp)
          clear hGr hGs hS7 cN HR1 hb7 HB6 hS htp hq6
          go_wp2_with fail
          (with_reducible refine cL.out.mono ?_)
          rintro e w8 ⟨b8, ml8, me8, Sb8, nl8, rfl, hLv, _, hb8⟩
          rw [Hsl.out.1, Hsl.out.2] at hLv
          have HB8 := bel_trans HB7 hb8
          have HLv := Lib.hid hLv
          have hq7 := HR7.out.lt
          have HR8 := Lib.hid (HR7.out.below hb8 hq7)
          have cG := Lib.hid (rGraph w8 q g v HR8.out)
          have kq := bel_cell hb8 kq
          have hq8 : q < w8.heap.size := HR8.out.lt
          clear hLv cL HB7 hb8 HR7 hq7
          go_wp2_with fail
          (with_reducible refine cG.out.mono ?_)
          rintro e w9 ⟨b9, mb9, S9, A9, n9, m9, rfl, hGR, _, hne9, hb9⟩
          have HB9 := bel_trans HB8 hb9
          have kq := bel_cell hb9 kq
          have HR9 := Lib.hid (HR8.out.below hb9 hq8)
          have HLv9 := Lib.hid (HLv.out.below hb9)
          have hE19 := HE1.out.below HB9
          have hE29 := HE2.out.below HB9
          have cB := Lib.hid (rBest w9 b9 mb9 S9 A9 n9 m9 g Hok.out hGR hne9 A1 n1 m1 out hE19 Hn.out.1 (by omega) Ho.out A2 n2 m2 inn hE29 Hn.out.2 (by omega) Hi.out)
          have HGR := Lib.hid hGR
          clear cG HB8 hb9 HR8 hq8 HLv hGR hE19 hE29
          go_wp2_with fail
          (with_reducible refine cB.out.mono ?_)
          rintro e wA ⟨bb, fd, rfl, hbest, hbA⟩
          obtain ⟨bs, bd⟩ := bb
          rw [show costV ⟨bs, bd⟩ = .agg #[.int .i64 bs, .int .i64 bd] from rfl]
          have HBA := bel_trans HB9 hbA
          have kq := bel_cell hbA kq
          have hqA : q < w9.heap.size := HR9.out.lt
          have HRA := Lib.hid (HR9.out.below hbA hqA)
          have HbA := Lib.hid hbA
          have Hbest := Lib.hid hbest
          clear cB hbest HB9 HR9 hqA hbA
          go_upto_region 23 with (fail)
          refine wp_name ?_
          intro WB hWB
          have hbB : Below wA.heap.size wA WB := by rw [hWB]; (repeat' (first | exact Below.refl _ _ | assumption | apply bel_drewN | apply bel_drew | apply bel_alloc | (refine bel_trans ?_ (by assumption))))
          have d0 : WB.cell? ⟨wA.heap.size, 0, none⟩ = some (.int .i64 bs) := by rw [hWB]; go_simp
          have d1 : WB.cell? ⟨wA.heap.size, 1, none⟩ = some (.int .i64 bd) := by rw [hWB]; go_simp
          obtain ⟨b21, hb21⟩ : ∃ z, wA.heap.size = z := ⟨_, rfl⟩
          have HBB := bel_trans HBA hbB
          have kq := bel_cell hbB kq
          have HRB := Lib.hid (HRA.out.below hbB HRA.out.lt)
          have HbB := Lib.hid (bel_trans HbA.out hbB)
          have cS := Lib.hid (srBest WB b8 ml8 me8 nl8 Sb8 tp g S Hok.out HF.out htp2' (HLv9.out.below HbB.out) A1 n1 m1 out (HE1.out.below HBB) Hn.out.1 (by omega) Ho.out A2 n2 m2 inn (HE2.out.below HBB) Hn.out.2 (by omega) Hi.out
            29 #[] (fun _ => C.zero) (guessZ_says WB g) (fun _ _ => by decide) rfl (fun mkB f hf => hh_zero HF.out Hi.out mkB f hf))
          rw [hb21] at d0 d1 ⊢
          clear hWB hbB hb21 HBA HRA HbA
          go_wp2_with fail
          (with_reducible refine cS.out.mono ?_)
          rintro e wC ⟨vv, cc, fd2, rfl, hbest2, hv0, hbC, hway⟩
          obtain ⟨rfl, rfl⟩ := bestIs_one hbest2 Hbest.out
          rw [show costV ⟨bs, bd⟩ = .agg #[.int .i64 bs, .int .i64 bd] from rfl]
          have d0 := bel_cell hbC d0
          have d1 := bel_cell hbC d1
          have kq := bel_cell hbC kq
          have HBC := bel_trans HBB hbC
          have HRC := Lib.hid (HRB.out.below hbC HRB.out.lt)
          have HbC := Lib.hid (bel_trans HbB.out hbC)
          have Hway := Lib.hid (And.intro hv0 hway)
          clear hbest2 cS hv0 hway HBB HRB HbB hbC
          go_upto_region 24 with (fail)
          refine wp_name ?_
          intro WD hWD
          have hbD : Below wC.heap.size wC WD := by rw [hWD]; (repeat' (first | exact Below.refl _ _ | assumption | apply bel_drewN | apply bel_drew | apply bel_alloc | (refine bel_trans ?_ (by assumption))))
          have e0 : WD.cell? ⟨wC.heap.size, 0, none⟩ = some (.int .i64 bs) := by rw [hWD]; go_simp
          have e1 : WD.cell? ⟨wC.heap.size, 1, none⟩ = some (.int .i64 bd) := by rw [hWD]; go_simp
          obtain ⟨b24, hb24⟩ : ∃ z, wC.heap.size = z := ⟨_, rfl⟩
          rw [hb24] at e0 e1 ⊢
          have d0 := bel_cell hbD d0
          have d1 := bel_cell hbD d1
          have kq := bel_cell hbD kq
          have HBD := bel_trans HBC hbD
          have HRD := Lib.hid (HRC.out.below hbD HRC.out.lt)
          have HbD := Lib.hid (And.intro (bel_trans HbC.out hbD) hbD)
          clear hWD hb24 HBC HRC HbC hbD
          go_upto_region 26 with (fail)
          obtain ⟨ni, cI, hni, hni01⟩ := rIs_any WD q g v go HRD.out
          have HR0 := Below.refl WD.heap.size WD
          have kqq := cell_regrown kq
          have cIq := Lib.hid (fun d os => cI (grow (redrawn WD d) os) (below_regrown WD d os))
          clear cI
          go_cut [166] (fun sv wx => ∃ tt : Bool, sv = .bool tt ∧ (tt = true → ∃ (y : Nat) (ym : Int), inn = [⟨(y : Nat), ⟨0, 0⟩, ym⟩] ∧ y < g.n) ∧ Below WD.heap.size WD wx)
          case first =>
            rcases hni01 with rfl | rfl
            · by_cases hn21 : n2 = 1
              · subst hn21
                obtain ⟨e0', he0⟩ : ∃ e, inn = [e] := List.length_eq_one_iff.1 Hn.out.2
                obtain ⟨gq, oq, hA, b1, b2, b3, b4⟩ := (HE2.out.below HBD).get (j := 0) (by rw [he0]; rfl)
                have hix : ∀ wx, (Instr.indexAt 59 (.slice A2 1 m2) (.int .i64 0)).run Tryz.prog wx = .ok (.pointer (some ⟨gq, oq + 0 * 4, none⟩)) wx := fun wx => idxO (m := m2) hA (show 0 < 1 by decide) wx
                obtain ⟨yt, ⟨ys, yd⟩, ym⟩ := e0'
                simp only [Nat.zero_mul, Nat.add_zero] at b1 b2 b3 b4 hix
                obtain ⟨nj, cJ, hnj, hnj01⟩ := rIs_any WD q g v yt HRD.out
                have cJq := Lib.hid (fun d os => cJ (grow (redrawn WD d) os) (below_regrown WD d os))
                have b1q := cell_regrown b1
                have b2q := cell_regrown b2
                have b3q := cell_regrown b3
                have He0 := Lib.hid he0
                have Hnj := Lib.hid hnj
                clear hA cJ he0 hnj
                by_cases hys : ys = 0
                · subst hys
                  by_cases hyd : yd = 0
                  · subst hyd
                    rcases hnj01 with rfl | rfl
                    · refine wp_region_quiet_below (by kernel_rfl) (by kernel_rfl) ?_
                      repeat (first | go_big_quiet_step ((first | with_reducible exact Calls.regrown_of (cIq.out _ _) | with_reducible exact Calls.regrown_of (cJq.out _ _))) | quiet_step ((first | with_reducible exact Calls.regrown_of (cIq.out _ _) | with_reducible exact Calls.regrown_of (cJq.out _ _))))
                      refine wpQuiet_nil ?_
                      intro _ hw'
                      obtain ⟨⟨dq, osq⟩, hw''⟩ := hw'
                      have HR9 := bel_trans HR0 (below_regrown WD dq osq)
                      have hb2 := below_regrown WD dq osq
                      subst hw''
                      generalize grow (redrawn WD dq) osq = W9 at HR9 hb2 ⊢
                      go_wp2
                      go_meet
                      case rel =>
                        obtain ⟨r1, r2⟩ := Hnj.out (by first | exact rfl | exact trivial)
                        obtain ⟨y, rfl⟩ := Int.eq_ofNat_of_zero_le r1
                        exact ⟨true, rfl, fun _ => ⟨y, ym, He0.out, by omega⟩, HR9⟩
                    · refine wp_region_quiet_below (by kernel_rfl) (by kernel_rfl) ?_
                      repeat (first | go_big_quiet_step ((first | with_reducible exact Calls.regrown_of (cIq.out _ _) | with_reducible exact Calls.regrown_of (cJq.out _ _))) | quiet_step ((first | with_reducible exact Calls.regrown_of (cIq.out _ _) | with_reducible exact Calls.regrown_of (cJq.out _ _))))
                      refine wpQuiet_nil ?_
                      intro _ hw'
                      obtain ⟨⟨dq, osq⟩, hw''⟩ := hw'
                      have HR9 := bel_trans HR0 (below_regrown WD dq osq)
                      have hb2 := below_regrown WD dq osq
                      subst hw''
                      generalize grow (redrawn WD dq) osq = W9 at HR9 hb2 ⊢
                      go_wp2
                      go_meet
                      case rel => exact ⟨false, rfl, (fun h => nomatch h), HR9⟩
                  · have hyb : (yd == 0) = false := by simp; exact hyd
                    refine wp_region_quiet_below (by kernel_rfl) (by kernel_rfl) ?_
                    repeat (first | go_big_quiet_step (with_reducible exact Calls.regrown_of (cIq.out _ _)) | quiet_step (with_reducible exact Calls.regrown_of (cIq.out _ _)))
                    refine wpQuiet_nil ?_
                    intro _ hw'
                    obtain ⟨⟨dq, osq⟩, hw''⟩ := hw'
                    have HR9 := bel_trans HR0 (below_regrown WD dq osq)
                    have hb2 := below_regrown WD dq osq
                    subst hw''
                    generalize grow (redrawn WD dq) osq = W9 at HR9 hb2 ⊢
                    go_wp2
                    go_meet
                    case rel => exact ⟨false, rfl, (fun h => nomatch h), HR9⟩
                · have hyb : (ys == 0) = false := by simp; exact hys
                  refine wp_region_quiet_below (by kernel_rfl) (by kernel_rfl) ?_
                  repeat (first | go_big_quiet_step (with_reducible exact Calls.regrown_of (cIq.out _ _)) | quiet_step (with_reducible exact Calls.regrown_of (cIq.out _ _)))
                  refine wpQuiet_nil ?_
                  intro _ hw'
                  obtain ⟨⟨dq, osq⟩, hw''⟩ := hw'
                  have HR9 := bel_trans HR0 (below_regrown WD dq osq)
                  have hb2 := below_regrown WD dq osq
                  subst hw''
                  generalize grow (redrawn WD dq) osq = W9 at HR9 hb2 ⊢
                  go_wp2
                  go_meet
                  case rel => exact ⟨false, rfl, (fun h => nomatch h), HR9⟩
              · have hbq : (((n2 : Nat) : Int) == 1) = false := by simp; omega
                refine wp_region_quiet_below (by kernel_rfl) (by kernel_rfl) ?_
                repeat (first | go_big_quiet_step (with_reducible exact Calls.regrown_of (cIq.out _ _)) | quiet_step (with_reducible exact Calls.regrown_of (cIq.out _ _)))
                refine wpQuiet_nil ?_
                intro _ hw'
                obtain ⟨⟨dq, osq⟩, hw''⟩ := hw'
                have HR9 := bel_trans HR0 (below_regrown WD dq osq)
                have hb2 := below_regrown WD dq osq
                subst hw''
                generalize grow (redrawn WD dq) osq = W9 at HR9 hb2 ⊢
                go_wp2
                go_meet
                case rel => exact ⟨false, rfl, (fun h => nomatch h), HR9⟩
            · refine wp_region_quiet_below (by kernel_rfl) (by kernel_rfl) ?_
              repeat (first | go_big_quiet_step (with_reducible exact Calls.regrown_of (cIq.out _ _)) | quiet_step (with_reducible exact Calls.regrown_of (cIq.out _ _)))
              refine wpQuiet_nil ?_
              intro _ hw'
              obtain ⟨⟨dq, osq⟩, hw''⟩ := hw'
              have HR9 := bel_trans HR0 (below_regrown WD dq osq)
              have hb2 := below_regrown WD dq osq
              subst hw''
              generalize grow (redrawn WD dq) osq = W9 at HR9 hb2 ⊢
              go_wp2
              go_meet
              case rel => exact ⟨false, rfl, (fun h => nomatch h), HR9⟩
          case rest =>
            obtain ⟨tt, rfl, htt, hbE⟩ := hcut
            have Htt := Lib.hid htt
            have HBE := bel_trans HBD hbE
            have e0 := bel_cell hbE e0
            have e1 := bel_cell hbE e1
            have d0 := bel_cell hbE d0
            have d1 := bel_cell hbE d1
            have kq := bel_cell hbE kq
            have HRE := Lib.hid (HRD.out.below hbE HRD.out.lt)
            have HbE := Lib.hid (And.intro (bel_trans HbD.out.1 hbE) (bel_trans HbD.out.2 hbE))
            clear htt kqq cIq HR0 hni hni01 HBD HRD HbD hbE
            go_upto_if 166 with (fail)
            go_cut [] (fun wx => Below wc.heap.size wc wx)
            case first =>
              cases tt with
              | false =>
                go_wp2
                go_meet
                case rel => exact Below.refl _ _
              | true =>
                obtain ⟨y, ym, hinn, hyn⟩ := Htt.out (by first | exact rfl | exact trivial)
                have hn2' := Hn.out.2
                rw [hinn] at hn2'
                have hn2' : 1 = n2 := hn2'
                subst hn2'
                obtain ⟨gq, oq, hA, b1, b2, b3, b4⟩ := (HE2.out.below HBE).get (j := 0) (by rw [hinn]; rfl)
                have hix : ∀ wx, (Instr.indexAt 59 (.slice A2 1 m2) (.int .i64 0)).run Tryz.prog wx = .ok (.pointer (some ⟨gq, oq + 0 * 4, none⟩)) wx := fun wx => idxO (m := m2) hA (show 0 < 1 by decide) wx
                simp only [Nat.zero_mul, Nat.add_zero] at b1 b2 b3 b4 hix
                have Hinn := Lib.hid hinn
                clear hA hinn b2 b3 b4
                go_upto_region 28 with (fail)
                refine wp_name ?_
                intro WF hWF
                have hbF : Below wc.heap.size wc WF := by rw [hWF]; (repeat' (first | exact Below.refl _ _ | assumption | apply bel_drewN | apply bel_drew | apply bel_alloc | (refine bel_trans ?_ (by assumption))))
                have kx : WF.cell? ⟨wc.heap.size, 0, none⟩ = some (.int .i64 (y : Nat)) := by rw [hWF]; go_simp
                obtain ⟨b26, hb26⟩ : ∃ z, wc.heap.size = z := ⟨_, rfl⟩
                rw [hb26] at kx ⊢
                have HBF := bel_trans HBE hbF
                have HRF := HRE.out.below hbF HRE.out.lt
                have kqF := bel_cell hbF kq
                have hi2 : ∀ e ∈ inn, ∀ t : Nat, e.to_ = t → C.le (g.oct t y) e.c := fun e he t ht => by
                  rw [Hinn.out] at he
                  simp at he
                  subst he
                  obtain rfl : y = t := Int.ofNat_inj.1 ht
                  rw [G.oct_self]
                  exact C.le_refl _
                have cS := Lib.hid (srBest WF b8 ml8 me8 nl8 Sb8 tp g S Hok.out HF.out htp2' (HLv9.out.below (bel_trans HbE.out.1 hbF)) A1 n1 m1 out (HE1.out.below HBF) Hn.out.1 (by omega) Ho.out A2 1 m2 inn (HE2.out.below HBF) Hn.out.2 (by omega) Hi.out
                  31 #[.pointer (some ⟨b15, 0, none⟩), .pointer (some ⟨b26, 0, none⟩)] (octH g y) (guessSays WF b15 b26 q g v y ⟨hyn, kqF, kx, HRF.lt, HRF⟩) (octH_small Hok.out hyn) (octH_256 g y) (fun mkB f hf => hh_oct Hok.out HF.out hi2 mkB f hf))
                have d0 := bel_cell hbF d0
                have d1 := bel_cell hbF d1
                have HbF := Lib.hid hbF
                clear hWF hb26 HRF kqF kx hi2 b1 hix HBF hbF
                go_wp2_with fail
                (with_reducible refine cS.out.mono ?_)
                rintro e wG ⟨v3, c3, fd3, rfl, hbest3, _, hbG, _⟩
                obtain ⟨rfl, rfl⟩ := bestIs_one hbest3 Hbest.out
                rw [show costV ⟨bs, bd⟩ = .agg #[.int .i64 bs, .int .i64 bd] from rfl]
                have d0 := bel_cell hbG d0
                have d1 := bel_cell hbG d1
                have HbG := Lib.hid (bel_trans HbF.out hbG)
                clear hbest3 hbG cS
                go_upto_region 29 with (fail)
                refine wp_name ?_
                intro WH hWH
                have hbH : Below wG.heap.size wG WH := by rw [hWH]; (repeat' (first | exact Below.refl _ _ | assumption | apply bel_drewN | apply bel_drew | apply bel_alloc | (refine bel_trans ?_ (by assumption))))
                have g0 : WH.cell? ⟨wG.heap.size, 0, none⟩ = some (.int .i64 bs) := by rw [hWH]; go_simp
                have g1 : WH.cell? ⟨wG.heap.size, 1, none⟩ = some (.int .i64 bd) := by rw [hWH]; go_simp
                have d0 := bel_cell hbH d0
                have d1 := bel_cell hbH d1
                have hbG2 := bel_trans HbG.out hbH
                clear hWH hbH
                go_wp2
                go_meet
                case rel => exact hbG2
            case rest =>
              have hbK := hcut
              have HBK := bel_trans HBE hbK
              have e0 := bel_cell hbK e0
              have e1 := bel_cell hbK e1
              have hbCK := bel_trans HbE.out.2 hbK
              have HGK := Lib.hid (bel_trans HbE.out.1 hbK)
              clear hcut d0 d1 kq HRE HbE HBE
              cases fd2 with
              | false =>
                have hv := Hway.out.1 rfl
                subst hv
                have hf := Lib.hid HBK
                clear HBK Hway HGK hbCK hbK
                go_wp2
                go_ret
                exact ⟨rfl, hf.out⟩
              | true =>
                obtain ⟨AW, mW, Wy, f, rfl, _, hIW, _, hWl, hFK, hWI⟩ := Hway.out.2 rfl
                obtain ⟨s, t, d, cw, e, hsrc, hhd, hls, hlw, hin, htot⟩ := way_total Hbest.out hFK hWI
                obtain ⟨nw, hnw⟩ : ∃ z, Wy.length = z := ⟨_, rfl⟩
                have hIW2 := hIW.below hbCK
                rw [hnw] at hIW2 hWl ⊢
                have cT := Lib.hid (trackedTrue wc b9 mb9 S9 A9 n9 m9 g Hok.out (rGraphOf_below HGR.out HGK.out) AW nw mW Wy hIW2 hnw hWl A1 n1 m1 out (HE1.out.below HBK) Hn.out.1 (by omega) Ho.out A2 n2 m2 inn (HE2.out.below HBK) Hn.out.2 (by omega) Hi.out s t d cw e hsrc hhd hls hlw hin bs bd htot)
                have hf := Lib.hid HBK
                clear HBK Hway HGK hbCK hbK hIW hIW2 hFK hWI hsrc hhd hls hlw hin htot hWl hnw
                go_wp2_with fail
                (with_reducible refine cT.out.mono ?_)
                rintro e w' ⟨rfl, hb'⟩
                have hf2 := Lib.hid (bel_trans hf.out hb')
                clear hb' e0 e1 cT
                go_wp2
                go_ret
                exact ⟨rfl, hf2.out⟩
end Go.Proofs.YtjejkadaafmdcaaGreat
