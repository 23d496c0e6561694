/- Lemmas of this claim: RLv10, LvU, LvA2, RLvA, RLv8. -/
import Derived.Test.YtjejkadaafmdcaaGreatKLevelsSays29
import Derived.Test.YtjejkadaafmdcaaGreatKLevelsSays28
import Derived.Test.YtjejkadaafmdcaaGreatKLevelsSays23
set_option linter.unusedVariables false
set_option linter.unusedSimpArgs false
/- The document's levels: an edge taken apart. -/
namespace Go.Proofs.YtjejkadaafmdcaaGreat
open Go.RowKit Go.Sort FR Go.Lib
/-- what the document's Unpack hands back -/
def RUnpD (w : World) (L : List Nat) (e : Ending) (w' : World) : Prop := ∃ v, e = .returned v ∧ OwnI w' w.heap.size v (L.map fun n : Nat => (n : Int)) ∧ Below w.heap.size w w'
theorem rHas {g : G} {S : LS} {a t : Nat} {c : C} {m : Int} (ht : t < g.n) (h : S.eg a t = some (c, m)) {k : Nat} {e : Ed} (he : (EgL S g.n a)[k]? = some e) (hto : e.to_ = ((t : Nat) : Int)) : e = ⟨((t : Nat) : Int), c, m⟩ := by
  obtain ⟨t', q1, q2, q3⟩ := mem_EgL.1 (List.mem_of_getElem? he)
  obtain rfl : t = t' := by omega
  rw [h] at q3
  injection q3 with q3
  injection q3 with q4 q5
  cases e
  simp at hto q4 q5 ⊢
  exact ⟨hto, q4.symm, q5.symm⟩
set_option maxRecDepth 100000 in
set_option maxHeartbeats 3200000 in
theorem rUnpack (b ml me nl : Nat) (Sb : List Nat) (g : G) (S : LS) (tp : Nat) (top : Int) (V : Int → Option Value) (hok : g.ok) (H : LS.Fin g tp S) : ∀ (n : Nat) (a c : Nat) (cst : C) (m : Int), n ≤ 20 → S.lev a + S.lev c ≤ n → S.eg a c = some (cst, m) →
    ∃ L, LS.Unp S a c L ∧ LS.LW g.GE L cst ∧ L.length ≤ 2 ^ n + 1 ∧ ∀ w, LvR w b ml me Sb top V nl (egE g S) → Calls Tryz.prog 66 #[.pointer (some ⟨b, 0, none⟩), .int .i64 (a : Nat), .int .i64 (c : Nat)] w (RUnpD w L) := by
  intro n
  induction n using Nat.strongRecOn with
  | _ n ih =>
    intro a c cst m hn20 hn heg
    have hn256 := G.n_le hok
    obtain ⟨hac, hcc, hne⟩ := H.corner a c (by rw [heg]; simp)
    obtain ⟨L, u1, w1, l1⟩ := H.unp n hn heg
    refine ⟨L, u1, w1, l1, fun w h => ?_⟩
    have kb1 : w.cell? ⟨b, 1, none⟩ = some (.map (some me)) := by simp [World.cell?, h.1]
    obtain ⟨A, cap, hEd, hlk⟩ := h.look (egE_at hac)
    obtain ⟨nE, hnE⟩ : ∃ n, (EgL S g.n a).length = n := ⟨_, rfl⟩
    have cF := Lib.hid (rEdgeTo w A nE cap (EgL S g.n a) ((c : Nat) : Int) hEd hnE (by have := len_EgL S g.n a; omega) ⟨⟨((c : Nat) : Int), cst, m⟩, mem_EgL.2 ⟨c, hcc.1, rfl, heg⟩, rfl⟩)
    rw [hnE] at hlk
    have hlk0 := hlk w (Below.refl _ _)
    have Hlk := Lib.hid hlk
    have HEd := Lib.hid (And.intro hEd hnE)
    have H0 := Lib.hid (And.intro h (And.intro heg (And.intro hac hcc)))
    have Hih := Lib.hid ih
    have HH := Lib.hid (And.intro H (And.intro u1 (And.intro hn hn20)))
    clear h hEd hlk hnE ih heg hac hcc u1 w1 l1 hn H hne hn20
    go_enter Tryz.func66, Tryz.ntmps66
    go_wp2_with fail
    (with_reducible refine cF.out.mono ?_)
    rintro e w1 ⟨⟨i, e1, rfl, hat, hto⟩, hb1⟩
    have he1 := rHas H0.out.2.2.2.1 H0.out.2.1 hat hto
    subst he1
    have hil : i < nE := by rw [← HEd.out.2]; exact (List.getElem?_eq_some_iff.1 hat).1
    obtain ⟨gb, hA, a1, a2, a3, a4⟩ := (HEd.out.1.below hb1).get hat
    have hix := fun wx => idxE (m := cap) hA hil wx
    have hlk1 := Hlk.out w1 hb1
    have kb1 := bel_cell hb1 kb1
    simp only at a1 a2 a3 a4
    clear hlk0 hA cF hat hto
    by_cases hm : m < 0
    · have hL : L = [a, c] := HH.out.2.1.det (.edge H0.out.2.1 hm)
      subst hL
      go_wp2
      have hF : RUnpD w [a, c] (.returned (.slice (some ⟨w1.heap.size, 0, none⟩) 2 2)) (w1.alloc (.cells #[.int .i64 (a : Nat), .int .i64 (c : Nat)] 3)) := ⟨_, rfl, OwnI.two w1 w.heap.size _ _ hb1.size, bel_alloc hb1⟩
      go_ret
      exact hF
    · obtain ⟨k, rfl, e2, e3, c1, m1, c2, m2, e4, e5, e6⟩ := HH.out.1.sum a c cst m H0.out.2.1 (by omega)
      have hnn := HH.out.2.2.1
      have hn20 := HH.out.2.2.2
      obtain ⟨L1, v1, _, l1, cU1⟩ := Hih.out (n - 1) (by omega) a k c1 m1 (by omega) (by omega) e4
      obtain ⟨L2, v2, _, l2, cU2⟩ := Hih.out (n - 1) (by omega) k c c2 m2 (by omega) (by omega) e5
      have hL : L = L1 ++ L2.tail := HH.out.2.1.det (.two H0.out.2.1 rfl v1 v2)
      have hp : 2 ^ (n - 1) ≤ 2 ^ 20 := Nat.pow_le_pow_right (by omega) (by omega)
      have hlen2 : 2 ≤ L2.length := by obtain ⟨M, rfl⟩ := v2.ends; simp
      have HL := Lib.hid (And.intro hL (And.intro l1 (And.intro l2 hp)))
      have cU1 := Lib.hid cU1
      have cU2 := Lib.hid cU2
      clear e2 e3 e4 e5 e6 v1 v2 hL l1 l2 hp hnn hn20
      go_wp2_with fail
      (with_reducible refine (cU1.out _ (H0.out.1.below hb1)).mono ?_)
      rintro e w2 ⟨va, rfl, hOa, hb2⟩
      have hb12 := bel_trans hb1 hb2
      clear a1 a2 a3 a4 hix hlk1
      go_wp2_with fail
      (with_reducible refine (cU2.out _ (H0.out.1.below hb12)).mono ?_)
      rintro e w3 ⟨vb, rfl, hOb, hb3⟩
      obtain ⟨g2, mb, rfl, hmb⟩ := hOb.addr (by rw [List.length_map]; omega)
      have hlm : (L2.map fun n : Nat => (n : Int)).length = L2.length := List.length_map _
      have hOa3 := hOa.below (B' := w1.heap.size) hb3
      have hca : ∀ (k : Nat) (z : Int), (L2.tail.map fun n : Nat => (n : Int))[k]? = some z → w3.cell? ((⟨g2, 1, none⟩ : Addr).add k) = some (.int .i64 z) := fun k z hz => by
        rw [Addr.add_lit]
        refine hOb.cell (k := 1 + k) ?_
        rw [List.getElem?_map, List.getElem?_tail] at hz
        rw [List.getElem?_map, Nat.add_comm]
        exact hz
      have Hca := Lib.hid hca
      have hB13 := bel_trans hb12 hb3
      have HO := Lib.hid (And.intro hOa3 hOb)
      obtain ⟨n2, hn2⟩ : ∃ z, (L2.map fun n : Nat => (n : Int)).length = z := ⟨_, rfl⟩
      rw [hn2] at hlm hmb ⊢
      have hl1 : (L1.map fun n : Nat => (n : Int)).length + (n2 - 1) < 1099511627776 := by rw [List.length_map]; have := HL.out.2.1; have := HL.out.2.2.1; have := HL.out.2.2.2; omega
      have ht1 : (L2.tail.map fun n : Nat => (n : Int)).length = n2 - 1 := by rw [List.length_map, List.length_tail]; omega
      have h1n : 1 < n2 := by omega
      have Hlm := Lib.hid hlm
      clear hca hOa hOb hOa3 cU1 cU2 hn2 hlm
      go_wp2_with (first
        | (refine wpList_sliceI rfl (.tmp 52) (.const (.int .i64 1)) rfl g2 n2 mb 1 rfl rfl h1n hmb ?_; intro m2)
        | (at_builtin; (refine wpList_append_ints w3 rfl _ _ rfl w1.heap.size va (L1.map fun n : Nat => (n : Int)) (L2.tail.map fun n : Nat => (n : Int)) rfl HO.out.1 ⟨g2, 1, none⟩ (n2 - 1) _ rfl ht1 Hca.out hl1 (by have := hb2.size; have := hb3.size; omega) ?_); intro v' w9 hown9 hgrow))
      have hF : RUnpD w L (.returned v') w9 := by
        refine ⟨v', rfl, ?_, below_grown hB13 hB13.size (OwnI.mono HO.out.1 hb1.size) hgrow⟩
        rw [HL.out.1, List.map_append]
        exact OwnI.mono hown9 hb1.size
      have hF := Lib.hid hF
      clear hown9 hgrow
      go_wp2
      go_ret
      exact hF.out
end Go.Proofs.YtjejkadaafmdcaaGreat
/- unpacked: every edge taken apart, by both. -/
namespace Go.Proofs.YtjejkadaafmdcaaGreat
open Go.RowKit Go.Sort FR Go.Lib
theorem low_next {L : List Ed} (hs : Srt L) (t : Int) : lowN L (t + 1) = lowN L t + (if hasE L t = true then 1 else 0) := by
  obtain ⟨h1, h2⟩ := low_spec hs t
  symm
  by_cases hh : hasE L t = true
  · rw [if_pos hh]
    obtain ⟨e0, he0, ht0⟩ := (has_at hs t).2 hh
    refine low_of (by have := (List.getElem?_eq_some_iff.1 he0).1; omega) (fun j e he => ?_)
    have := h2 j e he
    rcases Nat.lt_trichotomy j (lowN L t) with q | q | q
    · have := this.1 q; omega
    · subst q; rw [he0] at he; injection he with he; subst he; omega
    · have := hs _ _ _ _ q he0 he
      omega
  · rw [if_neg hh]
    refine low_of (by omega) (fun j e he => ?_)
    have := h2 j e he
    have hne : e.to_ ≠ t := fun q => hh (has_iff.2 ⟨e, List.mem_of_getElem? he, q⟩)
    omega
theorem low_neg {g : G} {S : LS} {a : Nat} : lowN (EgL S g.n a) (-1) = 0 := by
  unfold lowN
  rw [List.length_eq_zero_iff, List.filter_eq_nil_iff]
  intro e he
  obtain ⟨t, _, h2, _⟩ := mem_EgL.1 he
  simp; omega
theorem LvR.look2 {w : World} {b ml me nl : Nat} {Sb : List Nat} {top : Int} {V : Int → Option Value} {g : G} {S : LS} (h : LvR w b ml me Sb top V nl (egE g S)) {a : Nat} (ha : g.Corner a) : ∃ A cap, EdsAt w A (EgL S g.n a) ∧ ∀ w', Below w.heap.size w w' → (Instr.lookup 54 (.map (some me)) (.int .i64 (a : Nat)) false).run Tryz.prog w' = .ok (.slice A (EgL S g.n a).length cap) w' := h.look (egE_at ha)
set_option maxRecDepth 100000 in
set_option maxHeartbeats 3200000 in
theorem unpacked (w : World) (b ml me nl b2 ml2 me2 nl2 : Nat) (Sb Sb2 : List Nat) (top : Int) (g : G) (S : LS) (tp a : Nat) (hok : g.ok) (H : LS.Fin g tp S) (htp : tp ≤ 6)
    (h : LvOf w b ml me Sb top (levV g S) nl (egE g S)) (h2 : LvR w b2 ml2 me2 Sb2 top (levV g S) nl2 (egE g S)) (ha : g.Corner a) :
    Calls Tryz.prog 24 #[.pointer (some ⟨b, 0, none⟩), .pointer (some ⟨b2, 0, none⟩), .int .i64 (a : Nat)] w fun e w' => e = .returned (.bool true) ∧ Below w.heap.size w w' := by
  have hn := G.n_le hok
  have kb1 : w.cell? ⟨b2, 1, none⟩ = some (.map (some me2)) := by simp [World.cell?, h2.1]
  obtain ⟨A, cap, hEd, hlk⟩ := h2.look2 ha
  obtain ⟨n, hnE⟩ : ∃ n, (EgL S g.n a).length = n := ⟨_, rfl⟩
  have hn256 : n ≤ 256 := by have := len_EgL S g.n a; omega
  rw [hnE] at hlk
  have Hlk := Lib.hid hlk
  have HEd := Lib.hid (And.intro hEd hnE)
  have H0 := Lib.hid (And.intro h h2)
  have HH := Lib.hid (And.intro H (And.intro ha hok))
  have hls : ∀ c : Nat, S.eg a c ≠ none → S.lev a + S.lev c ≤ 20 := fun c hc => by
    obtain ⟨q1, q2, _⟩ := H.corner a c hc
    have := H.levs a q1
    have := H.levs c q2
    omega
  have Hls := Lib.hid hls
  obtain ⟨f, hf⟩ : ∃ f : Int → Nat, (fun t => lowN (EgL S g.n a) t) = f := ⟨_, rfl⟩
  have hf0 : f (-1) = 0 := by rw [← hf]; exact low_neg
  have Hf := Lib.hid hf
  clear h h2 H ha hok hlk hEd hnE hls hn hf
  go_enter Tryz.func24, Tryz.ntmps24
  go_wp2_with fail
  go_loopw [7, 8] (fun av kv wr => ∃ (k : Nat) (t : Int) (i : Nat), kv = .int .i64 t ∧ av = .int .i64 i ∧ t = (k : Int) - 1 ∧ k ≤ 258 ∧ i = f t ∧ Below w.heap.size w wr) (fun _ kv _ => (257 - intOf kv).toNat)
  case atStart => exact ⟨0, -1, 0, rfl, rfl, rfl, by omega, hf0.symm, Below.refl _ _⟩
  case round =>
    obtain ⟨k, t, i, rfl, rfl, ht, hk, hi, hB⟩ := hrel
    have Hi := Lib.hid hi
    have HB := Lib.hid hB
    have kb1 := bel_cell hB kb1
    have hge : -1 ≤ t := by omega
    have Hk := Lib.hid (And.intro ht hk)
    clear hi hf0 ht hk
    by_cases hlt : t < 257
    · have hlow := low_next (srt_EgL S g.n a) t
      have hfe : ∀ z, lowN (EgL S g.n a) z = f z := fun z => by rw [← Hf.out]
      rw [hfe, hfe] at hlow
      have hi256 : i ≤ n := by rw [Hi.out, ← HEd.out.2, ← hfe t]; exact (low_spec (srt_EgL S g.n a) t).1
      by_cases heg : ∃ (c : Nat) (q : C × Int), t = (c : Nat) ∧ S.eg a c = some q
      · obtain ⟨c, ⟨cst, m⟩, htc, heg⟩ := heg
        have hcn := (HH.out.1.corner a c (by rw [heg]; simp)).2.1.1
        obtain ⟨q1, q2⟩ := lvHas hcn heg
        rw [← htc] at q1 q2
        rw [if_pos q1] at hlow
        rw [hfe t, ← Hi.out] at q2
        obtain ⟨L, u1, _, u3, u4⟩ := lvUnpack b ml me nl Sb g S tp top HH.out.2.2 HH.out.1 20 a c cst m (by omega) (Hls.out c (by rw [heg]; simp)) heg
        obtain ⟨L', v1, _, _, v4⟩ := rUnpack b2 ml2 me2 nl2 Sb2 g S tp top (levV g S) HH.out.2.2 HH.out.1 20 a c cst m (by omega) (Hls.out c (by rw [heg]; simp)) heg
        obtain rfl := u1.det v1
        rw [← htc] at u4 v4
        have u3 : L.length < 1099511627776 := by have : 2 ^ 20 = 1048576 := by decide
                                                 omega
        have U3 := Lib.hid u3
        have cU := Lib.hid (u4 wr (H0.out.1.below hB))
        have cV := Lib.hid (fun w' (hb : Below w.heap.size w w') => v4 w' (H0.out.2.below hb))
        have hin : i < n := by rw [← HEd.out.2]; exact (List.getElem?_eq_some_iff.1 q2).1
        have hnx : i + 1 = f (t + 1) := by rw [hlow, Hi.out]
        have Hnx := Lib.hid hnx
        have Q2 := Lib.hid q2
        clear q1 q2 hlow hfe heg u1 u3 u4 v1 v4 hnx hcn htc Hi hB
        go_wp2_with fail
        (with_reducible refine cU.out.mono ?_)
        rintro e w1 ⟨v1, rfl, hO1, hb1⟩
        obtain ⟨A1, m1, rfl, hI1⟩ := hO1.ints
        have HB1 := bel_trans HB.out hb1
        have HI1 := Lib.hid hI1
        obtain ⟨gb, hA, a1, a2, a3, a4⟩ := (HEd.out.1.below HB1).get Q2.out
        have hix := fun wx => idxE (m := cap) hA hin wx
        have hlk1 := Hlk.out _ HB1
        have kb1 := bel_cell hb1 kb1
        have cV := Lib.hid (cV.out _ HB1)
        have HB1 := Lib.hid HB1
        obtain ⟨nL, hnL⟩ : ∃ z, (L.map fun n : Nat => (n : Int)).length = z := ⟨_, rfl⟩
        rw [hnL]
        have hnl2 : nL < 1099511627776 := by rw [← hnL, List.length_map]; exact U3.out
        have HnL := Lib.hid hnL
        clear hO1 hI1 hb1 hA Q2 HB cU hnL U3
        simp only at a1 a2 a3 a4
        go_wp2_with fail
        (with_reducible refine cV.out.mono ?_)
        rintro e w2 ⟨v2, rfl, hO2, hb2⟩
        obtain ⟨A2, m2, rfl, hI2⟩ := hO2.ints
        have HB2 := bel_trans HB1.out hb2
        have hI1 := HI1.out.below hb2
        rw [HnL.out] at hI1 hI2 ⊢
        have cS := Lib.hid (sameNumbers w2 A1 A2 nL m1 m2 _ hI1 hI2 hnl2)
        clear hI1 hI2 hO2 hb2 cV HI1 hix hlk1 kb1 a1 a2 a3 a4
        go_wp2_with fail
        (with_reducible refine cS.out.mono ?_)
        rintro e w3 ⟨rfl, hb3⟩
        have HB3 := bel_trans HB2 hb3
        clear cS hb3
        go_wp2
        go_roundw
        case rel => first | exact ⟨k + 1, t + 1, i + 1, rfl, by go_num, by (have := Hk.out; omega), by (have := Hk.out; omega), Hnx.out, HB3⟩ | ((repeat apply Exists.intro); exact ⟨⟨k + 1, t + 1, i + 1, rfl, by go_num, by (have := Hk.out; omega), by (have := Hk.out; omega), Hnx.out, HB3⟩, rfl⟩)
        case measure => simp [intOf]; omega
      · have hno : ∀ c : Nat, t = c → S.eg a c = none := fun c hc => by
          cases he : S.eg a c with
          | none => rfl
          | some q => exact absurd ⟨c, q, hc, he⟩ heg
        have hha := lvHas_no (g := g) hno
        rw [if_neg (by rw [hha]; simp)] at hlow
        have cU := Lib.hid (lvUnpack_none wr b ml me nl Sb top g S HH.out.2.2 (H0.out.1.below hB) a HH.out.2.1 t (by unfold inC; omega) hno)
        have hnx : i = f (t + 1) := by rw [hlow, Hi.out]; omega
        have Hnx := Lib.hid hnx
        have Hha := Lib.hid hha
        clear hlow hfe heg hnx hno Hi hB hha
        go_wp2_with fail
        (with_reducible refine cU.out.mono ?_)
        rintro e w1 ⟨rfl, hb1⟩
        have HB1 := bel_trans HB.out hb1
        have hlk1 := Hlk.out _ HB1
        have kb1 := bel_cell hb1 kb1
        clear cU HB hb1
        by_cases hin : i < n
        · obtain ⟨e, he⟩ : ∃ e, (EgL S g.n a)[i]? = some e := ⟨(EgL S g.n a)[i]'(by rw [HEd.out.2]; exact hin), List.getElem?_eq_getElem _⟩
          obtain ⟨gb, hA, a1, a2, a3, a4⟩ := (HEd.out.1.below HB1).get he
          have hix := fun wx => idxE (m := cap) hA hin wx
          have hne : e.to_ ≠ t := fun q => by
            have := (has_iff (L := EgL S g.n a) (t := t)).2 ⟨e, List.mem_of_getElem? he, q⟩
            rw [Hha.out] at this; cases this
          have HB1 := Lib.hid HB1
          obtain ⟨xt, ⟨xs, xd⟩, xm⟩ := e
          simp only at a1 a2 a3 a4 hne
          clear hA he
          go_wp2_with fail
          (with_reducible refine (same_bad 5 _ (by decide)).mono ?_)
          rintro e w' ⟨rfl, rfl⟩
          clear hix hlk1 kb1 a1 a2 a3 a4
          go_wp2
          go_roundw
          case rel => first | exact ⟨k + 1, t + 1, i, rfl, rfl, by (have := Hk.out; omega), by (have := Hk.out; omega), Hnx.out, HB1.out⟩ | ((repeat apply Exists.intro); exact ⟨⟨k + 1, t + 1, i, rfl, rfl, by (have := Hk.out; omega), by (have := Hk.out; omega), Hnx.out, HB1.out⟩, rfl⟩)
          case measure => simp [intOf]; omega
        · have HB1 := Lib.hid HB1
          go_wp2_with fail
          (with_reducible refine (same_bad 5 _ (by decide)).mono ?_)
          rintro e w' ⟨rfl, rfl⟩
          clear hlk1 kb1
          go_wp2
          go_roundw
          case rel => first | exact ⟨k + 1, t + 1, i, rfl, rfl, by (have := Hk.out; omega), by (have := Hk.out; omega), Hnx.out, HB1.out⟩ | ((repeat apply Exists.intro); exact ⟨⟨k + 1, t + 1, i, rfl, rfl, by (have := Hk.out; omega), by (have := Hk.out; omega), Hnx.out, HB1.out⟩, rfl⟩)
          case measure => simp [intOf]; omega
    · clear kb1
      go_wp2
      go_ret
      exact ⟨rfl, HB.out⟩
end Go.Proofs.YtjejkadaafmdcaaGreat
/- levels.Added: the walk. -/
namespace Go.Proofs.YtjejkadaafmdcaaGreat
open Go.RowKit Go.Sort FR Go.Lib
theorem quo_two (D : Nat) : IntKind.i64.wrap (((2 * D : Nat) : Int).tdiv 2) = if D < 1000000 then ((D : Nat) : Int) else IntKind.i64.wrap (((2 * D : Nat) : Int).tdiv 2) := by
  split
  · rw [Int.tdiv_eq_ediv_of_nonneg (by omega), IntWalk.i64_in _ (by omega)]; omega
  · rfl
set_option maxRecDepth 100000 in
set_option maxHeartbeats 3200000 in
theorem lvAdded (w : World) (b ml me nl : Nat) (S : List Nat) (top : Int) (V : Int → Option Value) (E : Int → Option (List Ed)) (N D : Nat) (h : LvOf w b ml me S top V nl E) (hl : ∀ z L, E z = some L → L.length ≤ 256) (hb : ∀ z, E z ≠ none → ∃ n : Nat, z = n ∧ n < N) (hN : N ≤ 256)
    (hD : sumN (addE E) N = 2 * D) :
    Calls Tryz.prog 19 #[.pointer (some ⟨b, 0, none⟩)] w fun e w' => e = .returned (.int .i64 (D : Nat)) ∧ Below w.heap.size w w' := by
  obtain ⟨g1, _, ⟨W3, n3, q1, q2, q3, _, _, _, _⟩, _⟩ := h
  have kb1 : w.cell? ⟨b, 1, none⟩ = some (.map (some me)) := by simp [World.cell?, g1]
  have H2 := Lib.hid q2
  have H3 := Lib.hid q3
  have Hl := Lib.hid hl
  have Hb := Lib.hid hb
  have HD := Lib.hid hD
  have hD2 : D ≤ 40000 := by
    have h1 : sumN (addE E) N ≤ N * 256 := by rw [← sumN_const]; exact sumN_le N fun k _ => addE_le hl k
    have h2 : N * 256 ≤ 256 * 256 := Nat.mul_le_mul_right _ hN
    omega
  clear g1 q2 q3 hl hb hD
  go_enter Tryz.func19, Tryz.ntmps19
  go_wp2_with (at_range; refine wpList_rangeM rfl _ rfl iK_inj Tryz.underlying54 q1 rfl ?_; intro w1 hrg hb1 hs1)
  go_frame
  obtain ⟨r, hr⟩ : ∃ z, w.heap.size = z := ⟨_, rfl⟩
  rw [hr] at hrg ⊢
  have hstart : ∃ left cnt, RangeAt iK w1 me r W3 left cnt ∧ 0 = doneN left (addE E) N ∧ Below w.heap.size w w1 := ⟨_, _, hrg, (doneN_start fun k hk => addE_none ((H2.out _).2 (Classical.byContradiction fun h => hk h))).symm, hb1⟩
  have hrw : w.heap.size ≤ r := by omega
  clear hrg hb1 hs1 q1 kb1 hr
  go_loopw [3] (fun lv wr => ∃ T : Nat, lv = .int .i64 T ∧ ∃ left cnt, RangeAt iK wr me r W3 left cnt ∧ T = doneN left (addE E) N ∧ Below w.heap.size w wr) (fun _ wr => wr.rangeLeft me r)
  case atStart => exact ⟨0, rfl, hstart⟩
  case round =>
    obtain ⟨T, rfl, left, cnt, hrg, hT, hB⟩ := hrel
    clear hstart
    have hleft := Lib.hid hrg.left_eq
    have HT := Lib.hid hT
    have hT2 : T ≤ 100000 := by
      have h1 := doneN_le (left := left) (N := N) (K := 256) (fun k => addE_le Hl.out k)
      have h2 : N * 256 ≤ 256 * 256 := Nat.mul_le_mul_right _ hN
      omega
    clear hT
    go_wp2_with (at_next; refine wpList_nextM rfl _ rfl iK_inj hrg rfl ?_ ?_)
    · intro h0 hl
      have hT3 : T = 2 * D := by rw [HT.out, doneN_end hl, HD.out]
      subst hT3
      have hq := quo_two D
      rw [if_pos (by omega)] at hq
      have HB := Lib.hid hB
      have Hq := Lib.hid hq
      clear hl hrg hq HT hT2 hB
      go_wp2
      go_ret
      exact ⟨rfl, HB.out⟩
    · intro k u w4 cnt4 hk hlk hrg4 hlt4 hK4 hs4 hen
      obtain ⟨L, hL⟩ : ∃ L, E k = some L := by
        cases hE : E k with
        | none => rw [(H2.out k).1 hE] at hk; cases hk
        | some L => exact ⟨L, rfl⟩
      obtain ⟨kn, rfl, hkn⟩ := Hb.out k (by rw [hL]; simp)
      have hB4 : Below w.heap.size w w4 := Kept.below hB hK4 hB.size (by simp; omega)
      obtain ⟨A, cap, rfl, hEd⟩ := (H3.out _ u L hk hL).eds
      have HEd := Lib.hid (hEd.below hB4)
      have hT4 : T + addL L = doneN (fun j => left j ∧ j ≠ (kn : Nat)) (addE E) N := by rw [doneN_step hkn hlk, addE_at hL, HT.out]
      have Hrg4 := Lib.hid hrg4
      have HT4 := Lib.hid (And.intro hT4 hlt4)
      have hl256 := Hl.out _ L hL
      obtain ⟨n, hn⟩ : ∃ n, L.length = n := ⟨_, rfl⟩
      rw [hn] at hen hl256 ⊢
      have Hn := Lib.hid hn
      rw [show iK ((kn : Nat) : Int) = .int .i64 ((kn : Nat) : Int) from rfl] at hen ⊢
      clear hk hlk hrg4 hlt4 hK4 hs4 hEd hB hrg HT hT4 hn hL
      go_wp2_with fail
      clear hen
      have hwz := hB4.size
      go_loopw [3, 19] (fun lv kv wr => ∃ i t : Nat, kv = .int .i64 i ∧ lv = .int .i64 t ∧ i ≤ n ∧ t = T + addL (L.take i) ∧ Below w4.heap.size w4 wr) (fun _ kv _ => n - (intOf kv).toNat)
      case atStart => exact ⟨0, T, rfl, rfl, by omega, by simp [addL], Below.refl _ _⟩
      case round =>
        obtain ⟨i, t, rfl, rfl, hi, ht, hBi⟩ := hrel
        have Ht := Lib.hid ht
        have ht2 : t ≤ 200000 := by
          have h1 := addL_le (L.take i)
          rw [List.length_take] at h1
          omega
        clear ht
        by_cases hlt : i < n
        · obtain ⟨e, he⟩ : ∃ e, L[i]? = some e := ⟨L[i]'(by rw [Hn.out]; exact hlt), List.getElem?_eq_getElem _⟩
          obtain ⟨gb, hA, a1, a2, a3, a4⟩ := (HEd.out.below hBi).get he
          have hix := fun wx => idxE (m := cap) hA hlt wx
          have hst := addL_step he
          obtain ⟨xt, ⟨xs, xd⟩, xm⟩ := e
          simp only at a1 a2 a3 a4
          have Hst := Lib.hid hst
          clear hA he hst
          go_upto_region 8 with (fail)
          refine wp_name ?_
          intro W hW
          have HW : Below w4.heap.size w4 W := by rw [hW]; exact bel_alloc hBi
          obtain ⟨b7, hb7⟩ : ∃ z, wr.heap.size = z := ⟨_, rfl⟩
          have o2 : W.cell? ⟨b7, 3, none⟩ = some (.int .i64 xm) := by rw [hW, ← hb7]; go_simp
          rw [hb7]
          clear hW hb7 hBi a1 a2 a3 a4 hix
          by_cases hm : 0 ≤ xm
          · have hF : t + 1 = T + addL (L.take (i + 1)) := by have := Hst.out; rw [if_pos hm] at this; rw [this, Ht.out]; omega
            have HF := Lib.hid hF
            clear hF Hst Ht
            go_wp2
            go_roundw
            case rel => first | exact ⟨i + 1, t + 1, by go_num, by go_num, by omega, HF.out, HW⟩ | ((repeat apply Exists.intro); exact ⟨⟨i + 1, t + 1, by go_num, by go_num, by omega, HF.out, HW⟩, rfl⟩)
            case measure => simp [intOf]; omega
          · have hF : t = T + addL (L.take (i + 1)) := by have := Hst.out; rw [if_neg hm] at this; rw [this, Ht.out]; omega
            have HF := Lib.hid hF
            clear hF Hst Ht
            go_wp2
            go_roundw
            case rel => first | exact ⟨i + 1, t, by go_num, rfl, by omega, HF.out, HW⟩ | ((repeat apply Exists.intro); exact ⟨⟨i + 1, t, by go_num, rfl, by omega, HF.out, HW⟩, rfl⟩)
            case measure => simp [intOf]; omega
        · obtain rfl : i = n := by omega
          have hF : t = doneN (fun j => left j ∧ j ≠ (kn : Nat)) (addE E) N := by
            have := Ht.out
            rw [← Hn.out, List.take_length] at this
            rw [this, HT4.out.1]
          have hrg := Hrg4.out.below hBi
          have hle := Lib.hid hrg.left_eq
          have hB5 : Below w.heap.size w wr := hB4.trans (hBi.mono (by omega))
          have HF := Lib.hid (And.intro hrg (And.intro hF hB5))
          have hlt5 := HT4.out.2
          clear hF hrg hB5 Ht
          go_wp2
          go_roundw
          case rel => first | exact ⟨t, rfl, _, _, HF.out⟩ | ((repeat apply Exists.intro); exact ⟨⟨t, rfl, _, _, HF.out⟩, rfl⟩)
          case measure => rw [hleft.out, hle.out]; exact hlt5
end Go.Proofs.YtjejkadaafmdcaaGreat
/- The document's Added: the walk. -/
namespace Go.Proofs.YtjejkadaafmdcaaGreat
open Go.RowKit Go.Sort FR Go.Lib
set_option maxRecDepth 100000 in
set_option maxHeartbeats 3200000 in
theorem rAdded (w : World) (b ml me nl : Nat) (S : List Nat) (top : Int) (V : Int → Option Value) (E : Int → Option (List Ed)) (N : Nat) (h : LvR w b ml me S top V nl E) (hl : ∀ z L, E z = some L → L.length ≤ 256) (hb : ∀ z, E z ≠ none → ∃ n : Nat, z = n ∧ n < N) (hN : N ≤ 256) :
    Calls Tryz.prog 20 #[.pointer (some ⟨b, 0, none⟩)] w fun e w' => e = .returned (.int .i64 (sumN (addRE E) N : Nat)) ∧ Below w.heap.size w w' := by
  obtain ⟨g1, _, ⟨W3, n3, q1, q2, q3, _, _, _, _⟩, _⟩ := h
  have kb1 : w.cell? ⟨b, 1, none⟩ = some (.map (some me)) := by simp [World.cell?, g1]
  have hmel := q1.lt
  have H1 := Lib.hid q1
  have H2 := Lib.hid q2
  have H3 := Lib.hid q3
  have Hl := Lib.hid hl
  have Hb := Lib.hid hb
  obtain ⟨D, hD⟩ : ∃ D, sumN (addRE E) N = D := ⟨_, rfl⟩
  rw [hD]
  have HD := Lib.hid hD
  clear g1 q2 q3 hl hb hD
  go_enter Tryz.func20, Tryz.ntmps20
  go_wp2_with (at_range; refine wpList_rangeM rfl _ rfl iK_inj Tryz.underlying54 q1 rfl ?_; intro w1 hrg hb1 hs1)
  go_frame
  obtain ⟨r, hr⟩ : ∃ z, w.heap.size = z := ⟨_, rfl⟩
  rw [hr] at hrg ⊢
  have hstart : ∃ left cnt, RangeAt iK w1 me r W3 left cnt ∧ 0 = doneN left (addRE E) N ∧ Below w.heap.size w w1 := ⟨_, _, hrg, (doneN_start fun k hk => addRE_none ((H2.out _).2 (Classical.byContradiction fun h => hk h))).symm, hb1⟩
  have hrw : w.heap.size ≤ r := by omega
  clear hrg hb1 hs1 q1 hr
  go_loopw [3] (fun lv wr => ∃ T : Nat, lv = .int .i64 T ∧ ∃ left cnt, RangeAt iK wr me r W3 left cnt ∧ T = doneN left (addRE E) N ∧ Below w.heap.size w wr) (fun _ wr => wr.rangeLeft me r)
  case atStart => exact ⟨0, rfl, hstart⟩
  case round =>
    obtain ⟨T, rfl, left, cnt, hrg, hT, hB⟩ := hrel
    clear hstart
    have hleft := Lib.hid hrg.left_eq
    have HT := Lib.hid hT
    have hT2 : T ≤ 100000 := by
      have h1 := doneN_le (left := left) (N := N) (K := 256) (fun k => addRE_le Hl.out k)
      have h2 : N * 256 ≤ 256 * 256 := Nat.mul_le_mul_right _ hN
      omega
    clear hT
    go_wp2_with (at_next; refine wpList_nextM rfl _ rfl iK_inj hrg rfl ?_ ?_)
    · intro h0 hl
      have hT3 : T = D := by rw [HT.out, doneN_end hl, HD.out]
      subst hT3
      have HB := Lib.hid hB
      clear hl hrg HT hB
      go_wp2
      go_ret
      exact ⟨rfl, HB.out⟩
    · intro k u w4 cnt4 hk hlk hrg4 hlt4 hK4 hs4 hen
      obtain ⟨L, hL⟩ : ∃ L, E k = some L := by
        cases hE : E k with
        | none => rw [(H2.out k).1 hE] at hk; cases hk
        | some L => exact ⟨L, rfl⟩
      obtain ⟨kn, rfl, hkn⟩ := Hb.out k (by rw [hL]; simp)
      have hB4 : Below w.heap.size w w4 := Kept.below hB hK4 hB.size (by simp; omega)
      obtain ⟨A, cap, rfl, hEd⟩ := (H3.out _ u L hk hL).eds
      have HEd := Lib.hid (hEd.below hB4)
      have hlk3 : ∀ wx, Below w.heap.size w wx → (Instr.lookup 54 (.map (some me)) (.int .i64 ((kn : Nat) : Int)) false).run Tryz.prog wx = .ok (.slice A L.length cap) wx := fun wx hbx => by
        have := ((H1.out.below hbx).look (int_fit Tryz.underlying3) Tryz.underlying54 (z := .slice none 0 0) (by simp [Tryz.zeroValue59]) ((kn : Nat) : Int)).2
        rw [hk] at this; exact this
      have hT4 : T + addR kn L = doneN (fun j => left j ∧ j ≠ (kn : Nat)) (addRE E) N := by rw [doneN_step hkn hlk, addRE_at hL, HT.out]
      have Hrg4 := Lib.hid hrg4
      have HT4 := Lib.hid (And.intro hT4 hlt4)
      have hl256 := Hl.out _ L hL
      obtain ⟨n, hn⟩ : ∃ n, L.length = n := ⟨_, rfl⟩
      rw [hn] at hen hl256 hlk3 ⊢
      have Hn := Lib.hid hn
      have Hlk := Lib.hid hlk3
      have kb4 := bel_cell hB4 kb1
      rw [show iK ((kn : Nat) : Int) = .int .i64 ((kn : Nat) : Int) from rfl] at hen ⊢
      clear hk hlk hrg4 hlt4 hK4 hs4 hEd hB hrg HT hT4 hn hL hlk3
      go_wp2_with fail
      clear hen
      have hwz := hB4.size
      go_loopw [3, 5] (fun lv kv wr => ∃ i t : Nat, kv = .int .i64 i ∧ lv = .int .i64 t ∧ i ≤ n ∧ t = T + addR kn (L.take i) ∧ w4 = wr) (fun _ kv _ => n - (intOf kv).toNat)
      case atStart => exact ⟨0, T, rfl, rfl, by omega, by simp [addR], rfl⟩
      case round =>
        obtain ⟨i, t, rfl, rfl, hi, ht, rfl⟩ := hrel
        have Ht := Lib.hid ht
        have ht2 : t ≤ 200000 := by
          have h1 := addR_le kn (L.take i)
          rw [List.length_take] at h1
          omega
        have hlk4 := Hlk.out _ hB4
        clear ht
        by_cases hlt : i < n
        · obtain ⟨e, he⟩ : ∃ e, L[i]? = some e := ⟨L[i]'(by rw [Hn.out]; exact hlt), List.getElem?_eq_getElem _⟩
          obtain ⟨gb, hA, a1, a2, a3, a4⟩ := HEd.out.get he
          have hix := fun wx => idxE (m := cap) hA hlt wx
          have hst := addR_step (z := (kn : Nat)) he
          obtain ⟨xt, ⟨xs, xd⟩, xm⟩ := e
          simp only at a1 a2 a3 a4 hst
          have Hst := Lib.hid hst
          clear hA he hst
          by_cases hm : 0 ≤ xm
          · by_cases hm2 : ((kn : Nat) : Int) < xt
            · have hF : t + 1 = T + addR kn (L.take (i + 1)) := by have := Hst.out; rw [if_pos ⟨hm, hm2⟩] at this; rw [this, Ht.out]; omega
              have HF := Lib.hid hF
              clear hF Hst Ht
              go_wp2
              go_roundw
              case rel => first | exact ⟨i + 1, t + 1, by go_num, by go_num, by omega, HF.out, by trivial⟩ | ((repeat apply Exists.intro); exact ⟨⟨i + 1, t + 1, by go_num, by go_num, by omega, HF.out, by trivial⟩, rfl⟩)
              case measure => simp [intOf]; omega
            · have hF : t = T + addR kn (L.take (i + 1)) := by have := Hst.out; rw [if_neg (fun q => hm2 q.2)] at this; rw [this, Ht.out]; omega
              have HF := Lib.hid hF
              clear hF Hst Ht
              go_wp2
              go_roundw
              case rel => first | exact ⟨i + 1, t, by go_num, rfl, by omega, HF.out, by trivial⟩ | ((repeat apply Exists.intro); exact ⟨⟨i + 1, t, by go_num, rfl, by omega, HF.out, by trivial⟩, rfl⟩)
              case measure => simp [intOf]; omega
          · have hF : t = T + addR kn (L.take (i + 1)) := by have := Hst.out; rw [if_neg (fun q => hm q.1)] at this; rw [this, Ht.out]; omega
            have HF := Lib.hid hF
            clear hF Hst Ht
            go_wp2
            go_roundw
            case rel => first | exact ⟨i + 1, t, by go_num, rfl, by omega, HF.out, by trivial⟩ | ((repeat apply Exists.intro); exact ⟨⟨i + 1, t, by go_num, rfl, by omega, HF.out, by trivial⟩, rfl⟩)
            case measure => simp [intOf]; omega
        · obtain rfl : i = n := by omega
          have hF : t = doneN (fun j => left j ∧ j ≠ (kn : Nat)) (addRE E) N := by
            have := Ht.out
            rw [← Hn.out, List.take_length] at this
            rw [this, HT4.out.1]
          have hle := Lib.hid Hrg4.out.left_eq
          have HF := Lib.hid (And.intro Hrg4.out (And.intro hF hB4))
          have hlt5 := HT4.out.2
          clear hF Ht
          go_wp2
          go_roundw
          case rel => first | exact ⟨t, rfl, _, _, HF.out⟩ | ((repeat apply Exists.intro); exact ⟨⟨t, rfl, _, _, HF.out⟩, rfl⟩)
          case measure => rw [hleft.out, hle.out]; exact hlt5
end Go.Proofs.YtjejkadaafmdcaaGreat
/- The document's levels: plain; of a graph. -/
namespace Go.Proofs.YtjejkadaafmdcaaGreat
open Go.RowKit Go.Sort FR Go.Lib
open Classical in
/-- of a map the first nodes' entries -/
noncomputable def subV (g : G) (V : Int → Option Value) (i : Nat) (z : Int) : Option Value := if ∃ j, j < i ∧ z = (cf g j : Nat) then V z else none
theorem subV_zero (g : G) (V : Int → Option Value) : subV g V 0 = fun _ => none := by
  funext z; unfold subV; rw [if_neg]; rintro ⟨j, h, _⟩; omega
theorem subV_step (g : G) (V : Int → Option Value) (i : Nat) {u : Value} (hu : V (cf g i : Nat) = some u) : updK (subV g V i) ((cf g i : Nat) : Int) (some u) = subV g V (i + 1) := by
  funext z
  unfold updK subV
  by_cases e : z = (cf g i : Nat)
  · rw [if_pos e, if_pos ⟨i, by omega, e⟩, e, hu]
  · rw [if_neg e]
    by_cases h : ∃ j, j < i ∧ z = (cf g j : Nat)
    · obtain ⟨j, h1, h2⟩ := h
      rw [if_pos ⟨j, h1, h2⟩, if_pos ⟨j, by omega, h2⟩]
    · rw [if_neg h, if_neg]
      rintro ⟨j, h1, h2⟩
      by_cases q : j = i
      · subst q; exact e h2
      · exact h ⟨j, by omega, h2⟩
theorem EGr_egE (g : G) : EGr g (cornersI g).length = egE g (LS.first g) := by
  funext z
  by_cases h : 0 ≤ z ∧ g.Corner z.toNat
  · have hz : z = ((z.toNat : Nat) : Int) := by omega
    rw [hz, egE_at h.2]
    exact gspec_has (EGr_spec g) h.2
  · rw [egE_none h]
    unfold EGr
    rw [if_neg]
    rintro ⟨j, h1, h2⟩
    exact h ((upTo_cf z).1 ⟨j, h1, h2⟩)
/-- all nodes' lists, in another map -/
theorem EMap.copy {w w' : World} {S : List Nat} {me N : Nat} {g : G} {V : Int → Option Value} (h2 : ∀ k, egE g (LS.first g) k = Option.none ↔ V k = Option.none) (h3 : ∀ k u L, V k = some u → egE g (LS.first g) k = some L → OwnE w 0 u L) (h4 : ∀ k u q, V k = some u → u.ownBlock = some q → q ∈ S)
    (h6 : ∀ k k' u u' q, V k = some u → V k' = some u' → u.ownBlock = some q → u'.ownBlock = some q → k = k') (h7 : ∀ s, s ∈ S → s < w.heap.size) (hM : MapAt iK w' me (subV g V (cornersI g).length) N) (hk : Kept [me] w w') (hme : me ∉ S) : EMap w' S me (egE g (LS.first g)) := by
  have hV : subV g V (cornersI g).length = V := by
    funext z
    unfold subV
    by_cases h : ∃ j, j < (cornersI g).length ∧ z = (cf g j : Nat)
    · rw [if_pos h]
    · rw [if_neg h]
      have := egE_none (g := g) (S := LS.first g) (fun q => h ((upTo_cf z).2 q))
      exact ((h2 z).1 this).symm
  rw [hV] at hM
  exact ⟨V, N, hM, h2, fun k u L hu hL => (h3 k u L hu hL).kept hk (fun q hq => by have := h4 k u q hu hq; simp; rintro rfl; exact hme this), h4, hme, h6, fun s hs => Nat.lt_of_lt_of_le (h7 s hs) hk.size⟩
open Classical in
/-- the levels, of the first nodes closed -/
noncomputable def levC (g : G) (S : LS) (top i : Nat) (z : Int) : Option Value := if ∃ j, j < i ∧ z = (cf g j : Nat) then levV g (S.close (cornersN g) top) z else levR g S z
theorem levC_zero (g : G) (S : LS) (top : Nat) : levC g S top 0 = levR g S := by
  funext z; unfold levC; rw [if_neg]; rintro ⟨j, h, _⟩; omega
theorem levC_all (g : G) (S : LS) (top : Nat) : levC g S top (cornersI g).length = levV g (S.close (cornersN g) top) := by
  funext z
  unfold levC
  by_cases h : ∃ j, j < (cornersI g).length ∧ z = (cf g j : Nat)
  · rw [if_pos h]
  · rw [if_neg h]
    have hz : ¬ (0 ≤ z ∧ g.Corner z.toNat) := fun q => h ((upTo_cf z).2 q)
    rw [levV_none hz]
    unfold levR
    rw [if_neg (fun q => hz q.1)]
theorem levR_at0 {g : G} {S : LS} {n : Nat} (hc : g.Corner n) : (levR g S (n : Nat)).getD (.int .i64 0) = .int .i64 (S.lev n : Nat) := by
  rw [levRof g S _, levI_at hc]
theorem levC_new {g : G} {S : LS} {top i : Nat} (hi : i < (cornersI g).length) : levC g S top i (cf g i : Nat) = levR g S (cf g i : Nat) := by
  unfold levC
  rw [if_neg]
  rintro ⟨j, h1, h2⟩
  have := cf_inj (g := g) (i := j) (j := i) (by omega) hi (by omega)
  omega
theorem levC_set {g : G} {S : LS} {top i : Nat} (hi : i < (cornersI g).length) (h0 : S.lev (cf g i) = 0) : updK (levC g S top i) ((cf g i : Nat) : Int) (some (.int .i64 (top : Nat))) = levC g S top (i + 1) := by
  funext z
  unfold updK
  by_cases e : z = (cf g i : Nat)
  · rw [if_pos e, e]
    unfold levC
    rw [if_pos ⟨i, by omega, rfl⟩, close_yes (cf_at hi).2 h0]
  · rw [if_neg e]
    unfold levC
    by_cases h : ∃ j, j < i ∧ z = (cf g j : Nat)
    · obtain ⟨j, h1, h2⟩ := h
      rw [if_pos ⟨j, h1, h2⟩, if_pos ⟨j, by omega, h2⟩]
    · rw [if_neg h, if_neg]
      rintro ⟨j, h1, h2⟩
      by_cases q : j = i
      · subst q; exact e h2
      · exact h ⟨j, by omega, h2⟩
theorem levC_keep {g : G} {S : LS} {top i : Nat} (hi : i < (cornersI g).length) (h0 : S.lev (cf g i) ≠ 0) : levC g S top i = levC g S top (i + 1) := by
  funext z
  by_cases e : z = (cf g i : Nat)
  · rw [e, levC_new hi]
    have hc := (cf_at (g := g) hi).2
    unfold levC
    rw [if_pos ⟨i, by omega, rfl⟩, close_no hc h0, levV_at hc]
    unfold levR
    rw [if_pos ⟨⟨by omega, by simpa using hc⟩, by simpa using h0⟩]
    simp
  · unfold levC
    by_cases h : ∃ j, j < i ∧ z = (cf g j : Nat)
    · obtain ⟨j, h1, h2⟩ := h
      rw [if_pos ⟨j, h1, h2⟩, if_pos ⟨j, by omega, h2⟩]
    · rw [if_neg h, if_neg]
      rintro ⟨j, h1, h2⟩
      by_cases q : j = i
      · subst q; exact e h2
      · exact h ⟨j, by omega, h2⟩
theorem levR_first (g : G) : levR g (LS.first g) = fun _ => none := by
  funext z; unfold levR; rw [if_neg]; rintro ⟨_, h⟩; exact h rfl
/-- what the document's Levels hands back -/
def RLvD (w : World) (g : G) (most : Nat) (e : Ending) (w' : World) : Prop :=
  ∃ b ml me Sb nl, e = .returned (.pointer (some ⟨b, 0, none⟩)) ∧ LvR w' b ml me Sb ((LS.all g (cornersN g) most).2 : Nat) (levV g (LS.all g (cornersN g) most).1) nl (egE g (LS.all g (cornersN g) most).1) ∧ Below w.heap.size w w'
/-- the rounds are over -/
def RRdF (W : World) (b ml me : Nat) (g : G) (most : Nat) (wr : World) : Prop :=
  ∃ S tp Sb nl, LvR wr b ml me Sb (tp : Nat) (levR g S) nl (egE g S) ∧ (S, tp) = LS.rounds g.n (cornersN g) (most - 1) 1 (LS.first g) ∧ Kept [b, ml, me] W wr
/-- rounds, under way -/
def RRdI (W : World) (b ml me : Nat) (g : G) (most gk : Nat) (wr : World) : Prop :=
  ∃ k tp K S Sb nl, LvR wr b ml me Sb (tp : Nat) (levR g S) nl (egE g S) ∧ LS.Inv g g.n tp K S (fun _ => false) ∧ (∀ a, S.lev a < tp) ∧ K ≤ 15 * 2 ^ (tp - 1) ∧ 1 ≤ tp ∧ tp + k = most ∧ LS.rounds g.n (cornersN g) k tp S = LS.rounds g.n (cornersN g) (most - 1) 1 (LS.first g) ∧ Kept [b, ml, me] W wr ∧ k ≤ gk
end Go.Proofs.YtjejkadaafmdcaaGreat
