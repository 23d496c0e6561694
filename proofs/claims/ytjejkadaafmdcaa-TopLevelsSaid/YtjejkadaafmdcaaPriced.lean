/- Lemmas of this claim: Priced. -/
import Derived.Test.YtjejkadaafmdcaaKTopLevels24
import Derived.Test.YtjejkadaafmdcaaKTopLevels8
import Derived.Test.YtjejkadaafmdcaaKTopLevels7
import Derived.Test.YtjejkadaafmdcaaKTopLevels20
set_option linter.unusedVariables false
set_option linter.unusedSimpArgs false
/- priced: a way over edges of the graph costs so much. -/
namespace Go.Proofs.Ytjejkadaafmdcaa
open Go.RowKit Go.Sort FR Go.Lib
theorem GraphOf.lts {w : World} {b p mb : Nat} {S : List Nat} {g : G} {v : Int} {E : Int → Option (List Ed)} (h : GraphOf w b p mb S g v E) : ∀ k ∈ b :: p :: mb :: S, k < w.heap.size := by
  obtain ⟨h1, h2, h3, _⟩ := h
  intro k hk
  have hm := h3.lt
  obtain ⟨_, _, _, _, _, _, _, _, h7⟩ := h3
  simp only [List.mem_cons] at hk
  rcases hk with rfl | rfl | rfl | hk
  · exact (Array.getElem?_eq_some_iff.1 h1).1
  · exact h2.lt
  · exact hm
  · exact h7 k hk
/-- the list of a corner of the graph, and where another one stands in it -/
theorem first_at {g : G} {a y : Nat} {e : C} (h : g.GE a y e) : ∃ i0, (EgL (LS.first g) g.n a)[i0]? = some ⟨((y : Nat) : Int), e, -1⟩ ∧ ∀ (k : Nat) (x : Ed), (EgL (LS.first g) g.n a)[k]? = some x → (x.to_ = ((y : Nat) : Int) ↔ k = i0) := by
  have he : (LS.first g).eg a y = some (e, -1) := by
    unfold LS.first
    simp only
    have := LS.GE_oct h
    rw [if_pos this, ← h.2.2.2.2]
  obtain ⟨q1, q2⟩ := lvHas h.2.1.1 he
  refine ⟨_, q2, fun k x hx => ?_⟩
  have hs := srt_EgL (LS.first g) g.n a
  constructor
  · intro hto
    rcases Nat.lt_trichotomy k (lowN (EgL (LS.first g) g.n a) ((y : Nat) : Int)) with q | q | q
    · have := hs _ _ _ _ q hx q2; simp only at this; omega
    · exact q
    · have := hs _ _ _ _ q q2 hx; simp only at this; omega
  · rintro rfl
    rw [q2] at hx; injection hx with hx; rw [← hx]
/-- the sum behind k entries, and whether the other one was among them -/
def sumAt (s e : C) (i0 k : Nat) : C := if i0 < k then C.add s e else s
theorem sumAt_hit {s e : C} {i0 : Nat} : sumAt s e i0 i0 = s ∧ sumAt s e i0 (i0 + 1) = C.add s e := by
  unfold sumAt; exact ⟨if_neg (by omega), if_pos (by omega)⟩
theorem sumAt_miss {s e : C} {i0 k : Nat} (h : k ≠ i0) : sumAt s e i0 (k + 1) = sumAt s e i0 k := by
  unfold sumAt
  by_cases q : i0 < k
  · rw [if_pos (by omega), if_pos q]
  · rw [if_neg (by omega), if_neg q]
theorem lw_drop {E : Nat → Nat → C → Prop} {L : List Nat} {j x y : Nat} {d : C} (h : LS.LW E (L.drop j) d) (hx : L[j]? = some x) (hy : L[j + 1]? = some y) : ∃ e d', E x y e ∧ LS.LW E (L.drop (j + 1)) d' ∧ d = C.add e d' := by
  obtain ⟨h1, h2⟩ := List.getElem?_eq_some_iff.1 hx
  obtain ⟨h3, h4⟩ := List.getElem?_eq_some_iff.1 hy
  rw [List.drop_eq_getElem_cons h1, h2, List.drop_eq_getElem_cons h3, h4] at h
  rw [List.drop_eq_getElem_cons h3, h4]
  cases h with
  | cons he h => exact ⟨_, _, he, h, rfl⟩
theorem lw_end {E : Nat → Nat → C → Prop} {L : List Nat} {d : C} (h : LS.LW E (L.drop (L.length - 1)) d) (hl : 0 < L.length) : d = C.zero := by
  rw [List.drop_eq_getElem_cons (by omega), List.drop_eq_nil_of_le (by omega)] at h
  cases h with
  | one a => rfl
set_option maxRecDepth 100000 in
set_option maxHeartbeats 3200000 in
theorem pricedT (w : World) (b p mb : Nat) (S : List Nat) (g : G) (v : Int) (E : Int → Option (List Ed)) (A : Option Addr) (n m : Nat) (f : Nat → Int) (L : List Nat) (a t : Nat) (c : C) (h : GraphOf w b p mb S g v E) (hs : GSpec g (fun _ _ => True) E) (hI : Ints w A n f) (hn : L.length = n)
    (hf : ∀ k x, L[k]? = some x → f k = (x : Nat)) (hW : LS.LW g.GE L c) (h0 : L[0]? = some a) (hl : L[n - 1]? = some t) (h2 : 2 ≤ n) (hnb : n ≤ 2000000) :
    Calls Try.prog 23 #[.pointer (some ⟨b, 0, none⟩), .slice A n m, .int .i64 (a : Nat), .int .i64 (t : Nat), .agg #[.int .i64 c.s, .int .i64 c.d]] w fun e w' => e = .returned (.bool true) ∧ Below w.heap.size w w' := by
  have hok := h.2.1.1
  have hgn := G.n_le hok
  obtain ⟨ad, hA⟩ := hI.addr (by omega)
  have hI' := hI
  rw [hA] at hI'
  have hbl := hI'.blk' (by omega)
  have hix := fun (k : Nat) (hk : k < n) wx => idx_run (m := m) hA hk wx
  have hc0 : w.cell? ad = some (.int .i64 (a : Nat)) := by
    have := hI'.cell (Below.refl _ w) (show 0 < n by omega)
    rw [hf 0 a h0] at this
    exact this
  have hcl : w.cell? (ad.add (n - 1)) = some (.int .i64 (t : Nat)) := by rw [← hf (n - 1) t hl]; exact hI'.cell (Below.refl _ _) (by omega)
  have hx0 : ∀ wx, (Instr.indexAt 22 (.slice A n m) (.int .i64 0)).run Try.prog wx = .ok (.pointer (some ad)) wx := fun wx => hix 0 (by omega) wx
  have hxl : ∀ wx, (Instr.indexAt 22 (.slice A n m) (.int .i64 ((n : Int) - 1))).run Try.prog wx = .ok (.pointer (some (ad.add (n - 1)))) wx := fun wx => by
    have := hix (n - 1) (by omega) wx
    rw [show ((n - 1 : Nat) : Int) = (n : Int) - 1 by omega] at this; exact this
  obtain ⟨cs, cd⟩ := c
  have HG := Lib.hid (And.intro h hs)
  have HI := Lib.hid hI'
  have HX := Lib.hid hix
  have HL := Lib.hid (And.intro hn hf)
  have HWl := Lib.hid hW
  have Hok := Lib.hid hok
  have hb : ∀ k ∈ b :: p :: mb :: S, k < w.heap.size := h.lts
  have Hb := Lib.hid hb
  clear h hs hI hI' hix hn hf hW hA h0 hl hok hb
  go_enter Try.func23, Try.ntmps23
  go_upto_region 1 with (fail)
  refine wp_name ?_
  intro W hW
  have HW : Below w.heap.size w W := by rw [hW]; (repeat' (first | exact Below.refl _ _ | assumption | apply bel_drewN | apply bel_drew | apply bel_alloc | (refine bel_trans ?_ (by assumption))))
  have k0 : ∀ w', Below W.heap.size W w' → w'.cell? ⟨w.heap.size, 0, none⟩ = some (.int .i64 cs : Value) := fun w' hbw => (hbw.cell (p := ⟨w.heap.size, 0, none⟩) (by rw [hW]; simp <;> omega)).trans (by rw [hW]; go_simp)
  have k1 : ∀ w', Below W.heap.size W w' → w'.cell? ⟨w.heap.size, 1, none⟩ = some (.int .i64 cd : Value) := fun w' hbw => (hbw.cell (p := ⟨w.heap.size, 1, none⟩) (by rw [hW]; simp <;> omega)).trans (by rw [hW]; go_simp)
  have hWs : W.heap.size = w.heap.size + 1 := by rw [hW]; simp
  clear hW
  have hc0 := bel_cell HW hc0
  have hcl := bel_cell HW hcl
  go_upto_region 4 with (fail)
  refine wp_name ?_
  intro W3 hW3
  have HW3 : Below W.heap.size W W3 := by rw [hW3]; (repeat' (first | exact Below.refl _ _ | assumption | apply bel_drewN | apply bel_drew | apply bel_alloc | (refine bel_trans ?_ (by assumption))))
  obtain ⟨b6, hb6⟩ : ∃ z, W.heap.size = z := ⟨_, rfl⟩
  have hW3s : W3.heap.size = b6 + 1 := by rw [hW3]; simp; omega
  have q60 : W3.cell? ⟨b6, 0, none⟩ = some (.int .i64 0) := by rw [hW3, ← hb6]; go_simp
  have q61 : W3.cell? ⟨b6, 1, none⟩ = some (.int .i64 0) := by rw [hW3, ← hb6]; go_simp
  have r60 : W3.frozen? ⟨b6, 0, none⟩ = false := by rw [hW3, ← hb6]; go_simp
  have r61 : W3.frozen? ⟨b6, 1, none⟩ = false := by rw [hW3, ← hb6]; go_simp
  have k0 := k0 W3 HW3
  have k1 := k1 W3 HW3
  have HB3 := bel_trans HW HW3
  obtain ⟨b9, hb9⟩ : ∃ z, w.heap.size = z := ⟨_, rfl⟩
  rw [hb9] at k0 k1
  have h91 : b9 + 1 = b6 := by omega
  rw [hb9, h91]
  have hbb : b9 < b6 := by omega
  clear h91
  have hstart : RWJ W3 b6 ⟨0, 0⟩ W3 := ⟨q60, q61, r60, r61, Kept.refl _ _⟩
  have HG3 := Lib.hid (HG.out.1.below HB3)
  have HGs := Lib.hid HG.out.2
  have HI3 := Lib.hid (HI.out.below HB3)
  have hT : ∀ k ∈ b :: p :: mb :: S, k ∉ [b6] := fun k hk => by have := Hb.out k hk; simp; omega
  have HT := Lib.hid hT
  have hadb : ad.block < b9 := by omega
  have hws : w.heap.size ≤ W3.heap.size := HB3.size
  clear hW3 q60 q61 r60 r61 hc0 hcl hx0 hxl hT
  go_wp2_with fail
  go_loopw [12] (fun kv wr => ∃ (j : Nat) (x : Int) (s d : C), x = (j : Int) + 1 ∧ j + 1 ≤ n ∧ kv = .int .i64 x ∧ LS.LW g.GE (L.drop j) d ∧ C.add s d = ⟨cs, cd⟩ ∧ (0 ≤ s.s ∧ s.s ≤ 15 * j ∧ 0 ≤ s.d ∧ s.d ≤ 15 * j) ∧ RWJ W3 b6 s wr) (fun kv _ => n - (intOf kv).toNat)
  case atStart => exact ⟨0, 1, ⟨0, 0⟩, ⟨cs, cd⟩, rfl, by omega, rfl, HWl.out, by simp [C.add], by simp, hstart⟩
  case round =>
    obtain ⟨j, x, ⟨s1, s2⟩, d, hx, hj, rfl, hd, hsum, ⟨bd1, bd2, bd3, bd4⟩, c60, c61, r60, r61, hK⟩ := hrel
    have k0 := cellK hK (by simp; omega) k0
    have k1 := cellK hK (by simp; omega) k1
    simp only at c60 c61 bd1 bd2 bd3 bd4
    clear hstart
    have hx1 : 1 ≤ x := by omega
    have hx2 : x ≤ 2000000 := by omega
    by_cases hlt : x < n
    · obtain ⟨xa, hxa⟩ : ∃ z, L[j]? = some z := ⟨L[j]'(by rw [HL.out.1]; omega), List.getElem?_eq_getElem _⟩
      obtain ⟨y, hy⟩ : ∃ z, L[j + 1]? = some z := ⟨L[j + 1]'(by rw [HL.out.1]; omega), List.getElem?_eq_getElem _⟩
      obtain ⟨⟨e1, e2⟩, d', hge, hd', rfl⟩ := lw_drop hd hxa hy
      obtain ⟨i0, hi0, hiff⟩ := first_at hge
      have hsm : 0 ≤ e1 ∧ e1 ≤ 15 ∧ 0 ≤ e2 ∧ e2 ≤ 15 := by
        have := G.oct_small Hok.out hge.2.1.1 hge.1.1
        rw [← hge.2.2.2.2] at this; exact this
      have hxm : ∀ wx, (Instr.indexAt 22 (.slice A n m) (.int .i64 (x - 1))).run Try.prog wx = .ok (.pointer (some (ad.add j))) wx := fun wx => by
        have := HX.out j (by omega) wx
        rw [show ((j : Nat) : Int) = x - 1 by omega] at this; exact this
      have hxx : ∀ wx, (Instr.indexAt 22 (.slice A n m) (.int .i64 x)).run Try.prog wx = .ok (.pointer (some (ad.add (j + 1)))) wx := fun wx => by
        have := HX.out (j + 1) (by omega) wx
        rw [show ((j + 1 : Nat) : Int) = x by omega] at this; exact this
      have hE1 : wr.cell? (ad.add j) = some (.int .i64 (xa : Nat)) := by
        rw [← HL.out.2 j xa hxa]
        exact adK hK (by simp; omega) (HI3.out.cell (Below.refl _ _) (by omega))
      have hE2 : wr.cell? (ad.add (j + 1)) = some (.int .i64 (y : Nat)) := by
        rw [← HL.out.2 (j + 1) y hy]
        exact adK hK (by simp; omega) (HI3.out.cell (Below.refl _ _) (by omega))
      have cE := Lib.hid (graphEdges wr b p mb S g v E (HG3.out.kept hK HT.out) (xa : Nat) _ (gspec_has HGs.out hge.1) (by have := len_EgL (LS.first g) g.n xa; omega))
      obtain ⟨j1, hj1⟩ : ∃ z, j + 1 = z := ⟨_, rfl⟩
      rw [hj1] at hE2 hxx
      have HE2 := Lib.hid hE2
      have HXX := Lib.hid hxx
      have Hge := Lib.hid (And.intro hge (And.intro hi0 hiff))
      have HD := Lib.hid (And.intro hx (And.intro hd' hsum))
      have HK := Lib.hid hK
      obtain ⟨nE, hnE⟩ : ∃ z, (EgL (LS.first g) g.n xa).length = z := ⟨_, rfl⟩
      have hi0n : i0 < nE := by rw [← hnE]; exact (List.getElem?_eq_some_iff.1 hi0).1
      have hnE2 : nE ≤ 256 := by rw [← hnE]; exact Nat.le_trans (len_EgL _ _ _) hgn
      have HnE := Lib.hid hnE
      have hwr3 := hK.size
      clear hxa hy hge hi0 hiff hd hd' hsum hK hE2 hxx hx k0 k1 hj1
      go_wp2_with fail
      (with_reducible refine cE.out.mono ?_)
      rintro e w1 ⟨AE, mE, rfl, hEd, hAn, hb1⟩
      obtain ⟨wo, rfl⟩ : ∃ z : World, z = wr := ⟨_, rfl⟩
      rw [HnE.out]
      have HEd := Lib.hid hEd
      have HAn : Hid (∀ ad', AE = some ad' → ad'.block ∉ [b6]) := Lib.hid (fun ad' e => by have := hAn ad' e; simp; omega)
      have Hb1 := Lib.hid hb1
      have hs0 : RWJ w1 b6 (sumAt ⟨s1, s2⟩ ⟨e1, e2⟩ i0 0) w1 := by
        unfold sumAt; rw [if_neg (by omega)]
        exact ⟨bel_cell hb1 c60, bel_cell hb1 c61, bframe hb1 (by simp only; omega) r60, bframe hb1 (by simp only; omega) r61, Kept.refl _ _⟩
      have hE2 := bel_cell hb1 HE2.out
      have HE2 := Lib.hid hE2
      have hw1 := hb1.size
      clear hEd hAn hb1 c60 c61 r60 r61 hE1 hxm cE hE2
      go_wp2_with fail
      go_loopw [15, 16] (fun fv kv wk => ∃ k : Nat, kv = .int .i64 k ∧ k ≤ nE ∧ fv = .bool (decide (i0 < k)) ∧ RWJ w1 b6 (sumAt ⟨s1, s2⟩ ⟨e1, e2⟩ i0 k) wk) (fun _ kv _ => nE - (intOf kv).toNat)
      case atStart => exact ⟨0, rfl, by omega, by simp, hs0⟩
      case round =>
        obtain ⟨k, rfl, hk, rfl, hJ⟩ := hrel
        obtain ⟨fd, hfd0⟩ : ∃ z, decide (i0 < k) = z := ⟨_, rfl⟩
        rw [hfd0]
        have Hfd0 := Lib.hid hfd0
        clear hs0 hfd0
        by_cases hlk : k < nE
        · obtain ⟨ek, hek⟩ : ∃ z, (EgL (LS.first g) g.n xa)[k]? = some z := ⟨(EgL (LS.first g) g.n xa)[k]'(by rw [HnE.out]; exact hlk), List.getElem?_eq_getElem _⟩
          have hKk := hJ.2.2.2.2
          obtain ⟨gb, hA, a1, a2, a3, a4⟩ := (HEd.out.kept hKk HAn.out).get hek
          have hix := fun wx => idxE (m := mE) hA hlk wx
          have hxx := HXX.out
          have hE2 := adK hKk (by simp; omega) HE2.out
          have hdec := Hge.out.2.2 k ek hek
          have h5 : k = i0 → ek = ⟨((y : Nat) : Int), ⟨e1, e2⟩, -1⟩ := fun q => by
            subst q
            have := Hge.out.2.1
            rw [hek] at this; injection this
          obtain ⟨xt, ⟨xs, xd⟩, xm⟩ := ek
          simp only at a1 a2 a3 a4 hdec
          have hJ2 := hJ
          obtain ⟨c60, c61, r60, r61, _⟩ := hJ2
          have HJ := Lib.hid hJ
          by_cases hk0 : k = i0
          · subst hk0
            have h6 := h5 rfl
            injection h6 with h7 h8 h9
            injection h8 with h10 h11
            subst h7 h9 h10 h11
            rw [sumAt_hit.1] at c60 c61
            simp only at c60 c61
            have hd1 : (((y : Nat) : Int) == ((y : Nat) : Int)) = true := by simp
            have cP := Lib.hid (fun w => refPlus s1 s2 xs xd w (by unfold inC; omega) (by unfold inC; omega) (by unfold inC; omega) (by unfold inC; omega))
            clear hA hek hdec h5 hJ hKk
            go_upto_region 12 with (fail)
            go_quiet (fail)
            have hb5 : Below wr.heap.size wr (wr.drewN nq) := bel_drewN (Below.refl _ _)
            have hK5 := Lib.hid (HJ.out.2.2.2.2.trans (.of_below hb5))
            have c60 := bel_cell hb5 c60
            have c61 := bel_cell hb5 c61
            have r60 := bframe hb5 (by simp only; have := HJ.out.2.2.2.2.size; omega) r60
            have r61 := bframe hb5 (by simp only; have := HJ.out.2.2.2.2.size; omega) r61
            have a2 := bel_cell hb5 a2
            have a3 := bel_cell hb5 a3
            have hsz5 : b6 < (wr.drewN nq).heap.size := by have := HJ.out.2.2.2.2.size; have := hb5.size; omega
            clear HJ a1 a4 hE2 hxx hb5
            generalize wr.drewN nq = w5 at *
            go_upto_region 13 with (fail)
            go_cut [] (fun wx => RWJ w1 b6 ⟨s1 + xs, s2 + xd⟩ wx)
            case first =>
              go_region_with (go_at_call 31; refine (cP.out _).mono ?_; rintro e wA ⟨rfl, hbA⟩; have c60 := bel_cell hbA c60; have c61 := bel_cell hbA c61; have r60 := bframe hbA (by simp only; simp; omega) r60; have r61 := bframe hbA (by simp only; simp; omega) r61)
              all_goals
                have hbw : Below w5.heap.size w5 wA := bel_trans (bel_drew (Below.refl w5.heap.size w5)) hbA
                have hin := Lib.hid (RWJ.of_set (x := s1 + xs) (y := s2 + xd) hK5.out hbw c60 c61 r60 r61)
                clear c60 c61 r60 r61 hbA hbw a2 a3 hix
                go_wp2
                go_meet
                case rel => exact hin.out
            case rest =>
              have hJ : RWJ w1 b6 (sumAt ⟨s1, s2⟩ ⟨xs, xd⟩ k (k + 1)) wc := by rw [sumAt_hit.2]; exact hcut
              have hJ := Lib.hid hJ
              clear hcut cP c60 c61 r60 r61 a2 a3 hix hK5
              go_wp2
              go_roundw
              case rel => first | exact ⟨k + 1, by go_num, by omega, by simp, hJ.out⟩ | ((repeat apply Exists.intro); exact ⟨⟨k + 1, by go_num, by omega, by simp, hJ.out⟩, rfl⟩)
              case measure => simp [intOf]; omega
          · have hd1 : (xt == ((y : Nat) : Int)) = false := by
              cases hq : (xt == ((y : Nat) : Int)) with
              | false => rfl
              | true => exact absurd (hdec.1 (by simpa using hq)) hk0
            have hJ5 := HJ.out
            rw [← sumAt_miss hk0] at hJ5
            have HJ5 := Lib.hid hJ5
            have hfd : decide (i0 < k) = decide (i0 < k + 1) := by
              by_cases q : i0 < k
              · simp [q]; omega
              · simp [q]; omega
            rw [Hfd0.out] at hfd
            have Hfd := Lib.hid hfd
            clear hA hek hdec h5 hJ hKk c60 c61 r60 r61 HJ hJ5 hfd
            go_upto_region 12 with (fail)
            go_quiet (fail)
            have hF : RWJ w1 b6 (sumAt ⟨s1, s2⟩ ⟨e1, e2⟩ i0 (k + 1)) (wr.drewN nq) := HJ5.out.below (bel_drewN (Below.refl _ _))
            have hF := Lib.hid hF
            clear a1 a2 a3 a4 hE2 hxx hix HJ5
            go_wp2
            go_roundw
            case rel => first | exact ⟨k + 1, by go_num, by omega, by rw [Hfd.out], hF.out⟩ | ((repeat apply Exists.intro); exact ⟨⟨k + 1, by go_num, by omega, by rw [Hfd.out], hF.out⟩, rfl⟩)
            case measure => simp [intOf]; omega
        · obtain rfl : k = nE := by omega
          have hsA : sumAt ⟨s1, s2⟩ ⟨e1, e2⟩ i0 k = ⟨s1 + e1, s2 + e2⟩ := by unfold sumAt; rw [if_pos hi0n]; rfl
          rw [hsA] at hJ
          obtain ⟨c60, c61, r60, r61, hK5⟩ := hJ
          have hF : RWJ W3 b6 ⟨s1 + e1, s2 + e2⟩ wr := ⟨c60, c61, r60, r61, (HK.out.trans (.of_below Hb1.out)).trans hK5⟩
          have hsum' : C.add ⟨s1 + e1, s2 + e2⟩ d' = ⟨cs, cd⟩ := by
            have := HD.out.2.2
            rw [← C.add_assoc] at this; exact this
          have hft : decide (i0 < k) = true := by simp [hi0n]
          have hF := Lib.hid (And.intro hF hsum')
          rw [Hfd0.out] at hft
          subst hft
          clear c60 c61 r60 r61 hK5 hsum' hsA
          go_wp2
          go_roundw
          case rel => first | exact ⟨j + 1, x + 1, ⟨s1 + e1, s2 + e2⟩, d', by (have := HD.out.1; omega), by (have := HD.out.1; omega), by go_num, HD.out.2.1, hF.out.2, ⟨by simp only; omega, by simp only; omega, by simp only; omega, by simp only; omega⟩, hF.out.1⟩ | ((repeat apply Exists.intro); exact ⟨⟨j + 1, x + 1, ⟨s1 + e1, s2 + e2⟩, d', by (have := HD.out.1; omega), by (have := HD.out.1; omega), by go_num, HD.out.2.1, hF.out.2, ⟨by simp only; omega, by simp only; omega, by simp only; omega, by simp only; omega⟩, hF.out.1⟩, rfl⟩)
          case measure => have := HD.out.1; simp [intOf]; omega
    · have hjn : j = L.length - 1 := by rw [HL.out.1]; omega
      subst hjn
      have hz := lw_end hd (by rw [HL.out.1]; omega)
      subst hz
      have hse : s1 = cs ∧ s2 = cd := by
        unfold C.add C.zero at hsum
        injection hsum with h1 h2
        simp only at h1 h2
        exact ⟨by omega, by omega⟩
      obtain ⟨rfl, rfl⟩ := hse
      have hB : Below w.heap.size w wr := Kept.below HB3 hK hws (by simp; omega)
      rw [hb9] at hB
      have HB := Lib.hid hB
      have hx2 : ¬ x < n := hlt
      clear hd hsum hK hB hx hj bd1 bd2 bd3 bd4
      go_wp2
      go_ret
      first | exact ⟨rfl, HB.out⟩ | exact ⟨by simp, HB.out⟩
end Go.Proofs.Ytjejkadaafmdcaa
