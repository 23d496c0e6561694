/- Lemmas of this claim: RTx7. -/
import Derived.Test.YtjejkadaafmdcaaDoorRTx6
import Derived.Deep.DeepCutAuto
set_option linter.unusedVariables false
set_option linter.unusedSimpArgs false
/- The document's Parse. -/
namespace Go.Proofs.YtjejkadaafmdcaaDoor
open Go.RowKit Go.Sort FR
def RParsed (w : World) (l : List UInt8) (e : Ending) (w' : World) : Prop :=
  (∃ k : Nat, parseS l = .bad k ∧ 0 < k ∧ e = .returned (.tuple #[.pointer none, .int .i64 (k : Nat)]) ∧ Below w.heap.size w w') ∨
  ∃ a b R p, parseS l = .ok a b R ∧ e = .returned (.tuple #[.pointer (some ⟨p, 0, none⟩), .int .i64 0]) ∧ w.heap.size ≤ p ∧ RGridAt w' p (partG a b R (b * a)) (cntB (rowsB a R) (b * a)) ∧ Below w.heap.size w w'
theorem RParsed.no {w w' : World} {l : List UInt8} (k : Nat) (h : parseS l = .bad k) (hk : 0 < k) (hb : Below w.heap.size w w') : RParsed w l (.returned (.tuple #[.pointer none, .int .i64 (k : Nat)])) w' := .inl ⟨k, h, hk, rfl, hb⟩
theorem bcell {w w' : World} {a : Addr} {v : Value} (h : Below w.heap.size w w') (hc : w.cell? a = some v) : w'.cell? a = some v := (h.cell (World.block_lt_of_cell? w _ hc)).trans hc
theorem sidx_run {A : Option Addr} {ad : Addr} {n m k : Nat} (h : A = some ad) (hk : k < n) (wx : World) : (Instr.indexAt 72 (.slice A n m) (.int .i64 (k : Nat))).run Tryd.prog wx = .ok (.pointer (some (ad.add k))) wx := by
  subst h
  have q : (k : Int) < (n : Int) := by omega
  go_simp
theorem sidx_lit {A : Option Addr} {ad b : Addr} {n m : Nat} (k : Nat) (z : Int) (hz : z = (k : Nat)) (h : A = some ad) (hk : k < n) (hb : ad.add k = b) (wx : World) : (Instr.indexAt 72 (.slice A n m) (.int .i64 z)).run Tryd.prog wx = .ok (.pointer (some b)) wx := by
  subst hz
  rw [← hb]
  exact sidx_run h hk wx
theorem Strs.kept {S : List Nat} {w w' : World} {A : Option Addr} {zs : List (List UInt8)} (h : Strs w A zs) (hk : Kept S w w') (hS : ∀ ad, A = some ad → ad.block ∉ S) : Strs w' A zs := fun hn => by
  obtain ⟨ad, h1, h2, h3⟩ := h hn
  refine ⟨ad, h1, Nat.lt_of_lt_of_le h2 hk.size, fun k z hz => ?_⟩
  rw [← h3 k z hz]
  unfold World.cell?
  rw [add_block, hk.block _ h2 (hS ad h1)]
theorem sized_range {t s : List UInt8} {d h : Int} (hd : numT t = some d) (hh : numT s = some h) :
    (1 ≤ d ∧ d ≤ 16 ∧ 1 ≤ h ∧ h ≤ 16 → sizedT t = d ∧ sizedT s = h) ∧ (¬ (1 ≤ d ∧ d ≤ 16 ∧ 1 ≤ h ∧ h ≤ 16) → ¬ (1 ≤ sizedT t ∧ sizedT t ≤ 16 ∧ 1 ≤ sizedT s ∧ sizedT s ≤ 16)) := by
  have h1 := sizedT_of hd
  have h2 := sizedT_of hh
  constructor
  · intro k
    rcases h1 with h1 | h1 <;> rcases h2 with h2 | h2 <;> omega
  · intro k k2
    rcases h1 with h1 | h1 <;> rcases h2 with h2 | h2 <;> omega
set_option maxRecDepth 100000 in
set_option maxHeartbeats 6400000 in
theorem rParse (w : World) (l : List UInt8) :
    Calls Tryd.prog 14 #[.string (bs l)] w fun e w' => RParsed w l e w' := by
  by_cases h1000 : 1000 < l.length
  · have hp := parse_many h1000
    go_enter Tryd.func14, Tryd.ntmps14
    go_wp2_with fail
    go_ret2
    exact RParsed.no 2 hp (by decide) (Below.refl _ _)
  have hlen : l.length ≤ 1000 := by omega
  clear h1000
  obtain ⟨Ls, hLs⟩ : ∃ x, (lns l).1 = x := ⟨_, rfl⟩
  obtain ⟨r, hr⟩ : ∃ x, (lns l).2 = x := ⟨_, rfl⟩
  have cL := rLines l hlen w
  rw [hLs, hr] at cL
  replace cL := Lib.hid cL
  have hle : ∀ x ∈ Ls, x.length ≤ 1000 := fun x hx => Nat.le_trans (lns_le l x (by rw [hLs]; exact hx)) hlen
  replace hle := Lib.hid hle
  replace hLs := Lib.hid hLs
  replace hr := Lib.hid hr
  go_enter Tryd.func14, Tryd.ntmps14
  go_wp2_with fail
  refine cL.out.mono ?_
  rintro e w1 ⟨A, m, rfl, hS, HB⟩
  clear cL
  by_cases h4 : Ls.length < 4
  · have hp := Lib.hid (parse_few hlen (by rw [hLs.out]; exact h4))
    have q : (Ls.length : Int) < 4 := by omega
    clear h4
    go_wp2_with fail
    go_ret2
    exact RParsed.no 3 hp.out (by decide) HB
  have q4 : ¬ ((Ls.length : Int) < 4) := by omega
  obtain ⟨a0, a1, a2, a3, M, hM⟩ : ∃ a0 a1 a2 a3 M, Ls = a0 :: a1 :: a2 :: a3 :: M := by
    match Ls, h4 with
    | a0 :: a1 :: a2 :: a3 :: M, _ => exact ⟨a0, a1, a2, a3, M, rfl⟩
    | [], h => simp at h
    | [_], h => simp at h
    | [_, _], h => simp at h
    | [_, _, _], h => simp at h
  have m1 : a1.length ≤ 1000 := hle.out a1 (by rw [hM]; simp)
  have m2 : a2.length ≤ 1000 := hle.out a2 (by rw [hM]; simp)
  obtain ⟨ad, hAd, hadlt, hcells⟩ := hS (by omega)
  have c0 := hcells 0 a0 (by rw [hM]; rfl)
  have c1 := hcells 1 a1 (by rw [hM]; rfl)
  have c2 := hcells 2 a2 (by rw [hM]; rfl)
  have c3 := hcells 3 a3 (by rw [hM]; rfl)
  obtain ⟨b0, hb0⟩ : ∃ b, ad.add 0 = b := ⟨_, rfl⟩
  obtain ⟨b1, hb1⟩ : ∃ b, ad.add 1 = b := ⟨_, rfl⟩
  obtain ⟨b2, hb2⟩ : ∃ b, ad.add 2 = b := ⟨_, rfl⟩
  obtain ⟨b3, hb3⟩ : ∃ b, ad.add 3 = b := ⟨_, rfl⟩
  rw [hb0] at c0; rw [hb1] at c1; rw [hb2] at c2; rw [hb3] at c3
  have i0 := sidx_lit (m := m) (n := Ls.length) 0 0 rfl hAd (by omega) hb0
  have i1 := sidx_lit (m := m) (n := Ls.length) 1 1 rfl hAd (by omega) hb1
  have i2 := sidx_lit (m := m) (n := Ls.length) 2 2 rfl hAd (by omega) hb2
  have i3 := sidx_lit (m := m) (n := Ls.length) 3 3 rfl hAd (by omega) hb3
  clear hb0 hb1 hb2 hb3 h4
  replace hM := Lib.hid hM
  replace hcells := Lib.hid hcells
  replace hAd := Lib.hid hAd
  have hh1 : (numOf hgtW a1).isSome = true ∨ (numOf hgtW a1).isSome = false := by cases (numOf hgtW a1).isSome <;> simp
  have C1 := rHeaded a1 hgtW m1 (by decide) w1
  obtain ⟨ok1, hk1⟩ : ∃ b, (numOf hgtW a1).isSome = b := ⟨_, rfl⟩
  obtain ⟨ok2, hk2⟩ : ∃ b, (numOf wdtW a2).isSome = b := ⟨_, rfl⟩
  have C2 := Lib.hid (fun (wx : World) => rHeaded a2 wdtW m2 (by decide) wx)
  rw [hk1] at C1
  rw [hk2] at C2
  replace C1 := Lib.hid C1
  replace hk1 := Lib.hid hk1
  replace hk2 := Lib.hid hk2
  clear hh1
  go_wp2_with fail
  refine C1.out.mono ?_
  rintro e w2 ⟨rfl, hb2⟩
  have HB2 := bel_trans HB hb2
  replace c0 := bcell hb2 c0
  replace c1 := bcell hb2 c1
  replace c2 := bcell hb2 c2
  replace c3 := bcell hb2 c3
  go_wp2_with fail
  refine (C2.out _).mono ?_
  rintro e w3 ⟨rfl, hb3⟩
  replace c0 := bcell hb3 c0
  replace c1 := bcell hb3 c1
  replace c2 := bcell hb3 c2
  replace c3 := bcell hb3 c3
  have HB3 := bel_trans HB2 hb3
  have HBS := bel_trans hb2 hb3
  have hsz1 := HB.size
  clear HB2 hb2 hb3 C1 C2 HB
  have bad : (a0 ≠ octW ∨ (numOf hgtW a1).isSome = false ∨ (numOf wdtW a2).isSome = false ∨ a3 ≠ mapW) → parseS l = .bad 3 := fun k => parse_head hlen (by rw [hLs.out, hM.out]; exact head_bad k)
  replace bad := Lib.hid bad
  by_cases e0 : a0 = [116, 121, 112, 101, 32, 111, 99, 116, 105, 108, 101]
  case neg =>
    have e0b : (a0 == [116, 121, 112, 101, 32, 111, 99, 116, 105, 108, 101]) = false := beq_eq_false_iff_ne.2 e0
    go_wp2_with fail
    go_ret2
    exact RParsed.no 3 (bad.out (.inl e0)) (by decide) HB3
  have e0b : (a0 == [116, 121, 112, 101, 32, 111, 99, 116, 105, 108, 101]) = true := by simp [e0]
  replace e0 := Lib.hid e0
  cases ok1 with
  | false =>
    go_wp2_with fail
    go_ret2
    exact RParsed.no 3 (bad.out (.inr (.inl hk1.out))) (by decide) HB3
  | true =>
  cases ok2 with
  | false =>
    go_wp2_with fail
    go_ret2
    exact RParsed.no 3 (bad.out (.inr (.inr (.inl hk2.out)))) (by decide) HB3
  | true =>
  by_cases e3 : a3 = [109, 97, 112]
  case neg =>
    have e3b : (a3 == [109, 97, 112]) = false := beq_eq_false_iff_ne.2 e3
    go_wp2_with fail
    go_ret2
    exact RParsed.no 3 (bad.out (.inr (.inr (.inr e3)))) (by decide) HB3
  have e3b : (a3 == [109, 97, 112]) = true := by simp [e3]
  replace e3 := Lib.hid e3
  clear bad
  obtain ⟨h, hn1⟩ := Option.isSome_iff_exists.1 hk1.out
  obtain ⟨d, hn2⟩ := Option.isSome_iff_exists.1 hk2.out
  have hhd : headS (lns l).1 = some (h, d) := by rw [hLs.out, hM.out, e0.out, e3.out]; exact head_good hn1 hn2
  have cW : ∀ wx, Calls Tryd.prog 33 #[.string (bs a2), .string (bs [119, 105, 100, 116, 104, 32])] wx fun e w' => e = .returned (.int .i64 (sizedT (a2.drop wdtW.length))) ∧ Below wx.heap.size wx w' := fun wx => rSized a2 wdtW d m2 (by decide) hn2 wx
  have cH : ∀ wx, Calls Tryd.prog 33 #[.string (bs a1), .string (bs [104, 101, 105, 103, 104, 116, 32])] wx fun e w' => e = .returned (.int .i64 (sizedT (a1.drop hgtW.length))) ∧ Below wx.heap.size wx w' := fun wx => rSized a1 hgtW h m1 (by decide) hn1 wx
  have hr1 : numT (a1.drop hgtW.length) = some h := by
    obtain ⟨k1, k2⟩ := numOf_parts hn1
    rw [← numOf_yes (by omega) k2]; exact hn1
  have hr2 : numT (a2.drop wdtW.length) = some d := by
    obtain ⟨k1, k2⟩ := numOf_parts hn2
    rw [← numOf_yes (by omega) k2]; exact hn2
  obtain ⟨rg1, rg2⟩ := sized_range hr2 hr1
  obtain ⟨sw, hsw⟩ : ∃ x, sizedT (a2.drop wdtW.length) = x := ⟨_, rfl⟩
  obtain ⟨sh, hsh⟩ : ∃ x, sizedT (a1.drop hgtW.length) = x := ⟨_, rfl⟩
  rw [hsw, hsh] at rg1 rg2
  simp only [hsw] at cW
  simp only [hsh] at cH
  replace cW := Lib.hid cW
  replace cH := Lib.hid cH
  replace hhd := Lib.hid hhd
  clear hn1 hn2 hr1 hr2 hsw hsh hk1 hk2
  have hdr := bel_drew (Below.refl w3.heap.size w3)
  have j1 := bcell hdr c1
  have j2 := bcell hdr c2
  have HBd := bel_trans HB3 hdr
  have HBq := bel_trans HBS hdr
  by_cases hsz : 1 ≤ d ∧ d ≤ 16 ∧ 1 ≤ h ∧ h ≤ 16
  case neg =>
    have hp := Lib.hid (parse_size hlen hhd.out hsz)
    have hsz' := Lib.hid (rg2 hsz)
    clear rg1 rg2 hsz hdr HBq
    go_upto_region 10 with (fail)
    go_cut [8, 9] (fun x y wx => x = .pointer none ∧ y = .int .i64 1 ∧ Below w.heap.size w wx)
    case first =>
      go_region_with
        (first
          | (go_at_call 33
             first
               | (with_reducible refine (cW.out _).mono ?_)
               | (with_reducible refine (cH.out _).mono ?_)
             rintro e wA ⟨rfl, hbA⟩
             have j1 := bcell hbA j1
             have j2 := bcell hbA j2
             have HBd := bel_trans HBd hbA)
          | (go_at_call 20
             (with_reducible refine (rNew_bad sw sh _ hsz'.out).mono ?_)
             rintro e wB ⟨rfl, rfl⟩))
      all_goals
        go_wp2
        go_meet
        case rel => exact ⟨rfl, rfl, HBd⟩
    case rest =>
      obtain ⟨rfl, rfl, HB4⟩ := hcut
      go_wp2_with fail
      go_ret2
      exact RParsed.no 1 hp.out (by decide) HB4
  obtain ⟨rfl, rfl⟩ := rg1 hsz
  clear rg1 rg2 hdr
  obtain ⟨s1, s2, s3, s4⟩ := hsz
  obtain ⟨wd, rfl⟩ := Int.eq_ofNat_of_zero_le (show 0 ≤ sw by omega)
  obtain ⟨ht, rfl⟩ := Int.eq_ofNat_of_zero_le (show 0 ≤ sh by omega)
  have n1 : 1 ≤ wd := by omega
  have n2 : wd ≤ 16 := by omega
  have n3 : 1 ≤ ht := by omega
  have n4 : ht ≤ 16 := by omega
  clear s1 s2 s3 s4
  obtain ⟨R, hR⟩ : ∃ R, Ls.drop 4 = R := ⟨_, rfl⟩
  replace hR := Lib.hid hR
  have bad : ¬ (Ls.length = 4 + ht ∧ r = [] ∧ rowsOk wd R = true) → parseS l = .bad 3 := fun k => parse_body hlen hhd.out ⟨n1, n2, n3, n4⟩ (by rw [hLs.out, hr.out, hR.out]; exact k)
  have good : (Ls.length = 4 + ht ∧ r = [] ∧ rowsOk wd R = true) → parseS l = .ok wd ht R := fun k => by
    have := parse_ok hlen hhd.out ⟨n1, n2, n3, n4⟩ (by rw [hLs.out, hr.out, hR.out]; exact k)
    rwa [hLs.out, hR.out] at this
  replace bad := Lib.hid bad
  replace good := Lib.hid good
  have hG0 : (⟨((wd : Nat) : Int).toNat, ((ht : Nat) : Int).toNat, fun _ => false⟩ : G) = partG wd ht R 0 := by unfold partG; simp
  replace hG0 := Lib.hid hG0
  go_upto_region 10 with (fail)
  go_cut [8, 9] (fun x y wx => ∃ P, x = .pointer (some ⟨P, 0, none⟩) ∧ y = .int .i64 0 ∧ w1.heap.size ≤ P ∧ RGridAt wx P (partG wd ht R 0) 0 ∧ Below w.heap.size w wx ∧ Below w1.heap.size w1 wx)
  case first =>
    clear hhd bad good
    go_region_with
      (first
        | (go_at_call 33
           first
             | (with_reducible refine (cW.out _).mono ?_)
             | (with_reducible refine (cH.out _).mono ?_)
           rintro e wA ⟨rfl, hbA⟩
           have j1 := bcell hbA j1
           have j2 := bcell hbA j2
           have HBd := bel_trans HBd hbA
           have HBq := bel_trans HBq hbA)
        | (go_at_call 20
           (with_reducible refine (rNew_ex (wd : Nat) (ht : Nat) _ ⟨by omega, by omega, by omega, by omega⟩).mono ?_)
           rintro e wB ⟨P, rfl, hP, hGB, hbB⟩))
    all_goals
      go_wp2
      go_meet
      case rel => exact ⟨P, rfl, rfl, Nat.le_trans HBq.size hP, by rw [← hG0.out]; exact hGB, bel_trans HBd hbB, bel_trans HBq hbB⟩
  case rest =>
    obtain ⟨P, rfl, rfl, hP1, hG, HB4, HQ⟩ := hcut
    clear HBd HBq j1 j2 c0 c1 c2 c3 i0 i1 i2 i3 cW cH hG0 e0 e3 e0b e3b HB3 HBS hhd
    have hSc := hS.below HQ
    have hPw : w.heap.size ≤ P := Nat.le_trans hsz1 hP1
    have hno : ∀ ad', A = some ad' → ad'.block ∉ [P] := fun ad' e => by
      have := hAd.out.symm.trans e
      cases this
      simp
      omega
    replace hno := Lib.hid hno
    replace hSc := Lib.hid hSc
    clear hS hcells HQ
    have kH : wc.cell? ⟨P, 1, none⟩ = some (.int .i64 (ht : Nat)) := (hG.size).2
    have hGlt := hG.lt
    by_cases hN : Ls.length = 4 + ht
    case neg =>
      have hp := Lib.hid (bad.out (fun k => hN k.1))
      have qN : (Ls.length : Int) ≠ 4 + ht := by omega
      clear hN
      go_wp2_with fail
      go_ret2
      exact RParsed.no 3 hp.out (by decide) HB4
    have qN : (Ls.length : Int) = 4 + ht := by omega
    replace hN := Lib.hid hN
    cases r with
    | cons r0 r1 =>
      have hp := Lib.hid (bad.out (fun k => by have := k.2.1; cases this))
      go_wp2_with fail
      go_ret2
      exact RParsed.no 3 hp.out (by decide) HB4
    | nil =>
    go_wp2_with fail
    clear kH
    go_loopw [10] (fun i wr => ∃ y : Nat, y ≤ ht ∧ i = .int .i64 (y : Nat) ∧ (∀ j, j < y → ∃ a, R[j]? = some a ∧ a.length = wd ∧ ∀ x, x < wd → okCh (a.getD x 0) = true) ∧ RGridAt wr P (partG wd ht R (y * wd)) (cntB (rowsB wd R) (y * wd)) ∧ Below w.heap.size w wr ∧ Kept [P] wc wr) (fun i _ => ht - (intOf i).toNat)
    case atStart => exact ⟨0, by omega, rfl, fun j hj => by omega, by simpa [cntB] using hG, HB4, Kept.refl _ _⟩
    case round =>
      clear hG HB4
      obtain ⟨y, hy, rfl, hok, hG, HB, hK⟩ := hrel
      have kW : wr.cell? ⟨P, 0, none⟩ = some (.int .i64 (wd : Nat)) := (hG.size).1
      have kH : wr.cell? ⟨P, 1, none⟩ = some (.int .i64 (ht : Nat)) := (hG.size).2
      replace hok := Lib.hid hok
      by_cases hlt : y < ht
      · have q : (y : Int) < ht := by omega
        obtain ⟨a, hRy⟩ : ∃ a, R[y]? = some a := by
          have : y < R.length := by rw [← hR.out, List.length_drop]; have := hN.out; omega
          exact ⟨_, List.getElem?_eq_getElem this⟩
        have hLy : Ls[4 + y]? = some a := by rw [← List.getElem?_drop, hR.out]; exact hRy
        obtain ⟨ad', e', _, hcs⟩ := (hSc.out.kept hK hno.out) (by have := hN.out; omega)
        have hc := hcs (4 + y) a hLy
        obtain ⟨b, hb⟩ : ∃ b, ad'.add (4 + y) = b := ⟨_, rfl⟩
        have hix := sidx_lit (m := m) (n := Ls.length) (4 + y) (4 + (y : Int)) (by simp) e' (by have := hN.out; omega) hb
        rw [hb] at hc
        clear hb hcs e' hLy
        replace hRy := Lib.hid hRy
        by_cases ha : a.length = wd
        case neg =>
          have hp := Lib.hid (bad.out (fun k => row_bad hRy.out (.inl ha) k.2.2))
          have ha' : (a.length : Int) ≠ wd := by omega
          clear ha
          go_wp2_with fail
          go_ret2
          exact RParsed.no 3 hp.out (by decide) HB
        have m0 : 0 ≤ (y : Int) * wd ∧ (y : Int) * wd ≤ 256 := ⟨Int.mul_nonneg (by omega) (by omega), Int.le_trans (Int.mul_le_mul (show (y : Int) ≤ 16 by omega) (show (wd : Int) ≤ 16 by omega) (by omega) (by omega)) (by omega)⟩
        obtain ⟨m1', m2'⟩ := m0
        have hyw : y * wd + wd ≤ wd * ht := by
          have := Nat.mul_le_mul_right wd (show y + 1 ≤ ht by omega)
          rw [Nat.succ_mul, Nat.mul_comm ht] at this
          exact this
        have h256 : wd * ht ≤ 256 := Nat.mul_le_mul n2 n4
        replace hyw := Lib.hid hyw
        replace h256 := Lib.hid h256
        have hal := Lib.hid ha
        have hai : (a.length : Int) = wd := by omega
        clear ha
        go_wp2_with fail
        clear hai hc hix kH
        obtain ⟨wo, rfl⟩ : ∃ wo : World, wo = wr := ⟨_, rfl⟩
        clear kW
        go_loopw [12] (fun i wr => ∃ x : Nat, x ≤ wd ∧ i = .int .i64 (x : Nat) ∧ (∀ j, j < x → okCh (a.getD j 0) = true) ∧ RGridAt wr P (partG wd ht R (y * wd + x)) (cntB (rowsB wd R) (y * wd + x)) ∧ Below w.heap.size w wr ∧ Kept [P] wc wr) (fun i _ => wd - (intOf i).toNat)
        case atStart => exact ⟨0, by omega, rfl, fun j hj => by omega, hG, HB, hK⟩
        case round =>
          clear hG HB hK
          obtain ⟨x, hx, rfl, hoks, hG, HB, hK⟩ := hrel
          have kW : wr.cell? ⟨P, 0, none⟩ = some (.int .i64 (wd : Nat)) := (hG.size).1
          have kH : wr.cell? ⟨P, 1, none⟩ = some (.int .i64 (ht : Nat)) := (hG.size).2
          replace hoks := Lib.hid hoks
          by_cases hxl : x < wd
          · have qx : (x : Int) < wd := by omega
            obtain ⟨n, hn⟩ : ∃ n : Nat, (a.getD x 0).toNat = n := ⟨_, rfl⟩
            have hidx := str_idx (by rw [hal.out]; exact hxl) hn
            replace hn := Lib.hid hn
            have hrB := Lib.hid (rowsB_at hxl hRy.out)
            by_cases f1 : n = 46 ∨ n = 71 ∨ n = 83
            · obtain ⟨k1, k2⟩ := ch_free hn.out f1
              have hG' : RGridAt wr P (partG wd ht R (y * wd + (x + 1))) (cntB (rowsB wd R) (y * wd + (x + 1))) := by
                have e := hrB.out.trans k2
                rw [← Nat.add_assoc, partG_no e, cntB_succ, e]
                exact hG
              have hok' : ∀ j, j < x + 1 → okCh (a.getD j 0) = true := fun j hj => by
                rcases Nat.lt_succ_iff_lt_or_eq.1 hj with h' | rfl
                · exact hoks.out j h'
                · exact k1
              replace hok' := Lib.hid hok'
              replace hG' := Lib.hid hG'
              clear hG k1 k2 hrB hoks hn
              rcases f1 with rfl | rfl | rfl <;>
              · go_wp2_with fail
                go_roundw
                case rel => exact ⟨x + 1, by omega, by go_num, hok'.out, hG'.out, HB, hK⟩
                case measure => simp [intOf]; omega
            by_cases f2 : n = 64 ∨ n = 79 ∨ n = 84 ∨ n = 87
            · obtain ⟨k1, k2⟩ := ch_blk hn.out f2
              have hok' : ∀ j, j < x + 1 → okCh (a.getD j 0) = true := fun j hj => by
                rcases Nat.lt_succ_iff_lt_or_eq.1 hj with h' | rfl
                · exact hoks.out j h'
                · exact k1
              replace hok' := Lib.hid hok'
              have hcl : y * wd + x < (partG wd ht R (y * wd + x)).n := by
                show y * wd + x < wd * ht
                have := hyw.out
                omega
              have hv : 0 ≤ ((cntB (rowsB wd R) (y * wd + x) : Nat) : Int) ∧ ((cntB (rowsB wd R) (y * wd + x) : Nat) : Int) ≤ 1099511627776 := by
                have := cntB_le (rowsB wd R) (y * wd + x)
                have := hyw.out
                have := h256.out
                omega
              have C := rSet_new wr P _ _ (y * wd + x) true hG hcl (by simp [partG]) hv
              rw [partG_yes (hrB.out.trans k2)] at C
              rw [show ((y * wd + x : Nat) : Int) = (y : Int) * wd + x by simp] at C
              have hcn : ((cntB (rowsB wd R) (y * wd + x) : Nat) : Int) + 1 = ((cntB (rowsB wd R) (y * wd + (x + 1)) : Nat) : Int) := by
                rw [← Nat.add_assoc, cntB_succ, hrB.out.trans k2]
                simp
              rw [hcn] at C
              replace C := Lib.hid C
              clear hG k1 k2 hrB hoks hn hcl hv hcn f1
              rcases f2 with rfl | rfl | rfl | rfl <;>
              · go_wp2_with fail
                refine C.out.mono ?_
                rintro e w6 ⟨rfl, hG6, hk6⟩
                have HB6 := Kept.below HB hk6 HB.size (by simpa using hPw)
                go_wp2_with fail
                go_roundw
                case rel => exact ⟨x + 1, by omega, by go_num, hok'.out, hG6, HB6, hK.trans hk6⟩
                case measure => simp [intOf]; omega
            · have hp := Lib.hid (bad.out (fun k => row_bad hRy.out (.inr ⟨x, a.getD x 0, by rw [List.getD_eq_getElem?_getD, List.getElem?_eq_getElem (by rw [hal.out]; exact hxl)]; rfl, ch_no hn.out f1 f2⟩) k.2.2))
              have f11 : (n : Int) ≠ 46 := by omega
              have f12 : (n : Int) ≠ 71 := by omega
              have f13 : (n : Int) ≠ 83 := by omega
              have f14 : (n : Int) ≠ 64 := by omega
              have f15 : (n : Int) ≠ 79 := by omega
              have f16 : (n : Int) ≠ 84 := by omega
              have f17 : (n : Int) ≠ 87 := by omega
              clear f1 f2 hG hrB hoks hn
              go_wp2_with fail
              go_ret2
              exact RParsed.no 3 hp.out (by decide) HB
          · obtain rfl : x = wd := by omega
            go_wp2_with fail
            go_roundw
            case rel =>
              refine ⟨y + 1, by omega, by go_num, fun j hj => ?_, by rw [Nat.succ_mul]; exact hG, HB, hK⟩
              rcases Nat.lt_succ_iff_lt_or_eq.1 hj with h' | rfl
              · exact hok.out j h'
              · exact ⟨a, hRy.out, hal.out, hoks.out⟩
            case measure => simp [intOf]; omega
      · obtain rfl : y = ht := by omega
        have hp : parseS l = .ok wd y R := good.out ⟨hN.out, by simp, rows_good (n := y) (by rw [← hR.out, List.length_drop, hN.out]; omega) hok.out⟩
        replace hp := Lib.hid hp
        go_wp2_with fail
        go_ret2
        exact .inr ⟨wd, y, R, P, hp.out, rfl, hPw, hG, HB⟩
end Go.Proofs.YtjejkadaafmdcaaDoor
