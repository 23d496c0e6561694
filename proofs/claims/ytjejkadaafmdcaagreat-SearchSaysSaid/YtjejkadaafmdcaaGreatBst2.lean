/- Lemmas of this claim: Bst2. -/
import Derived.Test.YtjejkadaafmdcaaGreatBst1
import Derived.Test.YtjejkadaafmdcaaGreatKSearchSays28
set_option linter.unusedVariables false
set_option linter.unusedSimpArgs false
/- The document's Best: the walk. -/
namespace Go.Proofs.YtjejkadaafmdcaaGreat
open Go.RowKit Go.Sort FR Go.Lib
theorem emapLook {w : World} {S : List Nat} {mb : Nat} {E : Int → Option (List Ed)} (h : EMap w S mb E) {z : Int} {L : List Ed} (hL : E z = some L) :
    ∃ A cap, EdsAt w A L ∧ ∀ w', Below w.heap.size w w' → (Instr.lookup 54 (.map (some mb)) (.int .i64 z) false).run Tryz.prog w' = .ok (.slice A L.length cap) w' ∧ (Instr.lookup 54 (.map (some mb)) (.int .i64 z) true).run Tryz.prog w' = .ok (.tuple #[.slice A L.length cap, .bool true]) w' := by
  obtain ⟨V, N, q1, q2, q3, _, _, _, _⟩ := h
  obtain ⟨u, hu⟩ : ∃ u, V z = some u := by
    cases hV : V z with
    | none => rw [(q2 z).2 hV] at hL; cases hL
    | some u => exact ⟨u, rfl⟩
  obtain ⟨A, cap, rfl, hEd⟩ := (q3 z u L hu hL).eds
  refine ⟨A, cap, hEd, fun w' hb => ?_⟩
  have := ((q1.below hb).look (int_fit Tryz.underlying3) Tryz.underlying54 (z := .slice none 0 0) (by simp [Tryz.zeroValue59]) z)
  rw [hu] at this; exact ⟨this.2, this.1⟩
theorem emapLook_no {w : World} {S : List Nat} {mb : Nat} {E : Int → Option (List Ed)} (h : EMap w S mb E) {z : Int} (hL : E z = none) :
    ∀ w', Below w.heap.size w w' → (Instr.lookup 54 (.map (some mb)) (.int .i64 z) true).run Tryz.prog w' = .ok (.tuple #[.slice none 0 0, .bool false]) w' := by
  obtain ⟨V, N, q1, q2, q3, _, _, _, _⟩ := h
  intro w' hb
  have := ((q1.below hb).look (int_fit Tryz.underlying3) Tryz.underlying54 (z := .slice none 0 0) (by simp [Tryz.zeroValue59]) z).1
  rw [(q2 z).1 hL] at this; exact this
theorem edsKept0 {w w' : World} {A : Option Addr} {L : List Ed} {T : List Nat} (h : EdsAt w A L) (hk : Kept T w w') (hT : 0 < L.length → ∀ ad, A = some ad → ad.block ∉ T) : EdsAt w' A L := fun hl => (h.kept (T := T) hk (hT hl)) hl
/-- is, of whatever number -/
theorem LabP.isI {W w : World} {mc mi : Nat} {L : Nat → Option C} (h : LabP W w mc mi L) (z : Int) : ∃ t : Bool, (t = true → ∃ n : Nat, z = n ∧ L n ≠ none) ∧ (∀ n : Nat, z = n → t = (L n).isSome) ∧ ∀ w', Below w.heap.size w w' → (Instr.lookup 123 (.map (some mi)) (.int .i64 z) false).run Tryz.prog w' = .ok (.bool t) w' := by
  by_cases hz : 0 ≤ z
  · obtain ⟨n, rfl⟩ := Int.eq_ofNat_of_zero_le hz
    refine ⟨(L n).isSome, fun ht => ⟨n, rfl, fun hn => by rw [hn] at ht; cases ht⟩, fun m hm => by obtain rfl : n = m := by omega
                                                                                                   rfl, h.is n⟩
  · obtain ⟨_, ⟨n2, h2⟩, _⟩ := h
    refine ⟨false, (fun h => nomatch h), fun n hn => by omega, fun w' hb => ?_⟩
    have := ((h2.below hb).look (int_fit Tryz.underlying3) Tryz.underlying123 (boolz w') z).2
    have e : isV L z = none := by unfold isV; rw [if_neg (fun q => hz q.1)]
    rw [e] at this; exact this
/-- the head of the first loop -/
def BsS (W wr : World) (g : G) (out : List Ed) (mc mi k : Nat) : Prop := ∃ L, LabP W wr mc mi L ∧ BsF g out L ∧ SrcDone g out k L
/-- what the document's Best hands back -/
def RBeD (w : World) (g : G) (out inn : List Ed) (e : Ending) (w' : World) : Prop := ∃ b fd, e = .returned (.tuple #[costV b, .bool fd]) ∧ BestIs g out inn b fd ∧ Below w.heap.size w w'
theorem gE_small {g : G} (hn : g.n ≤ 256) (x : Nat) : (EgL (LS.first g) g.n x).length ≤ 256 := Nat.le_trans (len_EgL _ _ _) hn
theorem bsSmall {g : G} (hn : g.n ≤ 256) {out : List Ed} {L : Nat → Option C} (H : BsF g out L) {j : Nat} {c : C} (h : L j = some c) : 0 ≤ c.s ∧ c.s ≤ 6500000 ∧ 0 ≤ c.d ∧ c.d ≤ 6500000 := by
  have := BF.small H h
  have h2 : 4000 * g.n ≤ 4000 * 256 := Nat.mul_le_mul_left _ hn
  omega
theorem BestK.skip {L : Nat → Option C} {inn : List Ed} {k : Nat} {fd : Bool} {b : C} (h : BestK L inn k fd b) {e : Ed} (he : inn[k]? = some e) (hno : ∀ t : Nat, e.to_ = t → L t = none) : BestK L inn (k + 1) fd b := by
  refine ⟨fun hf => ⟨(h.1 hf).1, fun j x t hj hx ht => ?_⟩, fun hf => ?_⟩
  · by_cases e1 : j = k
    · subst e1
      rw [he] at hx; injection hx with hx; subst hx
      exact hno t ht
    · exact (h.1 hf).2 j x t (by omega) hx ht
  · obtain ⟨⟨j, x, t, c, h1, h2, h3, h4, h5⟩, h6⟩ := h.2 hf
    refine ⟨⟨j, x, t, c, by omega, h2, h3, h4, h5⟩, fun j x t c hj hx ht hc => ?_⟩
    by_cases e1 : j = k
    · subst e1
      rw [he] at hx; injection hx with hx; subst hx
      rw [hno t ht] at hc; cases hc
    · exact h6 j x t c (by omega) hx ht hc
theorem BestK.keep {L : Nat → Option C} {inn : List Ed} {k : Nat} {b : C} (h : BestK L inn k true b) {e : Ed} (he : inn[k]? = some e) (hle : ∀ (t : Nat) (c : C), e.to_ = t → L t = some c → C.le b (C.add c e.c)) : BestK L inn (k + 1) true b := by
  refine ⟨(fun h => nomatch h), fun hf => ?_⟩
  obtain ⟨⟨j, x, t, c, h1, h2, h3, h4, h5⟩, h6⟩ := h.2 hf
  refine ⟨⟨j, x, t, c, by omega, h2, h3, h4, h5⟩, fun j x t c hj hx ht hc => ?_⟩
  by_cases e1 : j = k
  · subst e1
    rw [he] at hx; injection hx with hx; subst hx
    exact hle t c ht hc
  · exact h6 j x t c (by omega) hx ht hc
theorem BestK.put {L : Nat → Option C} {inn : List Ed} {k : Nat} {fd : Bool} {b : C} (h : BestK L inn k fd b) {e : Ed} (he : inn[k]? = some e) {t : Nat} {c : C} (ht : e.to_ = t) (hc : L t = some c) (hlt : fd = true → C.lt (C.add c e.c) b) : BestK L inn (k + 1) true (C.add c e.c) := by
  refine ⟨(fun h => nomatch h), fun _ => ⟨⟨k, e, t, c, by omega, he, ht, hc, rfl⟩, fun j x t' c' hj hx ht' hc' => ?_⟩⟩
  by_cases e1 : j = k
  · subst e1
    rw [he] at hx; injection hx with hx; subst hx
    obtain rfl : t = t' := by omega
    rw [hc] at hc'; injection hc' with hc'; subst hc'
    exact C.le_refl _
  · cases fd with
    | false => rw [(h.1 rfl).2 j x t' (by omega) hx ht'] at hc'; cases hc'
    | true => exact C.le_trans (C.le_of_lt (hlt rfl)) ((h.2 rfl).2 j x t' c' (by omega) hx ht' hc')
theorem BestK.start (L : Nat → Option C) (inn : List Ed) : BestK L inn 0 false C.zero := ⟨fun _ => ⟨rfl, fun j e t h => by omega⟩, (fun h => nomatch h)⟩
/-- the head of the last loop -/
def BsE (W wr : World) (L : Nat → Option C) (inn : List Ed) (b20 k : Nat) (fd : Bool) : Prop :=
  ∃ b : C, BestK L inn k fd b ∧ wr.heap[b20]? = some (.cells #[.int .i64 b.s, .int .i64 b.d] 68 (0, 0)) ∧ Kept [b20] W wr ∧ 0 ≤ b.s ∧ b.s ≤ 8000000 ∧ 0 ≤ b.d ∧ b.d ≤ 8000000
theorem BsE.below {W wr w' : World} {L : Nat → Option C} {inn : List Ed} {b20 k : Nat} {fd : Bool} (h : BsE W wr L inn b20 k fd) (hb : Below wr.heap.size wr w') : BsE W w' L inn b20 k fd := by
  obtain ⟨b, h1, h2, h3, h4⟩ := h
  exact ⟨b, h1, (hb.block b20 (Array.getElem?_eq_some_iff.1 h2).1).trans h2, h3.trans (.of_below hb), h4⟩
theorem set_heap2 {w : World} {b : Nat} {u v x y : Value} {T : TypeId} (h : w.heap[b]? = some (.cells #[u, v] T (0, 0))) : ((w.setCell ⟨b, 0, none⟩ x).setCell ⟨b, 1, none⟩ y).heap[b]? = some (.cells #[x, y] T (0, 0)) := by
  have h1 := set_heapH w b 0 _ T x h
  have h2 := set_heapH _ b 1 _ T y h1
  rw [h2]
  simp
set_option maxRecDepth 100000 in
set_option maxHeartbeats 6400000 in
theorem rBest (w : World) (gb gmb : Nat) (GS : List Nat) (A : Option Addr) (n0 m0 : Nat) (g : G) (hok : g.ok) (h : RGraphOf w gb gmb GS A n0 m0 g) (hd : gb ≠ gmb)
    (A1 : Option Addr) (n1 m1 : Nat) (out : List Ed) (hE1 : EdsO w A1 out) (hn1 : out.length = n1) (hb1 : n1 ≤ 1000) (ho : EdsOk out)
    (A2 : Option Addr) (n2 m2 : Nat) (inn : List Ed) (hE2 : EdsO w A2 inn) (hn2 : inn.length = n2) (hb2 : n2 ≤ 1000) (hi : EdsOk inn) :
    Calls Tryz.prog 27 #[.pointer (some ⟨gb, 0, none⟩), .slice A1 n1 m1, .slice A2 n2 m2] w (RBeD w g out inn) := by
  have hn := G.n_le hok
  have hmm := @run_makeMap Tryz.prog
  obtain ⟨g1, hI, hn0, hgS, hE⟩ := h
  have hn256 : n0 ≤ 256 := by rw [← hn0]; exact corners_le hok
  rw [← hn0, EGr_egE] at hE
  have kg0 : w.cell? ⟨gb, 0, none⟩ = some (.slice A n0 m0) := by simp [World.cell?, g1]
  have kg1 : w.cell? ⟨gb, 1, none⟩ = some (.map (some gmb)) := by simp [World.cell?, g1]
  have hgl : gb < w.heap.size := (Array.getElem?_eq_some_iff.1 g1).1
  have hEl := hE
  obtain ⟨_, _, qm, _, _, _, _, _, hGSl⟩ := hEl
  have hml := qm.lt
  have HI := Lib.hid hI
  have Hok := Lib.hid hok
  have Hn := Lib.hid (And.intro hn (And.intro hn0 (And.intro hn1 hn2)))
  have HE := Lib.hid hE
  have HGl := Lib.hid hGSl
  have HE1 := Lib.hid hE1
  have HE2 := Lib.hid hE2
  have HO := Lib.hid (And.intro ho hi)
  have HK := Lib.hid (And.intro kg0 kg1)
  clear g1 hI hok hn hn0 hn1 hn2 hE hE1 hE2 ho hi qm hGSl kg0 kg1 hgS
  go_enter Tryz.func27, Tryz.ntmps27
  go_upto_region 3 with (fail)
  refine wp_name ?_
  intro W3 hW3
  have HW3 : Below w.heap.size w W3 := by rw [hW3]; (repeat' (first | exact Below.refl _ _ | assumption | apply bel_drewN | apply bel_drew | apply bel_alloc | (refine bel_trans ?_ (by assumption))))
  have hs0 : W3.heap.size = w.heap.size + 1 + 1 + 1 := by rw [hW3]; simp
  obtain ⟨r6, hr6⟩ : ∃ z, w.heap.size = z := ⟨_, rfl⟩
  obtain ⟨mc, hmc⟩ : ∃ z, r6 + 1 = z := ⟨_, rfl⟩
  obtain ⟨mi, hmi⟩ : ∃ z, mc + 1 = z := ⟨_, rfl⟩
  have hr9 : W3.heap[w.heap.size]? = some (.cells #[.int .i64 0, .int .i64 0] 68 (0, 0)) := by
    rw [hW3]
    have h0 := heap_alloc_new w (.cells #[.int .i64 0, .int .i64 0] 68 (0, 0))
    have h1 := (bel_alloc (bel_alloc (Below.refl _ (w.alloc (.cells #[.int .i64 0, .int .i64 0] 68 (0, 0)))) (o := .map #[] 0)) (o := .map #[] 0)).block w.heap.size (by simp)
    exact h1.trans h0
  have q1 : MapAt iK W3 (w.alloc (.cells #[.int .i64 0, .int .i64 0] 68)).heap.size (fun _ => none) 0 := by rw [hW3]; exact (MapAt.made _).below (bel_alloc (Below.refl _ _))
  have q2 : MapAt iK W3 ((w.alloc (.cells #[.int .i64 0, .int .i64 0] 68)).alloc (.map #[] 0)).heap.size (fun _ => none) 0 := by rw [hW3]; exact MapAt.made _
  rw [show (w.alloc (.cells #[.int .i64 0, .int .i64 0] 68)).heap.size = w.heap.size + 1 by simp] at q1
  rw [show ((w.alloc (.cells #[.int .i64 0, .int .i64 0] 68)).alloc (.map #[] 0)).heap.size = w.heap.size + 1 + 1 by simp] at q2
  rw [hr6] at q1 q2 hr9 ⊢
  rw [hmc] at q1 q2 ⊢
  rw [hmi] at q2 ⊢
  have hL0 : LabP W3 W3 mc mi (fun _ => none) := by
    refine ⟨⟨0, ?_⟩, ⟨0, ?_⟩, Kept.refl _ _⟩
    · rw [show mapI (doneV fun _ => none) = (fun _ => none : Int → Option Value) from mapI_none (fun _ => rfl)]; exact q1
    · rw [isV_none]; exact q2
  have hne : mc ≠ mi := by omega
  have hSt : BsS W3 W3 g out mc mi 0 := ⟨_, hL0, BF.start, fun s c hs => by obtain ⟨_, i, e, h1, _⟩ := hs; omega⟩
  have HI3 := Lib.hid (HI.out.below HW3)
  have HIb : Hid (0 < n0 → ∀ ad, A = some ad → ad.block ∉ [mc, mi]) := Lib.hid fun hp ad e => by
    obtain ⟨ad', e', hlt, _⟩ := HI.out hp
    rw [e'] at e; injection e with e; subst e
    simp; omega
  have HE3 := Lib.hid (HE.out.below HW3)
  have HEb : Hid ((∀ s ∈ GS, s ∉ [mc, mi]) ∧ gmb ∉ [mc, mi] ∧ gb ∉ [mc, mi]) := Lib.hid ⟨fun s hs => by have := HGl.out s hs; simp; omega, by simp; omega, by simp; omega⟩
  have H1b : Hid (0 < out.length → ∀ ad, A1 = some ad → ad.block ∉ [mc, mi]) := Lib.hid fun hp ad e => by
    obtain ⟨g', o', e', hlt, _⟩ := HE1.out hp
    rw [e'] at e; injection e with e; subst e
    simp; omega
  have H2b : Hid (0 < inn.length → ∀ ad, A2 = some ad → ad.block ∉ [mc, mi]) := Lib.hid fun hp ad e => by
    obtain ⟨g', o', e', hlt, _⟩ := HE2.out hp
    rw [e'] at e; injection e with e; subst e
    simp; omega
  have HE1 := Lib.hid (HE1.out.below HW3)
  have HE2 := Lib.hid (HE2.out.below HW3)
  have HK3 := Lib.hid (And.intro (bel_cell HW3 HK.out.1) (bel_cell HW3 HK.out.2))
  have hwm : w.heap.size ≤ mc ∧ w.heap.size ≤ mi := by omega
  have HR := Lib.hid (And.intro hr9 (And.intro hs0 (And.intro HW3 (And.intro hr6 hwm))))
  clear hwm
  have hcm : r6 ∉ [mc, mi] := by simp; omega
  have hcm := Lib.hid hcm
  clear hW3 hr9 q1 q2 hL0 hmm HI HE HGl HK hs0 hr6 hmc hmi hgl hml HW3
  go_wp2_with fail
  go_loopw [10] (fun kv wr => ∃ k : Nat, kv = .int .i64 k ∧ k ≤ n1 ∧ BsS W3 wr g out mc mi k) (fun kv _ => n1 - (intOf kv).toNat)
  case atStart => exact ⟨0, rfl, by omega, hSt⟩
  case round =>
    obtain ⟨k, rfl, hk, L, hM, hBF, hD⟩ := hrel
    clear hSt
    by_cases hlt : k < n1
    · obtain ⟨e, he⟩ : ∃ e, out[k]? = some e := ⟨out[k]'(by rw [Hn.out.2.2.1]; exact hlt), List.getElem?_eq_getElem _⟩
      obtain ⟨gq, oq, hA, a1, a2, a3, a4⟩ := (HE1.out.kept hM.2.2 H1b.out).get he
      have hix := fun wx => idxO (m := m1) hA hlt wx
      have hie := HO.out.1 e (List.mem_of_getElem? he)
      have kg1 := cellK hM.2.2 HEb.out.2.2 HK3.out.2
      have hEm := HE3.out.kept hM.2.2 HEb.out.1 HEb.out.2.1
      obtain ⟨xt, ⟨xs, xd⟩, xm⟩ := e
      simp only at a1 a2 a3 a4 hie
      have He := Lib.hid (And.intro he hie)
      have HM := Lib.hid hM
      have HB := Lib.hid (And.intro hBF hD)
      clear hA he hie hM hBF hD
      by_cases hcor : ∃ t : Nat, xt = t ∧ g.Corner t
      · obtain ⟨t, rfl, hct⟩ := hcor
        obtain ⟨A5, m5, _, hlk⟩ := emapLook hEm (egE_at (S := LS.first g) hct)
        have hlk0 := (hlk wr (Below.refl _ _)).2
        have his := HM.out.is t
        obtain ⟨ws, wd, hwd, hw0, hlc⟩ := HM.out.cost t
        obtain ⟨tb, htb⟩ : ∃ z, (L t).isSome = z := ⟨_, rfl⟩
        rw [htb] at his
        have hwin : inC ws ∧ inC wd := by
          cases hL : L t with
          | none => obtain ⟨rfl, rfl⟩ := hw0 hL; exact ⟨by unfold inC; omega, by unfold inC; omega⟩
          | some c =>
            have h := bsSmall Hn.out.1 HB.out.1 hL
            rw [hwd c hL] at h
            simp only at h
            unfold inC; omega
        obtain ⟨tt, htt⟩ : ∃ z, (!tb || decide (C.cmp ⟨xs, xd⟩ ⟨ws, wd⟩ < 0)) = z := ⟨_, rfl⟩
        have Htt := Lib.hid (And.intro htt (And.intro htb hwd))
        have hisq : ∀ d os, (Instr.lookup 123 (.map (some mi)) (.int .i64 ((t : Nat) : Int)) false).run Tryz.prog (grow (redrawn wr d) os) = .ok (.bool tb) (grow (redrawn wr d) os) := fun d os => his _ (below_regrown wr d os)
        have hlcq : ∀ d os, (Instr.lookup 122 (.map (some mc)) (.int .i64 ((t : Nat) : Int)) false).run Tryz.prog (grow (redrawn wr d) os) = .ok (.agg #[.int .i64 ws, .int .i64 wd]) (grow (redrawn wr d) os) := fun d os => hlc _ (below_regrown wr d os)
        have hisn : ∀ n, (Instr.lookup 123 (.map (some mi)) (.int .i64 ((t : Nat) : Int)) false).run Tryz.prog (wr.drewN n) = .ok (.bool tb) (wr.drewN n) := fun n => his _ (bel_drewN (Below.refl _ _))
        have a2q := cell_regrown a2
        have a3q := cell_regrown a3
        have Hct := Lib.hid hct
        clear hlk his hw0 hlc htb htt hwd hct hEm
        go_upto_region 8 with (fail)
        have HR0 := Below.refl wr.heap.size wr
        clear hlk0 a1 kg1
        go_cut [64] (fun s wx => s = .bool tt ∧ Below wr.heap.size wr wx)
        case first =>
          cases tb with
          | false =>
            have ht : tt = true := by rw [← Htt.out.1]; rfl
            subst ht
            clear hisq hlcq a2q a3q
            go_quiet (fail)
            go_wp2
            go_meet
            case rel => exact ⟨rfl, by (repeat' (first | exact Below.refl _ _ | assumption | apply bel_drewN | apply bel_drew | apply bel_alloc | (refine bel_trans ?_ (by assumption))))⟩
          | true =>
            have cC := refCompare xs xd ws wd
            obtain ⟨cv, hcv⟩ : ∃ cv, C.cmp ⟨xs, xd⟩ ⟨ws, wd⟩ = cv := ⟨_, rfl⟩
            have ht : tt = decide (cv < 0) := by rw [← Htt.out.1, hcv]; rfl
            rw [hcv] at cC
            have hxin : inC xs ∧ inC xd := by have := He.out.2; unfold inC; omega
            have cC := Lib.hid (fun w => cC w hxin.1 hxin.2 hwin.1 hwin.2)
            have Ht2 := Lib.hid ht
            clear hcv ht hwin hxin hisn
            refine wp_region_quiet_below (by kernel_rfl) (by kernel_rfl) ?_
            repeat (first | go_big_quiet_step (with_reducible exact Calls.regrown_of (cC.out _)) | quiet_step (with_reducible exact Calls.regrown_of (cC.out _)))
            refine wpQuiet_nil ?_
            intro _ hw'
            obtain ⟨⟨dq, osq⟩, hw''⟩ := hw'
            have HR9 := bel_trans HR0 (below_regrown wr dq osq)
            have hb2 := below_regrown wr dq osq
            subst hw''
            generalize grow (redrawn wr dq) osq = W9 at HR9 hb2 ⊢
            go_wp2
            go_meet
            case rel => exact ⟨by rw [Ht2.out], HR9⟩
        case rest =>
          obtain ⟨rfl, hbe⟩ := hcut
          have HM8 := Lib.hid (HM.out.below hbe)
          have a2 := bel_cell hbe a2
          have a3 := bel_cell hbe a3
          clear HM hisq hlcq hisn a2q a3q hwin HR0 hbe a4
          cases tt with
          | false =>
            have hle : ∃ d, L t = some d ∧ C.le d ⟨xs, xd⟩ := by
              have h := Htt.out.1
              cases hL : L t with
              | none => have := Htt.out.2.1; rw [hL] at this; subst this; simp at h
              | some d =>
                refine ⟨d, rfl, ?_⟩
                rw [Htt.out.2.2 d hL]
                intro hlt
                have := C.cmp_neg.2 hlt
                simp at h
                omega
            have hF : BsS W3 wc g out mc mi (k + 1) := ⟨L, HM8.out, HB.out.1, srcDone_step HB.out.2 He.out.1 (fun s hs _ => by have e1 : t = s := Int.ofNat_inj.1 hs; subst e1; exact hle)⟩
            have hF := Lib.hid hF
            clear hle HM8 a2 a3
            go_wp2
            go_roundw
            case rel => first | exact ⟨k + 1, by go_num, by omega, hF.out⟩ | ((repeat apply Exists.intro); exact ⟨⟨k + 1, by go_num, by omega, hF.out⟩, rfl⟩)
            case measure => simp [intOf]; omega
          | true =>
            have hlow : ∀ d, L t = some d → C.lt ⟨xs, xd⟩ d := fun d hd => by
              have h := Htt.out.1
              have h2 := Htt.out.2.1
              rw [hd] at h2
              subst h2
              simp at h
              rw [Htt.out.2.2 d hd]
              exact C.cmp_neg.1 h
            have hsrc : SrcO g out t ⟨xs, xd⟩ := ⟨Hct.out, k, _, (List.getElem?_eq_some_iff.1 He.out.1).1, He.out.1, rfl, rfl⟩
            obtain ⟨b1, _⟩ := bs_src HO.out.1 HB.out.1 hsrc hlow
            have hD2 : SrcDone g out (k + 1) (FR.upd L t (some ⟨xs, xd⟩)) := srcDone_step (srcDone_low HB.out.2 hlow) He.out.1 (fun s hs _ => by
              have e1 : t = s := Int.ofNat_inj.1 hs
              subst e1
              exact ⟨_, FR.upd_same _ _ _, C.le_refl _⟩)
            have HB2 := Lib.hid (And.intro b1 hD2)
            obtain ⟨⟨nn1, hM1⟩, ⟨nn2, hM2⟩, hK8⟩ := HM8.out
            clear hlow hsrc b1 hD2
            go_wp2_with (first
              | (refine wpList_storeM rfl _ _ _ rfl (int_fit Tryz.underlying3) Tryz.underlying122 hM1 rfl ((t : Nat) : Int) rfl (.agg #[.int .i64 xs, .int .i64 xd]) rfl ?_; intro wU hmU hkU)
              | (refine wpList_storeM rfl _ _ _ rfl (int_fit Tryz.underlying3) Tryz.underlying123 (hM2.kept hkU (by simpa using Ne.symm hne)) rfl ((t : Nat) : Int) rfl (.bool true) rfl ?_; intro wV hmV hkV))
            have hF : BsS W3 wV g out mc mi (k + 1) := ⟨_, HM8.out.put hmU hkU hmV hkV hne, HB2.out.1, HB2.out.2⟩
            have hF := Lib.hid hF
            clear hmU hkU hmV hkV hM1 hM2 hK8 HM8 a2 a3
            go_wp2
            go_roundw
            case rel => first | exact ⟨k + 1, by go_num, by omega, hF.out⟩ | ((repeat apply Exists.intro); exact ⟨⟨k + 1, by go_num, by omega, hF.out⟩, rfl⟩)
            case measure => simp [intOf]; omega
      · have hno : ¬ (0 ≤ xt ∧ g.Corner xt.toNat) := fun ⟨h1, h2⟩ => hcor ⟨xt.toNat, by omega, h2⟩
        have hlk0 := emapLook_no hEm (egE_none (S := LS.first g) hno) wr (Below.refl _ _)
        have hF : BsS W3 wr g out mc mi (k + 1) := ⟨L, HM.out, HB.out.1, srcDone_step HB.out.2 He.out.1 (fun s hs hc => absurd ⟨s, hs, hc⟩ hcor)⟩
        have HF := Lib.hid hF
        clear hF hcor hno HM hEm
        go_upto_region 8 with (fail)
        go_quiet (fail)
        have hF : BsS W3 (wr.drewN nq) g out mc mi (k + 1) := by
          obtain ⟨L', h1, h2⟩ := HF.out
          exact ⟨L', h1.below (bel_drewN (Below.refl _ _)), h2⟩
        have hF := Lib.hid hF
        clear hlk0 a1 a2 a3 a4 kg1 HF
        go_wp2
        go_roundw
        case rel => first | exact ⟨k + 1, by go_num, by omega, hF.out⟩ | ((repeat apply Exists.intro); exact ⟨⟨k + 1, by go_num, by omega, hF.out⟩, rfl⟩)
        case measure => simp [intOf]; omega
    · obtain rfl : k = n1 := by omega
      have hD1 : SrcDone g out out.length L := by rw [Hn.out.2.2.1]; exact hD
      have hA : BsA W3 wr g out mc mi (2 * bsM g.n L + 1) (.bool true) := ⟨true, L, rfl, hM, hBF, hD1, by simp, (fun h => nomatch h)⟩
      obtain ⟨G0, hG0⟩ : ∃ z, 2 * bsM g.n L + 1 = z := ⟨_, rfl⟩
      rw [hG0] at hA
      clear hM hBF hD hD1 hG0
      go_wp2_with fail
      go_loopg [14] G0 (fun gk sv wr => BsA W3 wr g out mc mi gk sv)
      case atStart => exact hA
      case round =>
        obtain ⟨ag, L, rfl, hM, hBF, hL0, hgk, hst⟩ := hrel
        clear hA
        cases ag with
        | false =>
          have hend := bsEnd HO.out.1 hBF hL0 (hst rfl)
          have HE := Lib.hid (And.intro hend hBF)
          have HM := Lib.hid hM
          clear hM hBF hL0 hgk hst hend
          have hkr : wr.heap[r6]? = some (.cells #[.int .i64 0, .int .i64 0] 68 (0, 0)) := (HM.out.2.2.block r6 (Array.getElem?_eq_some_iff.1 HR.out.1).1 hcm.out).trans HR.out.1
          have hrl := (Array.getElem?_eq_some_iff.1 hkr).1
          have hml := HM.out.lt
          have Hkr := Lib.hid hkr
          clear hkr
          go_upto_region 28 with (fail)
          refine wp_name ?_
          intro W5 hW5
          have HW5 : Below wr.heap.size wr W5 := by rw [hW5]; (repeat' (first | exact Below.refl _ _ | assumption | apply bel_drewN | apply bel_drew | apply bel_alloc | (refine bel_trans ?_ (by assumption))))
          have hb20 : W5.heap[wr.heap.size]? = some (.cells #[.int .i64 0, .int .i64 0] 68 (0, 0)) := by rw [hW5]; exact heap_alloc_new _ _
          obtain ⟨b20, hb20e⟩ : ∃ z, wr.heap.size = z := ⟨_, rfl⟩
          rw [hb20e] at hb20 ⊢
          have hst : BsE W5 W5 L inn b20 0 false := ⟨C.zero, BestK.start _ _, hb20, Kept.refl _ _, by decide, by decide, by decide, by decide⟩
          have hbne : b20 ∉ [mc, mi] := by simp; omega
          have hcne : mc ∉ [b20] ∧ mi ∉ [b20] := by simp; omega
          have hr20 : r6 ≠ b20 := by omega
          have hwb : w.heap.size ≤ b20 := by have := HM.out.2.2.size; have := HR.out.2.1; omega
          have H5 := Lib.hid (And.intro HW5 hwb)
          clear hwb
          have HM5 := Lib.hid (HM.out.below HW5)
          have H2l : Hid (0 < inn.length → ∀ ad, A2 = some ad → ad.block ∉ [b20]) := Lib.hid fun hp ad e => by
            obtain ⟨g', o', e', hlt, _⟩ := HE2.out hp
            rw [e'] at e; injection e with e; subst e
            have := HM.out.2.2.size
            simp; omega
          clear hW5 hb20 HW5 hb20e HM
          go_wp2_with fail
          go_loopw [21, 22] (fun sv kv wr => ∃ (fd : Bool) (k : Nat), sv = .bool fd ∧ kv = .int .i64 k ∧ k ≤ n2 ∧ BsE W5 wr L inn b20 k fd) (fun _ kv _ => n2 - (intOf kv).toNat)
          case atStart => exact ⟨false, 0, rfl, rfl, by omega, hst⟩
          case round =>
            obtain ⟨fd, k, rfl, rfl, hk, b, hB, hb20, hK, hbs⟩ := hrel
            clear hst
            obtain ⟨bs, bd⟩ := b
            simp only at hb20 hbs
            have e0 : wr.cell? ⟨b20, 0, none⟩ = some (.int .i64 bs) := by simp [World.cell?, hb20]
            have e1 : wr.cell? ⟨b20, 1, none⟩ = some (.int .i64 bd) := by simp [World.cell?, hb20]
            have HB := Lib.hid (And.intro hB (And.intro hb20 hK))
            clear hB hb20 hK
            by_cases hlt : k < n2
            · obtain ⟨e, he⟩ : ∃ e, inn[k]? = some e := ⟨inn[k]'(by rw [Hn.out.2.2.2]; exact hlt), List.getElem?_eq_getElem _⟩
              have hE5 := (HE2.out.kept HM5.out.2.2 H2b.out)
              obtain ⟨gq, oq, hA, a1, a2, a3, a4⟩ := (hE5.kept HB.out.2.2 H2l.out).get he
              have hix := fun wx => idxO (m := m2) hA hlt wx
              have hie := HO.out.2 e (List.mem_of_getElem? he)
              obtain ⟨xt, ⟨xs, xd⟩, xm⟩ := e
              simp only at a1 a2 a3 a4 hie
              have hMr : LabP wr wr mc mi L := by
                obtain ⟨⟨n1', h1⟩, ⟨n2', h2⟩, _⟩ := HM5.out
                exact ⟨⟨n1', h1.kept HB.out.2.2 hcne.1⟩, ⟨n2', h2.kept HB.out.2.2 hcne.2⟩, Kept.refl _ _⟩
              obtain ⟨ti, hti1, hti2, hisl⟩ := hMr.isI xt
              have his0 := hisl wr (Below.refl _ _)
              have He := Lib.hid (And.intro he hie)
              have HMr := Lib.hid hMr
              clear hA he hie hE5 hMr hisl
              cases ti with
              | false =>
                have hF : BsE W5 wr L inn b20 (k + 1) fd := ⟨⟨bs, bd⟩, HB.out.1.skip He.out.1 (fun t ht => by
                  have := hti2 t ht
                  cases hL : L t with
                  | none => rfl
                  | some c => rw [hL] at this; cases this), HB.out.2.1, HB.out.2.2, hbs⟩
                have hF := Lib.hid hF
                clear hti1 hti2 HMr HB e0 e1
                go_wp2
                go_roundw
                case rel => first | exact ⟨fd, k + 1, rfl, by go_num, by omega, hF.out⟩ | ((repeat apply Exists.intro); exact ⟨⟨fd, k + 1, rfl, by go_num, by omega, hF.out⟩, rfl⟩)
                case measure => simp [intOf]; omega
              | true =>
                obtain ⟨t, rfl, hLt⟩ := hti1 rfl
                obtain ⟨c, hLc⟩ : ∃ c, L t = some c := by
                  cases hL : L t with
                  | none => exact absurd hL hLt
                  | some c => exact ⟨c, rfl⟩
                obtain ⟨cs, cd⟩ := c
                have hcin := bsSmall Hn.out.1 HE.out.2 hLc
                simp only at hcin
                obtain ⟨cs', cd', q1, _, q3⟩ := HMr.out.cost t
                have q1 := q1 _ hLc
                injection q1 with q1 q2
                subst q1; subst q2
                have hie := He.out.2
                have cP := Lib.hid (fun w => refPlus cs cd xs xd w (by unfold inC; omega) (by unfold inC; omega) (by unfold inC; omega) (by unfold inC; omega))
                have HLc := Lib.hid (And.intro hLc (And.intro hcin hie))
                have Hq3 := Lib.hid q3
                clear hti1 hti2 hLt hLc hcin hie q3 HMr
                go_upto_region 33 with (fail)
                clear his0
                go_cut [23] (fun s wx => ∃ b23, s = .pointer (some ⟨b23, 0, none⟩) ∧ wx.cell? ⟨b23, 0, none⟩ = some (.int .i64 (cs + xs)) ∧ wx.cell? ⟨b23, 1, none⟩ = some (.int .i64 (cd + xd)) ∧ Below wr.heap.size wr wx)
                case first =>
                  have hd := bel_drew (Below.refl wr.heap.size wr)
                  have hda := bel_drew (bel_alloc (Below.refl wr.heap.size wr) (o := .cells #[.int .i64 0, .int .i64 0] 68))
                  have hlk0 := Hq3.out _ hd
                  have hlk1 := Hq3.out _ hda
                  have q0 : wr.drew.cell? ⟨gq, oq + k * 4, none⟩ = some (.int .i64 (t : Nat)) ∧ wr.drew.cell? ⟨gq, oq + k * 4 + 1, none⟩ = some (.int .i64 xs) ∧ wr.drew.cell? ⟨gq, oq + k * 4 + 2, none⟩ = some (.int .i64 xd) := ⟨bel_cell hd a1, bel_cell hd a2, bel_cell hd a3⟩
                  have q1 : (wr.alloc (.cells #[.int .i64 0, .int .i64 0] 68)).drew.cell? ⟨gq, oq + k * 4, none⟩ = some (.int .i64 (t : Nat)) ∧ (wr.alloc (.cells #[.int .i64 0, .int .i64 0] 68)).drew.cell? ⟨gq, oq + k * 4 + 1, none⟩ = some (.int .i64 xs) ∧ (wr.alloc (.cells #[.int .i64 0, .int .i64 0] 68)).drew.cell? ⟨gq, oq + k * 4 + 2, none⟩ = some (.int .i64 xd) := ⟨bel_cell hda a1, bel_cell hda a2, bel_cell hda a3⟩
                  clear e0 e1
                  go_region_held3 (fun w' => w'.cell? ⟨gq, oq + k * 4, none⟩ = some (.int .i64 (t : Nat)) ∧ w'.cell? ⟨gq, oq + k * 4 + 1, none⟩ = some (.int .i64 xs) ∧ w'.cell? ⟨gq, oq + k * 4 + 2, none⟩ = some (.int .i64 xd))
                    (first
                      | exact q0
                      | exact q1
                      | exact q2
                      | exact q3 _
                      | exact q4 _ _)
                    (first
                      | (go_at_call 69
                         refine (cP.out _).mono ?_
                         rintro e wA ⟨rfl, hbA⟩
                         have hbw : Below wr.heap.size wr wA := by first | exact bel_trans hd hbA | exact bel_trans hda hbA
                         have q2 : wA.cell? ⟨gq, oq + k * 4, none⟩ = some (.int .i64 (t : Nat)) ∧ wA.cell? ⟨gq, oq + k * 4 + 1, none⟩ = some (.int .i64 xs) ∧ wA.cell? ⟨gq, oq + k * 4 + 2, none⟩ = some (.int .i64 xd) := ⟨bel_cell hbw a1, bel_cell hbw a2, bel_cell hbw a3⟩
                         have q3 : ∀ o, (wA.alloc o).cell? ⟨gq, oq + k * 4, none⟩ = some (.int .i64 (t : Nat)) ∧ (wA.alloc o).cell? ⟨gq, oq + k * 4 + 1, none⟩ = some (.int .i64 xs) ∧ (wA.alloc o).cell? ⟨gq, oq + k * 4 + 2, none⟩ = some (.int .i64 xd) := fun o => ⟨bel_cell (bel_alloc hbw) a1, bel_cell (bel_alloc hbw) a2, bel_cell (bel_alloc hbw) a3⟩
                         have lq := World.block_lt_of_cell? _ _ a1
                         have q4 : ∀ p v : Value, ((wA.setCell ⟨wr.heap.size, 0, none⟩ p).setCell ⟨wr.heap.size, 1, none⟩ v).cell? ⟨gq, oq + k * 4, none⟩ = some (.int .i64 (t : Nat)) ∧ ((wA.setCell ⟨wr.heap.size, 0, none⟩ p).setCell ⟨wr.heap.size, 1, none⟩ v).cell? ⟨gq, oq + k * 4 + 1, none⟩ = some (.int .i64 xs) ∧ ((wA.setCell ⟨wr.heap.size, 0, none⟩ p).setCell ⟨wr.heap.size, 1, none⟩ v).cell? ⟨gq, oq + k * 4 + 2, none⟩ = some (.int .i64 xd) := fun p v => by
                           have hb := (hbw.setCell (p := ⟨wr.heap.size, 0, none⟩) (Nat.le_refl _) p).setCell (p := ⟨wr.heap.size, 1, none⟩) (Nat.le_refl _) v
                           exact ⟨bel_cell hb a1, bel_cell hb a2, bel_cell hb a3⟩
                         try (have z0 : wA.cell? ⟨wr.heap.size, 0, none⟩ = some (.int .i64 0) := bel_cell (w := (wr.alloc (.cells #[.int .i64 0, .int .i64 0] 68)).drew) hbA (by first | (go_simp; done) | fail))
                         try (have z1 : wA.cell? ⟨wr.heap.size, 1, none⟩ = some (.int .i64 0) := bel_cell (w := (wr.alloc (.cells #[.int .i64 0, .int .i64 0] 68)).drew) hbA (by first | (go_simp; done) | fail))
                         try (have f0 : wA.frozen? ⟨wr.heap.size, 0, none⟩ = false := (hbA.frozen (p := ⟨wr.heap.size, 0, none⟩) (by simp)).trans (by first | (go_simp; done) | fail))
                         try (have f1 : wA.frozen? ⟨wr.heap.size, 1, none⟩ = false := (hbA.frozen (p := ⟨wr.heap.size, 1, none⟩) (by simp)).trans (by first | (go_simp; done) | fail))))
                  all_goals
                    go_wp2
                    go_meet
                    case rel => first
                      | exact ⟨_, rfl, by go_simp, by go_simp, (hbw.setCell (p := ⟨wr.heap.size, 0, none⟩) (Nat.le_refl _) _).setCell (p := ⟨wr.heap.size, 1, none⟩) (Nat.le_refl _) _⟩
                      | exact ⟨_, rfl, by go_simp, by go_simp, bel_alloc hbw⟩
                case rest =>
                  obtain ⟨b23, rfl, d0, d1, hbe⟩ := hcut
                  have hb20 := (hbe.block b20 (Array.getElem?_eq_some_iff.1 HB.out.2.1).1).trans HB.out.2.1
                  have e0 := bel_cell hbe e0
                  have e1 := bel_cell hbe e1
                  have HK5 := Lib.hid (HB.out.2.2.trans (Kept.of_below hbe))
                  have Hb20 := Lib.hid hb20
                  obtain ⟨tt, htt⟩ : ∃ z, (!fd || decide (C.cmp ⟨cs + xs, cd + xd⟩ ⟨bs, bd⟩ < 0)) = z := ⟨_, rfl⟩
                  have Htt := Lib.hid htt
                  clear htt hb20 a1 a2 a3 a4 hix hbe
                  go_upto_region 34 with (fail)
                  go_cut [178] (fun s wx => s = .bool tt ∧ Below wc.heap.size wc wx)
                  case first =>
                    cases fd with
                    | false =>
                      have ht : tt = true := by rw [← Htt.out]; rfl
                      subst ht
                      go_wp2
                      go_meet
                      case rel => exact ⟨rfl, by (repeat' (first | exact Below.refl _ _ | assumption | apply bel_drewN | apply bel_drew | apply bel_alloc | (refine bel_trans ?_ (by assumption))))⟩
                    | true =>
                      have cC := refCompare (cs + xs) (cd + xd) bs bd
                      obtain ⟨cv, hcv⟩ : ∃ cv, C.cmp ⟨cs + xs, cd + xd⟩ ⟨bs, bd⟩ = cv := ⟨_, rfl⟩
                      have ht : tt = decide (cv < 0) := by rw [← Htt.out, hcv]; rfl
                      rw [hcv] at cC
                      have hci := HLc.out.2
                      have cC := Lib.hid (fun w => cC w (by unfold inC; omega) (by unfold inC; omega) (by unfold inC; omega) (by unfold inC; omega))
                      have Ht2 := Lib.hid ht
                      clear hcv ht hci
                      go_wp2_with fail
                      (with_reducible refine (cC.out _).mono ?_)
                      rintro e w8 ⟨rfl, hb8⟩
                      go_wp2
                      go_meet
                      case rel => exact ⟨by rw [Ht2.out], hb8⟩
                  case rest =>
                    obtain ⟨rfl, hbe⟩ := hcut
                    have hb20 := (hbe.block b20 (Array.getElem?_eq_some_iff.1 Hb20.out).1).trans Hb20.out
                    have d0 := bel_cell hbe d0
                    have d1 := bel_cell hbe d1
                    have HK6 := Lib.hid (HK5.out.trans (Kept.of_below hbe))
                    have e0 := bel_cell hbe e0
                    have e1 := bel_cell hbe e1
                    have f0 : wc.frozen? ⟨b20, 0, none⟩ = false := by simp [World.frozen?, hb20]
                    have f1 : wc.frozen? ⟨b20, 1, none⟩ = false := by simp [World.frozen?, hb20]
                    have H6 := Lib.hid hb20
                    clear hb20 hbe HK5 Hb20
                    cases tt with
                    | false =>
                      have hF : BsE W5 wc L inn b20 (k + 1) fd := by
                        cases fd with
                        | false => have := Htt.out; simp at this
                        | true =>
                          have h := Htt.out
                          simp at h
                          exact ⟨⟨bs, bd⟩, HB.out.1.keep He.out.1 (fun t' c' ht' hc' => by
                            have e1 : t = t' := Int.ofNat_inj.1 ht'
                            subst e1
                            rw [HLc.out.1] at hc'; injection hc' with hc'; subst hc'
                            intro hl
                            have := C.cmp_neg.2 hl
                            simp only [C.add] at this
                            omega), H6.out, HK6.out, hbs⟩
                      have hF := Lib.hid hF
                      clear HB H6 HK6 e0 e1 d0 d1 f0 f1
                      go_wp2
                      go_roundw
                      case rel => first | exact ⟨fd, k + 1, rfl, by go_num, by omega, hF.out⟩ | ((repeat apply Exists.intro); exact ⟨⟨fd, k + 1, rfl, by go_num, by omega, hF.out⟩, rfl⟩)
                      case measure => simp [intOf]; omega
                    | true =>
                      have hF : BsE W5 ((wc.setCell ⟨b20, 0, none⟩ (.int .i64 (cs + xs))).setCell ⟨b20, 1, none⟩ (.int .i64 (cd + xd))) L inn b20 (k + 1) true := by
                        refine ⟨C.add ⟨cs, cd⟩ ⟨xs, xd⟩, HB.out.1.put He.out.1 rfl HLc.out.1 (fun hf => ?_), set_heap2 H6.out, (HK6.out.setCell (.inl (by simp))).setCell (.inl (by simp)), ?_⟩
                        · have h := Htt.out
                          rw [hf] at h
                          simp at h
                          exact C.cmp_neg.1 h
                        · have := HLc.out.2
                          simp only [C.add]
                          omega
                      have hF := Lib.hid hF
                      clear HB H6 HK6
                      go_wp2
                      go_roundw
                      case rel => first | exact ⟨true, k + 1, rfl, by go_num, by omega, hF.out⟩ | ((repeat apply Exists.intro); exact ⟨⟨true, k + 1, rfl, by go_num, by omega, hF.out⟩, rfl⟩)
                      case measure => simp [intOf]; omega
            · obtain rfl : k = n2 := by omega
              have hB2 : BestIs g out inn ⟨bs, bd⟩ fd := bestK_end HE.out.1 (by rw [Hn.out.2.2.2]; exact HB.out.1)
              have hkr : wr.heap[r6]? = some (.cells #[.int .i64 0, .int .i64 0] 68 (0, 0)) := by
                have h1 := (H5.out.1.block r6 hrl).trans Hkr.out
                exact (HB.out.2.2.block r6 (Array.getElem?_eq_some_iff.1 h1).1 (by simpa using hr20)).trans h1
              have r0 : wr.cell? ⟨r6, 0, none⟩ = some (.int .i64 0) := by simp [World.cell?, hkr]
              have r1 : wr.cell? ⟨r6, 1, none⟩ = some (.int .i64 0) := by simp [World.cell?, hkr]
              have f0 : wr.frozen? ⟨r6, 0, none⟩ = false := by simp [World.frozen?, hkr]
              have f1 : wr.frozen? ⟨r6, 1, none⟩ = false := by simp [World.frozen?, hkr]
              have hbw : Below w.heap.size w wr := by
                have h1 := HR.out.2.2.1
                have h2 : Below w.heap.size w W5 := by
                  refine Kept.below h1 (HM5.out.2.2) h1.size (fun j hj => ?_)
                  have := HR.out.2.2.2.2
                  simp only [List.mem_cons, List.not_mem_nil, or_false] at hj
                  omega
                refine Kept.below h2 HB.out.2.2 h2.size (fun j hj => ?_)
                have := H5.out.2
                simp only [List.mem_cons, List.not_mem_nil, or_false] at hj
                omega
              have hr6w : w.heap.size ≤ r6 := by have := HR.out.2.2.2.1; omega
              have hF : RBeD w g out inn (.returned (.tuple #[.agg #[.int .i64 bs, .int .i64 bd], .bool fd])) ((wr.setCell ⟨r6, 0, none⟩ (.int .i64 bs)).setCell ⟨r6, 1, none⟩ (.int .i64 bd)) := ⟨⟨bs, bd⟩, fd, rfl, hB2, (hbw.setCell (p := ⟨r6, 0, none⟩) hr6w _).setCell (p := ⟨r6, 1, none⟩) hr6w _⟩
              have hF := Lib.hid hF
              have e2 := set_two (x := .int .i64 bs) (y := .int .i64 bd) r0 r1
              clear hB2 hkr hbw HB
              go_wp2
              refine bodyPost_ret (v := .tuple #[.agg #[.int .i64 bs, .int .i64 bd], .bool fd]) (by simp [results, Tryz.results27, go_sem, e2]) rfl ?_
              exact hF.out
        | true =>
          have hgk' : gk = 2 * bsM g.n L + 1 := by simpa using hgk
          have hstart : BsO W3 wr g out mc mi (bsM g.n L) (fun _ => True) (fun L' => ∀ i', i' < 0 → CalmB g L' (cf g i')) false := ⟨L, hM, hBF, hL0, Nat.le_refl _, (fun h => nomatch h), trivial, fun _ i' h => by omega⟩
          obtain ⟨mm, hmm⟩ : ∃ z, bsM g.n L = z := ⟨_, rfl⟩
          rw [hmm] at hstart hgk'
          clear hM hBF hL0 hgk hst hmm
          go_wp2_with fail
          go_loopw [14, 15] (fun sv kv wr => ∃ (ag : Bool) (i : Nat), sv = .bool ag ∧ kv = .int .i64 i ∧ i ≤ n0 ∧ BsO W3 wr g out mc mi mm (fun _ => True) (fun L' => ∀ i', i' < i → CalmB g L' (cf g i')) ag) (fun _ kv _ => n0 - (intOf kv).toNat)
          case atStart => exact ⟨false, 0, rfl, rfl, by omega, hstart⟩
          case round =>
            obtain ⟨ag, i, rfl, rfl, hi, L, hM, hBF, hL0, hm1, hm2, _, hQ⟩ := hrel
            clear hstart
            have kg0 := cellK hM.2.2 HEb.out.2.2 HK3.out.1
            have HM := Lib.hid hM
            have HBF := Lib.hid hBF
            have HQ := Lib.hid hQ
            have H12 := Lib.hid (And.intro hm1 hm2)
            have HL0 := Lib.hid hL0
            by_cases hlt : i < n0
            · have hIr := HI3.out.kept0 hM.2.2 HIb.out
              obtain ⟨ad, hA⟩ := hIr.addr (by omega)
              rw [hA] at hIr
              have hix := fun wx => idx_run (m := m0) hA hlt wx
              have hE := hIr.cell (Below.refl _ _) hlt
              obtain ⟨c1, c2⟩ := cf_at (g := g) (i := i) (by rw [Hn.out.2.1]; exact hlt)
              rw [c1] at hE
              obtain ⟨x, hx⟩ : ∃ x, cf g i = x := ⟨_, rfl⟩
              rw [hx] at hE c2
              have Hx := Lib.hid (And.intro hx c2)
              obtain ⟨lx, hlx⟩ : ∃ z, L x = z := ⟨_, rfl⟩
              have hst : BsO W3 wr g out mc mi mm (fun L' => L' x = lx) (fun L' => (∀ i', i' < i → CalmB g L' (cf g i')) ∧ RlxB L' x (EgL (LS.first g) g.n x) 0) ag := ⟨L, HM.out, HBF.out, HL0.out, H12.out.1, H12.out.2, hlx, fun h => ⟨HQ.out h, fun c hc j e hj => by omega⟩⟩
              obtain ⟨ne, hne2⟩ : ∃ n, (EgL (LS.first g) g.n x).length = n := ⟨_, rfl⟩
              have hne256 : ne ≤ 256 := by rw [← hne2]; exact gE_small Hn.out.1 x
              have Hne := Lib.hid hne2
              clear hIr hA c1 hx c2 hM hBF hQ hm1 hm2 hL0 hlx hne2 HM HBF HQ H12 HL0
              go_wp2_with fail
              clear hE hix kg0
              go_loopw [14, 17] (fun sv kv wr => ∃ (ag : Bool) (k : Nat), sv = .bool ag ∧ kv = .int .i64 k ∧ k ≤ ne ∧ BsO W3 wr g out mc mi mm (fun L' => L' x = lx) (fun L' => (∀ i', i' < i → CalmB g L' (cf g i')) ∧ RlxB L' x (EgL (LS.first g) g.n x) k) ag) (fun _ kv _ => ne - (intOf kv).toNat)
              case atStart => exact ⟨ag, 0, rfl, rfl, by omega, hst⟩
              case round =>
                obtain ⟨ag, k, rfl, rfl, hk, L, hM, hBF, hL0, hm1, hm2, hP, hQ⟩ := hrel
                clear hst
                have kg1 := cellK hM.2.2 HEb.out.2.2 HK3.out.2
                have hEm := HE3.out.kept hM.2.2 HEb.out.1 HEb.out.2.1
                obtain ⟨A5, m5, hEd, hlk⟩ := emapLook hEm (egE_at (S := LS.first g) Hx.out.2)
                rw [Hne.out] at hlk
                have hlk0 := (hlk wr (Below.refl _ _)).1
                have his := hM.is x wr (Below.refl _ _)
                rw [hP] at his
                have HM := Lib.hid hM
                have HBF := Lib.hid hBF
                have HL0 := Lib.hid hL0
                have H12 := Lib.hid (And.intro hm1 hm2)
                have HP := Lib.hid hP
                have HQ := Lib.hid hQ
                have HEd := Lib.hid hEd
                clear hM hBF hL0 hm1 hm2 hP hQ hEd hlk hEm
                cases lx with
                | none =>
                  have his : (Instr.lookup 123 (.map (some mi)) (.int .i64 ((x : Nat) : Int)) false).run Tryz.prog wr = .ok (.bool false) wr := his
                  have hF : BsO W3 wr g out mc mi mm (fun _ => True) (fun L' => ∀ i', i' < i + 1 → CalmB g L' (cf g i')) ag := ⟨L, HM.out, HBF.out, HL0.out, H12.out.1, H12.out.2, trivial, fun hag i' hi' => by
                    by_cases e1 : i' < i
                    · exact (HQ.out hag).1 i' e1
                    · obtain rfl : i' = i := by omega
                      rw [Hx.out.1]
                      intro c b' e' hc
                      rw [HP.out] at hc; cases hc⟩
                  have hF := Lib.hid hF
                  clear HM HBF HL0 H12 HP HQ HEd
                  by_cases hkn : k < ne
                  · go_wp2
                    go_roundw
                    case rel => first | exact ⟨ag, i + 1, rfl, by go_num, by omega, hF.out⟩ | ((repeat apply Exists.intro); exact ⟨⟨ag, i + 1, rfl, by go_num, by omega, hF.out⟩, rfl⟩)
                    case measure => simp [intOf]; omega
                  · go_wp2
                    go_roundw
                    case rel => first | exact ⟨ag, i + 1, rfl, by go_num, by omega, hF.out⟩ | ((repeat apply Exists.intro); exact ⟨⟨ag, i + 1, rfl, by go_num, by omega, hF.out⟩, rfl⟩)
                    case measure => simp [intOf]; omega
                | some cx =>
                  obtain ⟨cs, cd⟩ := cx
                  have his : (Instr.lookup 123 (.map (some mi)) (.int .i64 ((x : Nat) : Int)) false).run Tryz.prog wr = .ok (.bool true) wr := his
                  by_cases hkn : k < ne
                  · obtain ⟨e, he⟩ : ∃ e, (EgL (LS.first g) g.n x)[k]? = some e := ⟨_, List.getElem?_eq_getElem (by rw [Hne.out]; exact hkn)⟩
                    obtain ⟨t, ht1, ht2, ht3⟩ := mem_EgL.1 (List.mem_of_getElem? he)
                    obtain ⟨gb5, hA, a1, a2, a3, a4⟩ := HEd.out.get he
                    have hix := fun wx => idxE (m := m5) hA hkn wx
                    have hge := (LS.first_eg ht3).1
                    have hsx := ge_small Hok.out hge
                    obtain ⟨xt, ⟨xs, xd⟩, xm⟩ := e
                    simp only at a1 a2 a3 a4 ht2 ht3 hge hsx
                    subst ht2
                    have hcin := bsSmall Hn.out.1 HBF.out HP.out
                    simp only at hcin
                    obtain ⟨cs', cd', q1, _, q3⟩ := HM.out.cost x
                    have q1 := q1 _ HP.out
                    injection q1 with q1 q2
                    subst q1; subst q2
                    have He := Lib.hid (And.intro he (And.intro hge (And.intro hsx hcin)))
                    have Hq3 := Lib.hid q3
                    clear hA he ht3 hge hsx hcin q3
                    go_upto_region 22 with (fail)
                    refine wp_name ?_
                    intro Wc hWc
                    have HWc : Below wr.heap.size wr Wc := by rw [hWc]; (repeat' (first | exact Below.refl _ _ | assumption | apply bel_drewN | apply bel_drew | apply bel_alloc | (refine bel_trans ?_ (by assumption))))
                    have o0 : Wc.cell? ⟨wr.heap.size, 0, none⟩ = some (.int .i64 (t : Nat)) := by rw [hWc]; go_simp
                    have o1 : Wc.cell? ⟨wr.heap.size, 1, none⟩ = some (.int .i64 xs) := by rw [hWc]; go_simp
                    have o2 : Wc.cell? ⟨wr.heap.size, 2, none⟩ = some (.int .i64 xd) := by rw [hWc]; go_simp
                    obtain ⟨b18, hb18⟩ : ∃ z, wr.heap.size = z := ⟨_, rfl⟩
                    have HM5 := Lib.hid (HM.out.below HWc)
                    have hlk5 := Hq3.out Wc HWc
                    have hb18m : b18 ∉ [mc] := by have := HM.out.lt; simp; omega
                    rw [hb18] at o0 o1 o2 ⊢
                    clear hWc HWc hb18 HM a1 a2 a3 a4 hix hlk0 his Hq3 HEd kg1
                    have hcs := He.out.2.2.2
                    have hsx := He.out.2.2.1
                    have cP := Lib.hid (fun w => refPlus cs cd xs xd w (by unfold inC; omega) (by unfold inC; omega) (by unfold inC; omega) (by unfold inC; omega))
                    clear hcs hsx
                    go_wp2_with fail
                    (with_reducible refine (cP.out _).mono ?_)
                    rintro e w6 ⟨rfl, hb6⟩
                    have o0 := bel_cell hb6 o0
                    have HM6 := Lib.hid (HM5.out.below hb6)
                    clear hlk5 cP HM5 o1 o2 hb6
                    go_upto_region 23 with (fail)
                    refine wp_name ?_
                    intro W7 hW7
                    have HW7 : Below w6.heap.size w6 W7 := by rw [hW7]; (repeat' (first | exact Below.refl _ _ | assumption | apply bel_drewN | apply bel_drew | apply bel_alloc | (refine bel_trans ?_ (by assumption))))
                    have d0 : W7.cell? ⟨w6.heap.size, 0, none⟩ = some (.int .i64 (cs + xs)) := by rw [hW7]; go_simp
                    have d1 : W7.cell? ⟨w6.heap.size, 1, none⟩ = some (.int .i64 (cd + xd)) := by rw [hW7]; go_simp
                    have o0 := bel_cell HW7 o0
                    have HM7 := Lib.hid (HM6.out.below HW7)
                    obtain ⟨b19, hb19⟩ : ∃ z, w6.heap.size = z := ⟨_, rfl⟩
                    rw [hb19] at d0 d1 ⊢
                    have his := HM7.out.is t
                    obtain ⟨ws, wd, hwd, hw0, hlc⟩ := HM7.out.cost t
                    have his0 := his W7 (Below.refl _ _)
                    have hlc0 := hlc W7 (Below.refl _ _)
                    obtain ⟨tb, htb⟩ : ∃ z, (L t).isSome = z := ⟨_, rfl⟩
                    rw [htb] at his0
                    have hwin : inC ws ∧ inC wd := by
                      cases hL : L t with
                      | none => obtain ⟨rfl, rfl⟩ := hw0 hL; exact ⟨by unfold inC; omega, by unfold inC; omega⟩
                      | some c =>
                        have h := bsSmall Hn.out.1 HBF.out hL
                        rw [hwd c hL] at h
                        simp only at h
                        unfold inC; omega
                    have hdin : inC (cs + xs) ∧ inC (cd + xd) := by have := He.out.2.2; unfold inC; omega
                    obtain ⟨tt, htt⟩ : ∃ z, (!tb || decide (C.cmp ⟨cs + xs, cd + xd⟩ ⟨ws, wd⟩ < 0)) = z := ⟨_, rfl⟩
                    have Htt := Lib.hid (And.intro htt (And.intro htb hwd))
                    clear hW7 HW7 hb19 HM6 his hlc hw0 htt htb hwd
                    go_cut [135] (fun s wx => s = .bool tt ∧ Below W7.heap.size W7 wx)
                    case first =>
                      cases tb with
                      | false =>
                        have ht : tt = true := by rw [← Htt.out.1]; rfl
                        subst ht
                        go_wp2
                        go_meet
                        case rel => exact ⟨rfl, by (repeat' (first | exact Below.refl _ _ | assumption | apply bel_drewN | apply bel_drew | apply bel_alloc | (refine bel_trans ?_ (by assumption))))⟩
                      | true =>
                        have cC := refCompare (cs + xs) (cd + xd) ws wd
                        obtain ⟨cv, hcv⟩ : ∃ cv, C.cmp ⟨cs + xs, cd + xd⟩ ⟨ws, wd⟩ = cv := ⟨_, rfl⟩
                        have ht : tt = decide (cv < 0) := by rw [← Htt.out.1, hcv]; rfl
                        rw [hcv] at cC
                        have cC := Lib.hid (fun w => cC w hdin.1 hdin.2 hwin.1 hwin.2)
                        have Ht2 := Lib.hid ht
                        clear hcv ht hdin hwin
                        go_wp2_with fail
                        (with_reducible refine (cC.out _).mono ?_)
                        rintro e w8 ⟨rfl, hb8⟩
                        go_wp2
                        go_meet
                        case rel => exact ⟨by rw [Ht2.out], hb8⟩
                    case rest =>
                      obtain ⟨rfl, hbe⟩ := hcut
                      have HM8 := Lib.hid (HM7.out.below hbe)
                      have o0 := bel_cell hbe o0
                      have d0 := bel_cell hbe d0
                      have d1 := bel_cell hbe d1
                      clear HM7 his0 hlc0 hwin hdin hbe
                      cases tt with
                      | false =>
                        have hle : ∃ d, L t = some d ∧ C.le d ⟨cs + xs, cd + xd⟩ := by
                          have h := Htt.out.1
                          cases hL : L t with
                          | none => have := Htt.out.2.1; rw [hL] at this; subst this; simp at h
                          | some d =>
                            refine ⟨d, rfl, ?_⟩
                            rw [Htt.out.2.2 d hL]
                            intro hlt
                            have := C.cmp_neg.2 hlt
                            simp at h
                            omega
                        have hF : BsO W3 wc g out mc mi mm (fun L' => L' x = some ⟨cs, cd⟩) (fun L' => (∀ i', i' < i → CalmB g L' (cf g i')) ∧ RlxB L' x (EgL (LS.first g) g.n x) (k + 1)) ag :=
                          ⟨L, HM8.out, HBF.out, HL0.out, H12.out.1, H12.out.2, HP.out, fun h => ⟨(HQ.out h).1, rlxB_step (HQ.out h).2 He.out.1 rfl (fun c hc => by
                            rw [HP.out] at hc; injection hc with hc; subst hc
                            exact hle)⟩⟩
                        have hF := Lib.hid hF
                        clear hle HM8 o0 d0 d1
                        go_wp2
                        go_roundw
                        case rel => first | exact ⟨ag, k + 1, rfl, by go_num, by omega, hF.out⟩ | ((repeat apply Exists.intro); exact ⟨⟨ag, k + 1, rfl, by go_num, by omega, hF.out⟩, rfl⟩)
                        case measure => simp [intOf]; omega
                      | true =>
                        have hlt : ∀ d, L t = some d → C.lt ⟨cs + xs, cd + xd⟩ d := fun d hd => by
                          have h := Htt.out.1
                          have h2 := Htt.out.2.1
                          rw [hd] at h2
                          subst h2
                          simp at h
                          rw [Htt.out.2.2 d hd]
                          exact C.cmp_neg.1 h
                        have Hl := Lib.hid hlt
                        have hxt : x ≠ t := He.out.2.1.2.2.1
                        have lo0 : b18 < wc.heap.size := World.block_lt_of_cell? _ _ o0
                        have ld0 : b19 < wc.heap.size := World.block_lt_of_cell? _ _ d0
                        obtain ⟨⟨n1', hM1⟩, ⟨n2', hM2⟩, hK8⟩ := HM8.out
                        clear hlt
                        go_wp2_with (first
                          | (refine wpList_storeM rfl _ _ _ rfl (int_fit Tryz.underlying3) Tryz.underlying122 hM1 rfl ((t : Nat) : Int) rfl (.agg #[.int .i64 (cs + xs), .int .i64 (cd + xd)]) rfl ?_; intro wU hmU hkU; have o0 := keptc hkU hb18m o0)
                          | (refine wpList_storeM rfl _ _ _ rfl (int_fit Tryz.underlying3) Tryz.underlying123 (hM2.kept hkU (by simpa using Ne.symm hne)) rfl ((t : Nat) : Int) rfl (.bool true) rfl ?_; intro wV hmV hkV))
                        have hF : BsO W3 wV g out mc mi mm (fun L' => L' x = some ⟨cs, cd⟩) (fun L' => (∀ i', i' < i → CalmB g L' (cf g i')) ∧ RlxB L' x (EgL (LS.first g) g.n x) (k + 1)) true :=
                          bsO_low (es := xs) (ed := xd) Hok.out HO.out.1 HM8.out HBF.out HL0.out H12.out.1 HP.out He.out.2.1 Hl.out (by show FR.upd L t _ x = _; rw [upd_ne _ _ hxt]; exact HP.out) hmU hkU hmV hkV hne
                        have hF := Lib.hid hF
                        clear hmU hkU hmV hkV hM1 hM2 hK8 HM8 o0 d0 d1
                        go_wp2
                        go_roundw
                        case rel => first | exact ⟨true, k + 1, rfl, by go_num, by omega, hF.out⟩ | ((repeat apply Exists.intro); exact ⟨⟨true, k + 1, rfl, by go_num, by omega, hF.out⟩, rfl⟩)
                        case measure => simp [intOf]; omega
                  · obtain rfl : k = ne := by omega
                    have hF : BsO W3 wr g out mc mi mm (fun _ => True) (fun L' => ∀ i', i' < i + 1 → CalmB g L' (cf g i')) ag := ⟨L, HM.out, HBF.out, HL0.out, H12.out.1, H12.out.2, trivial, fun hag i' hi' => by
                      by_cases e1 : i' < i
                      · exact (HQ.out hag).1 i' e1
                      · obtain rfl : i' = i := by omega
                        rw [Hx.out.1]
                        have := (HQ.out hag).2
                        rw [← Hne.out] at this
                        exact rlxB_calm this⟩
                    have hF := Lib.hid hF
                    clear HM HBF HL0 H12 HP HQ HEd
                    go_wp2
                    go_roundw
                    case rel => first | exact ⟨ag, i + 1, rfl, by go_num, by omega, hF.out⟩ | ((repeat apply Exists.intro); exact ⟨⟨ag, i + 1, rfl, by go_num, by omega, hF.out⟩, rfl⟩)
                    case measure => simp [intOf]; omega
            · obtain rfl : i = n0 := by omega
              have hall : ag = false → ∀ a, g.Corner a → CalmB g L a := fun hag a ha => by
                obtain ⟨j, q1, rfl⟩ := cf_has ha
                exact HQ.out hag j (by rw [← Hn.out.2.1]; exact q1)
              have hF : BsA W3 wr g out mc mi (2 * bsM g.n L + (if ag then 1 else 0)) (.bool ag) := ⟨ag, L, rfl, HM.out, HBF.out, HL0.out, rfl, hall⟩
              have hlt3 : 2 * bsM g.n L + (if ag then 1 else 0) < gk := by
                cases ag with
                | true => have := H12.out.2 rfl; simp; omega
                | false => have := H12.out.1; simp; omega
              have hF := Lib.hid hF
              have hlt3 := Lib.hid hlt3
              clear HM HBF HL0 H12 HQ hM hBF hL0 hm1 hm2 hQ hall
              go_wp2
              go_roundg (2 * bsM g.n L + (if ag then 1 else 0))
              case measure => exact hlt3.out
              case rel => exact hF.out
end Go.Proofs.YtjejkadaafmdcaaGreat
