/- graph.turn: a cell becomes a corner, or none. -/
import Derived.Test.YtjejkadaafmdcaaGreatGSet1
set_option linter.unusedVariables false
set_option linter.unusedSimpArgs false
namespace Go.Proofs.YtjejkadaafmdcaaGreat
open Go.RowKit Go.Sort FR
/-- nodes behind a turn -/
def TurnN (g : G) (N : Nat → Prop) (c : Nat) (z : Nat) : Prop := (z = c ∧ g.Corner c) ∨ (z ≠ c ∧ N z)
/-- edges behind a turn -/
def TurnE (g : G) (N : Nat → Prop) (D : Nat → Nat → Prop) (c a b : Nat) : Prop := D a b ∧ ((a ≠ c ∧ b ≠ c) ∨ (g.Corner c ∧ N c))
/-- what turn leaves behind -/
def TurnD (w : World) (b p mb : Nat) (S : List Nat) (g : G) (v : Int) (N : Nat → Prop) (D : Nat → Nat → Prop) (c : Nat) (e : Ending) (w' : World) : Prop :=
  ∃ (t : Bool) (S' : List Nat) (E' : Int → Option (List Ed)), e = .returned (.bool t) ∧ GraphOf w' b p mb S' g v E' ∧ GSp g (TurnN g N c) (TurnE g N D c) E' ∧ (∀ k ∈ S', k ∈ S ∨ w.heap.size ≤ k) ∧ Kept (mb :: S) w w'
theorem EMap.drop {w wU : World} {S : List Nat} {mb N N2 : Nat} {E : Int → Option (List Ed)} {V : Int → Option Value} {a : Int}
    (h1 : MapAt iK w mb V N) (h2 : ∀ k, E k = none ↔ V k = none) (h3 : ∀ k u L, V k = some u → E k = some L → OwnE w 0 u L) (h4 : ∀ k u q, V k = some u → u.ownBlock = some q → q ∈ S) (h5 : mb ∉ S)
    (h6 : ∀ k k' u u' q, V k = some u → V k' = some u' → u.ownBlock = some q → u'.ownBlock = some q → k = k') (h7 : ∀ s, s ∈ S → s < w.heap.size)
    (hM : MapAt iK wU mb (updK V a none) N2) (hK : Kept [mb] w wU) : EMap wU S mb (updE E a none) := by
  refine ⟨_, N2, hM, fun k => ?_, fun k x L hx hL => ?_, fun k x q hx hq => ?_, h5, fun k k' x x' q hx hx' hq hq' => ?_, fun s hs => Nat.lt_of_lt_of_le (h7 s hs) hK.size⟩
  · unfold updE updK
    split
    · simp
    · exact h2 k
  · unfold updE at hL
    unfold updK at hx
    split at hx
    · cases hx
    · rename_i e
      rw [if_neg e] at hL
      exact (h3 k x L hx hL).kept hK (fun q hq => by
        have := h4 k x q hx hq
        simp
        rintro rfl
        exact h5 this)
  · unfold updK at hx
    split at hx
    · cases hx
    · exact h4 k x q hx hq
  · unfold updK at hx hx'
    split at hx
    · cases hx
    · split at hx'
      · cases hx'
      · exact h6 k k' x x' q hx hx' hq hq'
/-- edges that are left behind k cuts -/
def CutK (D : Nat → Nat → Prop) (L : List Ed) (c k a b : Nat) : Prop := D a b ∧ ∀ (j : Nat) (e : Ed), j < k → L[j]? = some e → ∀ y : Nat, e.to_ = y → ¬ Pr c y a b
/-- what holds at a round's head -/
def CutI (w w1 : World) (b p mb : Nat) (S : List Nat) (g : G) (v : Int) (N : Nat → Prop) (D : Nat → Nat → Prop) (c : Nat) (L : List Ed) (A : Option Addr) (k : Nat) (wr : World) : Prop :=
  ∃ S' E', GraphOf wr b p mb S' g v E' ∧ GSp g N (CutK D L c k) E' ∧ (∀ k ∈ S', k ∈ S ∨ w.heap.size ≤ k) ∧ Kept (mb :: S) w wr ∧ EdsAt wr A L ∧ (∀ ad, A = some ad → ad.block ∉ mb :: S')
theorem kept_more {w w1 w2 : World} {mb : Nat} {S S1 : List Nat} (h : Kept (mb :: S) w w1) (k : Kept (mb :: S1) w1 w2) (hS : ∀ q ∈ S1, q ∈ S ∨ w.heap.size ≤ q) : Kept (mb :: S) w w2 :=
  ⟨k.os.trans h.os, k.tape.trans h.tape, k.output.trans h.output, Nat.le_trans h.size k.size, fun q hq hn => by
    refine (k.block q (Nat.lt_of_lt_of_le hq h.size) ?_).trans (h.block q hq hn)
    intro hm
    rcases List.mem_cons.1 hm with e | e
    · exact hn (by rw [e]; simp)
    · rcases hS q e with r | r
      · exact hn (List.mem_cons_of_mem _ r)
      · omega⟩
theorem more_more {w w1 : World} {S S1 S2 : List Nat} (hs : w.heap.size ≤ w1.heap.size) (h1 : ∀ k ∈ S1, k ∈ S ∨ w.heap.size ≤ k) (h2 : ∀ k ∈ S2, k ∈ S1 ∨ w1.heap.size ≤ k) : ∀ k ∈ S2, k ∈ S ∨ w.heap.size ≤ k := fun k hk => by
  rcases h2 k hk with q | q
  · exact h1 k q
  · exact .inr (by omega)
theorem EMap.lts {w : World} {S : List Nat} {mb : Nat} {E : Int → Option (List Ed)} (h : EMap w S mb E) : ∀ s ∈ S, s < w.heap.size := by
  obtain ⟨_, _, _, _, _, _, _, _, h7⟩ := h
  exact h7
set_option maxRecDepth 100000 in
set_option maxHeartbeats 3200000 in
theorem graphTurn (w : World) (b p mb : Nat) (S : List Nat) (g : G) (v : Int) (E : Int → Option (List Ed)) (N : Nat → Prop) (D : Nat → Nat → Prop) (c : Nat) (h : GraphOf w b p mb S g v E) (hS : GSp g N D E) (hNf : ∀ c, N c → c < g.n) (hc : c < g.n) (hsym : ∀ a b, D a b → D b a) :
    Calls Tryz.prog 55 #[.pointer (some ⟨b, 0, none⟩), .int .i64 (c : Nat)] w (TurnD w b p mb S g v N D c) := by
  have hg := h.2.1
  have hok := hg.1
  have hNn := G.n_le hok
  have kb0 : w.cell? ⟨b, 0, none⟩ = some (.pointer (some ⟨p, 0, none⟩)) := by simp [World.cell?, h.1]
  have kb1 : w.cell? ⟨b, 1, none⟩ = some (.map (some mb)) := by simp [World.cell?, h.1]
  obtain ⟨t, ht⟩ : ∃ t, cornerB g c = t := ⟨_, rfl⟩
  have hcor : t = true ↔ g.Corner c := by rw [← ht]; exact corner_iff' hc
  have cI := cornerIs_in w p g v c hg hc
  rw [ht] at cI
  have cI := Lib.hid cI
  have Hcor := Lib.hid hcor
  have H := Lib.hid h
  have HS := Lib.hid hS
  have HNf := Lib.hid hNf
  have Hsym := Lib.hid hsym
  obtain ⟨_, _, ⟨V, n0, q1, q2, q3, q4, q5, q6, q7⟩, _⟩ := h
  have Q := Lib.hid (And.intro q1 (And.intro q2 (And.intro q3 (And.intro q4 (And.intro q5 (And.intro q6 q7))))))
  have hlk : ∀ w', Below w.heap.size w w' → (Instr.lookup 54 (.map (some mb)) (.int .i64 (c : Nat)) true).run Tryz.prog w' = .ok (.tuple #[(V c).getD (.slice none 0 0), .bool (V c).isSome]) w' := fun w' hb =>
    ((q1.below hb).look (int_fit Tryz.underlying3) Tryz.underlying54 (z := .slice none 0 0) (by simp [Tryz.zeroValue59]) (c : Int)).1
  have hVN : (V c).isSome = true ↔ N c := by
    have h1 := hS.1 c
    have h2 := q2 c
    constructor
    · intro hv
      obtain ⟨c', e, hn⟩ := h1.1 (fun e => by rw [h2.1 e] at hv; cases hv)
      obtain rfl : c = c' := by omega
      exact hn
    · intro hn
      cases hV : V c with
      | none => exact absurd (h2.2 hV) (h1.2 ⟨c, rfl, hn⟩)
      | some _ => rfl
  obtain ⟨u, hu⟩ : ∃ u, (V c).getD (.slice none 0 0) = u := ⟨_, rfl⟩
  obtain ⟨s, hs⟩ : ∃ s, (V c).isSome = s := ⟨_, rfl⟩
  rw [hu, hs] at hlk
  rw [hs] at hVN
  have Hlk := Lib.hid hlk
  have HVN := Lib.hid hVN
  have Hu := Lib.hid hu
  have Hs := Lib.hid hs
  clear hS hNf hsym q1 q2 q3 q4 q5 q6 q7 hg ht hcor hlk hVN hu hs
  go_enter Tryz.func55, Tryz.ntmps55
  go_wp2_with fail
  (with_reducible refine cI.out.mono ?_)
  rintro e w1 ⟨rfl, hb1⟩
  have kb1 := bel_cell hb1 kb1
  have hl1 := Hlk.out _ hb1
  have H1 := Lib.hid (H.out.below hb1)
  clear cI kb0
  have hrest : (t = true ∧ s = true) ∨ (t = false ∧ s = false) → TurnD w b p mb S g v N D c (.returned (.bool false)) w1 := by
    intro hor
    refine ⟨false, S, E, rfl, H1.out, HS.out.congr (fun z => ?_) (fun x y hx hy _ => ?_) (fun _ _ => rfl), fun k hk => .inl hk, Kept.of_below hb1⟩
    · unfold TurnN
      by_cases e : z = c
      · subst e
        rcases hor with ⟨r1, r2⟩ | ⟨r1, r2⟩
        · have := Hcor.out.1 r1; have := HVN.out.1 r2; simp [*]
        · have n1 : ¬ N z := fun hh => by have := HVN.out.2 hh; rw [r2] at this; cases this
          have n2 : ¬ g.Corner z := fun hh => by have := Hcor.out.2 hh; rw [r1] at this; cases this
          simp [n1, n2]
      · simp [e]
    · unfold TurnE
      refine ⟨fun hd => ⟨hd, ?_⟩, fun hd => hd.1⟩
      rcases hor with ⟨r1, r2⟩ | ⟨r1, r2⟩
      · exact .inr ⟨Hcor.out.1 r1, HVN.out.1 r2⟩
      · left
        have n1 : ¬ N c := fun hh => by have := HVN.out.2 hh; rw [r2] at this; cases this
        exact ⟨fun e => n1 (by rw [← e]; exact hx), fun e => n1 (by rw [← e]; exact hy)⟩
  have Hrest := Lib.hid hrest
  clear hrest
  cases t with
  | true =>
    cases s with
    | true =>
      have hfin := Lib.hid (Hrest.out (.inl ⟨rfl, rfl⟩))
      clear Hrest hb1
      go_wp2
      go_ret
      exact hfin.out
    | false =>
      clear Hrest
      have hnN : ¬ N c := fun hh => by have := HVN.out.2 hh; cases this
      have hcc : g.Corner c := Hcor.out.1 rfl
      obtain ⟨wU, hU, hMU, hKU⟩ := (Q.out.1.below hb1).store (int_fit Tryz.underlying3) Tryz.underlying54 (c : Int) (.slice none 0 0)
      have hU : (Instr.mapUpdate 54 (.map (some mb)) (.int .i64 (c : Nat)) (.slice none 0 0)).run Tryz.prog w1 = .ok () wU := hU
      have hE2 : EMap wU S mb (updE E c (some [])) := EMap.add (Q.out.1.below hb1) Q.out.2.1 (fun k u L a1 a2 => (Q.out.2.2.1 k u L a1 a2).kept (T := []) (.of_below hb1) (fun _ _ => by simp)) Q.out.2.2.2.1 Q.out.2.2.2.2.1 Q.out.2.2.2.2.2.1 (fun s hs => Nat.lt_of_lt_of_le (Q.out.2.2.2.2.2.2 s hs) hb1.size) hMU hKU
      have hfin : TurnD w b p mb S g v N D c (.returned (.bool true)) wU := by
        refine ⟨true, S, _, rfl, H1.out.put hE2 (fun k hk => .inl hk) (hKU.wid (by simp)), (HS.out.add hnN).congr (fun z => ?_) (fun x y _ _ _ => ?_) (fun _ _ => rfl), fun k hk => .inl hk, (Kept.of_below hb1).trans (hKU.wid (by simp))⟩
        · unfold TurnN
          by_cases e : z = c
          · subst e; simp [hcc]
          · simp [e]
        · unfold TurnE
          constructor
          · rintro ⟨a1, a2, a3⟩; exact ⟨a1, .inl ⟨a2, a3⟩⟩
          · rintro ⟨a1, a2 | ⟨_, a2⟩⟩
            · exact ⟨a1, a2⟩
            · exact absurd a2 hnN
      have hfin := Lib.hid hfin
      clear hE2 hMU hKU hb1
      go_wp2
      go_ret
      exact hfin.out
  | false =>
    cases s with
    | false =>
      have hfin := Lib.hid (Hrest.out (.inr ⟨rfl, rfl⟩))
      clear Hrest hb1
      go_wp2
      go_ret
      exact hfin.out
    | true =>
      clear Hrest
      have hN : N c := HVN.out.1 rfl
      have hnc : ¬ g.Corner c := fun hh => by have := Hcor.out.2 hh; cases this
      obtain ⟨L, hL, sL, iL, lL, mL⟩ := HS.out.facts hNn HNf.out hN
      have hVu : V c = some u := by
        have a := Hu.out; have b := Hs.out
        cases hV : V c with
        | none => rw [hV] at b; cases b
        | some x => rw [hV] at a; simp at a; rw [a]
      have hOu : OwnE w1 0 u L := (Q.out.2.2.1 c u L hVu hL).kept (T := []) (.of_below hb1) (fun _ _ => by simp)
      have cC := Lib.hid (edClone w1 0 u L hOu (by omega))
      have HmL := Lib.hid mL
      have HB1 := Lib.hid hb1
      clear hL hVu hOu mL hb1 iL sL
      go_wp2_with fail
      (with_reducible refine cC.out.mono ?_)
      rintro e w2 ⟨A, m, rfl, hEd, hAn, hb2⟩
      have hb02 := bel_trans HB1.out hb2
      have hstart : CutI w w2 b p mb S g v N D c L A 0 w2 := by
        refine ⟨S, E, H1.out.below hb2, HS.out.congr (fun _ => Iff.rfl) (fun x y _ _ _ => ?_) (fun _ _ => rfl), fun k hk => .inl hk, Kept.of_below hb02, hEd, fun ad e hm => ?_⟩
        · unfold CutK
          exact ⟨fun hd => ⟨hd, fun j e hj => by omega⟩, fun hd => hd.1⟩
        · have h1 := hAn ad e
          have h2 := HB1.out.size
          have h3 := H.out.2.2.1.lt
          have h4 := H.out.2.2.1.lts
          rcases List.mem_cons.1 hm with r | r
          · omega
          · have := h4 _ r; omega
      obtain ⟨n, hn⟩ : ∃ n, L.length = n := ⟨_, rfl⟩
      rw [hn] at lL ⊢
      have Hn := Lib.hid hn
      have HB2 := Lib.hid hb02
      clear hl1 cC hEd hAn hb2 hn kb1 hb02 H1
      go_wp2_with fail
      go_loopw [49] (fun kv wr => ∃ k : Nat, kv = .int .i64 k ∧ k ≤ n ∧ CutI w w2 b p mb S g v N D c L A k wr) (fun kv _ => n - (intOf kv).toNat)
      case atStart => exact ⟨0, rfl, by omega, hstart⟩
      case round =>
        obtain ⟨k, rfl, hk, S1, E1, hG1, hS1, hN1, hK1, hEd1, hA1⟩ := hrel
        clear hstart
        by_cases hlt : k < n
        · obtain ⟨ek, hek⟩ : ∃ e, L[k]? = some e := ⟨L[k]'(by rw [Hn.out]; exact hlt), List.getElem?_eq_getElem _⟩
          obtain ⟨y, hy1, hy2, hy3, hey⟩ := (HmL.out ek).1 (List.mem_of_getElem? hek)
          obtain ⟨os, hos⟩ : ∃ o, g.oct c y = o := ⟨_, rfl⟩
          rw [hos] at hey
          subst hey
          obtain ⟨ga, hA, a1, a2, a3, a4⟩ := hEd1.get hek
          have hix := fun wx => idxE (m := m) hA hlt wx
          simp only at a1 a2 a3 a4
          obtain ⟨os, od⟩ := os
          simp only at a1 a2 a3 a4
          obtain ⟨Lc, hLc, _, _, lc, _⟩ := hS1.facts hNn HNf.out hN
          obtain ⟨Ly, hLy, _, _, ly, _⟩ := hS1.facts hNn HNf.out hy1
          have Hek := Lib.hid hek
          have HG1 := Lib.hid hG1
          have Hsp := Lib.hid (hS1.cut hN hy1 (Ne.symm hy2) hLc hLy)
          have HN1 := Lib.hid hN1
          have HK1 := Lib.hid hK1
          have HEd1 := Lib.hid hEd1
          have HA1 := Lib.hid hA1
          have cT := Lib.hid (fun w' (hb : Below wr.heap.size wr w') => graphCut w' S1 b p mb E1 (c : Nat) (y : Nat) Lc Ly (hG1.below hb).1 (hG1.below hb).2.2.1 hG1.2.2.2.1 hG1.2.2.2.2.2.1 hLc hLy (by omega) (by omega) (by omega))
          clear hek hos hA hG1 hS1 hN1 hK1 hEd1 hA1 hLc hLy
          go_upto_region 10 with (fail)
          refine wp_name ?_
          intro W hW
          have HW : Below wr.heap.size wr W := by rw [hW]; (repeat' (first | exact Below.refl _ _ | assumption | apply bel_drewN | apply bel_drew | apply bel_alloc | (refine bel_trans ?_ (by assumption))))
          have e0 : W.cell? ⟨wr.heap.size, 0, none⟩ = some (.int .i64 (y : Nat)) := by rw [hW]; go_simp
          obtain ⟨bx, hbx⟩ : ∃ z, wr.heap.size = z := ⟨_, rfl⟩
          have Hbx := Lib.hid hbx
          rw [hbx] at e0 ⊢
          clear hW a1 a2 a3 a4 hix hbx
          go_wp2_with fail
          (refine (cT.out _ HW).mono ?_)
          rintro e w3 ⟨rfl, S2, hE2, hN2, hK2⟩
          have hfin : CutI w w2 b p mb S g v N D c L A (k + 1) w3 := by
            refine ⟨S2, _, (HG1.out.below HW).put hE2 hN2 hK2, Hsp.out.congr (fun _ => Iff.rfl) (fun x z _ _ _ => ?_) (fun _ _ => rfl), ?_, ?_, ?_, ?_⟩
            · unfold CutK
              constructor
              · rintro ⟨⟨d1, d2⟩, d3⟩
                refine ⟨d1, fun j e hj he y' hy' => ?_⟩
                by_cases ej : j = k
                · subst ej
                  rw [Hek.out] at he
                  injection he with he
                  subst he
                  simp only at hy'
                  obtain rfl : y = y' := by omega
                  exact d3
                · exact d2 j e (by omega) he y' hy'
              · rintro ⟨d1, d2⟩
                exact ⟨⟨d1, fun j e hj he y' hy' => d2 j e (by omega) he y' hy'⟩, d2 k _ (by omega) Hek.out y rfl⟩
            · exact more_more (Nat.le_trans HK1.out.size HW.size) HN1.out hN2
            · exact kept_more (HK1.out.trans (Kept.of_below HW)) hK2 HN1.out
            · exact ((HEd1.out.below HW).kept hK2 (fun ad e => HA1.out ad e))
            · intro ad e hm
              have hlA : ad.block < wr.heap.size := by
                obtain ⟨ga, e2, hl, _⟩ := HEd1.out (by rw [Hn.out]; omega)
                rw [e2] at e
                injection e with e
                rw [← e]
                exact hl
              rcases List.mem_cons.1 hm with r | r
              · exact HA1.out ad e (by rw [r]; simp)
              · rcases hN2 _ r with q | q
                · exact HA1.out ad e (List.mem_cons_of_mem _ q)
                · have := HW.size; omega
          have hfin := Lib.hid hfin
          clear hE2 hN2 hK2 HW e0 cT
          go_wp2
          go_roundw
          case rel => first | exact ⟨k + 1, by go_num, by omega, hfin.out⟩ | ((repeat apply Exists.intro); exact ⟨⟨k + 1, by go_num, by omega, hfin.out⟩, rfl⟩)
          case measure => simp [intOf]; omega
        · obtain rfl : k = n := by omega
          have hD : ∀ x, N x → x ≠ c → ¬ CutK D L c k x c := by
            rintro x hx hxc ⟨d1, d2⟩
            have hm := (HmL.out ⟨x, g.oct c x, -1⟩).2 ⟨x, hx, hxc, Hsym.out _ _ d1, rfl⟩
            obtain ⟨j, hj⟩ := List.getElem?_of_mem hm
            have hjl := (List.getElem?_eq_some_iff.1 hj).1
            exact d2 j _ (by have := Hn.out; omega) hj x rfl (.inr ⟨rfl, rfl⟩)
          have hsub := hS1.sub hD
          have kb1 : wr.cell? ⟨b, 1, none⟩ = some (.map (some mb)) := by simp [World.cell?, hG1.1]
          have HG1 := Lib.hid hG1
          have Hsub := Lib.hid hsub
          have HN1 := Lib.hid hN1
          have HK1 := Lib.hid hK1
          obtain ⟨_, _, ⟨V1, n1, p1, p2, p3, p4, p5, p6, p7⟩, _⟩ := hG1
          have P := Lib.hid (And.intro p1 (And.intro p2 (And.intro p3 (And.intro p4 (And.intro p5 (And.intro p6 p7))))))
          clear hD hsub hS1 hN1 hK1 hEd1 hA1 p1 p2 p3 p4 p5 p6 p7
          go_wp2_with (at_delete; (refine wpList_dropM rfl _ _ rfl (int_fit Tryz.underlying3) Tryz.underlying54 P.out.1 rfl (c : Int) rfl ?_); intro w5 hM5 hk5)
          have hE5 : EMap w5 S1 mb (updE E1 c none) := EMap.drop P.out.1 P.out.2.1 P.out.2.2.1 P.out.2.2.2.1 P.out.2.2.2.2.1 P.out.2.2.2.2.2.1 P.out.2.2.2.2.2.2 hM5 hk5
          have hfin : TurnD w b p mb S g v N D c (.returned (.bool false)) w5 := by
            refine ⟨false, S1, _, rfl, HG1.out.put hE5 (fun k hk => .inl hk) (hk5.wid (by simp)), Hsub.out.congr (fun z => ?_) (fun x y hx hy _ => ?_) (fun _ _ => rfl), HN1.out, HK1.out.trans (hk5.wid (by simp))⟩
            · unfold TurnN
              by_cases e : z = c
              · subst e; simp [hnc]
              · simp [e]
            · unfold TurnE CutK
              constructor
              · rintro ⟨⟨d1, _⟩, d2, d3⟩; exact ⟨d1, .inl ⟨d2, d3⟩⟩
              · rintro ⟨d1, ⟨d2, d3⟩ | ⟨d2, _⟩⟩
                · refine ⟨⟨d1, fun j e hj he y' hy' => ?_⟩, d2, d3⟩
                  rintro (⟨r1, _⟩ | ⟨_, r2⟩)
                  · exact d2 r1
                  · exact d3 r2
                · exact absurd d2 hnc
          have hfin := Lib.hid hfin
          clear hE5 hM5 hk5 kb1
          go_wp2
          go_ret
          exact hfin.out
end Go.Proofs.YtjejkadaafmdcaaGreat
