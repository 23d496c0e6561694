/- A graph on its way from one grid to the next: which nodes, which pairs have edges. -/
import Derived.Test.YtjejkadaafmdcaaGreatCut
import Derived.Test.YtjejkadaafmdcaaGreatMathRepair
set_option linter.unusedVariables false
set_option linter.unusedSimpArgs false
namespace Go.Proofs.YtjejkadaafmdcaaGreat
open Go.RowKit Go.Sort FR
/-- nodes N, edges where D -/
def GSp (g : G) (N : Nat → Prop) (D : Nat → Nat → Prop) (E : Int → Option (List Ed)) : Prop :=
  (∀ z : Int, E z ≠ none ↔ ∃ c : Nat, z = c ∧ N c) ∧ ∀ (c : Nat) (L : List Ed), E c = some L → Srt L ∧ ∀ e, e ∈ L ↔ ∃ y : Nat, N y ∧ y ≠ c ∧ D c y ∧ e = ⟨y, g.oct c y, -1⟩
theorem GSpec.sp {g : G} {Done : Nat → Nat → Prop} {E : Int → Option (List Ed)} (h : GSpec g Done E) : GSp g g.Corner (fun a b => Done a b ∧ g.Direct a b) E := by
  refine ⟨h.1, fun c L hc => ⟨(h.2 c L hc).1, fun e => ?_⟩⟩
  rw [(h.2 c L hc).2 e]
  constructor
  · rintro ⟨y, h1, h2, h3, h4, h5⟩; exact ⟨y, h1, h2, ⟨h3, h4⟩, h5⟩
  · rintro ⟨y, h1, h2, ⟨h3, h4⟩, h5⟩; exact ⟨y, h1, h2, h3, h4, h5⟩
theorem GSp.spec {g : G} {E : Int → Option (List Ed)} (h : GSp g g.Corner g.Direct E) : GSpec g (fun _ _ => True) E := by
  refine ⟨h.1, fun c L hc => ⟨(h.2 c L hc).1, fun e => ?_⟩⟩
  rw [(h.2 c L hc).2 e]
  constructor
  · rintro ⟨y, h1, h2, h3, h4⟩; exact ⟨y, h1, h2, trivial, h3, h4⟩
  · rintro ⟨y, h1, h2, _, h3, h4⟩; exact ⟨y, h1, h2, h3, h4⟩
theorem GSp.node {g : G} {N : Nat → Prop} {D : Nat → Nat → Prop} {E : Int → Option (List Ed)} (h : GSp g N D E) {c : Nat} {L : List Ed} (hc : E c = some L) : N c := by
  obtain ⟨c', e, hn⟩ := (h.1 c).1 (by rw [hc]; simp)
  obtain rfl : c = c' := by omega
  exact hn
/-- the same, said of other words -/
theorem GSp.congr {g g' : G} {N N' : Nat → Prop} {D D' : Nat → Nat → Prop} {E : Int → Option (List Ed)} (h : GSp g N D E) (hN : ∀ c, N c ↔ N' c) (hD : ∀ a b, N a → N b → a ≠ b → (D a b ↔ D' a b)) (ho : ∀ a b, g'.oct a b = g.oct a b) : GSp g' N' D' E := by
  refine ⟨fun z => ?_, fun c L hc => ⟨(h.2 c L hc).1, fun e => ?_⟩⟩
  · rw [h.1 z]
    exact exists_congr fun c => and_congr_right fun _ => hN c
  · have hn := h.node hc
    rw [(h.2 c L hc).2 e]
    constructor
    · rintro ⟨y, h1, h2, h3, h4⟩; exact ⟨y, (hN y).1 h1, h2, (hD c y hn h1 (Ne.symm h2)).1 h3, by rw [ho]; exact h4⟩
    · rintro ⟨y, h1, h2, h3, h4⟩; exact ⟨y, (hN y).2 h1, h2, (hD c y hn ((hN y).2 h1) (Ne.symm h2)).2 h3, by rw [← ho]; exact h4⟩
theorem GSp.facts {g : G} {N : Nat → Prop} {D : Nat → Nat → Prop} {E : Int → Option (List Ed)} {M : Nat} (h : GSp g N D E) (hM : M ≤ 256) (hN : ∀ c, N c → c < M) {c : Nat} (hc : N c) : ∃ L, E c = some L ∧ Srt L ∧ (∀ e ∈ L, inC e.to_) ∧ L.length ≤ 1000 ∧ ∀ e, e ∈ L ↔ ∃ y : Nat, N y ∧ y ≠ c ∧ D c y ∧ e = ⟨y, g.oct c y, -1⟩ := by
  have h1 := (h.1 c).2 ⟨c, rfl, hc⟩
  cases hE : E c with
  | none => exact absurd hE h1
  | some L =>
    obtain ⟨a, b⟩ := h.2 c L hE
    have hb : ∀ e ∈ L, 0 ≤ e.to_ ∧ e.to_ < M := fun e he => by
      obtain ⟨y, hy, _, _, rfl⟩ := (b e).1 he
      have := hN y hy
      simp only
      omega
    refine ⟨L, rfl, a, fun e he => ?_, ?_, b⟩
    · have := hb e he
      unfold inC; omega
    · have := srt_long a M hb
      omega
theorem srt_pair {L : List Ed} : Srt L ↔ L.Pairwise (fun a b => a.to_ < b.to_) := by
  rw [List.pairwise_iff_getElem]
  constructor
  · intro h i j hi hj hij; exact h i j _ _ hij (List.getElem?_eq_getElem hi) (List.getElem?_eq_getElem hj)
  · intro h i j a b hij ha hb
    obtain ⟨hi, rfl⟩ := List.getElem?_eq_some_iff.1 ha
    obtain ⟨hj, rfl⟩ := List.getElem?_eq_some_iff.1 hb
    exact h i j hi hj hij
theorem srt_del {L : List Ed} (h : Srt L) (t : Int) : Srt (delE L t) := by
  rw [srt_pair] at *
  exact h.filter _
theorem mem_del {L : List Ed} {t : Int} {e : Ed} : e ∈ delE L t ↔ e ∈ L ∧ e.to_ ≠ t := by
  unfold delE
  simp
/-- a pair -/
def Pr (a b x y : Nat) : Prop := (x = a ∧ y = b) ∨ (x = b ∧ y = a)
theorem GSp.cut {g : G} {N : Nat → Prop} {D : Nat → Nat → Prop} {E : Int → Option (List Ed)} (h : GSp g N D E) {a b : Nat} (ha : N a) (hb : N b) (hab : a ≠ b) {La Lb : List Ed} (hLa : E a = some La) (hLb : E b = some Lb) :
    GSp g N (fun x y => D x y ∧ ¬ Pr a b x y) (updE (updE E a (some (delE La b))) b (some (delE Lb a))) := by
  obtain ⟨sa, ma⟩ := h.2 a La hLa
  obtain ⟨sb, mb⟩ := h.2 b Lb hLb
  refine ⟨fun z => ?_, fun c L hc => ?_⟩
  · unfold updE
    by_cases e1 : z = (b : Int)
    · rw [if_pos e1]; exact ⟨fun _ => ⟨b, e1, hb⟩, fun _ => by simp⟩
    · rw [if_neg e1]
      by_cases e2 : z = (a : Int)
      · rw [if_pos e2]; exact ⟨fun _ => ⟨a, e2, ha⟩, fun _ => by simp⟩
      · rw [if_neg e2]; exact h.1 z
  · unfold updE at hc
    by_cases e1 : (c : Int) = (b : Int)
    · rw [if_pos e1] at hc
      injection hc with hc
      obtain rfl : c = b := by omega
      subst hc
      refine ⟨srt_del sb _, fun e => ?_⟩
      rw [mem_del, mb e]
      constructor
      · rintro ⟨⟨y, q1, q2, q3, rfl⟩, q4⟩
        simp only at q4
        refine ⟨y, q1, q2, ⟨q3, ?_⟩, rfl⟩
        rintro (⟨r1, r2⟩ | ⟨r1, r2⟩)
        · exact hab r1.symm
        · exact q4 (by rw [r2])
      · rintro ⟨y, q1, q2, ⟨q3, q4⟩, rfl⟩
        refine ⟨⟨y, q1, q2, q3, rfl⟩, ?_⟩
        simp only
        intro r
        exact q4 (.inr ⟨rfl, by omega⟩)
    · rw [if_neg e1] at hc
      by_cases e2 : (c : Int) = (a : Int)
      · rw [if_pos e2] at hc
        injection hc with hc
        obtain rfl : c = a := by omega
        subst hc
        refine ⟨srt_del sa _, fun e => ?_⟩
        rw [mem_del, ma e]
        constructor
        · rintro ⟨⟨y, q1, q2, q3, rfl⟩, q4⟩
          simp only at q4
          refine ⟨y, q1, q2, ⟨q3, ?_⟩, rfl⟩
          rintro (⟨r1, r2⟩ | ⟨r1, r2⟩)
          · exact q4 (by rw [r2])
          · exact hab r1
        · rintro ⟨y, q1, q2, ⟨q3, q4⟩, rfl⟩
          refine ⟨⟨y, q1, q2, q3, rfl⟩, ?_⟩
          simp only
          intro r
          exact q4 (.inl ⟨rfl, by omega⟩)
      · rw [if_neg e2] at hc
        obtain ⟨s, m⟩ := h.2 c L hc
        refine ⟨s, fun e => ?_⟩
        rw [m e]
        constructor
        · rintro ⟨y, q1, q2, q3, q4⟩
          refine ⟨y, q1, q2, ⟨q3, ?_⟩, q4⟩
          rintro (⟨r1, r2⟩ | ⟨r1, r2⟩)
          · exact e2 (by rw [r1])
          · exact e1 (by rw [r1])
        · rintro ⟨y, q1, q2, ⟨q3, _⟩, q4⟩; exact ⟨y, q1, q2, q3, q4⟩
theorem GSp.yes {g : G} {N : Nat → Prop} {D : Nat → Nat → Prop} {E : Int → Option (List Ed)} (h : GSp g N D E) {a b : Nat} (ha : N a) (hb : N b) (hab : a ≠ b) (h1 : ¬ D a b) (h2 : ¬ D b a) {La Lb : List Ed} (hLa : E a = some La) (hLb : E b = some Lb) :
    GSp g N (fun x y => D x y ∨ Pr a b x y) (updE (updE E a (some (insS La ⟨b, g.oct a b, -1⟩))) b (some (insS Lb ⟨a, g.oct a b, -1⟩))) ∧ hasE La b = false ∧ hasE Lb a = false := by
  obtain ⟨sa, ma⟩ := h.2 a La hLa
  obtain ⟨sb, mb⟩ := h.2 b Lb hLb
  have na : hasE La b = false := by
    cases hh : hasE La b with
    | false => rfl
    | true =>
      obtain ⟨e, he, e1⟩ := has_iff.1 hh
      obtain ⟨y, _, _, q, rfl⟩ := (ma e).1 he
      simp only at e1
      obtain rfl : y = b := by omega
      exact absurd q h1
  have nb : hasE Lb a = false := by
    cases hh : hasE Lb a with
    | false => rfl
    | true =>
      obtain ⟨e, he, e1⟩ := has_iff.1 hh
      obtain ⟨y, _, _, q, rfl⟩ := (mb e).1 he
      simp only at e1
      obtain rfl : y = a := by omega
      exact absurd q h2
  have hba : ¬ ((b : Int) = (a : Int)) := by omega
  refine ⟨⟨fun z => ?_, fun c L hc => ?_⟩, na, nb⟩
  · unfold updE
    by_cases e1 : z = (b : Int)
    · rw [if_pos e1]; exact ⟨fun _ => ⟨b, e1, hb⟩, fun _ => by simp⟩
    · rw [if_neg e1]
      by_cases e2 : z = (a : Int)
      · rw [if_pos e2]; exact ⟨fun _ => ⟨a, e2, ha⟩, fun _ => by simp⟩
      · rw [if_neg e2]; exact h.1 z
  · unfold updE at hc
    by_cases e1 : (c : Int) = (b : Int)
    · rw [if_pos e1] at hc
      injection hc with hc
      obtain rfl : c = b := by omega
      subst hc
      refine ⟨srt_insS sb nb, fun e => ?_⟩
      rw [mem_insS, mb e]
      constructor
      · rintro (rfl | ⟨y, q1, q2, q3, q4⟩)
        · exact ⟨a, ha, hab, .inr (.inr ⟨rfl, rfl⟩), by rw [G.oct_symm]⟩
        · exact ⟨y, q1, q2, .inl q3, q4⟩
      · rintro ⟨y, q1, q2, q3 | ⟨rfl, rfl⟩ | ⟨_, rfl⟩, q4⟩
        · exact .inr ⟨y, q1, q2, q3, q4⟩
        · exact absurd rfl hab
        · exact .inl (by rw [q4, G.oct_symm])
    · rw [if_neg e1] at hc
      by_cases e2 : (c : Int) = (a : Int)
      · rw [if_pos e2] at hc
        injection hc with hc
        obtain rfl : c = a := by omega
        subst hc
        refine ⟨srt_insS sa na, fun e => ?_⟩
        rw [mem_insS, ma e]
        constructor
        · rintro (rfl | ⟨y, q1, q2, q3, q4⟩)
          · exact ⟨b, hb, Ne.symm hab, .inr (.inl ⟨rfl, rfl⟩), rfl⟩
          · exact ⟨y, q1, q2, .inl q3, q4⟩
        · rintro ⟨y, q1, q2, q3 | ⟨_, rfl⟩ | ⟨rfl, rfl⟩, q4⟩
          · exact .inr ⟨y, q1, q2, q3, q4⟩
          · exact .inl q4
          · exact absurd rfl hab
      · rw [if_neg e2] at hc
        obtain ⟨s, m⟩ := h.2 c L hc
        refine ⟨s, fun e => ?_⟩
        rw [m e]
        constructor
        · rintro ⟨y, q1, q2, q3, q4⟩; exact ⟨y, q1, q2, .inl q3, q4⟩
        · rintro ⟨y, q1, q2, q3 | ⟨rfl, _⟩ | ⟨rfl, _⟩, q4⟩
          · exact ⟨y, q1, q2, q3, q4⟩
          · exact absurd rfl e2
          · exact absurd rfl e1
/-- a node more -/
theorem GSp.add {g : G} {N : Nat → Prop} {D : Nat → Nat → Prop} {E : Int → Option (List Ed)} (h : GSp g N D E) {c : Nat} (hc : ¬ N c) : GSp g (fun z => N z ∨ z = c) (fun x y => D x y ∧ x ≠ c ∧ y ≠ c) (updE E c (some [])) := by
  refine ⟨fun z => ?_, fun x L hx => ?_⟩
  · unfold updE
    by_cases e : z = (c : Int)
    · rw [if_pos e]; exact ⟨fun _ => ⟨c, e, .inr rfl⟩, fun _ => by simp⟩
    · rw [if_neg e, h.1 z]
      constructor
      · rintro ⟨y, q1, q2⟩; exact ⟨y, q1, .inl q2⟩
      · rintro ⟨y, q1, q2 | q2⟩
        · exact ⟨y, q1, q2⟩
        · exact absurd (by rw [q1, q2]) e
  · unfold updE at hx
    by_cases e : (x : Int) = (c : Int)
    · rw [if_pos e] at hx
      injection hx with hx
      subst hx
      refine ⟨fun i j a b _ ha => by simp at ha, fun e' => ?_⟩
      constructor
      · intro h; simp at h
      · rintro ⟨y, _, _, ⟨_, q, _⟩, _⟩; exact absurd (by omega) q
    · rw [if_neg e] at hx
      obtain ⟨s, m⟩ := h.2 x L hx
      refine ⟨s, fun e' => ?_⟩
      rw [m e']
      constructor
      · rintro ⟨y, q1, q2, q3, q4⟩
        exact ⟨y, .inl q1, q2, ⟨q3, fun r => e (by rw [r]), fun r => hc (by rw [← r]; exact q1)⟩, q4⟩
      · rintro ⟨y, q1 | q1, q2, ⟨q3, _, q5⟩, q4⟩
        · exact ⟨y, q1, q2, q3, q4⟩
        · exact absurd q1 q5
/-- a node less, that has no edges -/
theorem GSp.sub {g : G} {N : Nat → Prop} {D : Nat → Nat → Prop} {E : Int → Option (List Ed)} (h : GSp g N D E) {c : Nat} (hD : ∀ x, N x → x ≠ c → ¬ D x c) : GSp g (fun z => N z ∧ z ≠ c) (fun x y => D x y ∧ x ≠ c ∧ y ≠ c) (updE E c none) := by
  refine ⟨fun z => ?_, fun x L hx => ?_⟩
  · unfold updE
    by_cases e : z = (c : Int)
    · rw [if_pos e]
      refine ⟨fun h => absurd rfl h, ?_⟩
      rintro ⟨y, q1, _, q2⟩; exact absurd (by omega) q2
    · rw [if_neg e, h.1 z]
      constructor
      · rintro ⟨y, q1, q2⟩; exact ⟨y, q1, q2, fun r => e (by rw [q1, r])⟩
      · rintro ⟨y, q1, q2, _⟩; exact ⟨y, q1, q2⟩
  · unfold updE at hx
    by_cases e : (x : Int) = (c : Int)
    · rw [if_pos e] at hx; cases hx
    · rw [if_neg e] at hx
      have hn := h.node hx
      have hxc : x ≠ c := fun r => e (by rw [r])
      obtain ⟨s, m⟩ := h.2 x L hx
      refine ⟨s, fun e' => ?_⟩
      rw [m e']
      constructor
      · rintro ⟨y, q1, q2, q3, q4⟩
        have hyc : y ≠ c := fun r => hD x hn hxc (by rw [← r]; exact q3)
        exact ⟨y, ⟨q1, hyc⟩, q2, ⟨q3, hxc, hyc⟩, q4⟩
      · rintro ⟨y, ⟨q1, _⟩, q2, ⟨q3, _⟩, q4⟩; exact ⟨y, q1, q2, q3, q4⟩
/-- what look leaves behind -/
def LookS (w : World) (b p mb : Nat) (S : List Nat) (g : G) (v : Int) (N : Nat → Prop) (D : Nat → Nat → Prop) (e : Ending) (w' : World) : Prop :=
  e = .returned (.tuple #[]) ∧ ∃ S' E', GraphOf w' b p mb S' g v E' ∧ GSp g N D E' ∧ (∀ k ∈ S', k ∈ S ∨ w.heap.size ≤ k) ∧ Kept (mb :: S) w w'
set_option maxRecDepth 100000 in
set_option maxHeartbeats 1600000 in
theorem graphLookS (w : World) (b p mb : Nat) (S : List Nat) (g : G) (v : Int) (E : Int → Option (List Ed)) (N : Nat → Prop) (D : Nat → Nat → Prop) (x y : Nat) (h : GraphOf w b p mb S g v E) (hS : GSp g N D E) (hNf : ∀ c, N c → c < g.n ∧ g.b c = false) (hx : N x) (hy : N y) (hxy : x ≠ y) (h1 : ¬ D x y) (h2 : ¬ D y x) :
    Calls Tryz.prog 48 #[.pointer (some ⟨b, 0, none⟩), .int .i64 (x : Nat), .int .i64 (y : Nat)] w (LookS w b p mb S g v N (fun a c => D a c ∨ (Pr x y a c ∧ g.Direct a c))) := by
  have hg := h.2.1
  have hok := hg.1
  have hNn := G.n_le hok
  obtain ⟨xn, xf⟩ := hNf x hx
  obtain ⟨yn, yf⟩ := hNf y hy
  have kb0 : w.cell? ⟨b, 0, none⟩ = some (.pointer (some ⟨p, 0, none⟩)) := by simp [World.cell?, h.1]
  obtain ⟨t, ht⟩ := boolQ (g.Direct x y)
  have Ht := Lib.hid ht
  have cD := Lib.hid (reachDirect_ok w p g v x y t hg xn yn xf yf ht)
  have H := Lib.hid h
  have HS := Lib.hid hS
  have Hd := Lib.hid (And.intro h1 h2)
  have HNf := Lib.hid hNf
  clear h hS ht h1 h2 hg hNf
  go_enter Tryz.func48, Tryz.ntmps48
  go_wp2_with fail
  (with_reducible refine cD.out.mono ?_)
  rintro e w1 ⟨rfl, hb1⟩
  clear cD
  cases t with
  | false =>
    have hno : ¬ g.Direct x y := fun hh => by have := Ht.out.2 hh; cases this
    have hfin : LookS w b p mb S g v N (fun a c => D a c ∨ (Pr x y a c ∧ g.Direct a c)) (.returned (.tuple #[])) w1 := by
      refine ⟨rfl, S, E, H.out.below hb1, HS.out.congr (fun _ => Iff.rfl) (fun a c _ _ _ => ?_) (fun _ _ => rfl), fun k hk => .inl hk, Kept.of_below hb1⟩
      constructor
      · exact .inl
      · rintro (q | ⟨⟨rfl, rfl⟩ | ⟨rfl, rfl⟩, q⟩)
        · exact q
        · exact absurd q hno
        · exact absurd (G.direct_symm.1 q) hno
    have hfin := Lib.hid hfin
    clear Ht
    go_wp2
    go_end0
    exact hfin.out
  | true =>
    have hyes : g.Direct x y := Ht.out.1 rfl
    obtain ⟨Lx, hLx, sx, ix, lx, _⟩ := HS.out.facts hNn (fun c hc => (HNf.out c hc).1) hx
    obtain ⟨Ly, hLy, sy, iy, ly, _⟩ := HS.out.facts hNn (fun c hc => (HNf.out c hc).1) hy
    have hG1 := H.out.below hb1
    have hgr1 : GridAt w1 p g v := hG1.2.1
    have kb0 := bel_cell hb1 kb0
    have hsp := HS.out.yes hx hy hxy Hd.out.1 Hd.out.2 hLx hLy
    have hsp2 : GSp g N (fun a c => D a c ∨ (Pr x y a c ∧ g.Direct a c)) (updE (updE E x (some (insS Lx ⟨y, g.oct x y, -1⟩))) y (some (insS Ly ⟨x, g.oct x y, -1⟩))) := by
      refine hsp.1.congr (fun _ => Iff.rfl) (fun a c _ _ _ => ?_) (fun _ _ => rfl)
      constructor
      · rintro (q | q)
        · exact .inl q
        · refine .inr ⟨q, ?_⟩
          rcases q with ⟨rfl, rfl⟩ | ⟨rfl, rfl⟩
          · exact hyes
          · exact G.direct_symm.1 hyes
      · rintro (q | ⟨q, _⟩)
        · exact .inl q
        · exact .inr q
    clear hsp
    obtain ⟨⟨os, od⟩, ho⟩ : ∃ z, g.oct x y = z := ⟨_, rfl⟩
    rw [ho] at hsp2
    have hsp := Lib.hid hsp2
    have hx0 : inC (x : Int) := by unfold inC; omega
    have hy0 : inC (y : Int) := by unfold inC; omega
    clear Ht hsp2
    go_wp2_with fail
    (with_reducible refine (gOctile _ p g v x y ⟨os, od⟩ hgr1 xn yn ho).mono ?_)
    rintro e w2 ⟨rfl, hb2⟩
    go_upto_region 3 with (fail)
    refine wp_name ?_
    intro W hW
    have HW : Below w2.heap.size w2 W := by rw [hW]; (repeat' (first | exact Below.refl _ _ | assumption | apply bel_drewN | apply bel_drew | apply bel_alloc | (refine bel_trans ?_ (by assumption))))
    have o0 : W.cell? ⟨w2.heap.size, 0, none⟩ = some (.int .i64 os) := by rw [hW]; go_simp
    have o1 : W.cell? ⟨w2.heap.size, 1, none⟩ = some (.int .i64 od) := by rw [hW]; go_simp
    have hB1 := bel_trans hb2 HW
    have hGW := hG1.below hB1
    have hBW := bel_trans hb1 hB1
    have hnS : w2.heap.size ∉ mb :: S := by
      have hE := hG1.2.2.1
      have hml := hE.lt
      obtain ⟨V, N, q1, q2, q3, q4, q5, q6, q7⟩ := hE
      have hsz := hb2.size
      intro hh
      rcases List.mem_cons.1 hh with e | e
      · omega
      · have := q7 _ e; omega
    obtain ⟨b8, hb8⟩ : ∃ z, w2.heap.size = z := ⟨_, rfl⟩
    rw [hb8] at o0 o1 hnS ⊢
    have HGW := Lib.hid hGW
    obtain ⟨g1, g2, g3, g4, g5, g6, g7, g8⟩ := hGW
    have c1 := Lib.hid (graphPut W S b p mb E (x : Nat) ⟨(y : Nat), ⟨os, od⟩, -1⟩ Lx g1 g3 g4 g6 hLx sx ix hy0 lx)
    clear hW hb8 HW hB1 hG1 hb2 hb1 kb0 g1 g2 g3 g4 g5 g6 g7 g8
    go_wp2_with fail
    (refine c1.out.mono ?_)
    rintro e w3 ⟨rfl, S1, hE1, hS1, hK1⟩
    have hG3 := HGW.out.put hE1 hS1 hK1
    have o0 := keptc hK1 hnS o0
    have o1 := keptc hK1 hnS o1
    have hLy2 : updE E (x : Nat) (some (insS Lx ⟨(y : Nat), ⟨os, od⟩, -1⟩)) (y : Nat) = some Ly := by
      unfold updE
      rw [if_neg (by omega)]
      exact hLy
    have HG3 := Lib.hid hG3
    obtain ⟨g1, g2, g3, g4, g5, g6, g7, g8⟩ := hG3
    have c2 := Lib.hid (graphPut w3 S1 b p mb _ (y : Nat) ⟨(x : Nat), ⟨os, od⟩, -1⟩ Ly g1 g3 g4 g6 hLy2 sy iy hx0 ly)
    clear c1 hE1 g1 g2 g3 g4 g5 g6 g7 g8 hLy2 hnS
    go_wp2_with fail
    (refine c2.out.mono ?_)
    rintro e w4 ⟨rfl, S2, hE2, hS2, hK2⟩
    have hG4 := HG3.out.put hE2 hS2 hK2
    have hKS : Kept (mb :: S) w w4 := by
      have hKw : Kept (mb :: S) w w3 := (Kept.of_below hBW).trans hK1
      refine ⟨hK2.os.trans hKw.os, hK2.tape.trans hKw.tape, hK2.output.trans hKw.output, Nat.le_trans hKw.size hK2.size, fun k hk hn => ?_⟩
      refine (hK2.block k (Nat.lt_of_lt_of_le hk hKw.size) ?_).trans (hKw.block k hk hn)
      intro hm
      rcases List.mem_cons.1 hm with e | e
      · exact hn (by rw [e]; simp)
      · rcases hS1 k e with q | q
        · exact hn (List.mem_cons_of_mem _ q)
        · have := hBW.size; omega
    have hSS : ∀ k ∈ S2, k ∈ S ∨ w.heap.size ≤ k := fun k hk => by
      rcases hS2 k hk with q | q
      · rcases hS1 k q with r | r
        · exact .inl r
        · have := hBW.size; exact .inr (by omega)
      · have := hK1.size; have := hBW.size; exact .inr (by omega)
    have hfin : LookS w b p mb S g v N (fun a c => D a c ∨ (Pr x y a c ∧ g.Direct a c)) (.returned (.tuple #[])) w4 := ⟨rfl, S2, _, hG4, hsp.out, hSS, hKS⟩
    have hfin := Lib.hid hfin
    clear hE2 hG4 hSS hKS
    go_wp2
    go_end0
    exact hfin.out
end Go.Proofs.YtjejkadaafmdcaaGreat
