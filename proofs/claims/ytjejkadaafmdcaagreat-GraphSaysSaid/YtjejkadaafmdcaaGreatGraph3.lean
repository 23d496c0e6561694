/- graph.look: two corners are looked at. -/
import Derived.Test.YtjejkadaafmdcaaGreatGraph2
set_option linter.unusedVariables false
set_option linter.unusedSimpArgs false
namespace Go.Proofs.YtjejkadaafmdcaaGreat
open Go.RowKit Go.Sort FR
theorem boolQ (P : Prop) : ∃ t : Bool, t = true ↔ P := by
  by_cases h : P
  · exact ⟨true, by simp [h]⟩
  · exact ⟨false, by simp [h]⟩
/-- a graph in memory: its grid at p, its lists in the map mb, in rows of S -/
def GraphOf (w : World) (b p mb : Nat) (S : List Nat) (g : G) (v : Int) (E : Int → Option (List Ed)) : Prop :=
  w.heap[b]? = some (.cells #[.pointer (some ⟨p, 0, none⟩), .map (some mb)] 93 (0, 0)) ∧ GridAt w p g v ∧ EMap w S mb E ∧ b ∉ S ∧ p ∉ S ∧ b ≠ mb ∧ p ≠ mb ∧ b ≠ p
theorem GraphOf.below {w w' : World} {b p mb : Nat} {S : List Nat} {g : G} {v : Int} {E : Int → Option (List Ed)} (h : GraphOf w b p mb S g v E) (hb : Below w.heap.size w w') : GraphOf w' b p mb S g v E :=
  ⟨(hb.block b (Array.getElem?_eq_some_iff.1 h.1).1).trans h.1, h.2.1.below hb h.2.1.lt, h.2.2.1.below hb, h.2.2.2⟩
/-- behind a change of the lists -/
theorem GraphOf.put {w w' : World} {b p mb : Nat} {S S' : List Nat} {g : G} {v : Int} {E E' : Int → Option (List Ed)} (h : GraphOf w b p mb S g v E) (hE : EMap w' S' mb E') (hS : ∀ k ∈ S', k ∈ S ∨ w.heap.size ≤ k) (hk : Kept (mb :: S) w w') : GraphOf w' b p mb S' g v E' := by
  obtain ⟨h1, h2, h3, h4, h5, h6, h7, h8⟩ := h
  have hb : b < w.heap.size := (Array.getElem?_eq_some_iff.1 h1).1
  refine ⟨(hk.block b hb (by simp [h6, h4])).trans h1, h2.kept hk (by simp [h7, h5]), hE, ?_, ?_, h6, h7, h8⟩
  · intro hh
    rcases hS b hh with a | a
    · exact h4 a
    · omega
  · intro hh
    rcases hS p hh with a | a
    · exact h5 a
    · have := h2.lt; omega
/-- the lists say what has been looked at -/
def GSpec (g : G) (Done : Nat → Nat → Prop) (E : Int → Option (List Ed)) : Prop :=
  (∀ z : Int, E z ≠ none ↔ ∃ c : Nat, z = c ∧ g.Corner c) ∧ ∀ (c : Nat) (L : List Ed), E c = some L → Srt L ∧ ∀ e, e ∈ L ↔ ∃ y : Nat, g.Corner y ∧ y ≠ c ∧ Done c y ∧ g.Direct c y ∧ e = ⟨y, g.oct c y, -1⟩
theorem corner_free {g : G} (hg : g.ok) {c : Nat} (h : g.Corner c) : c < g.n ∧ g.b c = false := by
  refine ⟨h.1, ?_⟩
  have := h.2.1
  rw [G.op_cell hg h.1] at this
  simpa using this
theorem srt_long {L : List Ed} (hs : Srt L) (n : Nat) (h : ∀ e ∈ L, 0 ≤ e.to_ ∧ e.to_ < n) : L.length ≤ n := by
  have key : ∀ (j : Nat) (e : Ed), L[j]? = some e → (j : Int) ≤ e.to_ := by
    intro j
    induction j with
    | zero => intro e he; exact (h e (List.mem_of_getElem? he)).1
    | succ j ih =>
      intro e he
      have hl := (List.getElem?_eq_some_iff.1 he).1
      obtain ⟨x, hx⟩ : ∃ x, L[j]? = some x := ⟨L[j]'(by omega), List.getElem?_eq_getElem _⟩
      have a := ih x hx
      have b := hs j (j + 1) x e (by omega) hx he
      omega
  cases hl : L.length with
  | zero => omega
  | succ m =>
    obtain ⟨x, hx⟩ : ∃ x, L[m]? = some x := ⟨L[m]'(by omega), List.getElem?_eq_getElem _⟩
    have a := key m x hx
    have b := (h x (List.mem_of_getElem? hx)).2
    omega
theorem GSpec.facts {g : G} (hg : g.ok) {Done : Nat → Nat → Prop} {E : Int → Option (List Ed)} (h : GSpec g Done E) {c : Nat} (hc : g.Corner c) : ∃ L, E c = some L ∧ Srt L ∧ (∀ e ∈ L, inC e.to_) ∧ L.length ≤ 1000 ∧ ∀ e, e ∈ L ↔ ∃ y : Nat, g.Corner y ∧ y ≠ c ∧ Done c y ∧ g.Direct c y ∧ e = ⟨y, g.oct c y, -1⟩ := by
  have h1 := (h.1 c).2 ⟨c, rfl, hc⟩
  cases hE : E c with
  | none => exact absurd hE h1
  | some L =>
    obtain ⟨a, b⟩ := h.2 c L hE
    have hb : ∀ e ∈ L, 0 ≤ e.to_ ∧ e.to_ < g.n := fun e he => by
      obtain ⟨y, hy, _, _, _, rfl⟩ := (b e).1 he
      have := (corner_free hg hy).1
      simp only
      omega
    have hn := G.n_le hg
    refine ⟨L, rfl, a, fun e he => ?_, ?_, b⟩
    · have := hb e he
      unfold inC; omega
    · have := srt_long a g.n hb
      omega
def DoneP (Done : Nat → Nat → Prop) (a b : Nat) : Nat → Nat → Prop := fun x y => Done x y ∨ (x = a ∧ y = b) ∨ (x = b ∧ y = a)
theorem GSpec.no {g : G} {Done : Nat → Nat → Prop} {E : Int → Option (List Ed)} (h : GSpec g Done E) {a b : Nat} (hd : ¬ g.Direct a b) : GSpec g (DoneP Done a b) E := by
  refine ⟨h.1, fun c L hc => ⟨(h.2 c L hc).1, fun e => ?_⟩⟩
  rw [(h.2 c L hc).2 e]
  constructor
  · rintro ⟨y, h1, h2, h3, h4, h5⟩
    exact ⟨y, h1, h2, .inl h3, h4, h5⟩
  · rintro ⟨y, h1, h2, h3 | ⟨rfl, rfl⟩ | ⟨rfl, rfl⟩, h4, h5⟩
    · exact ⟨y, h1, h2, h3, h4, h5⟩
    · exact absurd h4 hd
    · exact absurd (G.direct_symm.1 h4) hd
theorem GSpec.yes {g : G} {Done : Nat → Nat → Prop} {E : Int → Option (List Ed)} (h : GSpec g Done E) {a b : Nat} (ha : g.Corner a) (hb : g.Corner b) (hab : a ≠ b) (hd : g.Direct a b) (h1 : ¬ Done a b) (h2 : ¬ Done b a) {La Lb : List Ed} (hLa : E a = some La) (hLb : E b = some Lb) :
    GSpec g (DoneP Done a b) (updE (updE E a (some (insS La ⟨b, g.oct a b, -1⟩))) b (some (insS Lb ⟨a, g.oct a b, -1⟩))) ∧ hasE La b = false ∧ hasE Lb a = false := by
  obtain ⟨sa, ma⟩ := h.2 a La hLa
  obtain ⟨sb, mb⟩ := h.2 b Lb hLb
  have na : hasE La b = false := by
    cases hh : hasE La b with
    | false => rfl
    | true =>
      obtain ⟨e, he, e1⟩ := has_iff.1 hh
      obtain ⟨y, _, _, q, _, rfl⟩ := (ma e).1 he
      simp only at e1
      obtain rfl : y = b := by omega
      exact absurd q h1
  have nb : hasE Lb a = false := by
    cases hh : hasE Lb a with
    | false => rfl
    | true =>
      obtain ⟨e, he, e1⟩ := has_iff.1 hh
      obtain ⟨y, _, _, q, _, rfl⟩ := (mb e).1 he
      simp only at e1
      obtain rfl : y = a := by omega
      exact absurd q h2
  have hba : ¬ ((b : Int) = (a : Int)) := by omega
  refine ⟨⟨fun z => ?_, fun c L hc => ?_⟩, na, nb⟩
  · unfold updE
    by_cases e1 : z = (b : Int)
    · rw [if_pos e1]
      exact ⟨fun _ => ⟨b, e1, hb⟩, fun _ => by simp⟩
    · rw [if_neg e1]
      by_cases e2 : z = (a : Int)
      · rw [if_pos e2]
        exact ⟨fun _ => ⟨a, e2, ha⟩, fun _ => by simp⟩
      · rw [if_neg e2]
        exact h.1 z
  · unfold updE at hc
    by_cases e1 : (c : Int) = (b : Int)
    · rw [if_pos e1] at hc
      injection hc with hc
      obtain rfl : c = b := by omega
      subst hc
      refine ⟨srt_insS sb nb, fun e => ?_⟩
      rw [mem_insS, mb e]
      constructor
      · rintro (rfl | ⟨y, q1, q2, q3, q4, q5⟩)
        · exact ⟨a, ha, hab, .inr (.inr ⟨rfl, rfl⟩), G.direct_symm.1 hd, by rw [G.oct_symm]⟩
        · exact ⟨y, q1, q2, .inl q3, q4, q5⟩
      · rintro ⟨y, q1, q2, q3 | ⟨rfl, rfl⟩ | ⟨_, rfl⟩, q4, q5⟩
        · exact .inr ⟨y, q1, q2, q3, q4, q5⟩
        · exact absurd rfl hab
        · exact .inl (by rw [q5, G.oct_symm])
    · rw [if_neg e1] at hc
      by_cases e2 : (c : Int) = (a : Int)
      · rw [if_pos e2] at hc
        injection hc with hc
        obtain rfl : c = a := by omega
        subst hc
        refine ⟨srt_insS sa na, fun e => ?_⟩
        rw [mem_insS, ma e]
        constructor
        · rintro (rfl | ⟨y, q1, q2, q3, q4, q5⟩)
          · exact ⟨b, hb, Ne.symm hab, .inr (.inl ⟨rfl, rfl⟩), hd, rfl⟩
          · exact ⟨y, q1, q2, .inl q3, q4, q5⟩
        · rintro ⟨y, q1, q2, q3 | ⟨_, rfl⟩ | ⟨rfl, rfl⟩, q4, q5⟩
          · exact .inr ⟨y, q1, q2, q3, q4, q5⟩
          · exact .inl q5
          · exact absurd rfl hab
      · rw [if_neg e2] at hc
        obtain ⟨s, m⟩ := h.2 c L hc
        refine ⟨s, fun e => ?_⟩
        rw [m e]
        constructor
        · rintro ⟨y, q1, q2, q3, q4, q5⟩
          exact ⟨y, q1, q2, .inl q3, q4, q5⟩
        · rintro ⟨y, q1, q2, q3 | ⟨rfl, _⟩ | ⟨rfl, _⟩, q4, q5⟩
          · exact ⟨y, q1, q2, q3, q4, q5⟩
          · exact absurd rfl e2
          · exact absurd rfl e1
/-- what look leaves behind -/
def LookD (w : World) (b p mb : Nat) (S : List Nat) (g : G) (v : Int) (Done : Nat → Nat → Prop) (e : Ending) (w' : World) : Prop :=
  e = .returned (.tuple #[]) ∧ ∃ S' E', GraphOf w' b p mb S' g v E' ∧ GSpec g Done E' ∧ (∀ k ∈ S', k ∈ S ∨ w.heap.size ≤ k) ∧ Kept (mb :: S) w w'
set_option maxRecDepth 100000 in
set_option maxHeartbeats 1600000 in
theorem graphLook (w : World) (b p mb : Nat) (S : List Nat) (g : G) (v : Int) (E : Int → Option (List Ed)) (Done : Nat → Nat → Prop) (x y : Nat) (h : GraphOf w b p mb S g v E) (hS : GSpec g Done E) (hx : g.Corner x) (hy : g.Corner y) (hxy : x ≠ y) (h1 : ¬ Done x y) (h2 : ¬ Done y x) :
    Calls Tryz.prog 48 #[.pointer (some ⟨b, 0, none⟩), .int .i64 (x : Nat), .int .i64 (y : Nat)] w (LookD w b p mb S g v (DoneP Done x y)) := by
  have hg := h.2.1
  have hok := hg.1
  have hNn := G.n_le hok
  obtain ⟨xn, xf⟩ := corner_free hok hx
  obtain ⟨yn, yf⟩ := corner_free hok hy
  have kb0 : w.cell? ⟨b, 0, none⟩ = some (.pointer (some ⟨p, 0, none⟩)) := by simp [World.cell?, h.1]
  obtain ⟨t, ht⟩ := boolQ (g.Direct x y)
  have Ht := Lib.hid ht
  have cD := Lib.hid (reachDirect_ok w p g v x y t hg xn yn xf yf ht)
  have H := Lib.hid h
  have HS := Lib.hid hS
  have Hd := Lib.hid (And.intro h1 h2)
  clear h hS ht h1 h2 hg
  go_enter Tryz.func48, Tryz.ntmps48
  go_wp2_with fail
  (with_reducible refine cD.out.mono ?_)
  rintro e w1 ⟨rfl, hb1⟩
  clear cD
  cases t with
  | false =>
    have hno : ¬ g.Direct x y := fun hh => by have := Ht.out.2 hh; cases this
    have hfin : LookD w b p mb S g v (DoneP Done x y) (.returned (.tuple #[])) w1 := ⟨rfl, S, E, H.out.below hb1, HS.out.no hno, fun k hk => .inl hk, Kept.of_below hb1⟩
    have hfin := Lib.hid hfin
    clear Ht
    go_wp2
    go_end0
    exact hfin.out
  | true =>
    have hyes : g.Direct x y := Ht.out.1 rfl
    obtain ⟨Lx, hLx, sx, ix, lx, _⟩ := HS.out.facts hok hx
    obtain ⟨Ly, hLy, sy, iy, ly, _⟩ := HS.out.facts hok hy
    have hG1 := H.out.below hb1
    have hgr1 : GridAt w1 p g v := hG1.2.1
    have kb0 := bel_cell hb1 kb0
    have hsp := Lib.hid (HS.out.yes hx hy hxy hyes Hd.out.1 Hd.out.2 hLx hLy)
    obtain ⟨⟨os, od⟩, ho⟩ : ∃ z, g.oct x y = z := ⟨_, rfl⟩
    rw [ho] at hsp
    have hx0 : inC (x : Int) := by unfold inC; omega
    have hy0 : inC (y : Int) := by unfold inC; omega
    clear Ht
    go_wp2_with fail
    (with_reducible refine (gOctile _ p g v x y ⟨os, od⟩ hgr1 xn yn ho).mono ?_)
    rintro e w2 ⟨rfl, hb2⟩
    go_upto_region 3 with (fail)
    refine wp_name ?_
    intro W hW
    have HW : Below w2.heap.size w2 W := by rw [hW]; (repeat' (first | exact Below.refl _ _ | assumption | apply bel_drewN | apply bel_drew | apply bel_alloc | (refine bel_trans ?_ (by assumption))))
    have o0 : W.cell? ⟨w2.heap.size, 0, none⟩ = some (.int .i64 os) := by rw [hW]; go_simp
    have o1 : W.cell? ⟨w2.heap.size, 1, none⟩ = some (.int .i64 od) := by rw [hW]; go_simp
    have hB1 := bel_trans hb2 HW
    have hGW := hG1.below hB1
    have hBW := bel_trans hb1 hB1
    have hnS : w2.heap.size ∉ mb :: S := by
      have hE := hG1.2.2.1
      have hml := hE.lt
      obtain ⟨V, N, q1, q2, q3, q4, q5, q6, q7⟩ := hE
      have hsz := hb2.size
      intro hh
      rcases List.mem_cons.1 hh with e | e
      · omega
      · have := q7 _ e; omega
    obtain ⟨b8, hb8⟩ : ∃ z, w2.heap.size = z := ⟨_, rfl⟩
    rw [hb8] at o0 o1 hnS ⊢
    have HGW := Lib.hid hGW
    obtain ⟨g1, g2, g3, g4, g5, g6, g7, g8⟩ := hGW
    have c1 := Lib.hid (graphPut W S b p mb E (x : Nat) ⟨(y : Nat), ⟨os, od⟩, -1⟩ Lx g1 g3 g4 g6 hLx sx ix hy0 lx)
    clear hW hb8 HW hB1 hG1 hb2 hb1 kb0 g1 g2 g3 g4 g5 g6 g7 g8
    go_wp2_with fail
    (refine c1.out.mono ?_)
    rintro e w3 ⟨rfl, S1, hE1, hS1, hK1⟩
    have hG3 := HGW.out.put hE1 hS1 hK1
    have o0 := keptc hK1 hnS o0
    have o1 := keptc hK1 hnS o1
    have hLy2 : updE E (x : Nat) (some (insS Lx ⟨(y : Nat), ⟨os, od⟩, -1⟩)) (y : Nat) = some Ly := by
      unfold updE
      rw [if_neg (by omega)]
      exact hLy
    have HG3 := Lib.hid hG3
    obtain ⟨g1, g2, g3, g4, g5, g6, g7, g8⟩ := hG3
    have c2 := Lib.hid (graphPut w3 S1 b p mb _ (y : Nat) ⟨(x : Nat), ⟨os, od⟩, -1⟩ Ly g1 g3 g4 g6 hLy2 sy iy hx0 ly)
    clear c1 hE1 g1 g2 g3 g4 g5 g6 g7 g8 hLy2 hnS
    go_wp2_with fail
    (refine c2.out.mono ?_)
    rintro e w4 ⟨rfl, S2, hE2, hS2, hK2⟩
    have hG4 := HG3.out.put hE2 hS2 hK2
    have hKS : Kept (mb :: S) w w4 := by
      have hKw : Kept (mb :: S) w w3 := (Kept.of_below hBW).trans hK1
      refine ⟨hK2.os.trans hKw.os, hK2.tape.trans hKw.tape, hK2.output.trans hKw.output, Nat.le_trans hKw.size hK2.size, fun k hk hn => ?_⟩
      refine (hK2.block k (Nat.lt_of_lt_of_le hk hKw.size) ?_).trans (hKw.block k hk hn)
      intro hm
      rcases List.mem_cons.1 hm with e | e
      · exact hn (by rw [e]; simp)
      · rcases hS1 k e with q | q
        · exact hn (List.mem_cons_of_mem _ q)
        · have := hBW.size; omega
    have hSS : ∀ k ∈ S2, k ∈ S ∨ w.heap.size ≤ k := fun k hk => by
      rcases hS2 k hk with q | q
      · rcases hS1 k q with r | r
        · exact .inl r
        · have := hBW.size; exact .inr (by omega)
      · have := hK1.size; have := hBW.size; exact .inr (by omega)
    have hfin : LookD w b p mb S g v (DoneP Done x y) (.returned (.tuple #[])) w4 := ⟨rfl, S2, _, hG4, hsp.out.1, hSS, hKS⟩
    have hfin := Lib.hid hfin
    clear hE2 hG4 hSS hKS
    go_wp2
    go_end0
    exact hfin.out
end Go.Proofs.YtjejkadaafmdcaaGreat
