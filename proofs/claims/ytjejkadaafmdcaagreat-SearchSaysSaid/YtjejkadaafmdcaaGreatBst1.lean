/- Lemmas of this claim: Bst1. -/
import Derived.Test.YtjejkadaafmdcaaGreatKSearchSays28
import Derived.Test.YtjejkadaafmdcaaGreatKSearchSays25
import Derived.Test.YtjejkadaafmdcaaGreatKSearchSays20
set_option linter.unusedVariables false
set_option linter.unusedSimpArgs false
/- The document's Best: labels of corners, from several beginnings: plain. -/
namespace Go.Proofs.YtjejkadaafmdcaaGreat
open Go.RowKit Go.Sort FR Go.Lib
abbrev bsM (N : Nat) (L : Nat → Option C) : Nat := BF.meas N (BF.K N 2100000 4000) L
abbrev BsF (g : G) (out : List Ed) (L : Nat → Option C) : Prop := BF g.GE (SrcO g out) g.n 2100000 4000 L
/-- the first k beginnings are told -/
def SrcDone (g : G) (out : List Ed) (k : Nat) (L : Nat → Option C) : Prop := ∀ s c, SrcK g out k s c → ∃ d, L s = some d ∧ C.le d c
theorem bsNn {g : G} {out : List Ed} (h : EdsOk out) : ∀ j c, FR.Reach g.GE (SrcO g out) j c → C.Nn c := by
  rintro j c ⟨s, c0, d, h1, h2, rfl⟩
  have a := srcK_nn h h1
  have b := h2.nn (fun a b c he => G.GE_nn he)
  exact ⟨by show 0 ≤ c0.s + d.s; have := a.1; have := b.1; omega, by show 0 ≤ c0.d + d.d; have := a.2; have := b.2; omega⟩
theorem bs_src {g : G} {out : List Ed} (h : EdsOk out) {L : Nat → Option C} (H : BsF g out L) {s : Nat} {c : C} (hs : SrcO g out s c) (hlt : ∀ d, L s = some d → C.lt c d) :
    BsF g out (FR.upd L s (some c)) ∧ bsM g.n (FR.upd L s (some c)) < bsM g.n L := by
  refine BF.put (bsNn h) H hs.1.1 (FR.Reach.src hs) hlt fun _ => ?_
  obtain ⟨_, i, e, _, h1, _, rfl⟩ := hs
  refine C.le_trans (le_big (h e (List.mem_of_getElem? h1))) (C.le_of_parts (Int.le_refl _) ?_)
  simp only; omega
/-- a beginning is told, or not needed -/
theorem srcDone_step {g : G} {out : List Ed} {k : Nat} {L : Nat → Option C} (h : SrcDone g out k L) {e : Ed} (he : out[k]? = some e) (hk : ∀ s : Nat, e.to_ = s → g.Corner s → ∃ d, L s = some d ∧ C.le d e.c) : SrcDone g out (k + 1) L := by
  rintro s c ⟨hc, i, x, hi, hx, hto, rfl⟩
  by_cases e1 : i = k
  · subst e1
    rw [he] at hx; injection hx with hx; subst hx
    exact hk s hto hc
  · exact h s x.c ⟨hc, i, x, by omega, hx, hto, rfl⟩
theorem srcDone_low {g : G} {out : List Ed} {k : Nat} {L : Nat → Option C} (h : SrcDone g out k L) {y : Nat} {c : C} (hlt : ∀ d, L y = some d → C.lt c d) : SrcDone g out k (FR.upd L y (some c)) := fun s x hs => by
  obtain ⟨d, h1, h2⟩ := h s x hs
  by_cases e1 : s = y
  · subst e1
    exact ⟨c, upd_same _ _ _, C.le_trans (C.le_of_lt (hlt d h1)) h2⟩
  · exact ⟨d, by rw [upd_ne _ _ e1]; exact h1, h2⟩
/-- none of a corner's edges lowers a label -/
def CalmB (g : G) (L : Nat → Option C) (a : Nat) : Prop := ∀ c b e, L a = some c → g.GE a b e → ∃ d, L b = some d ∧ C.le d (C.add c e)
def RlxB (L : Nat → Option C) (x : Nat) (es : List Ed) (k : Nat) : Prop := ∀ c, L x = some c → ∀ (j : Nat) (e : Ed), j < k → es[j]? = some e → ∀ y : Nat, e.to_ = y → ∃ d, L y = some d ∧ C.le d (C.add c e.c)
theorem first_ge {g : G} {a b : Nat} {e : C} : g.GE a b e ↔ (LS.first g).eg a b = some (e, -1) := by
  constructor
  · intro h
    unfold LS.first
    simp only
    have := LS.GE_oct h
    rw [if_pos this, ← h.2.2.2.2]
  · intro h; exact (LS.first_eg h).1
theorem rlxB_calm {g : G} {L : Nat → Option C} {x : Nat} (h : RlxB L x (EgL (LS.first g) g.n x) (EgL (LS.first g) g.n x).length) : CalmB g L x := by
  intro c b e hx hge
  have hm : (⟨(b : Nat), e, -1⟩ : Ed) ∈ EgL (LS.first g) g.n x := mem_EgL.2 ⟨b, hge.2.1.1, rfl, first_ge.1 hge⟩
  obtain ⟨j, hj⟩ := List.getElem?_of_mem hm
  exact h c hx j _ (List.getElem?_eq_some_iff.1 hj).1 hj b rfl
theorem rlxB_step {L : Nat → Option C} {x k t : Nat} {es : List Ed} {e : Ed} (h : RlxB L x es k) (he : es[k]? = some e) (ht : e.to_ = t) (hle : ∀ c, L x = some c → ∃ d, L t = some d ∧ C.le d (C.add c e.c)) : RlxB L x es (k + 1) := by
  intro c hc j e' hj hej y hy
  by_cases e1 : j = k
  · subst e1
    rw [he] at hej; injection hej with hej; subst hej
    obtain rfl : t = y := by omega
    exact hle c hc
  · exact h c hc j e' (by omega) hej y hy
/-- what holds of the labels: P always, Q while none has been lowered in this round -/
def BsO (W wr : World) (g : G) (out : List Ed) (mc mi mm : Nat) (P Q : (Nat → Option C) → Prop) (ag : Bool) : Prop :=
  ∃ L, LabP W wr mc mi L ∧ BsF g out L ∧ SrcDone g out out.length L ∧ bsM g.n L ≤ mm ∧ (ag = true → bsM g.n L < mm) ∧ P L ∧ (ag = false → Q L)
theorem BsO.below {W wr w' : World} {g : G} {out : List Ed} {mc mi mm : Nat} {P Q : (Nat → Option C) → Prop} {ag : Bool} (h : BsO W wr g out mc mi mm P Q ag) (hb : Below wr.heap.size wr w') : BsO W w' g out mc mi mm P Q ag := by
  obtain ⟨L, h1, h2⟩ := h
  exact ⟨L, h1.below hb, h2⟩
/-- the outer round's head -/
def BsA (W wr : World) (g : G) (out : List Ed) (mc mi gk : Nat) (sv : Value) : Prop :=
  ∃ ag L, sv = .bool ag ∧ LabP W wr mc mi L ∧ BsF g out L ∧ SrcDone g out out.length L ∧ gk = 2 * bsM g.n L + (if ag then 1 else 0) ∧ (ag = false → ∀ a, g.Corner a → CalmB g L a)
theorem ge_small {g : G} (hok : g.ok) {x y : Nat} {e : C} (h : g.GE x y e) : 0 ≤ e.s ∧ e.s ≤ 15 ∧ 0 ≤ e.d ∧ e.d ≤ 15 := by
  have := G.oct_small hok h.2.1.1 h.1.1
  rw [← h.2.2.2.2] at this; exact this
theorem bsO_low {W wr w1 w2 : World} {g : G} {out : List Ed} {mc mi mm n1 n2 : Nat} {L : Nat → Option C} {P Q : (Nat → Option C) → Prop} (hok : g.ok) (ho : EdsOk out) (hM : LabP W wr mc mi L) (hB : BsF g out L) (hL0 : SrcDone g out out.length L) (hm1 : bsM g.n L ≤ mm)
    {x y : Nat} {c : C} {es ed : Int} (hx : L x = some c) (hge : g.GE x y ⟨es, ed⟩) (hlt : ∀ d, L y = some d → C.lt (C.add c ⟨es, ed⟩) d) (hP : P (FR.upd L y (some (C.add c ⟨es, ed⟩))))
    (hq1 : MapAt iK w1 mc (updK (mapI (doneV L)) ((y : Nat) : Int) (some (.agg #[.int .i64 (c.s + es), .int .i64 (c.d + ed)]))) n1) (hk1 : Kept [mc] wr w1) (hq2 : MapAt iK w2 mi (updK (isV L) ((y : Nat) : Int) (some (.bool true))) n2) (hk2 : Kept [mi] w1 w2) (hne : mc ≠ mi) : BsO W w2 g out mc mi mm P Q true := by
  have hsm : C.le ⟨es, ed⟩ ⟨0, ((4000 : Nat) : Int)⟩ := by
    have := ge_small hok hge
    simp only at this
    exact le4000 (by simp only; omega)
  obtain ⟨b1, b2⟩ := hB.relax (bsNn ho) hx hge hsm hge.2.1.1 hlt
  exact ⟨_, hM.put hq1 hk1 hq2 hk2 hne, b1, srcDone_low hL0 hlt, Nat.le_trans (Nat.le_of_lt b2) hm1, fun _ => Nat.lt_of_lt_of_le b2 hm1, hP, fun h => nomatch h⟩
theorem bsEnd {g : G} {out : List Ed} (ho : EdsOk out) {L : Nat → Option C} (H : BsF g out L) (h0 : SrcDone g out out.length L) (hcm : ∀ a, g.Corner a → CalmB g L a) (t : Nat) :
    (∀ c, L t = some c → RDist g.GE (SrcO g out) t c) ∧ (L t = none → ∀ c, ¬ FR.Reach g.GE (SrcO g out) t c) :=
  BF.fin (bsNn ho) H h0 (fun a c b e ha he => hcm a he.1 c b e ha he) t
/-- the best over the first k ends -/
def BestK (L : Nat → Option C) (inn : List Ed) (k : Nat) (fd : Bool) (b : C) : Prop :=
  (fd = false → b = C.zero ∧ ∀ (j : Nat) (e : Ed) (t : Nat), j < k → inn[j]? = some e → e.to_ = t → L t = none) ∧
  (fd = true → (∃ (j : Nat) (e : Ed) (t : Nat) (c : C), j < k ∧ inn[j]? = some e ∧ e.to_ = t ∧ L t = some c ∧ b = C.add c e.c) ∧ ∀ (j : Nat) (e : Ed) (t : Nat) (c : C), j < k → inn[j]? = some e → e.to_ = t → L t = some c → C.le b (C.add c e.c))
theorem bestK_end {g : G} {out inn : List Ed} {L : Nat → Option C} {fd : Bool} {b : C} (hL : ∀ t, (∀ c, L t = some c → RDist g.GE (SrcO g out) t c) ∧ (L t = none → ∀ c, ¬ FR.Reach g.GE (SrcO g out) t c)) (h : BestK L inn inn.length fd b) : BestIs g out inn b fd := by
  constructor
  · intro hf
    obtain ⟨h1, h2⟩ := h.1 hf
    refine ⟨h1, ?_⟩
    rintro c ⟨t, c1, e, hr, he, ht, _⟩
    obtain ⟨j, hj⟩ := List.getElem?_of_mem he
    exact (hL t).2 (h2 j e t (List.getElem?_eq_some_iff.1 hj).1 hj ht) c1 hr
  · intro hf
    obtain ⟨⟨j, e, t, c, h1, h2, h3, h4, rfl⟩, h5⟩ := h.2 hf
    refine ⟨⟨t, c, e, ((hL t).1 c h4).1, List.mem_of_getElem? h2, h3, rfl⟩, ?_⟩
    rintro x ⟨t', c1, e', hr, he, ht, rfl⟩
    obtain ⟨j', hj'⟩ := List.getElem?_of_mem he
    cases hLt : L t' with
    | none => exact absurd hr ((hL t').2 hLt c1)
    | some c' =>
      refine C.le_trans (h5 j' e' t' c' (List.getElem?_eq_some_iff.1 hj').1 hj' ht hLt) ?_
      exact C.add_le_add (((hL t').1 c' hLt).2 c1 hr) (C.le_refl _)
end Go.Proofs.YtjejkadaafmdcaaGreat
