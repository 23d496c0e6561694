/- Plain mathematics: labels over the edges of a graph of corners, and what cells cost. -/
import Derived.Test.YtjejkadaafmdcaaGA
import Derived.Test.YtjejkadaafmdcaaMathSel
set_option linter.unusedVariables false
set_option linter.unusedSimpArgs false
namespace FR
theorem C.le_dd {s d : Int} (hs : 0 ≤ s) : C.le ⟨s, d⟩ ⟨0, s + d⟩ := by
  by_cases h : s = 0
  · subst h; rw [Int.zero_add]; exact C.le_refl _
  · refine C.le_of_lt ?_
    unfold C.lt Pos
    simp only
    have h2 : 0 < s * s := mulpos (by omega) (by omega)
    refine .inr (.inr ⟨by omega, by omega, ?_⟩)
    have e1 : (0 - s) * (0 - s) = s * s := by rw [Int.zero_sub, Int.neg_mul_neg]
    have e2 : s + d - d = s := by omega
    rw [e1, e2]; omega
namespace G
variable {g : G}
/-- where one begins -/
def Src (fr : Nat) : Nat → C → Prop := fun s c0 => s = fr ∧ c0 = C.zero
theorem ge_small (hg : g.ok) {a b : Nat} {e : C} (h : g.GE a b e) : C.le e ⟨0, ((30 : Nat) : Int)⟩ ∧ 0 ≤ e.s ∧ e.s ≤ 15 ∧ 0 ≤ e.d ∧ e.d ≤ 15 := by
  obtain ⟨h1, h2, _, _, rfl⟩ := h
  obtain ⟨s1, s2, s3, s4⟩ := oct_small hg h2.1 h1.1
  generalize g.oct a b = e at s1 s2 s3 s4 ⊢
  obtain ⟨es, ed⟩ := e
  simp only at s1 s2 s3 s4
  refine ⟨C.le_trans (C.le_dd s1) (C.le_of_parts (Int.le_refl _) ?_), s1, s2, s3, s4⟩
  simp only
  omega
theorem ge_nn {fr : Nat} : ∀ j c, Reach g.GE (Src fr) j c → C.Nn c := by
  intro j c h
  have := Reach.one.1 h
  exact this.nn (fun _ _ _ => GE_nn)
/-- of the first so many edges none lowers a label -/
def Calm (g : G) (L : Nat → Option C) (a : Nat) : Prop := ∀ c b e, L a = some c → g.GE a b e → ∃ d, L b = some d ∧ C.le d (C.add c e)
theorem span_end {fr : Nat} {L : Nat → Option C} (H : BF g.GE (Src fr) g.n 0 30 L) (h0 : ∃ d, L fr = some d ∧ C.le d C.zero) (hc : ∀ a, g.Corner a → Calm g L a) (hfr : g.Corner fr) {t : Nat} (ht : g.Corner t) :
    (∀ d, L t = some d → Dist g.E fr t d) ∧ (L t = none → ∀ d, ¬ Walk g.E fr t d) := by
  have hf := BF.fin ge_nn H (fun s c0 h => by obtain ⟨rfl, rfl⟩ := h; exact h0) (fun a c b e ha he => hc a he.1 c b e ha he) t
  refine ⟨fun d hd => (dist_GE hfr ht).1 (RDist.one.1 (hf.1 d hd)), fun hn d hw => ?_⟩
  obtain ⟨c, hc⟩ := (walk_GE hfr ht).2 ⟨d, hw⟩
  exact hf.2 hn c (Reach.one.2 hc)
theorem span_start {fr : Nat} (hfr : fr < g.n) : BF g.GE (Src fr) g.n 0 30 (upd (fun _ => none) fr (some C.zero)) := by
  refine (BF.put ge_nn BF.start hfr (Reach.src ⟨rfl, rfl⟩) (fun d hd => by cases hd) (fun _ => ?_)).1
  exact C.le_of_parts (Int.le_refl _) (by simp only [C.zero]; omega)
/-- all that have labels are corners -/
theorem span_corner {fr : Nat} (hfr : g.Corner fr) {L : Nat → Option C} (H : BF g.GE (Src fr) g.n 0 30 L) {t : Nat} (h : L t ≠ none) : g.Corner t := by
  cases hL : L t with
  | none => exact absurd hL h
  | some c =>
    have hw := Reach.one.1 (H.reach t c hL).1
    exact hw.keeps (P := g.Corner) (fun a b c _ he => he.2.1) hfr
theorem cntN_mono {p q : Nat → Bool} : ∀ n, (∀ k, k < n → p k = true → q k = true) → cntN p n ≤ cntN q n := fun n h => by
  unfold cntN
  refine sumN_le n (fun k hk => ?_)
  cases hp : p k with
  | false => simp
  | true => rw [h k hk hp]; simp
theorem cntN_filter (p : Nat → Bool) : ∀ n, cntN p n = ((List.range n).filter p).length
  | 0 => rfl
  | n + 1 => by
    have := cntN_filter p n
    unfold cntN at *
    rw [List.range_succ, List.filter_append, List.length_append, ← this]
    show sumN _ n + (if p n then 1 else 0) = _
    cases hp : p n <;> simp [hp]
end G
end FR
