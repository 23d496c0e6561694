/- Plain mathematics: labels that go down until none does, from several beginnings. -/
import Derived.Test.YtkiogciokngjfaaMathFlood
set_option linter.unusedVariables false
set_option linter.unusedSimpArgs false
namespace FR
/-- what one can be come to at -/
def Reach (E : Nat → Nat → C → Prop) (src : Nat → C → Prop) (j : Nat) (c : C) : Prop := ∃ s c0 d, src s c0 ∧ Walk E s j d ∧ c = C.add c0 d
theorem Reach.snoc {E : Nat → Nat → C → Prop} {src : Nat → C → Prop} {a b : Nat} {c e : C} (h : Reach E src a c) (he : E a b e) : Reach E src b (C.add c e) := by
  obtain ⟨s, c0, d, h1, h2, rfl⟩ := h
  exact ⟨s, c0, _, h1, h2.snoc he, C.add_assoc _ _ _⟩
theorem Reach.src {E : Nat → Nat → C → Prop} {src : Nat → C → Prop} {s : Nat} {c : C} (h : src s c) : Reach E src s c := ⟨s, c, C.zero, h, .nil s, (C.add_zero c).symm⟩
/-- the least at which one can be come to -/
def RDist (E : Nat → Nat → C → Prop) (src : Nat → C → Prop) (j : Nat) (c : C) : Prop := Reach E src j c ∧ ∀ d, Reach E src j d → C.le c d
theorem RDist.unique {E : Nat → Nat → C → Prop} {src : Nat → C → Prop} {j : Nat} {c d : C} (h : RDist E src j c) (k : RDist E src j d) : c = d := C.le_antisymm (h.2 _ k.1) (k.2 _ h.1)
theorem Reach.one {E : Nat → Nat → C → Prop} {fr j : Nat} {c : C} : Reach E (fun s c0 => s = fr ∧ c0 = C.zero) j c ↔ Walk E fr j c := by
  constructor
  · rintro ⟨s, c0, d, ⟨rfl, rfl⟩, h, rfl⟩
    rw [C.zero_add]; exact h
  · intro h; exact ⟨fr, C.zero, c, ⟨rfl, rfl⟩, h, (C.zero_add c).symm⟩
theorem RDist.one {E : Nat → Nat → C → Prop} {fr j : Nat} {c : C} : RDist E (fun s c0 => s = fr ∧ c0 = C.zero) j c ↔ Dist E fr j c := by
  unfold RDist Dist
  simp only [Reach.one]
def cntS (L : Nat → Option C) (N : Nat) : Nat := cntN (fun i => (L i).isSome) N
theorem cntS_le (L : Nat → Option C) (N : Nat) : cntS L N ≤ N := cntN_le _ _
theorem cntS_upd_le (L : Nat → Option C) (N b : Nat) (c : C) : cntS L N ≤ cntS (upd L b (some c)) N := by
  unfold cntS; rw [some_upd]; exact cntN_upd_le _ _ _
theorem cntS_new {L : Nat → Option C} {N b : Nat} (hb : b < N) (h : L b = none) (c : C) : cntS (upd L b (some c)) N = cntS L N + 1 := cnt_done hb h c
/-- labels, under way: first ones at most B, edges at most M -/
structure BF (E : Nat → Nat → C → Prop) (src : Nat → C → Prop) (N B M : Nat) (L : Nat → Option C) : Prop where
  rng : ∀ j, L j ≠ none → j < N
  reach : ∀ j c, L j = some c → Reach E src j c ∧ C.Nn c
  bd : ∀ j c, L j = some c → C.le c ⟨0, ((B + M * cntS L N : Nat) : Int)⟩
namespace BF
variable {E : Nat → Nat → C → Prop} {src : Nat → C → Prop} {N B M : Nat} {L : Nat → Option C}
def K (N B M : Nat) : Nat := 2 * (B + M * (N + 1))
/-- what the labels may still go down -/
def meas (N K : Nat) (L : Nat → Option C) : Nat := sumN (fun k => match L k with | some c => rk K c | none => (K+1)*(K+1) + 1) N
theorem start : BF E src N B M (fun _ => Option.none) where
  rng := fun _ h => absurd rfl h
  reach := fun _ _ h => by cases h
  bd := fun _ _ h => by cases h
theorem small (H : BF E src N B M L) {j : Nat} {c : C} (h : L j = some c) : 0 ≤ c.s ∧ c.s ≤ 2 * (B + M * N) ∧ 0 ≤ c.d ∧ c.d ≤ 2 * (B + M * N) := by
  have h1 := H.bd _ _ h
  have h2 := (H.reach _ _ h).2
  have h3 : M * cntS L N ≤ M * N := Nat.mul_le_mul_left _ (cntS_le L N)
  obtain ⟨h5, h6⟩ := C.parts_le' h2 (b := ⟨0, ((B + M * cntS L N : Nat) : Int)⟩) ⟨by simp, by simp only; omega⟩ h1
  obtain ⟨h7, h8⟩ := h2
  simp only at h5 h6
  have h9 : ((M * cntS L N : Nat) : Int) ≤ ((M * N : Nat) : Int) := by omega
  have e : ((M * N : Nat) : Int) = (M : Int) * N := by simp
  omega
theorem put (hN : ∀ j c, Reach E src j c → C.Nn c) (H : BF E src N B M L) {b : Nat} {c : C} (hb : b < N) (hr : Reach E src b c) (hlt : ∀ d, L b = some d → C.lt c d)
    (hbd : L b = Option.none → C.le c ⟨0, ((B + M * (cntS L N + 1) : Nat) : Int)⟩) : BF E src N B M (upd L b (some c)) ∧ meas N (K N B M) (upd L b (some c)) < meas N (K N B M) L := by
  have hcnt := cntS_upd_le L N b c
  have hnn := hN _ _ hr
  have hnew : C.le c ⟨0, ((B + M * cntS (upd L b (some c)) N : Nat) : Int)⟩ := by
    cases hL : L b with
    | none => rw [cntS_new hb hL]; exact hbd hL
    | some d => exact C.le_trans (C.le_of_lt (hlt d hL)) (C.le_trans (H.bd _ _ hL) (C.le_of_parts (Int.le_refl _) (by have := Nat.mul_le_mul_left M hcnt; simp only; omega)))
  refine ⟨⟨?_, ?_, ?_⟩, ?_⟩
  · intro j hj
    unfold upd at hj; split at hj
    · rename_i e; rw [e]; exact hb
    · exact H.rng j hj
  · intro j d hj
    unfold upd at hj; split at hj
    · rename_i e; cases hj; rw [e]; exact ⟨hr, hnn⟩
    · exact H.reach j d hj
  · intro j d hj
    by_cases e : j = b
    · subst e; rw [upd_same] at hj; cases hj; exact hnew
    · rw [upd_ne _ _ e] at hj
      exact C.le_trans (H.bd _ _ hj) (C.le_of_parts (Int.le_refl _) (by have := Nat.mul_le_mul_left M hcnt; simp only; omega))
  · have hbox : c ∈ box (K N B M) := by
      obtain ⟨p1, p2⟩ := C.parts_le' hnn (b := ⟨0, ((B + M * cntS (upd L b (some c)) N : Nat) : Int)⟩) ⟨by simp, by simp only; omega⟩ hnew
      have h3 : M * cntS (upd L b (some c)) N ≤ M * (N + 1) := Nat.mul_le_mul_left _ (Nat.le_succ_of_le (cntS_le _ N))
      simp only at p1 p2
      refine mem_box hnn ?_ ?_ <;> unfold K <;> omega
    apply sumN_lt
    · intro j _
      by_cases q : j = b
      · subst q
        rw [upd_same]
        cases hL : L j with
        | none => exact Nat.le_succ_of_le (rk_le _ _)
        | some d => exact Nat.le_of_lt (rk_lt (hlt d hL) hbox)
      · rw [upd_ne _ _ q]; exact Nat.le_refl _
    · refine ⟨b, hb, ?_⟩
      rw [upd_same]
      cases hL : L b with
      | none => exact Nat.lt_succ_of_le (rk_le _ _)
      | some d => exact rk_lt (hlt d hL) hbox
/-- an edge lowers a label, or lays it -/
theorem relax (hN : ∀ j c, Reach E src j c → C.Nn c) (H : BF E src N B M L) {k b : Nat} {c e : C} (hk : L k = some c) (he : E k b e) (he1 : C.le e ⟨0, (M : Int)⟩) (hb : b < N) (hlt : ∀ d, L b = some d → C.lt (C.add c e) d) :
    BF E src N B M (upd L b (some (C.add c e))) ∧ meas N (K N B M) (upd L b (some (C.add c e))) < meas N (K N B M) L := by
  refine H.put hN hb ((H.reach _ _ hk).1.snoc he) hlt fun hn => ?_
  refine C.le_trans (C.add_le_add (H.bd _ _ hk) he1) (C.le_of_parts ?_ ?_)
  · simp [C.add]
  · simp only [C.add, Nat.mul_add]; omega
/-- none goes down any more: the labels are the least -/
theorem fin (hN : ∀ j c, Reach E src j c → C.Nn c) (H : BF E src N B M L) (hs : ∀ s c0, src s c0 → ∃ d, L s = some d ∧ C.le d c0) (he : ∀ a c b e, L a = some c → E a b e → ∃ d, L b = some d ∧ C.le d (C.add c e)) (t : Nat) :
    (∀ c, L t = some c → RDist E src t c) ∧ (L t = Option.none → ∀ c, ¬ Reach E src t c) := by
  have key : ∀ s j d, Walk E s j d → ∀ c0, src s c0 → ∃ d', L j = some d' ∧ C.le d' (C.add c0 d) := by
    intro s j d hw
    induction hw with
    | nil => intro c0 h0; rw [C.add_zero]; exact hs _ _ h0
    | snoc hw' he' ih =>
      intro c0 h0
      obtain ⟨d', h1, h2⟩ := ih c0 h0
      obtain ⟨d2, h3, h4⟩ := he _ _ _ _ h1 he'
      exact ⟨d2, h3, C.le_trans h4 (by rw [← C.add_assoc]; exact (C.add_le_right _).2 h2)⟩
  refine ⟨fun c h => ⟨(H.reach _ _ h).1, ?_⟩, ?_⟩
  · rintro d ⟨s, c0, d', h0, hw, rfl⟩
    obtain ⟨x, h1, h2⟩ := key _ _ _ hw _ h0
    rw [h] at h1; cases h1; exact h2
  · rintro h c ⟨s, c0, d', h0, hw, rfl⟩
    obtain ⟨x, h1, _⟩ := key _ _ _ hw _ h0
    rw [h] at h1; cases h1
end BF
end FR
