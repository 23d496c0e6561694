/- Plain mathematics: the least-first search with ways back. -/
import Derived.Test.YtkiogciokngjfaaMath2
set_option linter.unusedVariables false
set_option linter.unusedSimpArgs false
namespace FR
/-- the least-first search, with bounds, and who each was come from -/
structure FS (E : Nat → Nat → C → Prop) (fr N : Nat) (done hp : Nat → Option C) (back : Nat → Option Nat) (k : Nat) (pend : Nat → C → Prop) : Prop where
  dij : Dij E fr done hp k pend
  frN : fr < N
  rngD : ∀ j, done j ≠ none → j < N
  rngH : ∀ j, hp j ≠ none → j < N
  b0 : ∀ j, back j = none → (done j = none ∧ hp j = none) ∨ j = fr
  b1 : ∀ j a, back j = some a → ∃ c d e, (done j = some c ∨ hp j = some c) ∧ done a = some d ∧ E a j e ∧ c = C.add d e
  bfr : back fr = none
  c1 : ∀ j c, done j = some c → C.le c ⟨0, (cntN (fun i => (done i).isSome) N : Int) - 1⟩
  c2 : ∀ j c, hp j = some c → C.le c ⟨0, (cntN (fun i => (done i).isSome) N : Int)⟩
  last : ∀ c, done k = some c → ∀ i d, done i = some d → C.le d c
theorem some_upd (f : Nat → Option C) (t : Nat) (c : C) : (fun i => (upd f t (some c) i).isSome) = upd (fun i => (f i).isSome) t true := by
  funext i; unfold upd; split <;> rfl
theorem cnt_done {done : Nat → Option C} {t N : Nat} (ht : t < N) (h : done t = none) (c : C) : cntN (fun i => (upd done t (some c) i).isSome) N = cntN (fun i => (done i).isSome) N + 1 := by
  rw [some_upd]; exact cntN_upd ht (by rw [h]; rfl)
theorem cnt_hpop {hp : Nat → Option C} {t N : Nat} (ht : t < N) (h : hp t ≠ none) : cntN (fun i => (hp i).isSome) N = cntN (fun i => (upd hp t none i).isSome) N + 1 := by
  rw [← cntN_upd (p := fun i => (upd hp t none i).isSome) ht (by simp [upd_same])]
  apply sumN_congr
  intro k _
  by_cases e : k = t
  · subst e
    rw [upd_same]
    cases hk : hp k with
    | none => exact absurd hk h
    | some c => simp [hk]
  · rw [upd_ne _ _ e, upd_ne _ _ e]
theorem cnt_hkeep {hp : Nat → Option C} {t : Nat} (N : Nat) (h : hp t ≠ none) (c : C) : cntN (fun i => (upd hp t (some c) i).isSome) N = cntN (fun i => (hp i).isSome) N := by
  apply sumN_congr
  intro k _
  by_cases e : k = t
  · subst e
    cases hk : hp k with
    | none => exact absurd hk h
    | some c => simp [upd_same, hk]
  · simp only [upd_ne _ _ e]
theorem cntN_zero {p : Nat → Bool} {n : Nat} (h : cntN p n = 0) : ∀ k, k < n → p k = false := by
  induction n with
  | zero => intro k hk; omega
  | succ n ih =>
    unfold cntN at h ih
    rw [sumN] at h
    intro k hk
    by_cases e : k = n
    · subst e
      cases hp : p k with
      | false => rfl
      | true => simp [hp] at h
    · exact ih (by omega) k (by omega)
theorem cntN_none (n : Nat) : cntN (fun _ => false) n = 0 := by
  unfold cntN; simp [sumN_const]
theorem cntN_upd_none {n fr : Nat} (h : fr < n) : cntN (fun i => (upd (fun _ => (none : Option C)) fr (some C.zero) i).isSome) n = 1 := by
  have := cnt_done (done := fun _ => none) h rfl C.zero
  rw [this]
  simp [cntN_none]
namespace FS
variable {E : Nat → Nat → C → Prop} {fr N : Nat} {done hp : Nat → Option C} {back : Nat → Option Nat} {k : Nat} {pend : Nat → C → Prop}
theorem start (h : fr < N) (k : Nat) : FS E fr N (fun _ => none) (upd (fun _ => none) fr (some C.zero)) (fun _ => none) k (fun _ _ => False) where
  dij := Dij.start fr k
  frN := h
  rngD := fun j hj => absurd rfl hj
  rngH := fun j hj => by
    unfold upd at hj; split at hj
    · rename_i e; rw [e]; exact h
    · exact absurd rfl hj
  b0 := fun j _ => by
    by_cases e : j = fr
    · exact .inr e
    · exact .inl ⟨rfl, upd_ne _ _ e⟩
  b1 := fun j a h => by cases h
  bfr := rfl
  c1 := fun j c h => by cases h
  c2 := fun j c h => by
    unfold upd at h; split at h
    · cases h; exact C.le_of_parts (by simp [C.zero]) (by simp [C.zero])
    · cases h
  last := fun c h => by cases h
theorem weaken {pend' : Nat → C → Prop} (H : FS E fr N done hp back k pend) (h : ∀ b e, pend b e → pend' b e) : FS E fr N done hp back k pend' :=
  { H with dij := ⟨H.dij.i1, H.dij.i2, H.dij.i2', fun a c b e x y => (H.dij.i3 a c b e x y).imp_left fun ⟨p, q⟩ => ⟨p, h _ _ q⟩, H.dij.i4⟩ }
theorem pop (hE : ∀ a b c, E a b c → C.Nn c) (H : FS E fr N done hp back k fun _ _ => False) {t : Nat} {c : C} (ht : hp t = some c) (hmin : ∀ j d, hp j = some d → C.le c d) :
    FS E fr N (upd done t (some c)) (upd hp t none) back t (E t) := by
  have htN := H.rngH t (by rw [ht]; simp)
  have hdt := (H.dij.i2 t c ht).1
  have hcnt := cnt_done htN hdt c
  refine ⟨H.dij.pop hE ht hmin, H.frN, ?_, ?_, ?_, ?_, H.bfr, ?_, ?_, ?_⟩
  · intro j hj
    unfold upd at hj; split at hj
    · rename_i e; rw [e]; exact htN
    · exact H.rngD j hj
  · intro j hj
    unfold upd at hj; split at hj
    · exact absurd rfl hj
    · exact H.rngH j hj
  · intro j hj
    rcases H.b0 j hj with ⟨h1, h2⟩ | h
    · left
      have e : j ≠ t := by rintro rfl; rw [ht] at h2; cases h2
      exact ⟨(upd_ne _ _ e).trans h1, (upd_ne _ _ e).trans h2⟩
    · exact .inr h
  · intro j a ha
    obtain ⟨c', d, e, h1, h2, h3, h4⟩ := H.b1 j a ha
    refine ⟨c', d, e, ?_, ?_, h3, h4⟩
    · by_cases q : j = t
      · subst q
        rw [upd_same]
        rcases h1 with h1 | h1
        · rw [hdt] at h1; cases h1
        · rw [ht] at h1; exact .inl h1
      · rw [upd_ne _ _ q, upd_ne _ _ q]; exact h1
    · by_cases q : a = t
      · subst q; rw [hdt] at h2; cases h2
      · rw [upd_ne _ _ q]; exact h2
  · intro j d hj
    rw [hcnt]
    unfold upd at hj; split at hj
    · cases hj; exact C.le_trans (H.c2 _ _ ht) (C.le_of_parts (Int.le_refl _) (by simp only; omega))
    · exact C.le_trans (H.c1 _ _ hj) (C.le_of_parts (Int.le_refl _) (by simp only; omega))
  · intro j d hj
    rw [hcnt]
    unfold upd at hj; split at hj
    · cases hj
    · exact C.le_trans (H.c2 _ _ hj) (C.le_of_parts (Int.le_refl _) (by simp only; omega))
  · intro c' hc i d hi
    rw [upd_same] at hc
    cases hc
    unfold upd at hi; split at hi
    · cases hi; exact C.le_refl _
    · exact H.dij.i2' _ _ ht _ _ hi
theorem skip {pend' : Nat → C → Prop} (H : FS E fr N done hp back k pend) {b : Nat} (hb : done b ≠ none) (hp' : ∀ b' e', pend b' e' → pend' b' e' ∨ b' = b) : FS E fr N done hp back k pend' :=
  { H with dij := H.dij.skip hb hp' }
theorem keep {pend' : Nat → C → Prop} (H : FS E fr N done hp back k pend) {b : Nat} {c e d : C} (hk : done k = some c) (hb : hp b = some d) (hle : C.le d (C.add c e)) (hp' : ∀ b' e', pend b' e' → pend' b' e' ∨ (b' = b ∧ e' = e)) : FS E fr N done hp back k pend' :=
  { H with dij := H.dij.keep hk hb hle hp' }
theorem push (hE : ∀ a b c, E a b c → C.Nn c) {pend' : Nat → C → Prop} (H : FS E fr N done hp back k pend) {b : Nat} {c e : C} (hk : done k = some c) (he : E k b e) (he1 : C.le e ⟨0, 1⟩) (hbN : b < N)
    (hd : done b = none) (hb : ∀ d, hp b = some d → C.lt (C.add c e) d) (hp' : ∀ b' e', pend b' e' → pend' b' e' ∨ (b' = b ∧ e' = e)) :
    FS E fr N done (upd hp b (some (C.add c e))) (upd back b (some k)) k pend' := by
  have hbf : b ≠ fr := by
    rintro rfl
    rcases H.dij.i4 with x | x
    · rw [hd] at x; cases x
    · exact C.nn_le (C.nn_add ((H.dij.i1 _ _ hk).1.nn hE) (hE _ _ _ he)) (hb _ x)
  refine ⟨H.dij.push hE hk he hd hb (H.last _ hk) hp', H.frN, H.rngD, ?_, ?_, ?_, ?_, H.c1, ?_, H.last⟩
  · intro j hj
    unfold upd at hj; split at hj
    · rename_i q; rw [q]; exact hbN
    · exact H.rngH j hj
  · intro j hj
    unfold upd at hj; split at hj
    · cases hj
    · rename_i q
      rw [upd_ne _ _ q]; exact H.b0 j hj
  · intro j a ha
    by_cases q : j = b
    · subst q
      rw [upd_same] at ha
      cases ha
      exact ⟨_, _, _, .inr (upd_same _ _ _), hk, he, rfl⟩
    · rw [upd_ne _ _ q] at ha ⊢
      exact H.b1 j a ha
  · rw [upd_ne _ _ (Ne.symm hbf)]; exact H.bfr
  · intro j d hj
    unfold upd at hj; split at hj
    · cases hj
      refine C.le_trans (C.add_le_add (H.c1 _ _ hk) he1) (C.le_of_parts ?_ ?_) <;> simp [C.add]
    · exact H.c2 _ _ hj
end FS
/-- what a flood knows: what each cell costs that can be come to, and who it was come from -/
structure FloodOk (E : Nat → Nat → C → Prop) (fr N : Nat) (done : Nat → Option C) (back : Nat → Option Nat) : Prop where
  frN : fr < N
  in_ : ∀ t c, done t = some c → Dist E fr t c
  out : ∀ t, done t = none → ∀ c, ¬ Walk E fr t c
  rng : ∀ t, done t ≠ none → t < N
  b0 : ∀ j, back j = none → done j = none ∨ j = fr
  b1 : ∀ j a, back j = some a → ∃ c d e, done j = some c ∧ done a = some d ∧ E a j e ∧ c = C.add d e
  bfr : back fr = none
  small : ∀ j c, done j = some c → 0 ≤ c.s ∧ c.s ≤ 512 ∧ 0 ≤ c.d ∧ c.d ≤ 512
/-- costs along ways in a grid are small -/
theorem FS.small {E : Nat → Nat → C → Prop} (hE : ∀ a b c, E a b c → C.Nn c) {fr N : Nat} {done hp : Nat → Option C} {back : Nat → Option Nat} {k : Nat} {pend : Nat → C → Prop} (H : FS E fr N done hp back k pend) (hN : N ≤ 256) {j : Nat} {c : C} (h : done j = some c ∨ hp j = some c) :
    0 ≤ c.s ∧ c.s ≤ 512 ∧ 0 ≤ c.d ∧ c.d ≤ 512 := by
  have h3 := cntN_le (fun i => (done i).isSome) N
  have h1 : C.le c ⟨0, (cntN (fun i => (done i).isSome) N : Int)⟩ := by
    rcases h with h | h
    · exact C.le_trans (H.c1 _ _ h) (C.le_of_parts (Int.le_refl _) (by simp only; omega))
    · exact H.c2 _ _ h
  have h2 : C.Nn c := by
    rcases h with h | h
    · exact (H.dij.i1 _ _ h).1.nn hE
    · exact (H.dij.i2 _ _ h).2.nn hE
  obtain ⟨h5, h6⟩ := C.parts_le' h2 (b := ⟨0, cntN (fun i => (done i).isSome) N⟩) ⟨by simp, by simp⟩ h1
  obtain ⟨h7, h8⟩ := h2
  simp only at h5 h6
  omega
theorem FS.fin {E : Nat → Nat → C → Prop} (hE : ∀ a b c, E a b c → C.Nn c) {fr N : Nat} {done hp : Nat → Option C} {back : Nat → Option Nat} {k : Nat} (H : FS E fr N done hp back k fun _ _ => False) (hN : N ≤ 256) (h0 : ∀ j, hp j = none) :
    FloodOk E fr N done back where
  frN := H.frN
  in_ := fun t => (H.dij.fin hE h0 t).1
  out := fun t => (H.dij.fin hE h0 t).2
  rng := H.rngD
  b0 := fun j hj => (H.b0 j hj).imp_left And.left
  b1 := fun j a ha => by
    obtain ⟨c, d, e, h1, h2⟩ := H.b1 j a ha
    refine ⟨c, d, e, h1.resolve_right ?_, h2⟩
    rw [h0]; simp
  bfr := H.bfr
  small := fun j c h => H.small hE hN (.inl h)
end FR
