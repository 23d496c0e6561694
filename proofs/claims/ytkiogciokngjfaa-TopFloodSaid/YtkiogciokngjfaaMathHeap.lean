/- Plain mathematics: a heap of costs with numbers, as a function on places. -/
import Derived.Test.YtkiogciokngjfaaMath1
set_option linter.unusedVariables false
set_option linter.unusedSimpArgs false
namespace FR
/-- a cost with a number -/
structure It where
  c : C
  id : Int
deriving DecidableEq
namespace It
/-- stands ahead of -/
def lt (a b : It) : Prop := C.lt a.c b.c ∨ (a.c = b.c ∧ a.id < b.id)
def le (a b : It) : Prop := ¬ lt b a
theorem lt_irrefl (a : It) : ¬ lt a a := fun h => by rcases h with h | ⟨_, h⟩; exact C.lt_irrefl _ h; omega
theorem lt_trans {a b c : It} (h : lt a b) (k : lt b c) : lt a c := by
  rcases h with h | ⟨h1, h2⟩
  · rcases k with k | ⟨k1, k2⟩
    · exact .inl (C.lt_trans h k)
    · exact .inl (k1 ▸ h)
  · rcases k with k | ⟨k1, k2⟩
    · exact .inl (h1 ▸ k)
    · exact .inr ⟨h1.trans k1, by omega⟩
theorem lt_tri (a b : It) : lt a b ∨ a = b ∨ lt b a := by
  rcases C.lt_tri a.c b.c with h | h | h
  · exact .inl (.inl h)
  · rcases Int.lt_trichotomy a.id b.id with k | k | k
    · exact .inl (.inr ⟨h, k⟩)
    · right; left; cases a; cases b; simp only at h k; subst h; subst k; rfl
    · exact .inr (.inr (.inr ⟨h.symm, k⟩))
  · exact .inr (.inr (.inl h))
theorem le_refl (a : It) : le a a := lt_irrefl a
theorem le_of_lt {a b : It} (h : lt a b) : le a b := fun k => lt_irrefl a (lt_trans h k)
theorem le_iff {a b : It} : le a b ↔ lt a b ∨ a = b := by
  constructor
  · intro h
    rcases lt_tri a b with k | k | k
    · exact .inl k
    · exact .inr k
    · exact absurd k h
  · rintro (h | rfl)
    · exact le_of_lt h
    · exact le_refl a
theorem le_trans {a b c : It} (h : le a b) (k : le b c) : le a c := by
  rcases le_iff.1 h with h | rfl
  · rcases le_iff.1 k with k | rfl
    · exact le_of_lt (lt_trans h k)
    · exact le_of_lt h
  · exact k
theorem le_total (a b : It) : le a b ∨ le b a := by
  rcases lt_tri a b with h | rfl | h
  · exact .inl (le_of_lt h)
  · exact .inl (le_refl a)
  · exact .inr (le_of_lt h)
end It
def par (j : Nat) : Nat := (j - 1) / 2
def HeapL (n : Nat) (g : Nat → It) : Prop := ∀ j, j < n → 0 < j → It.le (g (par j)) (g j)
/-- in order but for place i and what is ahead of it -/
def HeapUp (n : Nat) (g : Nat → It) (i : Nat) : Prop := (∀ j, j < n → 0 < j → j ≠ i → It.le (g (par j)) (g j)) ∧ (∀ j, j < n → 0 < j → par j = i → 0 < i → It.le (g (par i)) (g j))
/-- in order but for place i and what is behind it -/
def HeapDn (n : Nat) (g : Nat → It) (i : Nat) : Prop := (∀ j, j < n → 0 < j → par j ≠ i → It.le (g (par j)) (g j)) ∧ (∀ j, j < n → 0 < j → par j = i → 0 < i → It.le (g (par i)) (g j))
def swp (g : Nat → It) (i k : Nat) : Nat → It := upd (upd g i (g k)) k (g i)
theorem swp_at (g : Nat → It) (i k j : Nat) : swp g i k j = if j = k then g i else if j = i then g k else g j := rfl
theorem par_lt {j : Nat} (h : 0 < j) : par j < j := by unfold par; omega
theorem up_end {n : Nat} {g : Nat → It} {i : Nat} (h : HeapUp n g i) (he : i = 0 ∨ ¬ It.lt (g i) (g (par i))) : HeapL n g := by
  intro j hj h0
  by_cases e : j = i
  · subst e
    rcases he with he | he
    · omega
    · exact he
  · exact h.1 j hj h0 e
theorem up_step {n : Nat} {g : Nat → It} {i : Nat} (hi : i < n) (h0 : 0 < i) (h : HeapUp n g i) (hl : It.lt (g i) (g (par i))) : HeapUp n (swp g i (par i)) (par i) := by
  have hp := par_lt h0
  constructor
  · intro j hj j0 hne
    rw [swp_at, swp_at]
    rw [if_neg hne]
    by_cases e1 : j = i
    · subst e1
      rw [if_pos rfl, if_pos rfl]; exact It.le_of_lt hl
    · rw [if_neg e1]
      by_cases e2 : par j = par i
      · rw [if_pos e2]
        have := h.1 j hj j0 e1
        rw [e2] at this
        exact It.le_trans (It.le_of_lt hl) this
      · rw [if_neg e2]
        by_cases e3 : par j = i
        · rw [if_pos e3]; exact h.2 j hj j0 e3 h0
        · rw [if_neg e3]; exact h.1 j hj j0 e1
  · intro j hj j0 hpj hp0
    rw [swp_at, swp_at]
    have hpp := par_lt hp0
    rw [if_neg (by omega), if_neg (by omega)]
    have hup : It.le (g (par (par i))) (g (par i)) := h.1 (par i) (by omega) hp0 (by omega)
    by_cases e0 : j = par i
    · rw [e0] at hpj; omega
    · rw [if_neg e0]
      by_cases e1 : j = i
      · rw [if_pos e1]; exact hup
      · rw [if_neg e1]
        have := h.1 j hj j0 e1
        rw [hpj] at this
        exact It.le_trans hup this
theorem dn_end {n : Nat} {g : Nat → It} {i : Nat} (h : HeapDn n g i) (he : ∀ j, j < n → 0 < j → par j = i → It.le (g i) (g j)) : HeapL n g := by
  intro j hj h0
  by_cases e : par j = i
  · rw [e]; exact he j hj h0 e
  · exact h.1 j hj h0 e
/-- k is the lesser child of i -/
theorem dn_step {n : Nat} {g : Nat → It} {i k : Nat} (hk : k < n) (k0 : 0 < k) (hki : par k = i) (h : HeapDn n g i) (hl : It.lt (g k) (g i)) (hm : ∀ j, j < n → 0 < j → par j = i → It.le (g k) (g j)) : HeapDn n (swp g i k) k := by
  have hp := par_lt k0
  constructor
  · intro j hj j0 hne
    rw [swp_at, swp_at, if_neg hne]
    by_cases e1 : j = k
    · subst e1
      rw [if_pos rfl, if_pos hki]; exact It.le_of_lt hl
    · rw [if_neg e1]
      by_cases e2 : par j = i
      · rw [if_pos e2, if_neg (by have := par_lt j0; omega)]; exact hm j hj j0 e2
      · rw [if_neg e2]
        by_cases e3 : j = i
        · rw [if_pos e3]
          subst e3
          exact h.2 k hk k0 hki j0
        · rw [if_neg e3]; exact h.1 j hj j0 e2
  · intro j hj j0 hpj _
    have hpj' := par_lt j0
    rw [swp_at, swp_at, hki, if_neg (by omega), if_pos rfl, if_neg (by omega), if_neg (by omega)]
    have := h.1 j hj j0 (by omega)
    rwa [hpj] at this
theorem heap_min {n : Nat} {g : Nat → It} (h : HeapL n g) : ∀ k, k < n → It.le (g 0) (g k) := by
  intro k
  induction k using Nat.strongRecOn with
  | _ k ih =>
    intro hk
    rcases Nat.eq_zero_or_pos k with rfl | h0
    · exact It.le_refl _
    · exact It.le_trans (ih (par k) (par_lt h0) (by have := par_lt h0; omega)) (h k hk h0)
theorem heap_dn {n : Nat} {g : Nat → It} {y : It} (h : HeapL n g) : HeapDn n (upd g 0 y) 0 := by
  constructor
  · intro j hj j0 hne
    rw [upd_ne _ _ hne, upd_ne _ _ (by omega)]; exact h j hj j0
  · intro j _ _ _ h0; omega
theorem heap_push {n : Nat} {g : Nat → It} {x : It} (h : HeapL n g) : HeapUp (n + 1) (upd g n x) n := by
  constructor
  · intro j hj j0 hne
    have := par_lt j0
    rw [upd_ne _ _ (by omega), upd_ne _ _ (by omega)]; exact h j (by omega) j0
  · intro j hj j0 hp _
    have := par_lt j0
    omega
theorem heap_less {n : Nat} {g : Nat → It} {x : It} {i : Nat} (hi : i < n) (h : HeapL n g) (hl : It.le x (g i)) : HeapUp n (upd g i x) i := by
  constructor
  · intro j hj j0 hne
    rw [upd_ne _ _ hne]
    by_cases e : par j = i
    · rw [e, upd_same]; exact It.le_trans hl (by have := h j hj j0; rwa [e] at this)
    · rw [upd_ne _ _ e]; exact h j hj j0
  · intro j hj j0 hp hi0
    have := par_lt j0
    have := par_lt hi0
    rw [upd_ne _ _ (by omega), upd_ne _ _ (by omega)]
    exact It.le_trans (h i hi hi0) (by have := h j hj j0; rwa [hp] at this)
/-- the numbers are distinct -/
def Dst (n : Nat) (g : Nat → It) : Prop := ∀ j k, j < n → k < n → (g j).id = (g k).id → j = k
/-- what stands in the heap -/
def Holds (n : Nat) (g : Nat → It) (hp : Int → Option C) : Prop := ∀ id c, hp id = some c ↔ ∃ k, k < n ∧ g k = ⟨c, id⟩
/-- where each number stands -/
def PosAt (n : Nat) (g : Nat → It) (m : Int → Option Nat) : Prop := ∀ id k, m id = some k ↔ k < n ∧ (g k).id = id
theorem swp_inv {n : Nat} {g : Nat → It} {i k : Nat} (hi : i < n) (hk : k < n) (x : It) : (∃ j, j < n ∧ swp g i k j = x) ↔ ∃ j, j < n ∧ g j = x := by
  constructor
  · rintro ⟨j, hj, e⟩
    rw [swp_at] at e
    by_cases e1 : j = k
    · rw [if_pos e1] at e; exact ⟨i, hi, e⟩
    · rw [if_neg e1] at e
      by_cases e2 : j = i
      · rw [if_pos e2] at e; exact ⟨k, hk, e⟩
      · rw [if_neg e2] at e; exact ⟨j, hj, e⟩
  · rintro ⟨j, hj, e⟩
    by_cases e2 : j = i
    · refine ⟨k, hk, ?_⟩; rw [swp_at, if_pos rfl, ← e2]; exact e
    · by_cases e1 : j = k
      · refine ⟨i, hi, ?_⟩
        rw [swp_at]
        by_cases e3 : i = k
        · exact absurd (e1.trans e3.symm) e2
        · rw [if_neg e3, if_pos rfl, ← e1]; exact e
      · exact ⟨j, hj, by rw [swp_at, if_neg e1, if_neg e2]; exact e⟩
theorem swp_holds {n : Nat} {g : Nat → It} {i k : Nat} (hi : i < n) (hk : k < n) {hp : Int → Option C} (h : Holds n g hp) : Holds n (swp g i k) hp := by
  intro id c; rw [h id c, swp_inv hi hk]
theorem swp_dst {n : Nat} {g : Nat → It} {i k : Nat} (hi : i < n) (hk : k < n) (h : Dst n g) : Dst n (swp g i k) := by
  intro a b ha hb e
  rw [swp_at, swp_at] at e
  by_cases a1 : a = k <;> by_cases b1 : b = k
  · omega
  · rw [if_pos a1, if_neg b1] at e
    by_cases b2 : b = i
    · rw [if_pos b2] at e; have := h i k hi hk e; omega
    · rw [if_neg b2] at e; have := h i b hi hb e; omega
  · rw [if_neg a1, if_pos b1] at e
    by_cases a2 : a = i
    · rw [if_pos a2] at e; have := h k i hk hi e; omega
    · rw [if_neg a2] at e; have := h a i ha hi e; omega
  · rw [if_neg a1, if_neg b1] at e
    by_cases a2 : a = i <;> by_cases b2 : b = i
    · omega
    · rw [if_pos a2, if_neg b2] at e; have := h k b hk hb e; omega
    · rw [if_neg a2, if_pos b2] at e; have := h a k ha hk e; omega
    · rw [if_neg a2, if_neg b2] at e; exact h a b ha hb e
end FR
