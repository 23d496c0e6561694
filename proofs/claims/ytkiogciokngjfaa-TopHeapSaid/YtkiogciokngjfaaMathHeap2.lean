/- Plain mathematics: the reference's heap, a list in order. -/
import Derived.Test.YtkiogciokngjfaaMathHeap
set_option linter.unusedVariables false
set_option linter.unusedSimpArgs false
namespace FR
instance (a b : It) : Decidable (It.lt a b) := by unfold It.lt; infer_instance
/-- x laid into a list, ahead of the first that it stands ahead of -/
def ins (x : It) : List It → List It
  | [] => [x]
  | y :: l => if It.lt x y then x :: y :: l else y :: ins x l
/-- the reference's round: what is laid so far, and whether x is -/
def insStep (x : It) (st : List It × Bool) (y : It) : List It × Bool :=
  if y.id = x.id then st else if st.2 = false ∧ It.lt x y then (st.1 ++ [x] ++ [y], true) else (st.1 ++ [y], st.2)
def insEnd (x : It) (st : List It × Bool) : List It := if st.2 then st.1 else st.1 ++ [x]
/-- the list without x's number, and x laid into it -/
def insL (x : It) (l : List It) : List It := ins x (l.filter fun y => y.id ≠ x.id)
theorem insStep_true (x : It) : ∀ (l acc : List It), l.foldl (insStep x) (acc, true) = (acc ++ l.filter (fun y => y.id ≠ x.id), true)
  | [], acc => by simp
  | y :: l, acc => by
    rw [List.foldl_cons]
    by_cases h : y.id = x.id
    · rw [show insStep x (acc, true) y = (acc, true) by unfold insStep; rw [if_pos h], insStep_true x l acc]
      simp [h]
    · rw [show insStep x (acc, true) y = (acc ++ [y], true) by unfold insStep; rw [if_neg h, if_neg (by simp)], insStep_true x l _]
      simp [h]
theorem insStep_false (x : It) : ∀ (l acc : List It), insEnd x (l.foldl (insStep x) (acc, false)) = acc ++ insL x l
  | [], acc => by simp [insEnd, insL, ins]
  | y :: l, acc => by
    rw [List.foldl_cons]
    by_cases h : y.id = x.id
    · rw [show insStep x (acc, false) y = (acc, false) by unfold insStep; rw [if_pos h], insStep_false x l acc]
      simp [insL, h]
    · by_cases k : It.lt x y
      · rw [show insStep x (acc, false) y = (acc ++ [x] ++ [y], true) by unfold insStep; rw [if_neg h, if_pos ⟨rfl, k⟩], insStep_true x l _]
        simp [insEnd, insL, h, ins, k]
      · rw [show insStep x (acc, false) y = (acc ++ [y], false) by unfold insStep; rw [if_neg h, if_neg (by simp [k])], insStep_false x l _]
        simp [insL, h, ins, k]
theorem insL_eq (x : It) (l : List It) : insL x l = insEnd x (l.foldl (insStep x) ([], false)) := by rw [insStep_false]; rfl
theorem mem_ins (x : It) : ∀ (l : List It) (y : It), y ∈ ins x l ↔ y = x ∨ y ∈ l
  | [], y => by simp [ins]
  | z :: l, y => by
    unfold ins
    split
    · simp
    · simp only [List.mem_cons, mem_ins x l y]
      constructor
      · rintro (h | h | h)
        · exact .inr (.inl h)
        · exact .inl h
        · exact .inr (.inr h)
      · rintro (h | h | h)
        · exact .inr (.inl h)
        · exact .inl h
        · exact .inr (.inr h)
theorem sorted_ins (x : It) : ∀ (l : List It), l.Pairwise It.lt → (∀ y ∈ l, y ≠ x) → (ins x l).Pairwise It.lt
  | [], _, _ => by simp [ins]
  | z :: l, h, hx => by
    unfold ins
    have hz := (List.pairwise_cons.1 h).1
    have hl := (List.pairwise_cons.1 h).2
    split
    · rename_i k
      refine List.pairwise_cons.2 ⟨?_, h⟩
      intro y hy
      rcases List.mem_cons.1 hy with rfl | hy
      · exact k
      · exact It.lt_trans k (hz y hy)
    · rename_i k
      refine List.pairwise_cons.2 ⟨?_, sorted_ins x l hl (fun y hy => hx y (List.mem_cons_of_mem _ hy))⟩
      intro y hy
      rcases (mem_ins x l y).1 hy with rfl | hy
      · rcases It.lt_tri z y with q | q | q
        · exact q
        · exact absurd q (hx z (List.mem_cons_self ..))
        · exact absurd q k
      · exact hz y hy
/-- a list in order that holds just what hp says -/
def RL (l : List It) (hp : Int → Option C) : Prop := l.Pairwise It.lt ∧ ∀ id d, hp id = some d ↔ (⟨d, id⟩ : It) ∈ l
theorem RL.nil : RL [] (fun _ => none) := ⟨List.Pairwise.nil, fun id d => by simp⟩
theorem RL.push {l : List It} {hp : Int → Option C} (h : RL l hp) (x : It) : RL (insL x l) (fun z => if z = x.id then some x.c else hp z) := by
  refine ⟨sorted_ins x _ (h.1.filter _) ?_, ?_⟩
  · intro y hy e
    have := (List.mem_filter.1 hy).2
    rw [e] at this; simp at this
  · intro id d
    show (if id = x.id then some x.c else hp id) = some d ↔ _
    unfold insL
    rw [mem_ins, List.mem_filter]
    by_cases e : id = x.id
    · subst e
      rw [if_pos rfl]
      constructor
      · intro q; injection q with q; left; cases x; simp only at q; rw [q]
      · rintro (q | ⟨_, q⟩)
        · rw [← q]
        · simp at q
    · rw [if_neg e, h.2 id d]
      constructor
      · intro q; exact .inr ⟨q, by simpa using e⟩
      · rintro (q | ⟨q, _⟩)
        · rw [← q] at e; exact absurd rfl e
        · exact q
theorem RL.pop {x : It} {l : List It} {hp : Int → Option C} (h : RL (x :: l) hp) : RL l (fun z => if z = x.id then none else hp z) := by
  refine ⟨(List.pairwise_cons.1 h.1).2, ?_⟩
  intro id d
  show (if id = x.id then none else hp id) = some d ↔ _
  have hx : hp x.id = some x.c := (h.2 x.id x.c).2 (List.mem_cons_self ..)
  by_cases e : id = x.id
  · subst e
    rw [if_pos rfl]
    constructor
    · intro q; cases q
    · intro q
      have h1 := (h.2 x.id d).2 (List.mem_cons_of_mem _ q)
      rw [hx] at h1
      injection h1 with h1
      have h2 := (List.pairwise_cons.1 h.1).1 _ q
      rw [← h1] at h2
      exact absurd h2 (It.lt_irrefl x)
  · rw [if_neg e, h.2 id d, List.mem_cons]
    constructor
    · rintro (q | q)
      · rw [← q] at e; exact absurd rfl e
      · exact q
    · exact .inr
/-- the first one stands ahead of all -/
theorem RL.first {x : It} {l : List It} {hp : Int → Option C} (h : RL (x :: l) hp) : hp x.id = some x.c ∧ ∀ id d, hp id = some d → It.le x ⟨d, id⟩ := by
  refine ⟨(h.2 x.id x.c).2 (List.mem_cons_self ..), fun id d hd => ?_⟩
  rcases List.mem_cons.1 ((h.2 id d).1 hd) with q | q
  · rw [q]; exact It.le_refl _
  · exact It.le_of_lt ((List.pairwise_cons.1 h.1).1 _ q)
theorem RL.head_eq {x y : It} {l : List It} {hp : Int → Option C} (h : RL (x :: l) hp) (hy : hp y.id = some y.c) (hm : ∀ id d, hp id = some d → It.le y ⟨d, id⟩) : y = x := by
  have h1 := hm x.id x.c h.first.1
  have h2 := h.first.2 y.id y.c hy
  rcases It.lt_tri y x with q | q | q
  · exact absurd q h2
  · exact q
  · exact absurd q h1
theorem RL.empty {hp : Int → Option C} (h : RL [] hp) (id : Int) : hp id = none := by
  cases e : hp id with
  | none => rfl
  | some d => have := (h.2 id d).1 e; cases this
/-- as many stand in the one as in the other -/
theorem RL.len {l : List It} {hp : Int → Option C} (h : RL l hp) {n : Nat} {c : Nat → It} (hh : Holds n c hp) (hD : Dst n c) : l.length = n := by
  have nd1 : ((List.range n).map c).Nodup := by
    rw [List.nodup_iff_pairwise_ne, List.pairwise_map]
    refine List.Pairwise.imp_of_mem ?_ (List.nodup_iff_pairwise_ne.1 List.nodup_range)
    intro a b ha hb hab e
    exact hab (hD a b (List.mem_range.1 ha) (List.mem_range.1 hb) (by rw [e]))
  have nd2 : l.Nodup := by
    rw [List.nodup_iff_pairwise_ne]
    exact h.1.imp (fun {a b} q (e : a = b) => It.lt_irrefl b (by rw [e] at q; exact q))
  have hp1 : ((List.range n).map c).Perm l := by
    rw [List.perm_ext_iff_of_nodup nd1 nd2]
    intro a
    rw [← h.2 a.id a.c, hh a.id a.c]
    simp only [List.mem_map, List.mem_range]
  have := hp1.length_eq
  simpa using this.symm
theorem RL.ids {l : List It} {hp : Int → Option C} (h : RL l hp) {i j : Nat} (hi : i < l.length) (hj : j < l.length) (e : l[i].id = l[j].id) : i = j := by
  have e1 := (h.2 l[i].id l[i].c).2 (List.getElem_mem hi)
  have e2 := (h.2 l[j].id l[j].c).2 (List.getElem_mem hj)
  rw [e, e2] at e1
  injection e1 with e1
  have e3 : l[i] = l[j] := by
    cases ha : l[i]; cases hb : l[j]
    rw [ha, hb] at e e1
    simp only at e e1
    rw [e, e1]
  rcases Nat.lt_trichotomy i j with q | q | q
  · have := List.pairwise_iff_getElem.1 h.1 i j hi hj q
    rw [e3] at this; exact absurd this (It.lt_irrefl _)
  · exact q
  · have := List.pairwise_iff_getElem.1 h.1 j i hj hi q
    rw [e3] at this; exact absurd this (It.lt_irrefl _)
theorem ins_len (x : It) : ∀ l : List It, (ins x l).length = l.length + 1
  | [] => rfl
  | y :: l => by
    unfold ins
    split
    · rfl
    · simp [ins_len x l]
theorem insL_len (x : It) (l : List It) : (insL x l).length ≤ l.length + 1 := by
  unfold insL; rw [ins_len]; have := List.length_filter_le (fun y : It => y.id ≠ x.id) l; omega
theorem insL_ne (x : It) (l : List It) : insL x l ≠ [] := by
  unfold insL; intro e; have := ins_len x (l.filter fun y => y.id ≠ x.id); rw [e] at this; simp at this
end FR
