/- Lists of edges in a map; the place of an edge in a list. -/
import Derived.Test.YtjejkadaafmdcaaGreatBin
import Derived.Test.YtjejkadaafmdcaaGreatReach7
set_option linter.unusedVariables false
set_option linter.unusedSimpArgs false
namespace Go.Proofs.YtjejkadaafmdcaaGreat
open Go.RowKit Go.Sort FR
/-- how many edges lead to somewhere before t -/
def lowN (L : List Ed) (t : Int) : Nat := (L.filter fun e => decide (e.to_ < t)).length
def hasE (L : List Ed) (t : Int) : Bool := L.any fun e => e.to_ == t
/-- an edge goes in by where it leads -/
def insS (L : List Ed) (x : Ed) : List Ed := L.take (lowN L x.to_) ++ x :: L.drop (lowN L x.to_)
theorem low_of {L : List Ed} {t : Int} {i : Nat} (hi : i ≤ L.length) (h : ∀ j e, L[j]? = some e → (j < i ↔ e.to_ < t)) : i = lowN L t := by
  unfold lowN
  have e1 : L = L.take i ++ L.drop i := (List.take_append_drop i L).symm
  rw [e1, List.filter_append, List.length_append]
  have e2 : (L.take i).filter (fun e => decide (e.to_ < t)) = L.take i := by
    rw [List.filter_eq_self]
    intro e he
    obtain ⟨j, hj⟩ := List.getElem?_of_mem he
    rw [List.getElem?_take] at hj
    split at hj
    · exact decide_eq_true ((h j e hj).1 (by assumption))
    · cases hj
  have e3 : (L.drop i).filter (fun e => decide (e.to_ < t)) = [] := by
    rw [List.filter_eq_nil_iff]
    intro e he
    obtain ⟨j, hj⟩ := List.getElem?_of_mem he
    rw [List.getElem?_drop] at hj
    have := (h (i + j) e hj)
    simp
    have : ¬ e.to_ < t := fun hl => by have := this.2 hl; omega
    omega
  rw [e2, e3, List.length_take]
  simp; omega
theorem low_spec {L : List Ed} (hs : Srt L) (t : Int) : lowN L t ≤ L.length ∧ ∀ j e, L[j]? = some e → (j < lowN L t ↔ e.to_ < t) := by
  induction L with
  | nil => exact ⟨by simp [lowN], fun j e h => by simp at h⟩
  | cons x L ih =>
    have hs' : Srt L := fun i j a b hij ha hb => hs (i + 1) (j + 1) a b (by omega) (by simpa using ha) (by simpa using hb)
    obtain ⟨h1, h2⟩ := ih hs'
    by_cases hx : x.to_ < t
    · have e : lowN (x :: L) t = lowN L t + 1 := by simp [lowN, hx]
      rw [e]
      refine ⟨by simp; omega, fun j e' he => ?_⟩
      cases j with
      | zero => simp at he; subst he; simp [hx]
      | succ j => simp at he; rw [← h2 j e' he]; omega
    · have hz : lowN L t = 0 := by
        unfold lowN
        rw [List.length_eq_zero_iff, List.filter_eq_nil_iff]
        intro e' he'
        obtain ⟨j, hj⟩ := List.getElem?_of_mem he'
        have := hs 0 (j + 1) x e' (by omega) rfl (by simpa using hj)
        simp; omega
      have e : lowN (x :: L) t = 0 := by
        have : lowN (x :: L) t = lowN L t := by simp [lowN, hx]
        omega
      rw [e]
      refine ⟨by omega, fun j e' he => ?_⟩
      constructor
      · omega
      · intro hl
        cases j with
        | zero => simp at he; subst he; omega
        | succ j =>
          have := hs 0 (j + 1) x e' (by omega) rfl he
          omega
theorem has_iff {L : List Ed} {t : Int} : hasE L t = true ↔ ∃ e ∈ L, e.to_ = t := by simp [hasE, List.any_eq_true]
theorem has_at {L : List Ed} (hs : Srt L) (t : Int) : (∃ e, L[lowN L t]? = some e ∧ e.to_ = t) ↔ hasE L t = true := by
  obtain ⟨h1, h2⟩ := low_spec hs t
  rw [has_iff]
  constructor
  · rintro ⟨e, a, b⟩; exact ⟨e, List.mem_of_getElem? a, b⟩
  · rintro ⟨e, he, rfl⟩
    obtain ⟨j, hj⟩ := List.getElem?_of_mem he
    have hnot : ¬ j < lowN L e.to_ := fun h => by have := (h2 j e hj).1 h; omega
    have hjl := (List.getElem?_eq_some_iff.1 hj).1
    by_cases e1 : j = lowN L e.to_
    · subst e1; exact ⟨e, hj, rfl⟩
    · exfalso
      obtain ⟨x, hx⟩ : ∃ x, L[lowN L e.to_]? = some x := ⟨L[lowN L e.to_]'(by omega), List.getElem?_eq_getElem _⟩
      have a := hs _ _ _ _ (show lowN L e.to_ < j by omega) hx hj
      have := (h2 _ x hx).2 a
      omega
theorem mem_insS {L : List Ed} {x e : Ed} : e ∈ insS L x ↔ e = x ∨ e ∈ L := by
  unfold insS
  rw [List.mem_append, List.mem_cons]
  have : e ∈ L ↔ e ∈ L.take (lowN L x.to_) ∨ e ∈ L.drop (lowN L x.to_) := by rw [← List.mem_append, List.take_append_drop]
  rw [this]
  constructor
  · rintro (h | h | h)
    · exact .inr (.inl h)
    · exact .inl h
    · exact .inr (.inr h)
  · rintro (h | h | h)
    · exact .inr (.inl h)
    · exact .inl h
    · exact .inr (.inr h)
theorem insS_length (L : List Ed) (x : Ed) : (insS L x).length = L.length + 1 := by
  unfold insS
  rw [List.length_append, List.length_cons]
  have : (L.take (lowN L x.to_)).length + (L.drop (lowN L x.to_)).length = L.length := by rw [← List.length_append, List.take_append_drop]
  omega
theorem srt_insS {L : List Ed} (hs : Srt L) {x : Ed} (hn : hasE L x.to_ = false) : Srt (insS L x) := by
  obtain ⟨h1, h2⟩ := low_spec hs x.to_
  have hne : ∀ e ∈ L, e.to_ ≠ x.to_ := fun e he h => by
    have := has_iff.2 ⟨e, he, h⟩
    rw [hn] at this; cases this
  have hl : (L.take (lowN L x.to_)).length = lowN L x.to_ := by rw [List.length_take]; omega
  obtain ⟨m, hm⟩ : ∃ m, lowN L x.to_ = m := ⟨_, rfl⟩
  rw [hm] at h1 h2 hl
  have hget : ∀ i a, (insS L x)[i]? = some a → (i < m ∧ L[i]? = some a) ∨ (i = m ∧ a = x) ∨ (m < i ∧ L[i - 1]? = some a) := by
    intro i a h
    unfold insS at h
    rw [hm] at h
    by_cases e1 : i < m
    · rw [List.getElem?_append_left (by omega), List.getElem?_take, if_pos e1] at h
      exact .inl ⟨e1, h⟩
    · rw [List.getElem?_append_right (by omega), hl] at h
      by_cases e2 : i = m
      · subst e2
        simp at h
        exact .inr (.inl ⟨rfl, h.symm⟩)
      · obtain ⟨j, rfl⟩ : ∃ j, i = m + 1 + j := ⟨i - m - 1, by omega⟩
        rw [show m + 1 + j - m = j + 1 by omega, List.getElem?_cons_succ, List.getElem?_drop] at h
        exact .inr (.inr ⟨by omega, by rw [show m + 1 + j - 1 = m + j by omega]; exact h⟩)
  intro i j a b hij ha hb
  rcases hget i a ha with ⟨q1, q2⟩ | ⟨q1, q2⟩ | ⟨q1, q2⟩ <;> rcases hget j b hb with ⟨r1, r2⟩ | ⟨r1, r2⟩ | ⟨r1, r2⟩
  · exact hs i j a b hij q2 r2
  · rw [r2]; exact (h2 i a q2).1 q1
  · exact hs i (j - 1) a b (by omega) q2 r2
  · omega
  · omega
  · rw [q2]
    have := hne b (List.mem_of_getElem? r2)
    have h3 : ¬ b.to_ < x.to_ := fun h => by have := (h2 (j - 1) b r2).2 h; omega
    omega
  · omega
  · omega
  · exact hs (i - 1) (j - 1) a b (by omega) q2 r2
theorem binEdge2 (w : World) (A : Option Addr) (n cap : Nat) (L : List Ed) (t : Int) (h : EdsAt w A L) (hn : L.length = n) (hs : Srt L) (hb : ∀ e ∈ L, inC e.to_) (ht : inC t) (hl : n ≤ 100000) :
    Calls Tryz.prog 111 #[.slice A n cap, .int .i64 t, .func (.func 130) #[] #[]] w fun r w' => r = .returned (.tuple #[.int .i64 (lowN L t : Nat), .bool (hasE L t)]) ∧ Below w.heap.size w w' := by
  refine (binEdge w A n cap L t h hn hs hb ht hl).mono ?_
  rintro r w' ⟨i, fd, rfl, h1, h2, h3, h4⟩
  have e := low_of h1 h2
  subst e
  rw [has_at hs] at h3
  have e2 : fd = hasE L t := Bool.eq_iff_iff.2 h3
  rw [e2]
  exact ⟨rfl, h4⟩
abbrev iK : Int → Value := fun z => Value.int .i64 z
/-- a map of lists of edges, each in a row of its own -/
def EMap (w : World) (S : List Nat) (mb : Nat) (E : Int → Option (List Ed)) : Prop :=
  ∃ V N, MapAt iK w mb V N ∧ (∀ k, E k = none ↔ V k = none) ∧ (∀ k u L, V k = some u → E k = some L → OwnE w 0 u L) ∧ (∀ k u q, V k = some u → u.ownBlock = some q → q ∈ S) ∧ mb ∉ S ∧
    (∀ k k' u u' q, V k = some u → V k' = some u' → u.ownBlock = some q → u'.ownBlock = some q → k = k') ∧ ∀ s, s ∈ S → s < w.heap.size
theorem OwnE.lt {w : World} {B : Nat} {v : Value} {L : List Ed} (h : OwnE w B v L) {q : Nat} (hq : v.ownBlock = some q) : q < w.heap.size := (World.ownsRow.lt h q hq).2
theorem OwnE.kept {w w' : World} {B : Nat} {v : Value} {L : List Ed} {T : List Nat} (h : OwnE w B v L) (hk : Kept T w w') (hT : ∀ q, v.ownBlock = some q → q ∉ T) : OwnE w' B v L := by
  refine ⟨h.1, ?_⟩
  rcases h.2 with hn | ⟨g, cap, cur, rfl, hb, hg, rest⟩
  · exact .inl hn
  · exact .inr ⟨g, cap, cur, rfl, hb, (hk.block g (Array.getElem?_eq_some_iff.1 hg).1 (hT g rfl)).trans hg, rest⟩
theorem EMap.lt {w : World} {S : List Nat} {mb : Nat} {E : Int → Option (List Ed)} (h : EMap w S mb E) : mb < w.heap.size := by
  obtain ⟨V, N, hm, _⟩ := h
  exact hm.lt
theorem EMap.kept {w w' : World} {S T : List Nat} {mb : Nat} {E : Int → Option (List Ed)} (h : EMap w S mb E) (hk : Kept T w w') (hT : ∀ s, s ∈ S → s ∉ T) (hm : mb ∉ T) : EMap w' S mb E := by
  obtain ⟨V, N, h1, h2, h3, h4, h5, h6, h7⟩ := h
  exact ⟨V, N, h1.kept hk hm, h2, fun k u L hu hL => (h3 k u L hu hL).kept hk (fun q hq => hT q (h4 k u q hu hq)), h4, h5, h6, fun s hs => Nat.lt_of_lt_of_le (h7 s hs) hk.size⟩
theorem EMap.below {w w' : World} {S : List Nat} {mb : Nat} {E : Int → Option (List Ed)} (h : EMap w S mb E) (hb : Below w.heap.size w w') : EMap w' S mb E := h.kept (T := []) (.of_below hb) (fun _ _ => by simp) (by simp)
def updE (E : Int → Option (List Ed)) (k : Int) (L : Option (List Ed)) : Int → Option (List Ed) := fun j => if j = k then L else E j
/-- a list is laid anew -/
theorem EMap.put {w w1 wI wU : World} {S : List Nat} {mb N N2 : Nat} {E : Int → Option (List Ed)} {V : Int → Option Value} {a : Int} {u v' : Value} {L' : List Ed}
    (h1 : MapAt iK w mb V N) (h2 : ∀ k, E k = none ↔ V k = none) (h3 : ∀ k u L, V k = some u → E k = some L → OwnE w 0 u L) (h4 : ∀ k u q, V k = some u → u.ownBlock = some q → q ∈ S) (h5 : mb ∉ S)
    (h6 : ∀ k k' u u' q, V k = some u → V k' = some u' → u.ownBlock = some q → u'.ownBlock = some q → k = k') (h7 : ∀ s, s ∈ S → s < w.heap.size) (ha : V a = some u) (hb : Below w.heap.size w w1)
    (hO : OwnE wI 0 v' L') (hg : w1.grownBy wI u.ownBlock) (hat : v'.ownBlock = u.ownBlock ∨ v'.ownBlock = some w1.heap.size) (hM : MapAt iK wU mb (updK V a (some v')) N2) (hK : Kept [mb] wI wU) :
    ∃ S', EMap wU S' mb (updE E a (some L')) ∧ (∀ k ∈ S', k ∈ S ∨ w.heap.size ≤ k) ∧ Kept (mb :: S) w wU := by
  have hne : ∀ q, v'.ownBlock = some q → q ≠ mb := fun q hq e => by
    subst e
    rcases hat with e | e
    · exact h5 (h4 a u q ha (by rw [← e]; exact hq))
    · rw [e] at hq; injection hq with hq
      have := h1.lt
      have := hb.size
      omega
  have hS : ∀ q, v'.ownBlock = some q → q ∈ S ∨ w.heap.size ≤ q := fun q hq => by
    rcases hat with e | e
    · exact .inl (h4 a u q ha (by rw [← e]; exact hq))
    · rw [e] at hq; injection hq with hq
      have := hb.size
      exact .inr (by omega)
  have hKw : Kept (mb :: S) w wI := ⟨hg.os.trans hb.os, hg.tape.trans hb.tape, hg.output.trans hb.output, Nat.le_trans hb.size hg.size, fun k hk hn => by
    refine (hg.block k (Nat.lt_of_lt_of_le hk hb.size) ?_).trans (hb.block k hk)
    intro e
    exact hn (List.mem_cons_of_mem _ (h4 a u k ha e.symm))⟩
  refine ⟨v'.ownBlock.toList ++ S, ⟨updK V a (some v'), N2, hM, ?_, ?_, ?_, ?_, ?_, ?_⟩, ?_, hKw.trans (hK.wid (by simp))⟩
  · intro k
    unfold updE updK
    split
    · simp
    · exact h2 k
  · intro k x L hx hL
    unfold updE at hL
    unfold updK at hx
    split at hx
    · rename_i e
      rw [if_pos e] at hL
      injection hx with hx
      injection hL with hL
      subst hx; subst hL
      exact hO.kept hK (fun q hq => by simpa using hne q hq)
    · rename_i e
      rw [if_neg e] at hL
      have hold := h3 k x L hx hL
      refine ((hold.kept (T := []) (.of_below hb) (fun _ _ => by simp)).kept (w' := wI) (T := u.ownBlock.toList) ⟨hg.os, hg.tape, hg.output, hg.size, fun q hq hn => hg.block q hq (fun e => hn (by rw [← e]; simp))⟩ ?_).kept hK ?_
      · intro q hq hn
        have hn : u.ownBlock = some q := by
          cases hu : u.ownBlock with
          | none => rw [hu] at hn; simp at hn
          | some r => rw [hu] at hn; simp at hn; rw [hn]
        exact e (h6 k a x u q hx ha hq hn)
      · intro q hq
        have := h4 k x q hx hq
        simp
        rintro rfl
        exact h5 this
  · intro k x q hx hq
    unfold updK at hx
    split at hx
    · injection hx with hx
      subst hx
      exact List.mem_append_left _ (by rw [hq]; simp)
    · exact List.mem_append_right _ (h4 k x q hx hq)
  · rw [List.mem_append]
    rintro (h | h)
    · cases hv : v'.ownBlock with
      | none => rw [hv] at h; simp at h
      | some q => rw [hv] at h; simp at h; exact hne q hv h.symm
    · exact h5 h
  · intro k k' x x' q hx hx' hq hq'
    have key : ∀ j y, j ≠ a → V j = some y → y.ownBlock = some q → v'.ownBlock = some q → False := by
      intro j y hj hy hyq hvq
      rcases hat with e | e
      · exact hj (h6 j a y u q hy ha hyq (by rw [← e]; exact hvq))
      · rw [e] at hvq; injection hvq with hvq
        obtain ⟨Lj, hLj⟩ : ∃ Lj, E j = some Lj := by
          cases hE : E j with
          | none => rw [(h2 j).1 hE] at hy; cases hy
          | some L => exact ⟨L, rfl⟩
        have := (h3 j y Lj hy hLj).lt hyq
        have := hb.size
        omega
    unfold updK at hx hx'
    by_cases e1 : k = a
    · by_cases e2 : k' = a
      · rw [e1, e2]
      · rw [if_pos e1] at hx
        rw [if_neg e2] at hx'
        injection hx with hx
        subst hx
        exact absurd hq (fun hq => key k' x' e2 hx' hq' hq)
    · rw [if_neg e1] at hx
      by_cases e2 : k' = a
      · rw [if_pos e2] at hx'
        injection hx' with hx'
        subst hx'
        exact absurd hq' (fun hq' => key k x e1 hx hq hq')
      · rw [if_neg e2] at hx'
        exact h6 k k' x x' q hx hx' hq hq'
  · intro k hk
    rcases List.mem_append.1 hk with h | h
    · cases hv : v'.ownBlock with
      | none => rw [hv] at h; simp at h
      | some q =>
        rw [hv] at h; simp at h
        rw [h]
        exact Nat.lt_of_lt_of_le (hO.lt hv) hK.size
    · exact Nat.lt_of_lt_of_le (h7 k h) (Nat.le_trans hKw.size hK.size)
  · intro k hk
    rcases List.mem_append.1 hk with h | h
    · cases hv : v'.ownBlock with
      | none => rw [hv] at h; simp at h
      | some q => rw [hv] at h; simp at h; rw [h]; exact hS q hv
    · exact .inl h
end Go.Proofs.YtjejkadaafmdcaaGreat
