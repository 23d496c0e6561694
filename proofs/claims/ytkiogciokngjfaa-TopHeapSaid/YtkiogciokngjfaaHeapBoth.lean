/- The heap and the reference's heap side by side; the closed fact heaps. -/
import Derived.Test.YtkiogciokngjfaaHeap8
import Derived.Test.YtkiogciokngjfaaRHeap2
set_option linter.unusedVariables false
set_option linter.unusedSimpArgs false
namespace Go.Proofs.Ytkiogciokngjfaa
open Go.RowKit Go.Sort FR
theorem heapLen (w : World) (S : List Nat) (b n : Nat) (hp : Int → Option C) (h : HeapOf w S b n hp) :
    Calls Try.prog 62 #[.pointer (some ⟨b, 0, none⟩)] w fun e w' => e = .returned (.int .i64 (n : Nat)) ∧ w = w' := by
  obtain ⟨mb, m, N, c, sl, hb, hM, hne, hR, hP, hH, hD, hL, hC⟩ := h
  rcases hR with ⟨rfl, rfl, _⟩ | ⟨rb, cap, rfl, _⟩
  · exact heapLen1 w b 0 0 (.bool false) _ _ hb
  · exact heapLen1 w b n cap (.bool false) _ _ hb
theorem RHeapAt.kept2 {S : List Nat} {w w' : World} {q r : Nat} {l : List It} (h : RHeapAt w q r l) (hk : Kept S w w') (hq : q ∉ S) (hr : l = [] ∨ r ∉ S) : RHeapAt w' q r l := by
  rcases hr with rfl | hr
  · obtain ⟨A, m, h1, h2, h3, h4⟩ := h
    exact ⟨A, m, (hk.block q (Array.getElem?_eq_some_iff.1 h1).1 hq).trans h1, h2, fun hp => by simp at hp, h4⟩
  · exact h.kept hk hq hr
theorem RHeapAt.rlt {w : World} {q r : Nat} {l : List It} (h : RHeapAt w q r l) : l = [] ∨ r < w.heap.size := by
  obtain ⟨A, m, h1, h2, h3, h4⟩ := h
  cases l with
  | nil => exact .inl rfl
  | cons x l => obtain ⟨o, _, h5, _⟩ := h3 (by simp); exact .inr h5
/-- both heaps -/
structure Both (w : World) (S : List Nat) (b q r : Nat) (l : List It) (hp : Int → Option C) : Prop where
  h : HeapOf w S b l.length hp
  m : RHeapAt w q r l
  rl : RL l hp
  qS : q ∉ S
  rS : l = [] ∨ r ∉ S
theorem HeapOf.cc {w : World} {S : List Nat} {b n : Nat} {hp : Int → Option C} (h : HeapOf w S b n hp) : ∀ z d, hp z = some d → inCC d := by
  obtain ⟨mb, m, N, c, sl, hb, hM, hne, hR, hP, hH, hD, hL, hC⟩ := h
  exact hC
theorem HeapOf.len {w : World} {S : List Nat} {b n : Nat} {hp : Int → Option C} {l : List It} (h : HeapOf w S b n hp) (hr : RL l hp) : n = l.length := by
  obtain ⟨mb, m, N, c, sl, hb, hM, hne, hR, hP, hH, hD, hL, hC⟩ := h
  exact (hr.len hH hD).symm
/-- the reference's heap behind a push: another list in a new row, or the same one -/
def RPush2 (w : World) (q r : Nat) (l l2 : List It) (v : Value) (e : Ending) (w' : World) : Prop := e = .returned v ∧ ∃ r', RHeapAt w' q r' l2 ∧ ((r' = r ∧ l2 = l) ∨ w.heap.size ≤ r') ∧ Kept [q] w w'
theorem RPushD.two {w w' : World} {q r : Nat} {l l2 : List It} {t : Bool} {e : Ending} (h : RPushD w q r l2 t e w') : RPush2 w q r l l2 (.bool t) e w' := by
  obtain ⟨h1, r', h2, h3, h4⟩ := h
  exact ⟨h1, r', h2, .inr h3, h4⟩
/-- the push onto both -/
theorem both_push (S : List Nat) (b q : Nat) (l : List It) (hp : Int → Option C) (id ds dd : Int) (hr : RL l hp) (hl : l.length ≤ 1000) (hC : ∀ z d, hp z = some d → inCC d) (hc : inCC ⟨ds, dd⟩) :
    ∃ (t : Bool) (l2 : List It) (hp2 : Int → Option C), RL l2 hp2 ∧ l2.length ≤ l.length + 1 ∧
      (∀ w, HeapOf w S b l.length hp → Calls Try.prog 59 #[.pointer (some ⟨b, 0, none⟩), .int .i64 id, .agg #[.int .i64 ds, .int .i64 dd]] w (HeapD w S b l2.length hp2 (.bool t))) ∧
      (∀ w r, RHeapAt w q r l → Calls Try.prog 60 #[.pointer (some ⟨q, 0, none⟩), .int .i64 id, .agg #[.int .i64 ds, .int .i64 dd]] w (RPush2 w q r l l2 (.bool t))) := by
  have hrp := hr.push ⟨⟨ds, dd⟩, id⟩
  have hll : (insL ⟨⟨ds, dd⟩, id⟩ l).length ≤ l.length + 1 := insL_len _ _
  cases hz : hp id with
  | none =>
    refine ⟨true, insL ⟨⟨ds, dd⟩, id⟩ l, hset hp id (some ⟨ds, dd⟩), hrp, hll, fun w h => ?_, fun w r h => ?_⟩
    · refine (heapPush_new w S b _ hp id ds dd h hz hc (by omega)).mono ?_
      rintro e w' ⟨rfl, S', h1, h2, h3⟩
      have := h1.len hrp
      rw [← this]
      exact ⟨rfl, S', h1, h2, h3⟩
    · exact (refPush_yes w q r l hp id ds dd h hr hl hC hc (fun d e => by rw [hz] at e; cases e)).mono (fun _ _ h => h.two)
  | some d =>
    obtain ⟨es, ed⟩ := d
    by_cases hlt : C.cmp ⟨ds, dd⟩ ⟨es, ed⟩ < 0
    · refine ⟨true, insL ⟨⟨ds, dd⟩, id⟩ l, hset hp id (some ⟨ds, dd⟩), hrp, hll, fun w h => ?_, fun w r h => ?_⟩
      · refine (heapPush_old w S b _ hp id ds dd es ed true h hz hc (decide_eq_true hlt)).mono ?_
        rintro e w' ⟨rfl, S', h1, h2, h3⟩
        rw [if_pos rfl] at h1
        have := h1.len hrp
        rw [← this]
        exact ⟨rfl, S', h1, h2, h3⟩
      · exact (refPush_yes w q r l hp id ds dd h hr hl hC hc (fun d e => by rw [hz] at e; injection e with e; rw [← e]; exact hlt)).mono (fun _ _ h => h.two)
    · refine ⟨false, l, hp, hr, by omega, fun w h => ?_, fun w r h => ?_⟩
      · refine (heapPush_old w S b _ hp id ds dd es ed false h hz hc (decide_eq_false hlt)).mono ?_
        rintro e w' ⟨rfl, S', h1, h2, h3⟩
        rw [if_neg (by simp)] at h1
        exact ⟨rfl, S', h1, h2, h3⟩
      · refine (refPush_no w q r l hp id ds dd ⟨es, ed⟩ h hr hl hC hc hz hlt).mono ?_
        rintro e w' ⟨rfl, hb⟩
        exact ⟨rfl, r, h.below hb, .inl ⟨rfl, rfl⟩, .of_below hb⟩
/-- what the reference's Pop leaves -/
def RPopD (w : World) (q r : Nat) (l : List It) (v : Value) (e : Ending) (w' : World) : Prop := e = .returned v ∧ RHeapAt w' q r l ∧ Kept [q] w w'
/-- the pop off both -/
theorem both_pop (S : List Nat) (b q : Nat) (l : List It) (hp : Int → Option C) (hr : RL l hp) (hl : l.length ≤ 1000) :
    ∃ (id ds dd : Int) (t : Bool) (l2 : List It) (hp2 : Int → Option C), RL l2 hp2 ∧ l2.length ≤ l.length ∧
      (∀ w, HeapOf w S b l.length hp → Calls Try.prog 57 #[.pointer (some ⟨b, 0, none⟩)] w (HeapD w S b l2.length hp2 (.tuple #[.int .i64 id, .agg #[.int .i64 ds, .int .i64 dd], .bool t]))) ∧
      (∀ w r, RHeapAt w q r l → Calls Try.prog 58 #[.pointer (some ⟨q, 0, none⟩)] w (RPopD w q r l2 (.tuple #[.agg #[.int .i64 id, .int .i64 ds, .int .i64 dd], .bool t]))) := by
  cases l with
  | nil =>
    refine ⟨0, 0, 0, false, [], hp, hr, by simp, fun w h => ?_, fun w r h => ?_⟩
    · refine (heapPop_none w S b hp h).mono ?_
      rintro e w' ⟨rfl, hb⟩
      exact ⟨rfl, S, h.below hb, fun k hk => .inl hk, .of_below hb⟩
    · refine (refPop_none w q r h).mono ?_
      rintro e w' ⟨rfl, hb⟩
      exact ⟨rfl, h.below hb, .of_below hb⟩
  | cons x l =>
    obtain ⟨⟨xs, xd⟩, xi⟩ := x
    refine ⟨xi, xs, xd, true, l, hset hp xi none, hr.pop, by simp, fun w h => ?_, fun w r h => ?_⟩
    · refine (heapPop_some w S b l.length hp h (by simp at hl; omega)).mono ?_
      rintro e w' ⟨id, s, d, h1, h2, rfl, h3, h4⟩
      have := hr.head_eq (y := ⟨⟨s, d⟩, id⟩) h1 h2
      injection this with e1 e2
      injection e1 with e1 e3
      subst e1 e2 e3
      exact ⟨rfl, S, h3, fun k hk => .inl hk, h4⟩
    · exact refPop_some w q r xs xd xi l h
/-- both heaps behind a push (or a pop), the heap's first -/
theorem Both.go1 {w w1 w2 : World} {S : List Nat} {b q r : Nat} {l l2 : List It} {hp hp2 : Int → Option C} (h : Both w S b q r l hp) (hr : RL l2 hp2) {v : Value} {e : Ending} (h1 : HeapD w S b l2.length hp2 v e w1)
    {r' : Nat} (h2 : RHeapAt w2 q r' l2) (h3 : (r' = r ∧ (l = [] → l2 = [])) ∨ w1.heap.size ≤ r') (h4 : Kept [q] w1 w2) : ∃ S', Both w2 S' b q r' l2 hp2 ∧ (∀ k ∈ S', k ∈ S ∨ w.heap.size ≤ k) ∧ Kept (q :: S) w w2 := by
  obtain ⟨_, S', a1, a2, a3⟩ := h1
  have hq1 : q ∉ S' := by
    intro hm
    rcases a2 q hm with h' | h'
    · exact h.qS h'
    · have := h.m.lt; omega
  refine ⟨S', ⟨a1.kept h4 (fun k hk e => by simp at e; subst e; exact hq1 hk), h2, hr, hq1, ?_⟩, a2, (a3.more (by simp; exact fun k hk => .inr hk)).trans (h4.more (by simp))⟩
  rcases h3 with ⟨rfl, hl⟩ | h3
  · rcases h.rS with h' | h'
    · exact .inl (hl h')
    · rcases h.m.rlt with h5 | h5
      · exact .inl (hl h5)
      · right; intro hm
        rcases a2 _ hm with h6 | h6
        · exact h' h6
        · omega
  · right; intro hm
    have := a1.lt r' hm
    omega
/-- both heaps behind a push, the reference's first -/
theorem Both.go2 {w w1 w2 : World} {S : List Nat} {b q r : Nat} {l l2 : List It} {hp hp2 : Int → Option C} (h : Both w S b q r l hp) (hr : RL l2 hp2) {v : Value} {e : Ending} {r' : Nat} (h2 : RHeapAt w1 q r' l2) (h3 : (r' = r ∧ (l = [] → l2 = [])) ∨ w.heap.size ≤ r') (h4 : Kept [q] w w1)
    (h1 : HeapD w1 S b l2.length hp2 v e w2) : ∃ S', Both w2 S' b q r' l2 hp2 ∧ (∀ k ∈ S', k ∈ S ∨ w.heap.size ≤ k) ∧ Kept (q :: S) w w2 := by
  obtain ⟨_, S', a1, a2, a3⟩ := h1
  have hs := h4.size
  have hq0 := h.m.lt
  have hq1 : q ∉ S' := by
    intro hm
    rcases a2 q hm with h' | h'
    · exact h.qS h'
    · omega
  have hrS : l2 = [] ∨ r' ∉ S := by
    rcases h3 with ⟨rfl, hl⟩ | h3
    · rcases h.rS with h' | h'
      · exact .inl (hl h')
      · exact .inr h'
    · right; intro hm; have := h.h.lt r' hm; omega
  refine ⟨S', ⟨a1, h2.kept2 a3 h.qS hrS, hr, hq1, ?_⟩, fun k hk => (a2 k hk).imp_right fun h => by omega, (h4.more (by simp)).trans (a3.more (by simp; exact fun k hk => .inr hk))⟩
  rcases hrS with h' | h'
  · exact .inl h'
  · rcases h2.rlt with h5 | h5
    · exact .inl h5
    · right; intro hm
      rcases a2 _ hm with h6 | h6
      · exact h' h6
      · omega
end Go.Proofs.Ytkiogciokngjfaa
