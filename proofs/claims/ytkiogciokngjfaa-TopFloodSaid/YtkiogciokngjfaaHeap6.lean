/- Plain laws of a heap's row and map; New, and the cost of a number. -/
import Derived.Test.YtkiogciokngjfaaHeap5
set_option linter.unusedVariables false
set_option linter.unusedSimpArgs false
namespace Go.Proofs.Ytkiogciokngjfaa
open Go.RowKit Go.Sort FR
/-- a heap's content with one number's cost turned -/
def hset (hp : Int → Option C) (i : Int) (c : Option C) : Int → Option C := fun z => if z = i then c else hp z
theorem Holds.push {n : Nat} {c : Nat → It} {hp : Int → Option C} (h : Holds n c hp) (x : It) (hx : hp x.id = none) : Holds (n + 1) (upd c n x) (hset hp x.id (some x.c)) := by
  intro id d
  unfold hset
  constructor
  · intro he
    by_cases e : id = x.id
    · rw [if_pos e] at he
      injection he with he
      exact ⟨n, by omega, by rw [upd_same, e, ← he]⟩
    · rw [if_neg e] at he
      obtain ⟨k, hk, hk2⟩ := (h id d).1 he
      exact ⟨k, by omega, by rw [upd_ne _ _ (by omega), hk2]⟩
  · rintro ⟨k, hk, he⟩
    by_cases e : k = n
    · subst e
      rw [upd_same] at he
      subst he
      rw [if_pos rfl]
    · rw [upd_ne _ _ e] at he
      have := (h id d).2 ⟨k, by omega, he⟩
      rw [if_neg, this]
      rintro rfl
      rw [hx] at this; cases this
theorem Dst.push {n : Nat} {c : Nat → It} {hp : Int → Option C} (h : Dst n c) (hh : Holds n c hp) (x : It) (hx : hp x.id = none) : Dst (n + 1) (upd c n x) := by
  have key : ∀ k, k < n → (c k).id ≠ x.id := by
    intro k hk e
    have := (hh (c k).id (c k).c).2 ⟨k, hk, rfl⟩
    rw [e, hx] at this; cases this
  intro i j hi hj e
  by_cases e1 : i = n
  · by_cases e2 : j = n
    · omega
    · subst e1
      rw [upd_same, upd_ne _ _ e2] at e
      exact absurd e.symm (key j (by omega))
  · by_cases e2 : j = n
    · subst e2
      rw [upd_same, upd_ne _ _ e1] at e
      exact absurd e (key i (by omega))
    · rw [upd_ne _ _ e1, upd_ne _ _ e2] at e
      exact h i j (by omega) (by omega) e
theorem PosMap.push {n : Nat} {c : Nat → It} {m : Int → Option Value} (h : PosMap n c m) (x : It) : PosBut (n + 1) (upd c n x) m x.id := by
  intro z v hz
  rw [h z v]
  constructor
  · rintro ⟨k, hk, hv, he⟩
    exact ⟨k, by omega, hv, by rw [upd_ne _ _ (by omega)]; exact he⟩
  · rintro ⟨k, hk, hv, he⟩
    by_cases e : k = n
    · subst e; rw [upd_same] at he; exact absurd he.symm hz
    · rw [upd_ne _ _ e] at he; exact ⟨k, by omega, hv, he⟩
theorem PosMap.turn {n : Nat} {c : Nat → It} {m : Int → Option Value} (h : PosMap n c m) {k : Nat} (hk : k < n) (x : It) (hx : x.id = (c k).id) : PosBut n (upd c k x) m x.id := by
  intro z v hz
  rw [h z v]
  constructor
  · rintro ⟨j, hj, hv, he⟩
    exact ⟨j, hj, hv, by rw [upd_ne _ _ (by rintro rfl; rw [hx] at hz; exact hz he.symm)]; exact he⟩
  · rintro ⟨j, hj, hv, he⟩
    by_cases e : j = k
    · subst e; rw [upd_same] at he; exact absurd he.symm hz
    · rw [upd_ne _ _ e] at he; exact ⟨j, hj, hv, he⟩
theorem Dst.turn {n : Nat} {c : Nat → It} (h : Dst n c) {k : Nat} (hk : k < n) (x : It) (hx : x.id = (c k).id) : Dst n (upd c k x) := by
  have e : ∀ j, (upd c k x j).id = (c j).id := by
    intro j
    by_cases e : j = k
    · subst e; rw [upd_same, hx]
    · rw [upd_ne _ _ e]
  intro i j hi hj he
  rw [e, e] at he
  exact h i j hi hj he
theorem Holds.turn {n : Nat} {c : Nat → It} {hp : Int → Option C} (h : Holds n c hp) (hD : Dst n c) {k : Nat} (hk : k < n) (x : It) (hx : x.id = (c k).id) : Holds n (upd c k x) (hset hp x.id (some x.c)) := by
  intro id d
  unfold hset
  constructor
  · intro he
    by_cases e : id = x.id
    · rw [if_pos e] at he
      injection he with he
      exact ⟨k, hk, by rw [upd_same, e, ← he]⟩
    · rw [if_neg e] at he
      obtain ⟨j, hj, hj2⟩ := (h id d).1 he
      refine ⟨j, hj, ?_⟩
      rw [upd_ne, hj2]
      rintro rfl
      rw [hj2] at hx; exact e hx.symm
  · rintro ⟨j, hj, he⟩
    by_cases e : j = k
    · subst e
      rw [upd_same] at he
      subst he
      rw [if_pos rfl]
    · rw [upd_ne _ _ e] at he
      rw [if_neg, (h id d).2 ⟨j, hj, he⟩]
      rintro rfl
      apply e
      exact hD j k hj hk (by rw [he, ← hx])
theorem Holds.same {n : Nat} {c c' : Nat → It} {hp : Int → Option C} (h : Holds n c hp) (hs : ∀ y, (∃ k, k < n ∧ c' k = y) ↔ ∃ k, k < n ∧ c k = y) : Holds n c' hp := by
  intro id d
  rw [h id d]
  exact (hs ⟨d, id⟩).symm
theorem Holds.pop {n : Nat} {c : Nat → It} {hp : Int → Option C} (h : Holds (n + 1) c hp) (hD : Dst (n + 1) c) : Holds n (upd c 0 (c n)) (hset hp (c 0).id none) := by
  intro id d
  unfold hset
  constructor
  · intro he
    by_cases e : id = (c 0).id
    · rw [if_pos e] at he; cases he
    · rw [if_neg e] at he
      obtain ⟨k, hk, hk2⟩ := (h id d).1 he
      have k0 : k ≠ 0 := by rintro rfl; rw [hk2] at e; exact e rfl
      by_cases e2 : k = n
      · subst e2; exact ⟨0, by omega, by rw [upd_same, hk2]⟩
      · exact ⟨k, by omega, by rw [upd_ne _ _ k0, hk2]⟩
  · rintro ⟨k, hk, he⟩
    have key : ∀ j, j < n + 1 → j ≠ 0 → c j = ⟨d, id⟩ → (if id = (c 0).id then none else hp id) = some d := by
      intro j hj j0 hj2
      rw [if_neg, (h id d).2 ⟨j, hj, hj2⟩]
      intro e
      exact j0 (hD j 0 hj (by omega) (by rw [hj2, ← e]))
    by_cases e : k = 0
    · subst e
      rw [upd_same] at he
      exact key n (by omega) (by omega) he
    · rw [upd_ne _ _ e] at he
      exact key k (by omega) e he
theorem Dst.pop {n : Nat} {c : Nat → It} (hD : Dst (n + 1) c) : Dst n (upd c 0 (c n)) := by
  intro i j hi hj e
  by_cases e1 : i = 0 <;> by_cases e2 : j = 0
  · omega
  · subst e1
    rw [upd_same, upd_ne _ _ e2] at e
    have := hD n j (by omega) (by omega) e; omega
  · subst e2
    rw [upd_same, upd_ne _ _ e1] at e
    have := hD i n (by omega) (by omega) e; omega
  · rw [upd_ne _ _ e1, upd_ne _ _ e2] at e
    exact hD i j (by omega) (by omega) e
theorem PosMap.pop {n : Nat} {c : Nat → It} {m : Int → Option Value} (h : PosMap (n + 1) c m) (hD : Dst (n + 1) c) (x : Value) : PosBut n (upd c 0 (c n)) (updK (updK m (c 0).id none) (c n).id (some x)) (c n).id := by
  intro z v hz
  unfold updK
  rw [if_neg hz]
  by_cases e0 : z = (c 0).id
  · rw [if_pos e0]
    constructor
    · intro h'; cases h'
    · rintro ⟨k, hk, hv, he⟩
      by_cases e1 : k = 0
      · subst e1; rw [upd_same] at he; exact absurd he.symm hz
      · rw [upd_ne _ _ e1] at he
        exact absurd (hD k 0 (by omega) (by omega) (by rw [he, e0])) e1
  · rw [if_neg e0, h z v]
    constructor
    · rintro ⟨k, hk, hv, he⟩
      have k0 : k ≠ 0 := by rintro rfl; exact e0 he.symm
      have k1 : k ≠ n := by rintro rfl; exact hz he.symm
      exact ⟨k, by omega, hv, by rw [upd_ne _ _ k0]; exact he⟩
    · rintro ⟨k, hk, hv, he⟩
      by_cases e1 : k = 0
      · subst e1; rw [upd_same] at he; exact absurd he.symm hz
      · rw [upd_ne _ _ e1] at he
        exact ⟨k, by omega, hv, he⟩
theorem PosMap.pop0 {c : Nat → It} {m : Int → Option Value} (h : PosMap 1 c m) : PosMap 0 c (updK m (c 0).id none) := by
  intro z v
  unfold updK
  constructor
  · intro h'
    by_cases e : z = (c 0).id
    · rw [if_pos e] at h'; cases h'
    · rw [if_neg e, h z v] at h'
      obtain ⟨k, hk, _, he⟩ := h'
      obtain rfl : k = 0 := by omega
      exact absurd he.symm e
  · rintro ⟨k, hk, _⟩; omega
theorem Holds.pop0 {c : Nat → It} {hp : Int → Option C} (h : Holds 1 c hp) : Holds 0 c (hset hp (c 0).id none) := by
  intro z d
  unfold hset
  constructor
  · intro h'
    by_cases e : z = (c 0).id
    · rw [if_pos e] at h'; cases h'
    · rw [if_neg e] at h'
      obtain ⟨k, hk, he⟩ := (h z d).1 h'
      obtain rfl : k = 0 := by omega
      rw [he] at e; exact absurd rfl e
  · rintro ⟨k, hk, _⟩; omega
theorem Holds.cc {n : Nat} {c : Nat → It} {hp : Int → Option C} (h : Holds n c hp) (hc : ∀ z d, hp z = some d → inCC d) : ∀ k, k < n → inCC (c k).c :=
  fun k hk => hc _ _ ((h (c k).id (c k).c).2 ⟨k, hk, rfl⟩)
theorem HeapOf.lt {w : World} {S : List Nat} {b n : Nat} {hp : Int → Option C} (h : HeapOf w S b n hp) : ∀ k ∈ S, k < w.heap.size := by
  obtain ⟨mb, m, N, c, sl, hb, hM, _, hR, _⟩ := h
  have l1 := (Array.getElem?_eq_some_iff.1 hb).1
  have l2 := hM.lt
  rcases hR with ⟨_, _, rfl⟩ | ⟨rb, cap, _, hI, _, _, rfl⟩
  · intro k hk; simp at hk; rcases hk with rfl | rfl <;> assumption
  · have l3 := hI.lt
    intro k hk; simp at hk; rcases hk with rfl | rfl | rfl <;> assumption
theorem HeapOf.self {w : World} {S : List Nat} {b n : Nat} {hp : Int → Option C} (h : HeapOf w S b n hp) : b ∈ S := by
  obtain ⟨mb, m, N, c, sl, hb, hM, _, hR, _⟩ := h
  rcases hR with ⟨_, _, rfl⟩ | ⟨rb, cap, _, hI, _, _, rfl⟩ <;> simp
theorem RowOk.kept {S T : List Nat} {w w' : World} {b mb n : Nat} {sl : Value} {c : Nat → It} (h : RowOk w b mb sl n c S) (hk : Kept T w w') (hd : ∀ k ∈ S, k ∉ T) : RowOk w' b mb sl n c S := by
  rcases h with h | ⟨rb, cap, h1, h2, h3, h4, h5⟩
  · exact .inl h
  · exact .inr ⟨rb, cap, h1, h2.kept hk (hd rb (by rw [h5]; simp)), h3, h4, h5⟩
theorem HeapOf.kept {S T : List Nat} {w w' : World} {b n : Nat} {hp : Int → Option C} (h : HeapOf w S b n hp) (hk : Kept T w w') (hd : ∀ k ∈ S, k ∉ T) : HeapOf w' S b n hp := by
  have hl := h.lt
  have hs := h.self
  obtain ⟨mb, m, N, c, sl, h1, h2, h3, h4, h5⟩ := h
  have hm : mb ∈ S := by rcases h4 with ⟨_, _, rfl⟩ | ⟨rb, cap, _, hI, _, _, rfl⟩ <;> simp
  exact ⟨mb, m, N, c, sl, (hk.block b (hl b hs) (hd b hs)).trans h1, h2.kept hk (hd mb hm), h3, h4.kept hk hd, h5⟩
theorem HeapOf.below {S : List Nat} {w w' : World} {b n : Nat} {hp : Int → Option C} (h : HeapOf w S b n hp) (hb : Below w.heap.size w w') : HeapOf w' S b n hp := h.kept (T := []) (.of_below hb) (by simp)
/-- a new heap is handed back -/
def HeapMade (w : World) (e : Ending) (w' : World) : Prop := ∃ b S, e = .returned (.pointer (some ⟨b, 0, none⟩)) ∧ HeapOf w' S b 0 (fun _ => none) ∧ (∀ k ∈ S, w.heap.size ≤ k) ∧ Below w.heap.size w w'
theorem heapNew (w : World) : Calls Try.prog 56 #[] w (HeapMade w) := by
  have hmm := @run_makeMap Try.prog
  go_enter Try.func56, Try.ntmps56
  go_wp2
  go_ret
  have hM : MapAt (fun z : Int => Value.int .i64 z) (w.alloc (.map #[] 0)) w.heap.size (fun _ => none) 0 := MapAt.made w
  refine ⟨w.heap.size + 1, [w.heap.size + 1, w.heap.size], rfl, ⟨w.heap.size, fun _ => none, 0, fun _ => ⟨⟨0, 0⟩, 0⟩, .slice none 0 0, ?_, hM.below ?_, by omega, .inl ⟨rfl, rfl, rfl⟩, ?_, ?_, ?_, ?_, ?_⟩, ?_, ?_⟩
  · have := heap_alloc_new (w.alloc (.map #[] 0)) (.cells #[.slice none 0 0, .map (some w.heap.size)] 157 (0, 0))
    simpa using this
  · exact bel_alloc (Below.refl _ _)
  · intro z v; constructor
    · intro h; cases h
    · rintro ⟨k, hk, _⟩; omega
  · intro z v; constructor
    · intro h; cases h
    · rintro ⟨k, hk, _⟩; omega
  · intro i j hi; omega
  · intro j hj; omega
  · intro z d h; cases h
  · intro k hk; simp at hk; omega
  · (repeat' (first | exact Below.refl _ _ | assumption | apply bel_drewN | apply bel_drew | apply bel_alloc | (refine bel_trans ?_ (by assumption))))
theorem int_zero (w : World) : (zeroValue 3).run Try.prog w = .ok (.int .i64 0) w := by kernel_rfl
theorem mapLook_in {w : World} {b N : Nat} {m : Int → Option Value} (h : MapAt (fun z : Int => Value.int .i64 z) w b m N) {z : Int} {v : Value} (hz : m z = some v) :
    (Instr.lookup 154 (.map (some b)) (.int .i64 z) true).run Try.prog w = .ok (.tuple #[v, .bool true]) w := by
  have := (h.look (int_fit Try.underlying3) Try.underlying154 (int_zero w) z).1
  rw [hz] at this; exact this
theorem mapLook_out {w : World} {b N : Nat} {m : Int → Option Value} (h : MapAt (fun z : Int => Value.int .i64 z) w b m N) {z : Int} (hz : m z = none) :
    (Instr.lookup 154 (.map (some b)) (.int .i64 z) true).run Try.prog w = .ok (.tuple #[.int .i64 0, .bool false]) w := by
  have := (h.look (int_fit Try.underlying3) Try.underlying154 (int_zero w) z).1
  rw [hz] at this; exact this
theorem PosMap.none {n : Nat} {c : Nat → It} {m : Int → Option Value} {hp : Int → Option C} (h : PosMap n c m) (hh : Holds n c hp) {z : Int} (hz : hp z = none) : m z = none := by
  cases hm : m z with
  | none => rfl
  | some v =>
    obtain ⟨k, hk, _, he⟩ := (h z v).1 hm
    have := (hh (c k).id (c k).c).2 ⟨k, hk, rfl⟩
    rw [he, hz] at this; cases this
theorem PosMap.some {n : Nat} {c : Nat → It} {m : Int → Option Value} {hp : Int → Option C} (h : PosMap n c m) (hh : Holds n c hp) {z : Int} {d : C} (hz : hp z = some d) : ∃ k, k < n ∧ c k = ⟨d, z⟩ ∧ m z = Option.some (.int .i64 (k : Nat)) := by
  obtain ⟨k, hk, he⟩ := (hh z d).1 hz
  exact ⟨k, hk, he, (h z _).2 ⟨k, hk, rfl, by rw [he]⟩⟩
set_option maxHeartbeats 800000 in
theorem heapCost_out (w : World) (S : List Nat) (b n : Nat) (hp : Int → Option C) (id : Int) (h : HeapOf w S b n hp) (hz : hp id = none) :
    Calls Try.prog 61 #[.pointer (some ⟨b, 0, none⟩), .int .i64 id] w fun e w' => e = .returned (.tuple #[.agg #[.int .i64 0, .int .i64 0], .bool false]) ∧ Below w.heap.size w w' := by
  obtain ⟨mb, m, N, c, sl, hb, hM, hne, hR, hP, hH, hD, hL, hC⟩ := h
  have hl := mapLook_out (hM.below (w' := w.alloc (.cells #[.int .i64 0, .int .i64 0] 23)) (bel_alloc (Below.refl _ _))) (hP.none hH hz)
  have l1 := (Array.getElem?_eq_some_iff.1 hb).1
  have k1 : w.cell? ⟨b, 1, none⟩ = some (.map (some mb)) := by simp [World.cell?, hb]
  clear hb hR hP hH hD hL hC hz hM
  go_enter Try.func61, Try.ntmps61
  go_wp2
  refine bodyPost_ret (v := .tuple #[.agg #[.int .i64 0, .int .i64 0], .bool false]) (by simp [results, Try.results61, go_sem]) rfl ?_
  exact ⟨rfl, by (repeat' (first | exact Below.refl _ _ | assumption | apply bel_drewN | apply bel_drew | apply bel_alloc | (refine bel_trans ?_ (by assumption))))⟩
set_option maxHeartbeats 800000 in
theorem heapCost_in (w : World) (S : List Nat) (b n : Nat) (hp : Int → Option C) (id : Int) (d : C) (h : HeapOf w S b n hp) (hz : hp id = some d) :
    Calls Try.prog 61 #[.pointer (some ⟨b, 0, none⟩), .int .i64 id] w fun e w' => e = .returned (.tuple #[.agg #[.int .i64 d.s, .int .i64 d.d], .bool true]) ∧ Below w.heap.size w w' := by
  obtain ⟨mb, m, N, c, sl, hb, hM, hne, hR, hP, hH, hD, hL, hC⟩ := h
  obtain ⟨k, hk, hck, hmk⟩ := hP.some hH hz
  have hl := mapLook_in (hM.below (w' := w.alloc (.cells #[.int .i64 0, .int .i64 0] 23)) (bel_alloc (Below.refl _ _))) hmk
  rcases hR with ⟨_, h0, _⟩ | ⟨rb, cap, rfl, hI, _, _, _⟩
  · omega
  have l1 := (Array.getElem?_eq_some_iff.1 hb).1
  have l3 := hI.lt
  have hcap := hI.1
  have k0 : w.cell? ⟨b, 0, none⟩ = some (.slice (some ⟨rb, 0, none⟩) n cap) := by simp [World.cell?, hb]
  have k1 : w.cell? ⟨b, 1, none⟩ = some (.map (some mb)) := by simp [World.cell?, hb]
  obtain ⟨c1, c2, _⟩ := hI.cells hk
  rw [hck] at c1 c2
  simp only at c1 c2
  obtain ⟨ds, dd⟩ := d
  clear hb hP hH hD hL hC hz hM hI hck hmk
  go_enter Try.func61, Try.ntmps61
  go_wp2
  refine bodyPost_ret (v := .tuple #[.agg #[.int .i64 ds, .int .i64 dd], .bool true]) (by simp [results, Try.results61, go_sem]) rfl ?_
  exact ⟨rfl, by (repeat' (first | exact Below.refl _ _ | assumption | apply bel_drewN | apply bel_drew | apply bel_alloc | (refine bel_trans ?_ (by assumption))))⟩
end Go.Proofs.Ytkiogciokngjfaa
