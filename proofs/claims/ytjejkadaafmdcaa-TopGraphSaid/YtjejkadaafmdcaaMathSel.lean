/- Plain mathematics: which steps the document takes on its way between two cells that are near. -/
import Derived.Test.YtjejkadaafmdcaaGA
set_option linter.unusedVariables false
set_option linter.unusedSimpArgs false
namespace FR
namespace G
variable {g : G} {a b : Nat}
theorem oct_fcell (hg : g.ok) (hb : b < g.n) (ha : a < g.n) {i j : Nat} (hi : i ≤ g.fI a b) (hj : j ≤ g.fJ a b) : g.oct (g.fcell a b i j) b = ⟨(g.fJ a b : Int) - j, (g.fI a b : Int) - i⟩ := by
  obtain ⟨_, h1, h2⟩ := fcell_XY hg hb ha hi hj
  obtain ⟨e1, e2⟩ := g.fend a b
  have H := g.fDirs a b
  unfold oct
  rw [h1, h2]
  unfold fx fy
  unfold fdx at e1; unfold fdy at e2
  generalize g.fax a b = ax at *; generalize g.fay a b = ay at *; generalize g.fbx a b = bx at *; generalize g.fby a b = by_ at *
  generalize g.fI a b = I at *; generalize g.fJ a b = J at *
  unfold octI
  rcases H.cases with ⟨q1, q2⟩ | ⟨e, h⟩ | ⟨e, h⟩ | h
  · have : i = 0 := by omega
    have : j = 0 := by omega
    subst i; subst j; subst q1; subst q2
    simp only [Int.natCast_zero, Int.zero_mul] at *
    split <;> apply C.ext' <;> simp only <;> omega
  · have : i = 0 := by omega
    subst i; subst e
    rcases h with ⟨rfl, rfl⟩ | ⟨rfl, rfl⟩ | ⟨rfl, rfl⟩ | ⟨rfl, rfl⟩ <;> simp only [Int.natCast_zero, Int.zero_mul] at * <;> split <;> apply C.ext' <;> simp only <;> omega
  · have : j = 0 := by omega
    subst j; subst e
    rcases h with ⟨rfl, rfl⟩ | ⟨rfl, rfl⟩ | ⟨rfl, rfl⟩ | ⟨rfl, rfl⟩ <;> simp only [Int.natCast_zero, Int.zero_mul] at * <;> split <;> apply C.ext' <;> simp only <;> omega
  · rcases h with ⟨rfl, rfl, rfl, rfl⟩ | ⟨rfl, rfl, rfl, rfl⟩ | ⟨rfl, rfl, rfl, rfl⟩ | ⟨rfl, rfl, rfl, rfl⟩ | ⟨rfl, rfl, rfl, rfl⟩ | ⟨rfl, rfl, rfl, rfl⟩ | ⟨rfl, rfl, rfl, rfl⟩ | ⟨rfl, rfl, rfl, rfl⟩ <;> split <;> apply C.ext' <;> simp only <;> omega
/-- a step that the document may take -/
def Cand (g : G) (a b u d : Nat) : Prop := g.Mid a b (g.to u d) ∧ C.add (stepC d) (g.oct (g.to u d) b) = g.oct u b
def CandD (g : G) (a b i j d : Nat) : Prop := d % 2 = 1 ∧ g.to (g.fcell a b i j) d = g.fcell a b (i + 1) j ∧ g.dOk a b i j ∧ g.BkA a b (i + 1) j
def CandS (g : G) (a b i j d : Nat) : Prop := d % 2 ≠ 1 ∧ g.to (g.fcell a b i j) d = g.fcell a b i (j + 1) ∧ g.sOk a b i j ∧ g.BkA a b i (j + 1)
theorem cand_iff (hg : g.ok) (hb : b < g.n) (ha : a < g.n) {i j : Nat} (hi : i ≤ g.fI a b) (hj : j ≤ g.fJ a b) (ho : g.On a b i j) {d : Nat} (hd : d < 8) (hm : g.mayC (g.fcell a b i j) d = true) :
    g.Cand a b (g.fcell a b i j) d ↔ g.CandD a b i j d ∨ g.CandS a b i j d := by
  obtain ⟨q1, q2, q3⟩ := fcell_XY hg hb ha hi hj
  have o1 := oct_fcell hg hb ha hi hj
  constructor
  · rintro ⟨h1, h2⟩
    obtain ⟨p, q, hp, hq, hv, h3, h4⟩ := (mid_iff hg hb ha).1 h1
    have o2 := oct_fcell hg hb ha hp hq
    rw [hv, o1, o2] at h2
    by_cases hodd : d % 2 = 1
    · left
      have hs : stepC d = ⟨0, 1⟩ := if_pos hodd
      rw [hs] at h2
      have e1 := congrArg C.s h2; have e2 := congrArg C.d h2
      simp only [C.add] at e1 e2
      obtain rfl : p = i + 1 := by omega
      obtain rfl : q = j := by omega
      obtain ⟨_, r2, r3⟩ := fcell_XY hg hb ha hp hq
      obtain ⟨u1, u2⟩ := fx_succ_i (g := g) (a := a) (b := b) i q
      have hdg : d = g.fdg a b := edge_dir hd hm hv.symm (x := g.fax a b) (y := g.fay a b) (by omega) (by omega)
      refine ⟨hodd, hv, ⟨by omega, ?_⟩, hp, hq, h4⟩
      unfold mayC at hm; rw [q2, q3, hdg] at hm; exact hm
    · right
      have hs : stepC d = ⟨1, 0⟩ := if_neg hodd
      rw [hs] at h2
      have e1 := congrArg C.s h2; have e2 := congrArg C.d h2
      simp only [C.add] at e1 e2
      obtain rfl : p = i := by omega
      obtain rfl : q = j + 1 := by omega
      obtain ⟨_, r2, r3⟩ := fcell_XY hg hb ha hp hq
      obtain ⟨u1, u2⟩ := fx_succ_j (g := g) (a := a) (b := b) p j
      have hdg : d = g.fst_ a b := edge_dir hd hm hv.symm (x := g.fbx a b) (y := g.fby a b) (by omega) (by omega)
      refine ⟨hodd, hv, ⟨by omega, ?_⟩, hp, hq, h4⟩
      unfold mayC at hm; rw [q2, q3, hdg] at hm; exact hm
  · rintro (⟨h1, h2, h3, h4⟩ | ⟨h1, h2, h3, h4⟩)
    · have o2 := oct_fcell hg hb ha h4.1 h4.2.1
      refine ⟨(mid_iff hg hb ha).2 ⟨i + 1, j, h4.1, h4.2.1, h2, (on_iff hg hb ha h4.1 hj).2 (.inr (.inl ⟨i, rfl, ho, h3.2⟩)), h4.2.2⟩, ?_⟩
      rw [h2, o1, o2, show stepC d = ⟨0, 1⟩ from if_pos h1]
      exact C.ext' (by simp only [C.add]; omega) (by simp only [C.add]; omega)
    · have o2 := oct_fcell hg hb ha h4.1 h4.2.1
      refine ⟨(mid_iff hg hb ha).2 ⟨i, j + 1, h4.1, h4.2.1, h2, (on_iff hg hb ha hi h4.2.1).2 (.inr (.inr ⟨j, rfl, ho, h3.2⟩)), h4.2.2⟩, ?_⟩
      rw [h2, o1, o2, show stepC d = ⟨1, 0⟩ from if_neg h1]
      exact C.ext' (by simp only [C.add]; omega) (by simp only [C.add]; omega)
theorem candD_ex (hg : g.ok) (hb : b < g.n) (ha : a < g.n) {i j : Nat} (hj : j ≤ g.fJ a b) (h3 : g.dOk a b i j) (h4 : g.BkA a b (i + 1) j) : ∃ d, d < 8 ∧ g.mayC (g.fcell a b i j) d = true ∧ g.CandD a b i j d := by
  obtain ⟨q1, q2, q3⟩ := fcell_XY hg hb ha (Nat.le_of_lt h3.1) hj
  obtain ⟨s1, s2, s3⟩ := fdg_step (show 0 < g.fI a b by have := h3.1; omega)
  have hm' : g.mayC (g.fcell a b i j) (g.fdg a b) = true := by unfold mayC; rw [q2, q3]; exact h3.2
  obtain ⟨_, t1, t2⟩ := mayC_to hm'
  obtain ⟨u1, u2⟩ := fx_succ_i (g := g) (a := a) (b := b) i j
  refine ⟨g.fdg a b, dirN_lt _ _, hm', ?_, eq_fcell hg hb ha h4.1 h4.2.1 (by omega) (by omega), h3, h4⟩
  unfold stepC at s3
  by_cases h : g.fdg a b % 2 = 1
  · exact h
  · rw [if_neg h] at s3; injection s3 with e1 e2; omega
theorem candS_ex (hg : g.ok) (hb : b < g.n) (ha : a < g.n) {i j : Nat} (hi : i ≤ g.fI a b) (h3 : g.sOk a b i j) (h4 : g.BkA a b i (j + 1)) : ∃ d, d < 8 ∧ g.mayC (g.fcell a b i j) d = true ∧ g.CandS a b i j d := by
  obtain ⟨q1, q2, q3⟩ := fcell_XY hg hb ha hi (Nat.le_of_lt h3.1)
  obtain ⟨s1, s2, s3⟩ := fst_step (show 0 < g.fJ a b by have := h3.1; omega)
  have hm' : g.mayC (g.fcell a b i j) (g.fst_ a b) = true := by unfold mayC; rw [q2, q3]; exact h3.2
  obtain ⟨_, t1, t2⟩ := mayC_to hm'
  obtain ⟨u1, u2⟩ := fx_succ_j (g := g) (a := a) (b := b) i j
  refine ⟨g.fst_ a b, dirN_lt _ _, hm', ?_, eq_fcell hg hb ha h4.1 h4.2.1 (by omega) (by omega), h3, h4⟩
  intro h
  unfold stepC at s3
  rw [if_pos h] at s3; injection s3 with e1 e2; omega
/-- what has been chosen of the first moves: a diagonal one that may be taken, else the first straight one -/
def Sel (D S : Nat → Prop) (cd cs : Nat) (j : Nat) (z : Int) : Prop := (z = -1 ∧ ∀ k, k < j → ¬ D k ∧ ¬ S k) ∨ (z = cs ∧ (∀ k, k < j → ¬ D k) ∧ ∃ k, k < j ∧ S k) ∨ (z = cd ∧ ∃ k, k < j ∧ D k)
theorem sel_none {D S : Nat → Prop} {cd cs j : Nat} {z : Int} (h : Sel D S cd cs j z) (h1 : ¬ D j) (h2 : ¬ S j) : Sel D S cd cs (j + 1) z := by
  rcases h with ⟨e, h⟩ | ⟨e, h, k, hk, hs⟩ | ⟨e, k, hk, hd⟩
  · refine .inl ⟨e, fun k hk => ?_⟩
    rcases Nat.lt_succ_iff_lt_or_eq.1 hk with x | rfl
    · exact h k x
    · exact ⟨h1, h2⟩
  · refine .inr (.inl ⟨e, fun k hk => ?_, k, by omega, hs⟩)
    rcases Nat.lt_succ_iff_lt_or_eq.1 hk with x | rfl
    · exact h k x
    · exact h1
  · exact .inr (.inr ⟨e, k, by omega, hd⟩)
theorem sel_diag {D S : Nat → Prop} {cd cs j : Nat} (h1 : D j) : Sel D S cd cs (j + 1) cd := .inr (.inr ⟨rfl, j, by omega, h1⟩)
theorem sel_first {D S : Nat → Prop} {cd cs j : Nat} {z : Int} (h : Sel D S cd cs j z) (h1 : ¬ D j) (h2 : S j) (hz : z < 0) : Sel D S cd cs (j + 1) cs := by
  rcases h with ⟨e, h⟩ | ⟨e, h, k, hk, hs⟩ | ⟨e, k, hk, hd⟩
  · refine .inr (.inl ⟨rfl, fun k hk => ?_, j, by omega, h2⟩)
    rcases Nat.lt_succ_iff_lt_or_eq.1 hk with x | rfl
    · exact (h k x).1
    · exact h1
  · omega
  · omega
theorem sel_keep {D S : Nat → Prop} {cd cs j : Nat} {z : Int} (h : Sel D S cd cs j z) (h1 : ¬ D j) (hz : ¬ z < 0) : Sel D S cd cs (j + 1) z := by
  rcases h with ⟨e, h⟩ | ⟨e, h, k, hk, hs⟩ | ⟨e, k, hk, hd⟩
  · omega
  · refine .inr (.inl ⟨e, fun k hk => ?_, k, by omega, hs⟩)
    rcases Nat.lt_succ_iff_lt_or_eq.1 hk with x | rfl
    · exact h k x
    · exact h1
  · exact .inr (.inr ⟨e, k, by omega, hd⟩)
/-- the moves of a place on the way, by number -/
def DAt (g : G) (a b i j : Nat) (k : Nat) : Prop := ∃ d, (g.moves (g.fcell a b i j))[k]? = some d ∧ g.CandD a b i j d
def SAt (g : G) (a b i j : Nat) (k : Nat) : Prop := ∃ d, (g.moves (g.fcell a b i j))[k]? = some d ∧ g.CandS a b i j d
theorem moves_get {u d : Nat} (hd : d < 8) (h : g.mayC u d = true) : ∃ k, k < (g.moves u).length ∧ (g.moves u)[k]? = some d := by
  have : d ∈ g.moves u := by unfold moves; exact List.mem_filter.2 ⟨List.mem_range.2 hd, h⟩
  obtain ⟨k, hk, e⟩ := List.getElem_of_mem this
  exact ⟨k, hk, by rw [List.getElem?_eq_getElem hk, e]⟩
/-- at the end the next place is chosen -/
theorem sel_end (hg : g.ok) (hb : b < g.n) (ha : a < g.n) {i j : Nat} {p' : Nat × Nat} (hn : g.Nxt a b (i, j) p') (hi : i ≤ g.fI a b) (hj : j ≤ g.fJ a b) (ho : g.On a b i j) (hk : g.Back a b i j) (hne : ¬ (i = g.fI a b ∧ j = g.fJ a b)) {z : Int}
    (h : Sel (g.DAt a b i j) (g.SAt a b i j) (g.fcell a b (i + 1) j) (g.fcell a b i (j + 1)) (g.moves (g.fcell a b i j)).length z) : z = (g.fcell a b p'.1 p'.2 : Nat) := by
  rcases nxt_ok hg hb ha hn hi hj ho hk hne with ⟨rfl, h1, h2, h3⟩ | ⟨rfl, h1, h2, h3, h4⟩
  · obtain ⟨d, hd, hm, hc⟩ := candD_ex hg hb ha hj h1 ⟨h1.1, hj, h3⟩
    obtain ⟨k, hk, hkd⟩ := moves_get hd hm
    rcases h with ⟨e, h⟩ | ⟨e, h, _⟩ | ⟨e, _⟩
    · exact absurd ⟨d, hkd, hc⟩ (h k hk).1
    · exact absurd ⟨d, hkd, hc⟩ (h k hk)
    · exact e
  · obtain ⟨d, hd, hm, hc⟩ := candS_ex hg hb ha hi h1 ⟨hi, h1.1, h3⟩
    obtain ⟨k, hk, hkd⟩ := moves_get hd hm
    rcases h with ⟨e, h⟩ | ⟨e, h, _⟩ | ⟨e, k', _, d', _, hc'⟩
    · exact absurd ⟨d, hkd, hc⟩ (h k hk).2
    · exact e
    · exact absurd ⟨hc'.2.2.1, hc'.2.2.2⟩ h4
theorem sel_start {D S : Nat → Prop} {cd cs : Nat} : Sel D S cd cs 0 (-1) := .inl ⟨rfl, fun k hk => by omega⟩
theorem fcell_ne (hg : g.ok) (hb : b < g.n) (ha : a < g.n) {i j : Nat} (hi : i ≤ g.fI a b) (hj : j ≤ g.fJ a b) (h : g.fcell a b i j = b) : i = g.fI a b ∧ j = g.fJ a b := by
  have o := oct_fcell hg hb ha hi hj
  rw [h, oct_self] at o
  injection o with o1 o2
  omega
theorem sel_take (hg : g.ok) (hb : b < g.n) (ha : a < g.n) {i j : Nat} (hi : i ≤ g.fI a b) (hj : j ≤ g.fJ a b) (ho : g.On a b i j) {k d : Nat} (hk : (g.moves (g.fcell a b i j))[k]? = some d) (hd : d < 8) (hm : g.mayC (g.fcell a b i j) d = true) {z : Int}
    (hc : g.Cand a b (g.fcell a b i j) d ∧ (z < 0 ∨ d % 2 = 1)) (h : Sel (g.DAt a b i j) (g.SAt a b i j) (g.fcell a b (i + 1) j) (g.fcell a b i (j + 1)) k z) :
    Sel (g.DAt a b i j) (g.SAt a b i j) (g.fcell a b (i + 1) j) (g.fcell a b i (j + 1)) (k + 1) (g.to (g.fcell a b i j) d : Nat) := by
  have huniq : ∀ d', (g.moves (g.fcell a b i j))[k]? = some d' → d' = d := fun d' e => by rw [hk] at e; injection e with e; exact e.symm
  rcases (cand_iff hg hb ha hi hj ho hd hm).1 hc.1 with x | x
  · rw [x.2.1]; exact sel_diag ⟨d, hk, x⟩
  · rw [x.2.1]
    refine sel_first h ?_ ⟨d, hk, x⟩ ?_
    · rintro ⟨d', e, y⟩
      rw [huniq d' e] at y
      exact x.1 y.1
    · rcases hc.2 with y | y
      · exact y
      · exact absurd y x.1
theorem sel_pass (hg : g.ok) (hb : b < g.n) (ha : a < g.n) {i j : Nat} (hi : i ≤ g.fI a b) (hj : j ≤ g.fJ a b) (ho : g.On a b i j) {k d : Nat} (hk : (g.moves (g.fcell a b i j))[k]? = some d) (hd : d < 8) (hm : g.mayC (g.fcell a b i j) d = true) {z : Int}
    (hc : ¬ (g.Cand a b (g.fcell a b i j) d ∧ (z < 0 ∨ d % 2 = 1))) (h : Sel (g.DAt a b i j) (g.SAt a b i j) (g.fcell a b (i + 1) j) (g.fcell a b i (j + 1)) k z) :
    Sel (g.DAt a b i j) (g.SAt a b i j) (g.fcell a b (i + 1) j) (g.fcell a b i (j + 1)) (k + 1) z := by
  have huniq : ∀ d', (g.moves (g.fcell a b i j))[k]? = some d' → d' = d := fun d' e => by rw [hk] at e; injection e with e; exact e.symm
  have hci := cand_iff hg hb ha hi hj ho hd hm
  have hD : ¬ g.DAt a b i j k := by
    rintro ⟨d', e, y⟩
    rw [huniq d' e] at y
    exact hc ⟨hci.2 (.inl y), .inr y.1⟩
  by_cases hz : z < 0
  · refine sel_none h hD ?_
    rintro ⟨d', e, y⟩
    rw [huniq d' e] at y
    exact hc ⟨hci.2 (.inr y), .inl hz⟩
  · exact sel_keep h hD hz
theorem oct_small (hg : g.ok) (hb : b < g.n) (ha : a < g.n) : 0 ≤ (g.oct a b).s ∧ (g.oct a b).s ≤ 15 ∧ 0 ≤ (g.oct a b).d ∧ (g.oct a b).d ≤ 15 := by
  obtain ⟨h1, h2⟩ := fI_le hg hb ha
  rw [oct_fIJ]
  simp only
  omega
end G
end FR
