/- graph.Set: what lies near the cell is looked at anew. -/
import Derived.Test.YtjejkadaafmdcaaGreatGSet2
import Derived.Test.YtjejkadaafmdcaaGreatMathGSet
import Derived.Test.YtjejkadaafmdcaaGreatGraph4
set_option linter.unusedVariables false
set_option linter.unusedSimpArgs false
namespace Go.Proofs.YtjejkadaafmdcaaGreat
open Go.RowKit Go.Sort FR
/-- what Set leaves behind -/
def SetGD (w : World) (b p mb : Nat) (S : List Nat) (g : G) (v : Int) (e : Ending) (w' : World) : Prop :=
  e = .returned (.tuple #[.bool true, .nilIface]) ∧ ∃ S' E', GraphOf w' b p mb S' g v E' ∧ GSpec g (fun _ _ => True) E' ∧ (∀ k ∈ S', k ∈ S ∨ w.heap.size ≤ k) ∧ Kept (p :: mb :: S) w w'
/-- what holds while the nine cells are gone over -/
def SetI (w : World) (b p mb : Nat) (S : List Nat) (g g' : G) (v : Int) (c : Nat) (nx ny : Int) (fv : Value) (wr : World) : Prop :=
  ∃ S' E' zs, GraphOf wr b p mb S' g' v E' ∧ GSp g' (g.PN g' c nx ny) (g.PD g' c nx ny) E' ∧ (∀ k ∈ S', k ∈ S ∨ w.heap.size ≤ k) ∧ Kept (p :: mb :: S) w wr ∧ OwnI wr w.heap.size fv zs ∧ (zs.length : Int) ≤ 3 * (ny - g.Y c + 1) + (nx - g.X c + 1) ∧ ∀ q, fv.ownBlock = some q → q ∉ b :: p :: mb :: S'
theorem kept_more' {w w1 w2 : World} {p mb : Nat} {S S1 : List Nat} (h : Kept (p :: mb :: S) w w1) (k : Kept (mb :: S1) w1 w2) (hS : ∀ q ∈ S1, q ∈ S ∨ w.heap.size ≤ q) : Kept (p :: mb :: S) w w2 :=
  ⟨k.os.trans h.os, k.tape.trans h.tape, k.output.trans h.output, Nat.le_trans h.size k.size, fun q hq hn => by
    refine (k.block q (Nat.lt_of_lt_of_le hq h.size) ?_).trans (h.block q hq hn)
    intro hm
    rcases List.mem_cons.1 hm with e | e
    · exact hn (by rw [e]; simp)
    · rcases hS q e with r | r
      · exact hn (by simp [r])
      · omega⟩
/-- nothing stands there: on to the next place -/
theorem SetI.none {w wr : World} {b p mb : Nat} {S : List Nat} {g g' : G} {v : Int} {c : Nat} {nx ny : Int} {fv : Value} (hg : g.ok) (h : SetI w b p mb S g g' v c nx ny fv wr) (ho : ¬ (0 ≤ nx ∧ nx < g.w ∧ 0 ≤ ny ∧ ny < g.h)) : SetI w b p mb S g g' v c (nx + 1) ny fv wr := by
  obtain ⟨S', E', zs, h1, h2, h3, h4, h5, h6, h7⟩ := h
  refine ⟨S', E', zs, h1, h2.congr (fun z => ?_) (fun a b ha hb _ => ?_) (fun _ _ => rfl), h3, h4, h5, by omega, h7⟩
  · unfold G.PN
    refine and_congr_right fun hz => ?_
    rw [G.Pd_none hg hz ho]
  · unfold G.PD
    rw [G.Pd_none hg ha.1 ho, G.Pd_none hg hb.1 ho]
theorem SetI.row {w wr : World} {b p mb : Nat} {S : List Nat} {g g' : G} {v : Int} {c : Nat} {nx ny : Int} {fv : Value} (h : SetI w b p mb S g g' v c nx ny fv wr) (e : nx = (g.X c : Int) + 2) : SetI w b p mb S g g' v c ((g.X c : Int) - 1) (ny + 1) fv wr := by
  obtain ⟨S', E', zs, h1, h2, h3, h4, h5, h6, h7⟩ := h
  refine ⟨S', E', zs, h1, h2.congr (fun z => ?_) (fun a b _ _ _ => ?_) (fun _ _ => rfl), h3, h4, h5, by omega, h7⟩
  · unfold G.PN; rw [G.Pd_row e]
  · unfold G.PD; rw [G.Pd_row e, G.Pd_row e]
/-- a cell has been turned -/
theorem SetI.turned {w wr w2 : World} {b p mb : Nat} {S S' : List Nat} {g g' : G} {v : Int} {c k : Nat} {nx ny : Int} {fv : Value} {zs : List Int} {S2 : List Nat} {E2 : Int → Option (List Ed)} (hn : g'.n = g.n)
    (h3 : ∀ k ∈ S', k ∈ S ∨ w.heap.size ≤ k) (h4 : Kept (p :: mb :: S) w wr) (h5 : OwnI wr w.heap.size fv zs) (h6 : (zs.length : Int) ≤ 3 * (ny - g.Y c + 1) + (nx - g.X c + 1)) (h7 : ∀ q, fv.ownBlock = some q → q ∉ b :: p :: mb :: S')
    (hkn : k < g.n) (hx : (g.X k : Int) = nx) (hy : (g.Y k : Int) = ny) (hk : g.nigh c k)
    (t1 : GraphOf w2 b p mb S2 g' v E2) (t2 : GSp g' (TurnN g' (g.PN g' c nx ny) k) (TurnE g' (g.PN g' c nx ny) (g.PD g' c nx ny) k) E2) (t3 : ∀ k ∈ S2, k ∈ S' ∨ wr.heap.size ≤ k) (t4 : Kept (mb :: S') wr w2) :
    SetI w b p mb S g g' v c (nx + 1) ny fv w2 ∧ ∃ S' E' zs, GraphOf w2 b p mb S' g' v E' ∧ GSp g' (g.PN g' c (nx + 1) ny) (g.PD g' c (nx + 1) ny) E' ∧ (∀ k ∈ S', k ∈ S ∨ w.heap.size ≤ k) ∧ Kept (p :: mb :: S) w w2 ∧ OwnI w2 w.heap.size fv zs ∧ (zs.length : Int) + 1 ≤ 3 * (ny - g.Y c + 1) + (nx + 1 - g.X c + 1) ∧ ∀ q, fv.ownBlock = some q → q ∉ b :: p :: mb :: S' := by
  have g2 : GSp g' (g.PN g' c (nx + 1) ny) (g.PD g' c (nx + 1) ny) E2 := t2.congr (fun z => G.PN_cell hkn hx hy hk) (fun a b ha hb _ => G.PD_cell hkn hx hy hk ((G.PN_cell hkn hx hy hk).1 ha) ((G.PN_cell hkn hx hy hk).1 hb)) (fun _ _ => rfl)
  have o2 : OwnI w2 w.heap.size fv zs := by
    refine ⟨h5.1, ?_⟩
    rcases h5.2 with hn | ⟨g0, cap, cur, rfl, hb, hgg, rest⟩
    · exact .inl hn
    · refine .inr ⟨g0, cap, cur, rfl, hb, ?_, rest⟩
      rw [t4.block g0 (Array.getElem?_eq_some_iff.1 hgg).1 (fun hm => ?_)]
      · exact hgg
      · have := h7 g0 rfl
        exact this (by rcases List.mem_cons.1 hm with e | e <;> simp [e])
  have n2 : ∀ q, fv.ownBlock = some q → q ∉ b :: p :: mb :: S2 := fun q hq hm => by
    have hlt := (World.ownsRow.lt h5 q hq).2
    have := h7 q hq
    rcases List.mem_cons.1 hm with e | hm
    · exact this (by rw [e]; simp)
    rcases List.mem_cons.1 hm with e | hm
    · exact this (by rw [e]; simp)
    rcases List.mem_cons.1 hm with e | hm
    · exact this (by rw [e]; simp)
    rcases t3 q hm with e | e
    · exact this (by simp [e])
    · omega
  have s2 := more_more h4.size h3 t3
  have k2 := kept_more' h4 t4 h3
  exact ⟨⟨S2, E2, zs, t1, g2, s2, k2, o2, by omega, n2⟩, S2, E2, zs, t1, g2, s2, k2, o2, by omega, n2⟩
/-- edges while pairs are gone over -/
def PairD (g g' : G) (c : Nat) (nx ny : Int) (i j a b : Nat) : Prop := (Dn g' i j a b ∧ g'.Direct a b) ∨ (¬ Dn g' i j a b ∧ g.PD g' c nx ny a b)
/-- what holds while pairs are gone over -/
def PairI (w : World) (b p mb : Nat) (S : List Nat) (g g' : G) (v : Int) (c : Nat) (nx ny : Int) (bl : List Nat) (i j : Nat) (wr : World) : Prop :=
  ∃ S' E', GraphOf wr b p mb S' g' v E' ∧ GSp g' g'.Corner (PairD g g' c nx ny i j) E' ∧ (∀ k ∈ S', k ∈ S ∨ w.heap.size ≤ k) ∧ Kept (p :: mb :: S) w wr ∧ ∀ q ∈ bl, q ∉ b :: p :: mb :: S'
theorem pair_step {g g' : G} {c : Nat} {nx ny : Int} {i j : Nat} (hij : i < j) (hj : j < (cornersI g').length) (a b : Nat) : ((PairD g g' c nx ny i j a b ∧ ¬ Pr (cf g' i) (cf g' j) a b) ∨ (Pr (cf g' i) (cf g' j) a b ∧ g'.Direct a b)) ↔ PairD g g' c nx ny i (j + 1) a b := by
  have h := dn_step hij hj a b
  have hn := dn_not hij hj
  unfold PairD
  rw [← h]
  unfold DoneP Pr
  by_cases e : (a = cf g' i ∧ b = cf g' j) ∨ (a = cf g' j ∧ b = cf g' i)
  · simp [e]
  · simp [e]
theorem pair_keep {g g' : G} {c : Nat} {nx ny : Int} {i j : Nat} (hij : i < j) (hj : j < (cornersI g').length) (he : ∀ a b, Pr (cf g' i) (cf g' j) a b → (g.PD g' c nx ny a b ↔ g'.Direct a b)) (a b : Nat) : PairD g g' c nx ny i j a b ↔ PairD g g' c nx ny i (j + 1) a b := by
  have h := dn_step hij hj a b
  have hn := dn_not hij hj
  unfold PairD
  rw [← h]
  unfold DoneP
  by_cases e : (a = cf g' i ∧ b = cf g' j) ∨ (a = cf g' j ∧ b = cf g' i)
  · have := he a b e
    rw [this]
    by_cases q : Dn g' i j a b <;> simp [q, e]
  · simp [e]
theorem PairI.below {w wr w' : World} {b p mb : Nat} {S : List Nat} {g g' : G} {v : Int} {c : Nat} {nx ny : Int} {bl : List Nat} {i j : Nat} (h : PairI w b p mb S g g' v c nx ny bl i j wr) (hb : Below wr.heap.size wr w') : PairI w b p mb S g g' v c nx ny bl i j w' := by
  obtain ⟨S', E', h1, h2, h3, h4, h5⟩ := h
  exact ⟨S', E', h1.below hb, h2, h3, h4.trans (Kept.of_below hb), h5⟩
end Go.Proofs.YtjejkadaafmdcaaGreat
