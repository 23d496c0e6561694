/- Lemmas of this claim: OpenE. -/
import Derived.Test.YtjejkadaafmdcaaGreatOpenH
import Derived.Test.YtjejkadaafmdcaaGreatKSearchSays20
set_option linter.unusedVariables false
set_option linter.unusedSimpArgs false
/- How a slice of edges reads. -/
namespace Go.Proofs.YtjejkadaafmdcaaGreat
open Go.RowKit Go.Sort FR
open Go.ChangeShapes Go.WideShapes Go.ChangeAt Go.Joins
instance : Inhabited Ed := ⟨⟨0, ⟨0, 0⟩, 0⟩⟩
theorem cellsEdge : Tryz.prog.cellsOf 70 = 4 := by kernel_rfl
section
variable {H : Type} {enc : TypeId × Value → H} {w : World} {base : Nat} {held : Bool}
theorem edge_of {fuel : Nat} {cs : List Value} {x : DataW H × List MemPlace} (h : DataW.trod enc Tryz.prog w base (fun _ => true) held fuel 70 cs = some x) : ∃ e : Ed, cs = edL [e] := by
  obtain ⟨c0, c1, c2, c3, n, y0, y1, y2, rfl, h0, h1, h2⟩ := struct3 Tryz.underlying70 cellsEdge rfl cellsInt rfl cellsCostH rfl cellsInt h
  obtain ⟨s, e0, _⟩ := DataW.trod_int Tryz.underlying3 h0
  obtain ⟨a, b, e1⟩ := cost_of h1
  obtain ⟨t, e2, _⟩ := DataW.trod_int Tryz.underlying3 h2
  simp at e0 e1 e2
  obtain ⟨e3, e4⟩ := e1
  subst e0 e2 e3 e4
  exact ⟨⟨s, ⟨a, b⟩, t⟩, rfl⟩
theorem edL_split : ∀ (L : List Ed) (j : Nat) (v : Value), (edL L)[j]? = some v → ∃ e, L[j / 4]? = some e ∧ (edL [e])[j % 4]? = some v := by
  intro L
  induction L with
  | nil => intro j v h; cases h
  | cons a l ih =>
    intro j v h
    match j with
    | 0 => exact ⟨a, rfl, h⟩
    | 1 => exact ⟨a, rfl, h⟩
    | 2 => exact ⟨a, rfl, h⟩
    | 3 => exact ⟨a, rfl, h⟩
    | j + 4 =>
      have h' : (edL l)[j]? = some v := h
      obtain ⟨e, h1, h2⟩ := ih j v h'
      refine ⟨e, ?_, ?_⟩
      · rw [show (j + 4) / 4 = j / 4 + 1 by omega]; exact h1
      · rw [show (j + 4) % 4 = j % 4 by omega]; exact h2
set_option maxRecDepth 100000 in
theorem sle_of {fuel : Nat} {cs : List Value} {x : DataW H × List MemPlace} (h : DataW.trod enc Tryz.prog w base (fun _ => true) held fuel 59 cs = some x) : ∃ A n m L, cs = [.slice A n m] ∧ SlE w A n L := by
  rcases Go.Deep.open_slice Tryz.underlying59 h with ⟨rfl, _⟩ | ⟨a, len, cap, m, n, D, Pl, rfl, _, hl, hm, hmm, _, hx⟩
  · exact ⟨none, 0, 0, [], rfl, fun h => absurd h (by simp), rfl, by omega⟩
  · rw [cellsEdge] at hx
    simp only [if_true] at hmm
    obtain ⟨F, hF⟩ := Go.Deep.choose_lt (α := Ed) (n := m) (p := fun i e => ∀ j v, (edL [e])[j]? = some v → w.cell? ((a.add (i * 4)).add j) = some v) (fun i hi => by
      obtain ⟨cs', h1, h2⟩ := hx i hi
      obtain ⟨p, rfl⟩ := edge_of h2
      refine ⟨p, fun j v hj => ?_⟩
      obtain ⟨_, _, h3⟩ := World.cells?_some h1
      rw [h3 j (by have := (List.getElem?_eq_some_iff.1 hj).1; exact this)]; exact hj)
    have hlen : ((List.range len).map F).length = len := by simp
    refine ⟨some a, len, cap, (List.range len).map F, rfl, fun hp => ?_, hlen, ?_⟩
    · rw [hlen] at hp
      have h0 := hF 0 (by omega) 0 _ rfl
      have ea : (a.add (0 * 4)).add 0 = a := by simp [Addr.add]
      rw [ea] at h0
      obtain ⟨b, o, rfl⟩ := addr_eta h0
      refine ⟨b, o, rfl, World.block_lt_of_cell? _ _ h0, fun j v hv => ?_⟩
      obtain ⟨e, h1, h2⟩ := edL_split _ _ _ hv
      rw [List.getElem?_map] at h1
      cases hr : (List.range len)[j / 4]? with
      | none => rw [hr] at h1; cases h1
      | some q =>
        rw [hr] at h1
        have hq := List.getElem?_eq_some_iff.1 hr
        obtain ⟨hq1, hq2⟩ := hq
        simp at hq1 hq2
        subst hq2
        simp at h1
        subst h1
        have := hF (j / 4) (by omega) _ _ h2
        simp only [add_none] at this
        rw [show o + j / 4 * 4 + j % 4 = o + j by omega] at this
        exact this
    · unfold maxLen at hm; omega
variable {r : Reach} {b0 : Nat} {v : Value} {d : DataW H} {p : List MemPlace}
set_option maxRecDepth 100000 in
theorem open_edges (hv : Value.okWide Tryz.prog w r b0 59 v) (h : DataW.Trod enc Tryz.prog w base (fun _ => true) held 59 v d p) : ∃ A n m L, v = .slice A n m ∧ SlE w A n L := by
  obtain ⟨a, l, c, rfl⟩ := okWide_slice Tryz.underlying59 hv
  obtain ⟨fuel, hf⟩ := h
  obtain ⟨A, n, m, f, e, hs⟩ := sle_of hf
  have e' : Value.slice a l c = .slice A n m := (List.cons.inj (show [Value.slice a l c] = [.slice A n m] from e)).1
  exact ⟨A, n, m, f, e', hs⟩
end
end Go.Proofs.YtjejkadaafmdcaaGreat
