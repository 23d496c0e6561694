/- How a slice of pushes, and one of costs, reads. -/
import Derived.Test.YtkiogciokngjfaaHeapSays
import Derived.Test.YtkiogciokngjfaaOpen
import Derived.Deep.Slices
import Derived.Deep.Fields
set_option linter.unusedVariables false
set_option linter.unusedSimpArgs false
namespace Go.Proofs.Ytkiogciokngjfaa
open Go.RowKit Go.Sort FR
open Go.ChangeShapes Go.WideShapes Go.ChangeAt Go.Joins
instance : Inhabited PushV := ⟨⟨0, 0, 0, false⟩⟩
theorem spot_none {w : World} {a : Addr} {v : Value} (h : w.cell? a = some v) : a.spot = none := by
  unfold World.cell? at h
  split at h
  · cases hs : a.spot with
    | none => rfl
    | some s => simp [hs] at h
  · cases h
theorem addr_eta {w : World} {a : Addr} {v : Value} (h : w.cell? a = some v) : ∃ b o, a = ⟨b, o, none⟩ := by
  have := spot_none h
  obtain ⟨b, o, s⟩ := a
  simp only at this
  subst this
  exact ⟨b, o, rfl⟩
theorem add_none (b o j : Nat) : (⟨b, o, none⟩ : Addr).add j = ⟨b, o + j, none⟩ := by unfold Addr.add; split <;> simp_all
theorem cellsPush : Try.prog.cellsOf 81 = 4 := by kernel_rfl
theorem cellsCostH : Try.prog.cellsOf 23 = 2 := by kernel_rfl
theorem cellsInt : Try.prog.cellsOf 3 = 1 := by kernel_rfl
theorem cellsBool : Try.prog.cellsOf 4 = 1 := by kernel_rfl
section
variable {H : Type} {enc : TypeId × Value → H} {w : World} {base : Nat} {held : Bool}
theorem struct2 {P : Program} {t : TypeId} {f0 f1 : Field} {fuel : Nat} {cs : List Value} {x : DataW H × List MemPlace} (hs : P.underlying t = some (.struct #[f0, f1])) (hC : P.cellsOf t = 2) (o0 : f0.offset = 0) (k0 : P.cellsOf f0.type = 1) (o1 : f1.offset = 1) (k1 : P.cellsOf f1.type = 1)
    (h : DataW.trod enc P w base (fun _ => true) held fuel t cs = some x) : ∃ c0 c1 n y0 y1, cs = [c0, c1] ∧ DataW.trod enc P w base (fun _ => true) held n f0.type [c0] = some y0 ∧ DataW.trod enc P w base (fun _ => true) held n f1.type [c1] = some y1 := by
  obtain ⟨xs, n, _, _, hl, hxl, hf⟩ := DataW.trod_struct hs h
  rw [hC] at hl
  match cs, hl with
  | [c0, c1], _ =>
    have h0 := hf 0 f0 rfl
    have h1 := hf 1 f1 rfl
    rw [o0, k0, List.getElem?_eq_getElem (show 0 < xs.length by rw [hxl]; simp)] at h0
    rw [o1, k1, List.getElem?_eq_getElem (show 1 < xs.length by rw [hxl]; simp)] at h1
    exact ⟨c0, c1, n, _, _, rfl, h0, h1⟩
theorem struct3 {P : Program} {t : TypeId} {f0 f1 f2 : Field} {fuel : Nat} {cs : List Value} {x : DataW H × List MemPlace} (hs : P.underlying t = some (.struct #[f0, f1, f2])) (hC : P.cellsOf t = 4) (o0 : f0.offset = 0) (k0 : P.cellsOf f0.type = 1) (o1 : f1.offset = 1) (k1 : P.cellsOf f1.type = 2) (o2 : f2.offset = 3) (k2 : P.cellsOf f2.type = 1)
    (h : DataW.trod enc P w base (fun _ => true) held fuel t cs = some x) : ∃ c0 c1 c2 c3 n y0 y1 y2, cs = [c0, c1, c2, c3] ∧ DataW.trod enc P w base (fun _ => true) held n f0.type [c0] = some y0 ∧ DataW.trod enc P w base (fun _ => true) held n f1.type [c1, c2] = some y1 ∧ DataW.trod enc P w base (fun _ => true) held n f2.type [c3] = some y2 := by
  obtain ⟨xs, n, _, _, hl, hxl, hf⟩ := DataW.trod_struct hs h
  rw [hC] at hl
  match cs, hl with
  | [c0, c1, c2, c3], _ =>
    have h0 := hf 0 f0 rfl
    have h1 := hf 1 f1 rfl
    have h2 := hf 2 f2 rfl
    rw [o0, k0, List.getElem?_eq_getElem (show 0 < xs.length by rw [hxl]; simp)] at h0
    rw [o1, k1, List.getElem?_eq_getElem (show 1 < xs.length by rw [hxl]; simp)] at h1
    rw [o2, k2, List.getElem?_eq_getElem (show 2 < xs.length by rw [hxl]; simp)] at h2
    exact ⟨c0, c1, c2, c3, n, _, _, _, rfl, h0, h1, h2⟩
theorem cost_of {fuel : Nat} {cs : List Value} {x : DataW H × List MemPlace} (h : DataW.trod enc Try.prog w base (fun _ => true) held fuel 23 cs = some x) : ∃ s d, cs = [.int .i64 s, .int .i64 d] := by
  obtain ⟨c0, c1, n, y0, y1, rfl, h0, h1⟩ := struct2 Try.underlying23 cellsCostH rfl cellsInt rfl cellsInt h
  obtain ⟨s, e0, _⟩ := DataW.trod_int Try.underlying3 h0
  obtain ⟨d, e1, _⟩ := DataW.trod_int Try.underlying3 h1
  simp at e0 e1
  subst e0 e1
  exact ⟨s, d, rfl⟩
theorem push_of {fuel : Nat} {cs : List Value} {x : DataW H × List MemPlace} (h : DataW.trod enc Try.prog w base (fun _ => true) held fuel 81 cs = some x) : ∃ p : PushV, cs = [.int .i64 p.id, .int .i64 p.s, .int .i64 p.d, .bool p.pop] := by
  obtain ⟨c0, c1, c2, c3, n, y0, y1, y2, rfl, h0, h1, h2⟩ := struct3 Try.underlying81 cellsPush rfl cellsInt rfl cellsCostH rfl cellsBool h
  obtain ⟨s, e0, _⟩ := DataW.trod_int Try.underlying3 h0
  obtain ⟨a, b, e1⟩ := cost_of h1
  obtain ⟨t, e2, _⟩ := DataW.trod_bool Try.underlying4 h2
  simp at e0 e1 e2
  obtain ⟨e3, e4⟩ := e1
  subst e0 e2 e3 e4
  exact ⟨⟨s, a, b, t⟩, rfl⟩
set_option maxRecDepth 100000 in
theorem slp_of {fuel : Nat} {cs : List Value} {x : DataW H × List MemPlace} (h : DataW.trod enc Try.prog w base (fun _ => true) held fuel 73 cs = some x) : ∃ A n m f, cs = [.slice A n m] ∧ SlP w A n f := by
  rcases Go.Deep.open_slice Try.underlying73 h with ⟨rfl, _⟩ | ⟨a, len, cap, m, n, D, Pl, rfl, _, hl, hm, hmm, _, hx⟩
  · exact ⟨none, 0, 0, fun _ => default, rfl, fun h => absurd h (by omega), by omega⟩
  · rw [cellsPush] at hx
    simp only [if_true] at hmm
    obtain ⟨F, hF⟩ := Go.Deep.choose_lt (α := PushV) (n := m) (p := fun i p => ∀ j v, [Value.int .i64 p.id, .int .i64 p.s, .int .i64 p.d, .bool p.pop][j]? = some v → w.cell? ((a.add (i * 4)).add j) = some v) (fun i hi => by
      obtain ⟨cs', h1, h2⟩ := hx i hi
      obtain ⟨p, rfl⟩ := push_of h2
      refine ⟨p, fun j v hj => ?_⟩
      obtain ⟨_, _, h3⟩ := World.cells?_some h1
      rw [h3 j (by have := (List.getElem?_eq_some_iff.1 hj).1; simpa using this)]; exact hj)
    refine ⟨some a, len, cap, F, rfl, fun hp => ?_, ?_⟩
    · have h0 := hF 0 (by omega) 0 _ rfl
      have ea : (a.add (0 * 4)).add 0 = a := by simp [Addr.add]
      rw [ea] at h0
      obtain ⟨b, o, rfl⟩ := addr_eta h0
      refine ⟨b, o, rfl, World.block_lt_of_cell? _ _ h0, fun k hk => ?_⟩
      have hk' := hF k (by omega)
      simp only [add_none] at hk'
      exact ⟨hk' 0 _ rfl, hk' 1 _ rfl, hk' 2 _ rfl, hk' 3 _ rfl⟩
    · unfold maxLen at hm; omega
variable {r : Reach} {b0 : Nat} {v : Value} {d : DataW H} {p : List MemPlace}
set_option maxRecDepth 100000 in
theorem open_pushes (hv : Value.okWide Try.prog w r b0 73 v) (h : DataW.Trod enc Try.prog w base (fun _ => true) held 73 v d p) : ∃ A n m f, v = .slice A n m ∧ SlP w A n f := by
  obtain ⟨a, l, c, rfl⟩ := okWide_slice Try.underlying73 hv
  obtain ⟨fuel, hf⟩ := h
  obtain ⟨A, n, m, f, e, hs⟩ := slp_of hf
  have e' : Value.slice a l c = .slice A n m := (List.cons.inj (show [Value.slice a l c] = [.slice A n m] from e)).1
  exact ⟨A, n, m, f, e', hs⟩
end
end Go.Proofs.Ytkiogciokngjfaa
