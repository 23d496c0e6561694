/- Lemmas of this claim: OpenH. -/
import Derived.Test.YtjejkadaafmdcaaGreatKSearchSays37
import Derived.Test.YtjejkadaafmdcaaGreatKSearchSays4
import Derived.Test.YtjejkadaafmdcaaGreatKSearchSays12
import Derived.Deep.Slices
import Derived.Deep.Fields
set_option linter.unusedVariables false
set_option linter.unusedSimpArgs false
/- How a slice of pushes, and one of costs, reads. -/
namespace Go.Proofs.YtjejkadaafmdcaaGreat
open Go.RowKit Go.Sort FR
open Go.ChangeShapes Go.WideShapes Go.ChangeAt Go.Joins
instance : Inhabited PushV := ⟨⟨0, 0, 0, false⟩⟩
theorem spot_none {w : World} {a : Addr} {v : Value} (h : w.cell? a = some v) : a.spot = none := by
  unfold World.cell? at h
  split at h
  · cases hs : a.spot with
    | none => rfl
    | some s => simp [hs] at h
  · cases h
theorem addr_eta {w : World} {a : Addr} {v : Value} (h : w.cell? a = some v) : ∃ b o, a = ⟨b, o, none⟩ := by
  have := spot_none h
  obtain ⟨b, o, s⟩ := a
  simp only at this
  subst this
  exact ⟨b, o, rfl⟩
theorem add_none (b o j : Nat) : (⟨b, o, none⟩ : Addr).add j = ⟨b, o + j, none⟩ := by unfold Addr.add; split <;> simp_all
theorem cellsCostH : Tryz.prog.cellsOf 68 = 2 := by kernel_rfl
theorem cellsInt : Tryz.prog.cellsOf 3 = 1 := by kernel_rfl
section
variable {H : Type} {enc : TypeId × Value → H} {w : World} {base : Nat} {held : Bool}
theorem struct2 {P : Program} {t : TypeId} {f0 f1 : Field} {fuel : Nat} {cs : List Value} {x : DataW H × List MemPlace} (hs : P.underlying t = some (.struct #[f0, f1])) (hC : P.cellsOf t = 2) (o0 : f0.offset = 0) (k0 : P.cellsOf f0.type = 1) (o1 : f1.offset = 1) (k1 : P.cellsOf f1.type = 1)
    (h : DataW.trod enc P w base (fun _ => true) held fuel t cs = some x) : ∃ c0 c1 n y0 y1, cs = [c0, c1] ∧ DataW.trod enc P w base (fun _ => true) held n f0.type [c0] = some y0 ∧ DataW.trod enc P w base (fun _ => true) held n f1.type [c1] = some y1 := by
  obtain ⟨xs, n, _, _, hl, hxl, hf⟩ := DataW.trod_struct hs h
  rw [hC] at hl
  match cs, hl with
  | [c0, c1], _ =>
    have h0 := hf 0 f0 rfl
    have h1 := hf 1 f1 rfl
    rw [o0, k0, List.getElem?_eq_getElem (show 0 < xs.length by rw [hxl]; simp)] at h0
    rw [o1, k1, List.getElem?_eq_getElem (show 1 < xs.length by rw [hxl]; simp)] at h1
    exact ⟨c0, c1, n, _, _, rfl, h0, h1⟩
theorem struct3 {P : Program} {t : TypeId} {f0 f1 f2 : Field} {fuel : Nat} {cs : List Value} {x : DataW H × List MemPlace} (hs : P.underlying t = some (.struct #[f0, f1, f2])) (hC : P.cellsOf t = 4) (o0 : f0.offset = 0) (k0 : P.cellsOf f0.type = 1) (o1 : f1.offset = 1) (k1 : P.cellsOf f1.type = 2) (o2 : f2.offset = 3) (k2 : P.cellsOf f2.type = 1)
    (h : DataW.trod enc P w base (fun _ => true) held fuel t cs = some x) : ∃ c0 c1 c2 c3 n y0 y1 y2, cs = [c0, c1, c2, c3] ∧ DataW.trod enc P w base (fun _ => true) held n f0.type [c0] = some y0 ∧ DataW.trod enc P w base (fun _ => true) held n f1.type [c1, c2] = some y1 ∧ DataW.trod enc P w base (fun _ => true) held n f2.type [c3] = some y2 := by
  obtain ⟨xs, n, _, _, hl, hxl, hf⟩ := DataW.trod_struct hs h
  rw [hC] at hl
  match cs, hl with
  | [c0, c1, c2, c3], _ =>
    have h0 := hf 0 f0 rfl
    have h1 := hf 1 f1 rfl
    have h2 := hf 2 f2 rfl
    rw [o0, k0, List.getElem?_eq_getElem (show 0 < xs.length by rw [hxl]; simp)] at h0
    rw [o1, k1, List.getElem?_eq_getElem (show 1 < xs.length by rw [hxl]; simp)] at h1
    rw [o2, k2, List.getElem?_eq_getElem (show 2 < xs.length by rw [hxl]; simp)] at h2
    exact ⟨c0, c1, c2, c3, n, _, _, _, rfl, h0, h1, h2⟩
theorem cost_of {fuel : Nat} {cs : List Value} {x : DataW H × List MemPlace} (h : DataW.trod enc Tryz.prog w base (fun _ => true) held fuel 68 cs = some x) : ∃ s d, cs = [.int .i64 s, .int .i64 d] := by
  obtain ⟨c0, c1, n, y0, y1, rfl, h0, h1⟩ := struct2 Tryz.underlying68 cellsCostH rfl cellsInt rfl cellsInt h
  obtain ⟨s, e0, _⟩ := DataW.trod_int Tryz.underlying3 h0
  obtain ⟨d, e1, _⟩ := DataW.trod_int Tryz.underlying3 h1
  simp at e0 e1
  subst e0 e1
  exact ⟨s, d, rfl⟩
variable {r : Reach} {b0 : Nat} {v : Value} {d : DataW H} {p : List MemPlace}
end
end Go.Proofs.YtjejkadaafmdcaaGreat
