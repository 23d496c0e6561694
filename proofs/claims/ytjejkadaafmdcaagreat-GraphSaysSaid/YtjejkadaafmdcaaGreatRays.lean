/- Rows of what all cells cost from one each. -/
import Derived.Test.YtjejkadaafmdcaaGreatRRay5
import Derived.Test.YtjejkadaafmdcaaGreatSameE
set_option linter.unusedVariables false
set_option linter.unusedSimpArgs false
namespace Go.Proofs.YtjejkadaafmdcaaGreat
open Go.RowKit Go.Sort FR Go.Lib
theorem ray_info2 : (Tryz.prog.info? 113).map (fun i => (i.zero.map fun z => z.cells.size, i.size, i.bytes)) = some (some 769, 769, 4360) := by kernel_rfl
theorem ray_infos : ∃ i z, Tryz.prog.info? 113 = some i ∧ i.zero = some z ∧ i.size = 769 ∧ i.bytes = 4360 ∧ z.cells.size = 769 := by
  obtain ⟨i, hi, h⟩ := Option.map_eq_some_iff.1 ray_info2
  simp only [Prod.mk.injEq] at h
  obtain ⟨h1, h2, h3⟩ := h
  obtain ⟨z, hz, h4⟩ := Option.map_eq_some_iff.1 h1
  exact ⟨i, z, hi, hz, h2, h3, h4⟩
def rayL (Zs : List (Array Value)) : List Value := Zs.flatMap (·.toList)
/-- A slice of rays in a row of its own. -/
def OwnR (w : World) (B : Nat) (v : Value) (Zs : List (Array Value)) : Prop := w.ownsRow B 113 769 v Zs.length (rayL Zs) ∧ ∀ Z ∈ Zs, Z.size = 769
theorem OwnR.nil (w : World) (B : Nat) : OwnR w B (.slice none 0 0) [] := ⟨⟨rfl, .inl ⟨rfl, rfl⟩⟩, by simp⟩
theorem rayL_append (L M : List (Array Value)) : rayL (L ++ M) = rayL L ++ rayL M := by simp [rayL]
theorem rayL_length : ∀ L : List (Array Value), (∀ Z ∈ L, Z.size = 769) → (rayL L).length = L.length * 769
  | [], _ => rfl
  | Z :: L, h => by
    have e : rayL (Z :: L) = Z.toList ++ rayL L := by simp [rayL]
    rw [e, List.length_append, rayL_length L (fun X hX => h X (by simp [hX])), List.length_cons, Array.length_toList, h Z (by simp)]
    omega
theorem rayL_get : ∀ (L : List (Array Value)) (_ : ∀ Z ∈ L, Z.size = 769) (i : Nat) (Z : Array Value), L[i]? = some Z → ∀ j v, Z.toList[j]? = some v → (rayL L)[i * 769 + j]? = some v
  | [], _, i, Z, h => by simp at h
  | X :: L, hs, 0, Z, h => by
    simp at h; subst h
    intro j v hv
    have e : rayL (X :: L) = X.toList ++ rayL L := by simp [rayL]
    have hj := (List.getElem?_eq_some_iff.1 hv).1
    rw [e, List.getElem?_append_left (by omega)]
    simpa using hv
  | X :: L, hs, i + 1, Z, h => by
    simp at h
    intro j v hv
    have e : rayL (X :: L) = X.toList ++ rayL L := by simp [rayL]
    have hx := hs X (by simp)
    rw [e, List.getElem?_append_right (by rw [Array.length_toList]; omega), Array.length_toList, hx]
    have := rayL_get L (fun Y hY => hs Y (by simp [hY])) i Z h j v hv
    rw [show (i + 1) * 769 + j - 769 = i * 769 + j by omega]
    exact this
/-- a slice that reads as these rays -/
def RaysAt (w : World) (A : Option Addr) (Zs : List (Array Value)) : Prop := 0 < Zs.length → ∃ g, A = some ⟨g, 0, none⟩ ∧ g < w.heap.size ∧ ∀ i Z, Zs[i]? = some Z → w.rangeAt g (i * 769) Z.toList
theorem OwnR.rays {w : World} {B : Nat} {v : Value} {Zs : List (Array Value)} (h : OwnR w B v Zs) : ∃ A cap, v = .slice A Zs.length cap ∧ RaysAt w A Zs ∧ ∀ ad, A = some ad → B ≤ ad.block ∧ ad.block < w.heap.size := by
  obtain ⟨h, hs⟩ := h
  rcases h.2 with ⟨rfl, h0⟩ | ⟨g, cap, cur, rfl, hB, hg, _, _, _, htake⟩
  · exact ⟨none, 0, by rw [h0], (fun h => by omega), fun ad e => by cases e⟩
  · refine ⟨_, cap, rfl, fun _ => ⟨g, rfl, (Array.getElem?_eq_some_iff.1 hg).1, fun i Z hZ j v hv => ?_⟩, fun ad e => ?_⟩
    · have := rayL_get Zs hs i Z hZ j v hv
      rw [← htake, List.getElem?_take] at this
      split at this
      · rw [Array.getElem?_toList] at this
        simp [World.cell?, hg, this]
      · cases this
    · injection e with e
      subst e
      exact ⟨hB, (Array.getElem?_eq_some_iff.1 hg).1⟩
theorem RaysAt.below {w w' : World} {A : Option Addr} {Zs : List (Array Value)} (h : RaysAt w A Zs) (hb : Below w.heap.size w w') : RaysAt w' A Zs := fun hl => by
  obtain ⟨g, h1, h2, h3⟩ := h hl
  exact ⟨g, h1, Nat.lt_of_lt_of_le h2 hb.size, fun i Z hZ => rangeAt_below (h3 i Z hZ) hb⟩
theorem idxRay {A : Option Addr} {g n m k : Nat} (h : A = some ⟨g, 0, none⟩) (hk : k < n) (wx : World) : (Instr.indexAt 111 (.slice A n m) (.int .i64 (k : Nat))).run Tryz.prog wx = .ok (.pointer (some ⟨g, k * 769, none⟩)) wx := by
  subst h
  have q : (k : Int) < (n : Int) := by omega
  go_simp
theorem fold_set : ∀ (l : List Value) (k : Nat) (cs : Array Value), k + l.length ≤ cs.size →
    ∀ i, ((l.zipIdx k).foldl (fun cs (x : Value × Nat) => cs.setIfInBounds (0 + x.2) x.1) cs)[i]? = if k ≤ i ∧ i < k + l.length then l[i - k]? else cs[i]?
  | [], k, cs, _, i => by simp; omega
  | v :: l, k, cs, h, i => by
    simp only [List.zipIdx_cons, List.foldl_cons]
    rw [fold_set l (k + 1) _ (by simp at h ⊢; omega) i]
    simp at h
    by_cases e : i = k
    · subst e
      rw [if_neg (by omega), if_pos ⟨by omega, by simp⟩]
      rw [Nat.zero_add, Array.getElem?_setIfInBounds_self_of_lt (by omega)]
      simp
    · by_cases e2 : k + 1 ≤ i ∧ i < k + 1 + l.length
      · rw [if_pos e2, if_pos ⟨by omega, by simp; omega⟩]
        obtain ⟨j, hj⟩ : ∃ j, i - k = j + 1 := ⟨i - k - 1, by omega⟩
        rw [hj, List.getElem?_cons_succ, show i - (k + 1) = j by omega]
      · rw [if_neg e2, if_neg (by simp; omega), Nat.zero_add, Array.getElem?_setIfInBounds_ne (by omega)]
theorem fold_all {Z cs : Array Value} (h : cs.size = Z.size) : Z.zipIdx.foldl (fun cs (x : Value × Nat) => cs.setIfInBounds (0 + x.2) x.1) cs = Z := by
  apply Array.ext_getElem?
  intro i
  have h1 := fold_set Z.toList 0 cs (by simp; omega) i
  have e : Z.zipIdx.foldl (fun cs (x : Value × Nat) => cs.setIfInBounds (0 + x.2) x.1) cs = (Z.toList.zipIdx 0).foldl (fun cs (x : Value × Nat) => cs.setIfInBounds (0 + x.2) x.1) cs := by
    rw [← Array.foldl_toList]
    simp
  rw [e, h1]
  by_cases hi : i < Z.size
  · rw [if_pos ⟨by omega, by simp; omega⟩]; simp
  · rw [if_neg (by simp; omega), Array.getElem?_eq_none (by omega), Array.getElem?_eq_none (by omega)]
theorem run_buildRay (w : World) (Z : Array Value) (hz : Z.size = 769) : (Instr.buildSlice 111 1 #[(0, .agg Z)]).run Tryz.prog w = .ok (.slice (some ⟨w.heap.size, 0, none⟩) 1 1) (w.alloc (.cells Z 113 (0, 0))) := by
  have hc : (Value.agg Z).cells = Z := rfl
  have hz0 : (Value.agg Tryz.zeroCells113).cells = Tryz.zeroCells113 := rfl
  have hs : Tryz.zeroCells113.size = 769 := by rw [zero_ray, ray_size]
  obtain ⟨zc, hzc⟩ : ∃ zc, (Array.range (1 * 769)).map (fun i => Tryz.zeroCells113[i % Tryz.zeroCells113.size]!) = zc := ⟨_, rfl⟩
  have hzs : zc.size = 769 := by rw [← hzc]; simp
  have hf : Instr.fill (fun i => some (i * 769, 769)) zc [(0, .agg Z)] = some Z := by
    simp only [Instr.fill, hc]
    rw [if_neg (by simp; omega)]
    congr 1
    exact fold_all (by omega)
  unfold Instr.buildSlice
  simp only [Sem.run_bind, Sem.run_pure, Result.andThen_ok, run_underlying Tryz.underlying111, Tryz.sizeOf113, Tryz.zeroValue113, hz0]
  rw [if_neg (by decide), if_neg (by decide)]
  simp only [Sem.run_bind, Sem.run_pure, Result.andThen_ok, Tryz.zeroValue113, hz0, hzc, hf]
  rfl
theorem wpList_run1 {P : Program} (w : World) {ops : Array Oper} {rest : List Oper} {o : Oper} {a : Act} {Q : Exit → Act → World → Prop} (hgd : o.guard = none) (t : TypeId) (x : Operand)
    (ho : o.op = .buildSlice t 1 #[(0, x)]) (v : Value) (hx : a.eval x = v) {v' : Value} {w' : World} (hr : (Instr.buildSlice t 1 #[(0, v)]).run P w = .ok v' w') (h : wpList P ops Q rest (a.put o.dst v') w') : wpList P ops Q (o :: rest) a w :=
  wpList_plain hgd fun _ hK => by
    unfold Oper.wp execOp
    simp only [ho, Sem.run_bind, Sem.run_pure, Result.andThen_ok, List.map_toArray, List.map_cons, List.map_nil, hx, hr]
    exact hK _ _ h
end Go.Proofs.YtjejkadaafmdcaaGreat
