/- Rows of edges in memory; copying into a row that is known whole. -/
import Derived.Lib.AppendZerosOnto
import Derived.Lib.Overlaps
import Derived.Laws.CopyRow
import Derived.Deep.RegionLaw
import Derived.Test.YtjejkadaafmdcaaGreatReach7
set_option linter.unusedVariables false
set_option linter.unusedSimpArgs false
namespace Go.Proofs.YtjejkadaafmdcaaGreat
open Go.RowKit Go.Sort FR
/-- an edge of a graph -/
structure Ed where
  to_ : Int
  c : C
  mid : Int
def Ed.cells (e : Ed) : List Value := [.int .i64 e.to_, .int .i64 e.c.s, .int .i64 e.c.d, .int .i64 e.mid]
def edL (L : List Ed) : List Value := L.flatMap Ed.cells
theorem edL_nil : edL [] = [] := rfl
theorem edL_cons (e : Ed) (L : List Ed) : edL (e :: L) = e.cells ++ edL L := by simp [edL]
theorem edL_append (L M : List Ed) : edL (L ++ M) = edL L ++ edL M := by simp [edL]
theorem edL_length : ∀ L : List Ed, (edL L).length = L.length * 4
  | [] => rfl
  | e :: L => by rw [edL_cons, List.length_append, edL_length L, List.length_cons]; simp [Ed.cells]; omega
theorem edL_take : ∀ (L : List Ed) (k : Nat), (edL L).take (k * 4) = edL (L.take k)
  | [], k => by simp [edL]
  | e :: L, 0 => by simp [edL]
  | e :: L, k + 1 => by
    rw [edL_cons, List.take_succ_cons, edL_cons, show (k + 1) * 4 = 4 + k * 4 by omega, ← edL_take L k]
    rw [show 4 + k * 4 = k * 4 + 4 by omega]
    simp [Ed.cells]
theorem edL_drop : ∀ (L : List Ed) (k : Nat), (edL L).drop (k * 4) = edL (L.drop k)
  | [], k => by simp [edL]
  | e :: L, 0 => by simp [edL]
  | e :: L, k + 1 => by
    rw [edL_cons, List.drop_succ_cons, show (k + 1) * 4 = 4 + k * 4 by omega, ← edL_drop L k]
    rw [List.drop_append, List.drop_eq_nil_of_le (by simp [Ed.cells])]
    simp [Ed.cells]
theorem ed_one (e : Ed) : ∀ v ∈ e.cells, v.oneCell' = true := by
  intro v hv
  simp [Ed.cells] at hv
  rcases hv with rfl | rfl | rfl | rfl <;> rfl
theorem edL_one (L : List Ed) : ∀ v ∈ edL L, v.oneCell' = true := by
  intro v hv
  simp only [edL, List.mem_flatMap] at hv
  obtain ⟨e, _, he⟩ := hv
  exact ed_one e v he
/-- A slice of edges in a row of its own. -/
def OwnE (w : World) (B : Nat) (v : Value) (L : List Ed) : Prop := w.ownsRow B 70 4 v L.length (edL L)
theorem OwnE.nil (w : World) (B : Nat) : OwnE w B (.slice none 0 0) [] := ⟨rfl, .inl ⟨rfl, rfl⟩⟩
theorem run_copy_rowK {P : Program} (w : World) (dT sT ty elem : TypeId) (sz g off dLen dCap : Nat) (ad : Addr) (sLen sCap : Nat) (cur : Array Value) (t : TypeId) (cs : List Value)
    (hu : P.underlying dT = some (.slice elem)) (hs : (P.info? elem).map (·.size) = some sz) (hg : w.heap[g]? = some (.cells cur t (0, 0))) (hn : cs.length = Nat.min sLen dLen * sz)
    (hsrc : ∀ j v, cs[j]? = some v → w.cell? (ad.add j) = some v) (hfit : off + cs.length ≤ cur.size) (h1 : ∀ v ∈ cs, v.oneCell' = true) :
    (Builtin.copy_ #[dT, sT] ty #[.slice (some ⟨g, off, none⟩) dLen dCap, .slice (some ad) sLen sCap]).run P w = .ok (goInt (Nat.min sLen dLen)) (w.setRow g (cur.toList.take off ++ cs ++ cur.toList.drop (off + cs.length)).toArray) := by
  have hl := run_loadCells_list (P := P) w ad cs hsrc
  have hst := run_storeCells_at P g off t cs 0 cur w hg (by simpa using hfit) h1
  cases hq : P.info? elem with
  | none => simp [hq] at hs
  | some i =>
    have hi : i.size = sz := by simpa [hq] using hs
    simp only [Nat.add_zero] at hst
    simp [Builtin.copy_, run_underlying hu, Builtin.lenOf, Builtin.firstCells, sizeOf, typeInfo, hq, hi, ← hn, hl, hst]
theorem wpList_copy_runE {P : Program} (w : World) {ops : Array Oper} {rest : List Oper} {o : Oper} {a : Act} {Q : Exit → Act → World → Prop} (hgd : o.guard = none) (d s : Operand) (t t' : TypeId)
    (ho : o.op = .call { callee := .builtin .copy, args := #[d, s], argTypes := #[t, t'] }) (v u : Value) (hd : a.eval d = v) (hs : a.eval s = u) {v' : Value} {w' : World}
    (hr : (Builtin.copy_ #[t, t'] o.type #[v, u]).run P w = .ok v' w') (h : wpList P ops Q rest (a.put o.dst v') w') : wpList P ops Q (o :: rest) a w :=
  wpList_plain hgd fun _ hK => by
    unfold Oper.wp execOp
    simp only [ho, resolve, invoke, builtin, Sem.run_bind, Sem.run_pure, Result.andThen_ok, List.map_toArray, List.map_cons, List.map_nil, hd, hs, hr]
    exact hK _ _ h
theorem step_copy_runE {P : Program} {ops : Array Oper} {o : Oper} {a : Act} {w : World} {K : Act → World → Prop} {Q : Exit → Act → World → Prop} {E : Prop}
    (hg : o.guard = none) (d x : Operand) (dT sT : TypeId) (hop : o.op = Op.call { callee := Callee.builtin Builtin.copy, args := #[d, x], argTypes := #[dT, sT] })
    (v u : Value) (hd : a.eval d = v) (hx : a.eval x = u) {v' : Value} {w' : World} (hr : (Builtin.copy_ #[dT, sT] o.type #[v, u]).run P w = .ok v' w') (hK : K (a.put o.dst v') w') :
    if Region.wanted o (yielded ops a.tmps) = true then Oper.wp P o a w K Q else E := by
  have hw : Region.wanted o (yielded ops a.tmps) = true := by simp [Region.wanted, hg]
  rw [if_pos hw]
  unfold Oper.wp
  simp [execOp, hop, resolve, invoke, builtin, hd, hx, hr, Result.andThen]
  exact hK
end Go.Proofs.YtjejkadaafmdcaaGreat
