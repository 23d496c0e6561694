/- The law FloodSays: for any plot, any cell and any way, it returns true. -/
import Derived.Test.YtjejkadaafmdcaaGreatGE
import Derived.Laws.CopyOwn
import Derived.Laws.Tables
set_option linter.unusedVariables false
set_option linter.unusedSimpArgs false
namespace Go.Proofs.YtjejkadaafmdcaaGreat
open Go.RowKit Go.Sort FR
/-- what the document's flood says is what the program's one does -/
theorem flood_same {g : G} {fr : Nat} {done : Nat → Option C} {back : Nat → Option Nat} {c : Nat → C} {is : Nat → Bool} (hO : FloodOk g.E fr g.n done back) (hF : FloodIs g fr c is) (t : Nat) :
    (is t = (done t).isSome) ∧ ∀ x, done t = some x → c t = x := by
  cases hd : done t with
  | none =>
    refine ⟨?_, fun x h => by cases h⟩
    cases hi : is t with
    | false => rfl
    | true => exact absurd ((hF t).1 hi).1.1 (hO.out t hd _)
  | some x =>
    have hD := hO.in_ t x hd
    cases hi : is t with
    | false => exact absurd hD.1 ((hF t).2 hi x)
    | true => exact ⟨rfl, fun y h => by injection h with h; rw [← h]; exact ((hF t).1 hi).1.unique hD⟩
theorem same_errV (k : Nat) (w : World) : Calls Tryz.prog 13 #[errV k, .int .i64 (k : Nat)] w fun e w' => e = .returned (.bool true) ∧ w = w' := by
  unfold errV
  by_cases h : k = 0
  · subst h; rw [if_pos rfl]; exact same_ok w
  · rw [if_neg h]; exact same_bad _ w (by omega)
/-- the closed fact -/
theorem from31 {done : Nat → Option C} {back : Nat → Option Nat} (H : FloodOk (G.E ⟨3, 1, fun _ => false⟩) 0 (G.n ⟨3, 1, fun _ => false⟩) done back) : done 2 = some ⟨2, 0⟩ ∧ cntS done (G.n ⟨3, 1, fun _ => false⟩) = 3 := by
  have hn : G.n ⟨3, 1, fun _ => false⟩ = 3 := by decide
  have e01 : G.E ⟨3, 1, fun _ => false⟩ 0 1 ⟨1, 0⟩ := ⟨by decide, 2, by decide, by decide +kernel, by decide +kernel, by decide⟩
  have e12 : G.E ⟨3, 1, fun _ => false⟩ 1 2 ⟨1, 0⟩ := ⟨by decide, 2, by decide, by decide +kernel, by decide +kernel, by decide⟩
  have w01 : Walk (G.E ⟨3, 1, fun _ => false⟩) 0 1 ⟨1, 0⟩ := Walk.single e01
  have w02 : Walk (G.E ⟨3, 1, fun _ => false⟩) 0 2 ⟨2, 0⟩ := by have := w01.snoc e12; exact this
  have ho : G.oct ⟨3, 1, fun _ => false⟩ 0 2 = ⟨2, 0⟩ := by decide +kernel
  have d02 : Dist (G.E ⟨3, 1, fun _ => false⟩) 0 2 ⟨2, 0⟩ := ⟨w02, fun d h => by have := G.oct_le h; rwa [ho] at this⟩
  have s : ∀ t c, Walk (G.E ⟨3, 1, fun _ => false⟩) 0 t c → (done t).isSome = true := by
    intro t c hw
    cases hd : done t with
    | none => exact absurd hw (H.out t hd c)
    | some x => rfl
  refine ⟨?_, ?_⟩
  · cases hd : done 2 with
    | none => exact absurd w02 (H.out 2 hd _)
    | some x => rw [(H.in_ 2 x hd).unique d02]
  · rw [hn]
    unfold cntS cntN
    simp [sumN, s 0 _ (.nil 0), s 1 _ w01, s 2 _ w02]
theorem run_storeCells_row {P : Program} (w : World) (g : Nat) (t ty : TypeId) (old cells : Array Value) (hg : w.heap[g]? = some (.cells old t (0, 0))) (hi : (P.info? ty).map (·.size) = some cells.size) (ho : old.size = cells.size) (h1 : cells.all (·.oneCell') = true) :
    (storeCells ⟨g, 0, none⟩ cells.toList).run P w = .ok () (w.setRow g cells) := by
  have := run_storeVar_row (P := P) w g t ty old cells hg hi ho h1
  cases hq : P.info? ty with
  | none => simp [hq] at hi
  | some i =>
    have hs : cells.size = i.size := by simp [hq] at hi; omega
    simpa [storeVar, sizeOf, typeInfo, hq, Value.cells, hs] using this
theorem setRow_else (w : World) (g k : Nat) (cs : Array Value) (h : k ≠ g) : (w.setRow g cs).heap[k]? = w.heap[k]? := by
  simp [World.setRow, Array.getElem?_modify, Ne.symm h]
/-- two arrays are laid into two variables that are new -/
theorem two_arrays (w : World) (Z1 Z2 : Array Value) (z1 : Z1.size = 512) (z2 : Z2.size = 256) (o1 : Z1.all (·.oneCell') = true) (o2 : Z2.all (·.oneCell') = true) :
    ∃ W1 W2, (storeCells ⟨w.heap.size, 0, none⟩ Z1.toList).run Tryz.prog ((w.alloc (.cells Tryz.zeroCells83 83)).alloc (.cells Tryz.zeroCells31 31)) = .ok () W1 ∧
      (storeCells ⟨w.heap.size + 1, 0, none⟩ Z2.toList).run Tryz.prog W1 = .ok () W2 ∧ W2.heap[w.heap.size]? = some (.cells Z1 83 (0, 0)) ∧ W2.heap[w.heap.size + 1]? = some (.cells Z2 31 (0, 0)) ∧ Below w.heap.size w W2 := by
  have s1 : (Tryz.prog.info? 83).map (·.size) = some Z1.size := by rw [z1]; kernel_rfl
  have s2 : (Tryz.prog.info? 31).map (·.size) = some Z2.size := by rw [z2]; kernel_rfl
  have q1 : (Tryz.zeroCells83).size = Z1.size := by rw [zero_costs, rowOf_size, z1]
  have q2 : (Tryz.zeroCells31).size = Z2.size := by rw [zero_bools, rowOf_size, z2]
  have hb : Below w.heap.size w ((w.alloc (.cells Tryz.zeroCells83 83)).alloc (.cells Tryz.zeroCells31 31)) := by (repeat' (first | exact Below.refl _ _ | assumption | apply bel_drewN | apply bel_drew | apply bel_alloc | (refine bel_trans ?_ (by assumption))))
  have h1 : ((w.alloc (.cells Tryz.zeroCells83 83)).alloc (.cells Tryz.zeroCells31 31)).heap[w.heap.size]? = some (.cells Tryz.zeroCells83 83 (0, 0)) := alloc_old _ _ (by simp) (alloc_at _ _ rfl)
  have h2 : ((w.alloc (.cells Tryz.zeroCells83 83)).alloc (.cells Tryz.zeroCells31 31)).heap[w.heap.size + 1]? = some (.cells Tryz.zeroCells31 31 (0, 0)) := alloc_at _ _ (by simp)
  generalize (w.alloc (.cells Tryz.zeroCells83 83)).alloc (.cells Tryz.zeroCells31 31) = W at *
  have h3 : (W.setRow w.heap.size Z1).heap[w.heap.size + 1]? = some (.cells Tryz.zeroCells31 31 (0, 0)) := by rw [setRow_else _ _ _ _ (by omega)]; exact h2
  refine ⟨_, _, run_storeCells_row W w.heap.size _ _ _ Z1 h1 s1 q1 o1, run_storeCells_row _ (w.heap.size + 1) _ _ _ Z2 h3 s2 q2 o2, ?_, setRow_heap _ _ _ _ _ _ h3, ?_⟩
  · rw [setRow_else _ _ _ _ (by omega)]; exact setRow_heap _ _ _ _ _ _ h1
  · exact below_setRow (below_setRow hb (Nat.le_refl _) _) (by omega) _
theorem add_zero' (a : Addr) : a.add 0 = a := by
  obtain ⟨b, o, s⟩ := a
  cases s <;> simp [Addr.add]
theorem cntS_succ (d : Nat → Option C) (n : Nat) : cntS d (n + 1) = cntS d n + if (d n).isSome then 1 else 0 := rfl
theorem way_ends {fr c : Nat} {back : Nat → Option Nat} {l : List Nat} (hw : BackWay back c l) (hl : ∃ l', l = l' ++ [fr]) :
    0 < l.length ∧ (l.reverse.map fun n : Nat => (n : Int)).getD 0 0 = (fr : Nat) ∧ (l.reverse.map fun n : Nat => (n : Int)).getD (l.length - 1) 0 = (c : Nat) := by
  have hpos : 0 < l.length := (List.getElem?_eq_some_iff.1 hw.1).1
  obtain ⟨l', e⟩ := hl
  refine ⟨hpos, ?_, ?_⟩
  · rw [e]; simp
  · rw [List.getD_eq_getElem?_getD, List.getElem?_map, List.getElem?_reverse (by omega), show l.length - 1 - (l.length - 1) = 0 by omega, hw.1]; rfl
/-- what holds at a round's head -/
def FsI (W : World) (done : Nat → Option C) (kk : Nat) (many : Int) (wr : World) : Prop := many = (cntS done (kk - 1) : Nat) ∧ Below W.heap.size W wr
end Go.Proofs.YtjejkadaafmdcaaGreat
