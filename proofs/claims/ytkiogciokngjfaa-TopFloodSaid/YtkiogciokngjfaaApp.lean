/- Slices of numbers that a call makes by append. -/
import Derived.Test.YtkiogciokngjfaaLaid
import Derived.Laws.OwnMore
import Derived.OwnWalk
import Derived.WalkSpells
set_option linter.unusedVariables false
set_option linter.unusedSimpArgs false
namespace Go.Proofs.Ytkiogciokngjfaa
open Go.RowKit Go.Sort FR
/-- slice v owns its cells (from block B on), and they are the numbers zs -/
def OwnI (w : World) (B : Nat) (v : Value) (zs : List Int) : Prop := w.ownsRow B 3 1 v zs.length (zs.map (Value.int .i64))
theorem OwnI.nil (w : World) (B : Nat) : OwnI w B (.slice none 0 0) [] := ⟨rfl, .inl ⟨rfl, rfl⟩⟩
theorem OwnI.below {w w' : World} {B B' : Nat} {v : Value} {zs : List Int} (h : OwnI w B v zs) (hb : Below w.heap.size w w') : OwnI w' B v zs :=
  World.ownsRow.kept (row := none) h ⟨hb.os, hb.tape, hb.output, hb.size, fun k hk _ => hb.block k hk⟩ (by cases hv : v.ownBlock <;> simp)
theorem OwnI.ints {w : World} {B : Nat} {v : Value} {zs : List Int} (h : OwnI w B v zs) : ∃ A m, v = .slice A zs.length m ∧ Ints w A zs.length (fun k => zs.getD k 0) := by
  rcases h.2 with ⟨rfl, hn⟩ | ⟨g, cap, cur, rfl, hg, hh, hc, hm, hs, ht⟩
  · rw [hn]; exact ⟨none, 0, rfl, fun h => absurd h (by omega)⟩
  · refine ⟨_, cap, rfl, fun _ => ⟨⟨g, 0, none⟩, rfl, (Array.getElem?_eq_some_iff.1 hh).1, fun k hk => ?_⟩⟩
    refine World.ownsRow.cells h (g := g) rfl k _ ?_
    simp [List.getD, hk]
theorem int_info : (Try.prog.info? 3).map (fun i => (i.zero, i.size, i.bytes)) = some (some (.int .i64 0), 1, 8) := by kernel_rfl
theorem wpList_append_int {ops : Array Oper} {rest : List Oper} {o : Oper} {a : Act} {Q : Exit → Act → World → Prop} (w : World) (hgd : o.guard = none) (s x : Operand)
    (ho : o.op = .call { callee := .builtin .append, args := #[s, x], argTypes := #[33, 33] })
    (B : Nat) (v : Value) (zs : List Int) (z : Int) (hs : a.eval s = v) (hown : OwnI w B v zs) (ad : Addr) (hx : a.eval x = .slice (some ad) 1 1) (hc : w.cell? ad = some (.int .i64 z))
    (hl : zs.length < 1099511627776) (hB : B ≤ w.heap.size)
    (h : ∀ v' w', OwnI w' B v' (zs ++ [z]) → w.grownBy w' v.ownBlock → wpList Try.prog ops Q rest (a.put o.dst v') w') : wpList Try.prog ops Q (o :: rest) a w := by
  obtain ⟨i0, hi, hz0, hz1, hz2⟩ := info_parts int_info
  refine wpList_append_own w hgd s x 33 ho B 3 i0 (.int .i64 0) 1 8 Try.underlying33 hi hz0 hz1 hz2 rfl (by decide) v zs.length (zs.map (Value.int .i64)) hs hown ad 1 1 [.int .i64 z] hx rfl ?_ ?_ ?_ ?_ hB ?_
  · intro j u hu
    cases j with
    | zero => simp at hu; subst hu; simpa [Addr.add] using hc
    | succ j => simp at hu
  · intro u hu; simp at hu; subst hu; rfl
  · unfold maxLen; omega
  · omega
  · intro v' w' h1 h2 _
    refine h v' w' ?_ h2
    unfold OwnI
    simpa using h1
theorem cell1_new (w : World) (v : Value) (T : TypeId) : (w.alloc (.cells #[v] T)).cell? ⟨w.heap.size, 0, none⟩ = some v := by go_simp
theorem OwnI.alloc {w : World} {B : Nat} {v : Value} {zs : List Int} (h : OwnI w B v zs) (o : Obj) : OwnI (w.alloc o) B v zs := World.ownsRow.alloc h o
theorem below_grown {B : Nat} {W w w' : World} {v : Value} {zs : List Int} (hB : Below B W w) (hs : B ≤ w.heap.size) (h : OwnI w B v zs) (hg : w.grownBy w' v.ownBlock) : Below B W w' :=
  hB.grown hg hs (fun k hk => (World.ownsRow.lt h k hk).1)
def upTo (p : Nat → Bool) (k : Nat) : List Int := ((List.range k).filter p).map (fun d : Nat => (d : Int))
theorem upTo_yes {p : Nat → Bool} {k : Nat} (h : p k = true) : upTo p (k + 1) = upTo p k ++ [(k : Int)] := by simp [upTo, List.range_succ, List.filter_append, h]
theorem upTo_no {p : Nat → Bool} {k : Nat} (h : p k = false) : upTo p (k + 1) = upTo p k := by simp [upTo, List.range_succ, List.filter_append, h]
theorem upTo_len (p : Nat → Bool) (k : Nat) : (upTo p k).length ≤ k := by
  unfold upTo; rw [List.length_map]; exact Nat.le_trans (List.length_filter_le _ _) (by simp)
/-- a list of numbers is handed back -/
def RetInts (w : World) (zs : List Int) (e : Ending) (w' : World) : Prop := ∃ A m, e = .returned (.slice A zs.length m) ∧ Ints w' A zs.length (fun k => zs.getD k 0) ∧ Below w.heap.size w w'
/-- .. and no error -/
def RetInts2 (w : World) (zs : List Int) (e : Ending) (w' : World) : Prop := ∃ A m, e = .returned (.tuple #[.slice A zs.length m, .nilIface]) ∧ Ints w' A zs.length (fun k => zs.getD k 0) ∧ Below w.heap.size w w'
theorem ret_ints {w w' : World} {B : Nat} {v : Value} {zs : List Int} (h : OwnI w' B v zs) (hb : Below w.heap.size w w') : RetInts w zs (.returned v) w' := by
  obtain ⟨A, m, rfl, hi⟩ := h.ints
  exact ⟨A, m, rfl, hi, hb⟩
theorem ret_ints2 {w w' : World} {B : Nat} {v : Value} {zs : List Int} (h : OwnI w' B v zs) (hb : Below w.heap.size w w') : RetInts2 w zs (.returned (.tuple #[v, .nilIface])) w' := by
  obtain ⟨A, m, rfl, hi⟩ := h.ints
  exact ⟨A, m, rfl, hi, hb⟩
/-- the moves from a cell -/
def movesI (g : G) (c : Nat) : List Int := upTo (g.mayC c) 8
theorem movesI_eq (g : G) (c : Nat) : movesI g c = (g.moves c).map (fun d : Nat => (d : Int)) := rfl
def InPG (g : G) (c : Nat) : Prop := inP (g.X c : Nat) ∧ inP (g.Y c : Nat)
theorem inPG {g : G} (h : g.ok) {c : Nat} (hc : c < g.n) : InPG g c := by
  have h1 := G.X_lt h c
  have h2 := G.Y_lt hc
  obtain ⟨_, o2, _, o4⟩ := h
  unfold InPG inP; omega
set_option maxHeartbeats 800000 in
theorem gridMoves (w : World) (p : Nat) (g : G) (v : Int) (c : Nat) (h : GridAt w p g v) (hc : c < g.n) :
    Calls Try.prog 81 #[.pointer (some ⟨p, 0, none⟩), .int .i64 (c : Nat)] w (RetInts2 w (movesI g c)) := by
  have hin := inPG h.1 hc
  have hp := Lib.hid h.lt
  go_enter Try.func81, Try.ntmps81
  go_wp2_with fail
  refine (gridPlace_in w p g v c h hc).mono ?_
  rintro e w1 ⟨rfl, hb1⟩
  go_wp2_with fail
  have hs1 := hb1.size
  go_loopw [9, 21] (fun l i wr => ∃ k : Nat, k ≤ 8 ∧ i = .int .i64 k ∧ OwnI wr w.heap.size l (upTo (g.mayC c) k) ∧ Below w.heap.size w wr) (fun _ i _ => 8 - (intOf i).toNat)
  case atStart => exact ⟨0, by omega, rfl, OwnI.nil _ _, hb1⟩
  case round =>
    obtain ⟨k, hk, rfl, hown, HB⟩ := hrel
    have hl := upTo_len (g.mayC c) k
    by_cases hlt : k < 8
    · go_wp2_with fail
      refine (gridMay _ p g v _ _ k (h.below HB hp.out) hlt hin.1 hin.2).mono ?_
      rintro e w2 ⟨rfl, hb2⟩
      have HB2 := bel_trans HB hb2
      have hown2 := hown.below (B' := 0) hb2
      have hz2 := HB2.size
      cases hm : g.may (g.X c : Nat) (g.Y c : Nat) k with
      | false =>
        have e := Lib.hid (upTo_no (p := g.mayC c) hm)
        clear hm
        go_wp2
        go_roundw
        case rel => exact ⟨k + 1, by omega, by go_num, by rw [e.out]; exact hown2, HB2⟩
        case measure => simp [intOf]; omega
      | true =>
        have e := Lib.hid (upTo_yes (p := g.mayC c) hm)
        clear hm
        go_wp2_with (at_builtin; (refine wpList_append_int _ rfl _ _ rfl w.heap.size _ _ _ rfl (hown2.alloc _) ⟨w2.heap.size, 0, none⟩ rfl (cell1_new _ _ _) (by omega) (by simp; omega) ?_); intro v' w3 hown3 hgrow)
        have HB3 := below_grown (HB2.alloc (by omega) _) (by simp; omega) (hown2.alloc _) hgrow
        go_wp2
        go_roundw
        case rel => exact ⟨k + 1, by omega, by go_num, by rw [e.out]; exact hown3, HB3⟩
        case measure => simp [intOf]; omega
    · obtain rfl : k = 8 := by omega
      go_wp2
      go_ret2
      exact ret_ints2 hown HB
end Go.Proofs.Ytkiogciokngjfaa
