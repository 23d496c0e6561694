/- Moves again: the list that is handed back lies in a new block. -/
import Derived.Test.YtkiogciokngjfaaTopMoves
import Derived.Maps.AppendAt
set_option linter.unusedVariables false
set_option linter.unusedSimpArgs false
namespace Go.Proofs.Ytkiogciokngjfaa
open Go.RowKit Go.Sort FR
theorem OwnI.intsN {w : World} {B : Nat} {v : Value} {zs : List Int} (h : OwnI w B v zs) : ∃ A m, v = .slice A zs.length m ∧ Ints w A zs.length (fun k => zs.getD k 0) ∧ ∀ ad, A = some ad → B ≤ ad.block := by
  rcases h.2 with ⟨rfl, hn⟩ | ⟨g, cap, cur, rfl, hg, hh, hc, hm, hs, ht⟩
  · rw [hn]; exact ⟨none, 0, rfl, fun h => absurd h (by omega), fun ad h => by cases h⟩
  · refine ⟨_, cap, rfl, fun _ => ⟨⟨g, 0, none⟩, rfl, (Array.getElem?_eq_some_iff.1 hh).1, fun k hk => ?_⟩, fun ad h => by injection h with h; rw [← h]; exact hg⟩
    refine World.ownsRow.cells h (g := g) rfl k _ ?_
    simp [List.getD, hk]
/-- a new list of numbers is handed back -/
def RetIntsN (w : World) (zs : List Int) (e : Ending) (w' : World) : Prop := ∃ A m, e = .returned (.slice A zs.length m) ∧ Ints w' A zs.length (fun k => zs.getD k 0) ∧ (∀ ad, A = some ad → w.heap.size ≤ ad.block) ∧ Below w.heap.size w w'
def RetInts2N (w : World) (zs : List Int) (e : Ending) (w' : World) : Prop := ∃ A m, e = .returned (.tuple #[.slice A zs.length m, .nilIface]) ∧ Ints w' A zs.length (fun k => zs.getD k 0) ∧ (∀ ad, A = some ad → w.heap.size ≤ ad.block) ∧ Below w.heap.size w w'
theorem ret_intsN {w w' : World} {v : Value} {zs : List Int} (h : OwnI w' w.heap.size v zs) (hb : Below w.heap.size w w') : RetIntsN w zs (.returned v) w' := by
  obtain ⟨A, m, rfl, hi, hf⟩ := h.intsN
  exact ⟨A, m, rfl, hi, hf, hb⟩
theorem ret_ints2N {w w' : World} {v : Value} {zs : List Int} (h : OwnI w' w.heap.size v zs) (hb : Below w.heap.size w w') : RetInts2N w zs (.returned (.tuple #[v, .nilIface])) w' := by
  obtain ⟨A, m, rfl, hi, hf⟩ := h.intsN
  exact ⟨A, m, rfl, hi, hf, hb⟩
theorem wpList_append_int2 {ops : Array Oper} {rest : List Oper} {o : Oper} {a : Act} {Q : Exit → Act → World → Prop} (w : World) (hgd : o.guard = none) (s x : Operand)
    (ho : o.op = .call { callee := .builtin .append, args := #[s, x], argTypes := #[33, 33] })
    (B : Nat) (v : Value) (zs : List Int) (z : Int) (hs : a.eval s = v) (hown : OwnI w B v zs) (ad : Addr) (hx : a.eval x = .slice (some ad) 1 1) (hc : w.cell? ad = some (.int .i64 z))
    (hl : zs.length < 1099511627776) (hB : B ≤ w.heap.size)
    (h : ∀ v' w', OwnI w' B v' (zs ++ [z]) → w.grownBy w' v.ownBlock → (v'.ownBlock = v.ownBlock ∨ v'.ownBlock = some w.heap.size) → wpList Try.prog ops Q rest (a.put o.dst v') w') : wpList Try.prog ops Q (o :: rest) a w := by
  obtain ⟨i0, hi, hz0, hz1, hz2⟩ := info_parts int_info
  refine wpList_append_own_at w hgd s x 33 ho B 3 i0 (.int .i64 0) 1 8 Try.underlying33 hi hz0 hz1 hz2 rfl (by decide) v zs.length (zs.map (Value.int .i64)) hs hown ad 1 1 [.int .i64 z] hx rfl ?_ ?_ ?_ ?_ hB ?_
  · intro j u hu
    cases j with
    | zero => simp at hu; subst hu; simpa [Addr.add] using hc
    | succ j => simp at hu
  · intro u hu; simp at hu; subst hu; rfl
  · unfold maxLen; omega
  · omega
  · intro v' w' h1 h2 _ h4
    refine h v' w' ?_ h2 h4
    unfold OwnI
    simpa using h1
/-- numbers that lie apart from what is written -/
theorem Ints.kept {S : List Nat} {w w' : World} {A : Option Addr} {n : Nat} {f : Nat → Int} (h : Ints w A n f) (hk : Kept S w w') (hS : ∀ ad, A = some ad → ad.block ∉ S) : Ints w' A n f := by
  intro hn
  obtain ⟨ad, h1, h2, h3⟩ := h hn
  exact ⟨ad, h1, Nat.lt_of_lt_of_le h2 hk.size, fun k hk' => by
    have e : w'.cell? (ad.add k) = w.cell? (ad.add k) := World.cell?_of_block (by rw [add_block]; exact hk.block _ h2 (hS ad h1))
    rw [e]; exact h3 k hk'⟩
set_option maxHeartbeats 800000 in
theorem rMovesN (w : World) (p : Nat) (g : G) (v : Int) (c : Nat) (h : RGridAt w p g v) (hc : c < g.n) :
    Calls Try.prog 85 #[.pointer (some ⟨p, 0, none⟩), .int .i64 (c : Nat)] w (RetIntsN w (movesI g c)) := by
  have hin := inPG h.1 hc
  have hp := Lib.hid h.lt
  obtain ⟨o1, o2, o3, o4⟩ := h.1
  have hn := G.n_le h.1
  have eX : (c : Int) % g.w = (g.X c : Nat) := by unfold G.X; simp
  have eY : (c : Int) / g.w = (g.Y c : Nat) := by unfold G.Y; simp
  have hY := G.Y_lt hc
  have q1 : 0 ≤ (c : Int) / g.w := by omega
  have q2 : (c : Int) / g.w ≤ 256 := by omega
  have hf := Lib.hid (And.intro eX eY)
  clear eX eY
  go_enter Try.func85, Try.ntmps85
  go_wp2_with fail
  go_loopw [5, 6] (fun l i wr => ∃ k : Nat, k ≤ 8 ∧ i = .int .i64 k ∧ OwnI wr w.heap.size l (upTo (g.mayC c) k) ∧ Below w.heap.size w wr) (fun _ i _ => 8 - (intOf i).toNat)
  case atStart => exact ⟨0, by omega, rfl, OwnI.nil _ _, Below.refl _ _⟩
  case round =>
    obtain ⟨k, hk, rfl, hown, HB⟩ := hrel
    have hl := upTo_len (g.mayC c) k
    by_cases hlt : k < 8
    · have hR := h.below HB hp.out
      have s1 := hR.size.1
      have s2 := cell_regrown s1
      go_wp2_with fail
      refine wp_region_quiet_below (by kernel_rfl) (by kernel_rfl) ?_
      repeat (first | go_big_quiet_step ((with_reducible exact Calls.regrown_of (rMay_eq _ p g v c k _ _ (h.below (HB.trans ((below_regrown wr _ _).mono HB.size)) hp.out) hlt hin hf.out.1 hf.out.2))) | quiet_step ((with_reducible exact Calls.regrown_of (rMay_eq _ p g v c k _ _ (h.below (HB.trans ((below_regrown wr _ _).mono HB.size)) hp.out) hlt hin hf.out.1 hf.out.2))))
      refine wpQuiet_nil ?_
      intro _ hw'
      obtain ⟨⟨dq, osq⟩, hw''⟩ := hw'
      have HB2 := bel_trans HB (below_regrown wr dq osq)
      have hb2 := below_regrown wr dq osq
      subst hw''
      generalize grow (redrawn wr dq) osq = w2 at HB2 hb2 ⊢
      clear s1 s2
      have hown2 : OwnI w2 w.heap.size _ _ := hown.below (B' := 0) hb2
      have hz2 := HB2.size
      cases hm : g.mayC c k with
      | false =>
        have e := Lib.hid (upTo_no (p := g.mayC c) hm)
        clear hm
        go_wp2
        go_roundw
        case rel => exact ⟨k + 1, by omega, by go_num, by rw [e.out]; exact hown2, HB2⟩
        case measure => simp [intOf]; omega
      | true =>
        have e := Lib.hid (upTo_yes (p := g.mayC c) hm)
        clear hm
        go_wp2_with (at_builtin; refine wpList_append_int _ rfl _ _ rfl w.heap.size _ _ _ rfl (hown2.alloc _) ⟨w2.heap.size, 0, none⟩ rfl (cell1_new _ _ _) (by omega) (by simp; omega) ?_; intro v' w3 hown3 hgrow)
        have HB3 := below_grown (HB2.alloc (by omega) _) (by simp; omega) (hown2.alloc _) hgrow
        go_wp2
        go_roundw
        case rel => exact ⟨k + 1, by omega, by go_num, by rw [e.out]; exact hown3, HB3⟩
        case measure => simp [intOf]; omega
    · obtain rfl : k = 8 := by omega
      go_wp2
      go_ret
      exact ret_intsN hown HB
set_option maxHeartbeats 800000 in
theorem gridMovesN (w : World) (p : Nat) (g : G) (v : Int) (c : Nat) (h : GridAt w p g v) (hc : c < g.n) :
    Calls Try.prog 81 #[.pointer (some ⟨p, 0, none⟩), .int .i64 (c : Nat)] w (RetInts2N w (movesI g c)) := by
  have hin := inPG h.1 hc
  have hp := Lib.hid h.lt
  go_enter Try.func81, Try.ntmps81
  go_wp2_with fail
  refine (gridPlace_in w p g v c h hc).mono ?_
  rintro e w1 ⟨rfl, hb1⟩
  go_wp2_with fail
  have hs1 := hb1.size
  go_loopw [9, 21] (fun l i wr => ∃ k : Nat, k ≤ 8 ∧ i = .int .i64 k ∧ OwnI wr w.heap.size l (upTo (g.mayC c) k) ∧ Below w.heap.size w wr) (fun _ i _ => 8 - (intOf i).toNat)
  case atStart => exact ⟨0, by omega, rfl, OwnI.nil _ _, hb1⟩
  case round =>
    obtain ⟨k, hk, rfl, hown, HB⟩ := hrel
    have hl := upTo_len (g.mayC c) k
    by_cases hlt : k < 8
    · go_wp2_with fail
      refine (gridMay _ p g v _ _ k (h.below HB hp.out) hlt hin.1 hin.2).mono ?_
      rintro e w2 ⟨rfl, hb2⟩
      have HB2 := bel_trans HB hb2
      have hown2 := hown.below (B' := 0) hb2
      have hz2 := HB2.size
      cases hm : g.may (g.X c : Nat) (g.Y c : Nat) k with
      | false =>
        have e := Lib.hid (upTo_no (p := g.mayC c) hm)
        clear hm
        go_wp2
        go_roundw
        case rel => exact ⟨k + 1, by omega, by go_num, by rw [e.out]; exact hown2, HB2⟩
        case measure => simp [intOf]; omega
      | true =>
        have e := Lib.hid (upTo_yes (p := g.mayC c) hm)
        clear hm
        go_wp2_with (at_builtin; (refine wpList_append_int _ rfl _ _ rfl w.heap.size _ _ _ rfl (hown2.alloc _) ⟨w2.heap.size, 0, none⟩ rfl (cell1_new _ _ _) (by omega) (by simp; omega) ?_); intro v' w3 hown3 hgrow)
        have HB3 := below_grown (HB2.alloc (by omega) _) (by simp; omega) (hown2.alloc _) hgrow
        go_wp2
        go_roundw
        case rel => exact ⟨k + 1, by omega, by go_num, by rw [e.out]; exact hown3, HB3⟩
        case measure => simp [intOf]; omega
    · obtain rfl : k = 8 := by omega
      go_wp2
      go_ret2
      exact ret_ints2N hown HB
end Go.Proofs.Ytkiogciokngjfaa
