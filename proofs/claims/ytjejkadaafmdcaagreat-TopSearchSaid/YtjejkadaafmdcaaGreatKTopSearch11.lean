/- Lemmas of this claim: TopMoves, Fresh, CornerSays, AsGrid, GridSays. -/
import Derived.Test.YtjejkadaafmdcaaGreatKTopSearch8
import Derived.Test.YtjejkadaafmdcaaGreatKTopSearch4
import Derived.Deep.Cut
import Derived.Maps.AppendAt
import Derived.Deep.DeepCutAuto
import Derived.Deep.RegionWith
import Derived.BigRegion
set_option linter.unusedVariables false
set_option linter.unusedSimpArgs false
/- The law TopMoves: for any plot it returns true: who may go may come back. -/
namespace Go.Proofs.YtjejkadaafmdcaaGreat
open Go.RowKit Go.Sort FR
theorem upTo_get {p : Nat → Bool} {n k : Nat} (h : k < (upTo p n).length) : ∃ d : Nat, (upTo p n).getD k 0 = (d : Int) ∧ d < n ∧ p d = true := by
  have e : (upTo p n).getD k 0 = (upTo p n)[k] := by simp [List.getD, h]
  rw [e]
  have hm : (upTo p n)[k] ∈ upTo p n := List.getElem_mem h
  generalize (upTo p n)[k] = z at hm ⊢
  unfold upTo at hm
  rw [List.mem_map] at hm
  obtain ⟨d, hd, rfl⟩ := hm
  rw [List.mem_filter, List.mem_range] at hd
  exact ⟨d, rfl, hd.1, hd.2⟩
theorem upTo_has {p : Nat → Bool} {n d : Nat} (hd : d < n) (hp : p d = true) : ∃ k, k < (upTo p n).length ∧ (upTo p n).getD k 0 = (d : Int) := by
  have hm : (d : Int) ∈ upTo p n := by
    unfold upTo; rw [List.mem_map]; exact ⟨d, by rw [List.mem_filter, List.mem_range]; exact ⟨hd, hp⟩, rfl⟩
  obtain ⟨k, hk, e⟩ := List.getElem_of_mem hm
  exact ⟨k, hk, by simp [List.getD, hk, e]⟩
theorem to_eq {g : G} {c d : Nat} (h : g.mayC c d = true) : g.toI c d = (g.to c d : Nat) ∧ g.to c d < g.n := by
  have hl := G.mayC_lt h
  refine ⟨?_, hl⟩
  obtain ⟨a, b, e⟩ := G.mayC_to h
  unfold G.to
  unfold G.mayC at h
  have hm := (G.may_iff.1 h).2.1
  obtain ⟨⟨h1, h2, h3, h4⟩, _⟩ := G.op_iff.1 hm
  have := G.to_place (g := g) (c := c) (d := d) h1 h2 h3
  have hnn : 0 ≤ g.toI c d := by
    unfold G.toI
    have e := G.XY g c
    have e' : (c : Int) = (g.Y c : Int) * g.w + g.X c := by rw [← Int.natCast_mul, ← Int.natCast_add, e]
    have q : 0 ≤ ((g.Y c : Int) + dyN d) * g.w := Int.mul_nonneg h3 (by omega)
    rw [Int.add_mul] at q
    omega
  omega
theorem May_eq (w : World) (p : Nat) (g : G) (v x y : Int) (d : Nat) (t : Bool) (h : GridAt w p g v) (hd : d < 8) (hx : inP x) (hy : inP y) (e : g.may x y d = t) :
    Calls Tryz.prog 96 #[.pointer (some ⟨p, 0, none⟩), .int .i64 x, .int .i64 y, .int .i64 (d : Nat)] w fun e w' => e = .returned (.bool t) ∧ Below w.heap.size w w' := by
  rw [← e]; exact gridMay w p g v x y d h hd hx hy
/-- an element of a slice of numbers, in every later world -/
theorem Ints.cell {w w' : World} {ad : Addr} {n : Nat} {f : Nat → Int} (h : Ints w (some ad) n f) (hb : Below w.heap.size w w') {k : Nat} (hk : k < n) : w'.cell? (ad.add k) = some (.int .i64 (f k)) := by
  obtain ⟨ad', e, h2, h3⟩ := h (by omega)
  cases e
  exact (hb.cell (p := ad.add k) (by rw [add_block]; exact h2)).trans (h3 k hk)
theorem Ints.addr {w : World} {A : Option Addr} {n : Nat} {f : Nat → Int} (h : Ints w A n f) (hn : 0 < n) : ∃ ad, A = some ad := by
  obtain ⟨ad, e, _⟩ := h hn
  exact ⟨ad, e⟩
theorem idx_run {A : Option Addr} {ad : Addr} {n m k : Nat} (h : A = some ad) (hk : k < n) (wx : World) : (Instr.indexAt 22 (.slice A n m) (.int .i64 (k : Nat))).run Tryz.prog wx = .ok (.pointer (some (ad.add k))) wx := by
  subst h
  have q : (k : Int) < (n : Int) := by omega
  go_simp
end Go.Proofs.YtjejkadaafmdcaaGreat
/- Moves again: the list that is handed back lies in a new block. -/
namespace Go.Proofs.YtjejkadaafmdcaaGreat
open Go.RowKit Go.Sort FR
theorem OwnI.intsN {w : World} {B : Nat} {v : Value} {zs : List Int} (h : OwnI w B v zs) : ∃ A m, v = .slice A zs.length m ∧ Ints w A zs.length (fun k => zs.getD k 0) ∧ ∀ ad, A = some ad → B ≤ ad.block := by
  rcases h.2 with ⟨rfl, hn⟩ | ⟨g, cap, cur, rfl, hg, hh, hc, hm, hs, ht⟩
  · rw [hn]; exact ⟨none, 0, rfl, fun h => absurd h (by omega), fun ad h => by cases h⟩
  · refine ⟨_, cap, rfl, fun _ => ⟨⟨g, 0, none⟩, rfl, (Array.getElem?_eq_some_iff.1 hh).1, fun k hk => ?_⟩, fun ad h => by injection h with h; rw [← h]; exact hg⟩
    refine World.ownsRow.cells h (g := g) rfl k _ ?_
    simp [List.getD, hk]
/-- a new list of numbers is handed back -/
def RetIntsN (w : World) (zs : List Int) (e : Ending) (w' : World) : Prop := ∃ A m, e = .returned (.slice A zs.length m) ∧ Ints w' A zs.length (fun k => zs.getD k 0) ∧ (∀ ad, A = some ad → w.heap.size ≤ ad.block) ∧ Below w.heap.size w w'
theorem ret_intsN {w w' : World} {v : Value} {zs : List Int} (h : OwnI w' w.heap.size v zs) (hb : Below w.heap.size w w') : RetIntsN w zs (.returned v) w' := by
  obtain ⟨A, m, rfl, hi, hf⟩ := h.intsN
  exact ⟨A, m, rfl, hi, hf, hb⟩
theorem wpList_append_int2 {ops : Array Oper} {rest : List Oper} {o : Oper} {a : Act} {Q : Exit → Act → World → Prop} (w : World) (hgd : o.guard = none) (s x : Operand)
    (ho : o.op = .call { callee := .builtin .append, args := #[s, x], argTypes := #[22, 22] })
    (B : Nat) (v : Value) (zs : List Int) (z : Int) (hs : a.eval s = v) (hown : OwnI w B v zs) (ad : Addr) (hx : a.eval x = .slice (some ad) 1 1) (hc : w.cell? ad = some (.int .i64 z))
    (hl : zs.length < 1099511627776) (hB : B ≤ w.heap.size)
    (h : ∀ v' w', OwnI w' B v' (zs ++ [z]) → w.grownBy w' v.ownBlock → (v'.ownBlock = v.ownBlock ∨ v'.ownBlock = some w.heap.size) → wpList Tryz.prog ops Q rest (a.put o.dst v') w') : wpList Tryz.prog ops Q (o :: rest) a w := by
  obtain ⟨i0, hi, hz0, hz1, hz2⟩ := info_parts int_info
  refine wpList_append_own_at w hgd s x 22 ho B 3 i0 (.int .i64 0) 1 8 Tryz.underlying22 hi hz0 hz1 hz2 rfl (by decide) v zs.length (zs.map (Value.int .i64)) hs hown ad 1 1 [.int .i64 z] hx rfl ?_ ?_ ?_ ?_ hB ?_
  · intro j u hu
    cases j with
    | zero => simp at hu; subst hu; simpa [Addr.add] using hc
    | succ j => simp at hu
  · intro u hu; simp at hu; subst hu; rfl
  · unfold maxLen; omega
  · omega
  · intro v' w' h1 h2 _ h4
    refine h v' w' ?_ h2 h4
    unfold OwnI
    simpa using h1
/-- numbers that lie apart from what is written -/
theorem Ints.kept {S : List Nat} {w w' : World} {A : Option Addr} {n : Nat} {f : Nat → Int} (h : Ints w A n f) (hk : Kept S w w') (hS : ∀ ad, A = some ad → ad.block ∉ S) : Ints w' A n f := by
  intro hn
  obtain ⟨ad, h1, h2, h3⟩ := h hn
  exact ⟨ad, h1, Nat.lt_of_lt_of_le h2 hk.size, fun k hk' => by
    have e : w'.cell? (ad.add k) = w.cell? (ad.add k) := World.cell?_of_block (by rw [add_block]; exact hk.block _ h2 (hS ad h1))
    rw [e]; exact h3 k hk'⟩
set_option maxHeartbeats 800000 in
theorem rMovesN (w : World) (p : Nat) (g : G) (v : Int) (c : Nat) (h : RGridAt w p g v) (hc : c < g.n) :
    Calls Tryz.prog 81 #[.pointer (some ⟨p, 0, none⟩), .int .i64 (c : Nat)] w (RetIntsN w (movesI g c)) := by
  have hin := inPG h.1 hc
  have hp := Lib.hid h.lt
  obtain ⟨o1, o2, o3, o4⟩ := h.1
  have hn := G.n_le h.1
  have eX : (c : Int) % g.w = (g.X c : Nat) := by unfold G.X; simp
  have eY : (c : Int) / g.w = (g.Y c : Nat) := by unfold G.Y; simp
  have hY := G.Y_lt hc
  have q1 : 0 ≤ (c : Int) / g.w := by omega
  have q2 : (c : Int) / g.w ≤ 256 := by omega
  have hf := Lib.hid (And.intro eX eY)
  clear eX eY
  go_enter Tryz.func81, Tryz.ntmps81
  go_wp2_with fail
  go_loopw [5, 6] (fun l i wr => ∃ k : Nat, k ≤ 8 ∧ i = .int .i64 k ∧ OwnI wr w.heap.size l (upTo (g.mayC c) k) ∧ Below w.heap.size w wr) (fun _ i _ => 8 - (intOf i).toNat)
  case atStart => exact ⟨0, by omega, rfl, OwnI.nil _ _, Below.refl _ _⟩
  case round =>
    obtain ⟨k, hk, rfl, hown, HB⟩ := hrel
    have hl := upTo_len (g.mayC c) k
    by_cases hlt : k < 8
    · have hR := h.below HB hp.out
      have s1 := hR.size.1
      have s2 := cell_regrown s1
      go_wp2_with fail
      refine wp_region_quiet_below (by kernel_rfl) (by kernel_rfl) ?_
      repeat (first | go_big_quiet_step ((with_reducible exact Calls.regrown_of (rMay_eq _ p g v c k _ _ (h.below (HB.trans ((below_regrown wr _ _).mono HB.size)) hp.out) hlt hin hf.out.1 hf.out.2))) | quiet_step ((with_reducible exact Calls.regrown_of (rMay_eq _ p g v c k _ _ (h.below (HB.trans ((below_regrown wr _ _).mono HB.size)) hp.out) hlt hin hf.out.1 hf.out.2))))
      refine wpQuiet_nil ?_
      intro _ hw'
      obtain ⟨⟨dq, osq⟩, hw''⟩ := hw'
      have HB2 := bel_trans HB (below_regrown wr dq osq)
      have hb2 := below_regrown wr dq osq
      subst hw''
      generalize grow (redrawn wr dq) osq = w2 at HB2 hb2 ⊢
      clear s1 s2
      have hown2 : OwnI w2 w.heap.size _ _ := hown.below (B' := 0) hb2
      have hz2 := HB2.size
      cases hm : g.mayC c k with
      | false =>
        have e := Lib.hid (upTo_no (p := g.mayC c) hm)
        clear hm
        go_wp2
        go_roundw
        case rel => exact ⟨k + 1, by omega, by go_num, by rw [e.out]; exact hown2, HB2⟩
        case measure => simp [intOf]; omega
      | true =>
        have e := Lib.hid (upTo_yes (p := g.mayC c) hm)
        clear hm
        go_wp2_with (at_builtin; refine wpList_append_int _ rfl _ _ rfl w.heap.size _ _ _ rfl (hown2.alloc _) ⟨w2.heap.size, 0, none⟩ rfl (cell1_new _ _ _) (by omega) (by simp; omega) ?_; intro v' w3 hown3 hgrow)
        have HB3 := below_grown (HB2.alloc (by omega) _) (by simp; omega) (hown2.alloc _) hgrow
        go_wp2
        go_roundw
        case rel => exact ⟨k + 1, by omega, by go_num, by rw [e.out]; exact hown3, HB3⟩
        case measure => simp [intOf]; omega
    · obtain rfl : k = 8 := by omega
      go_wp2
      go_ret
      exact ret_intsN hown HB
end Go.Proofs.YtjejkadaafmdcaaGreat
/- The law CornerSays: for any plot and any cell it returns true. -/
namespace Go.Proofs.YtjejkadaafmdcaaGreat
open Go.RowKit Go.Sort FR
def g33 : G := gset ⟨(3 : Int).toNat, (3 : Int).toNat, fun _ => false⟩ 4 true
theorem corners33 : cornersI g33 = [0, 2, 6, 8] := by decide +kernel
end Go.Proofs.YtjejkadaafmdcaaGreat
/- asGrid hands back true, of a grid and a reference's grid that have the same cells. -/
namespace Go.Proofs.YtjejkadaafmdcaaGreat
open Go.RowKit Go.Sort FR
theorem rTo_eq (w : World) (p : Nat) (g : G) (v : Int) (c d : Nat) (z : Int) (h : RGridAt w p g v) (hc : c < g.n) (hd : d < 8) (e : g.toI c d = z) :
    Calls Tryz.prog 82 #[.pointer (some ⟨p, 0, none⟩), .int .i64 (c : Nat), .int .i64 (d : Nat)] w fun e w' => e = .returned (.int .i64 z) ∧ Below w.heap.size w w' := by
  rw [← e]; exact rTo w p g v c d h hc hd
end Go.Proofs.YtjejkadaafmdcaaGreat
/- The law GridSays: for any size, and whatever cells are set, it returns true. -/
namespace Go.Proofs.YtjejkadaafmdcaaGreat
open Go.RowKit Go.Sort FR
theorem Bools.cell {w w' : World} {ad : Addr} {n : Nat} {f : Nat → Bool} (h : Bools w (some ad) n f) (hb : Below w.heap.size w w') {k : Nat} (hk : k < n) : w'.cell? (ad.add k) = some (.bool (f k)) := by
  obtain ⟨ad', e, h2, h3⟩ := h (by omega)
  cases e
  exact (hb.cell (p := ad.add k) (by rw [add_block]; exact h2)).trans (h3 k hk)
theorem Bools.addr {w : World} {A : Option Addr} {n : Nat} {f : Nat → Bool} (h : Bools w A n f) (hn : 0 < n) : ∃ ad, A = some ad := by
  obtain ⟨ad, e, _⟩ := h hn
  exact ⟨ad, e⟩
end Go.Proofs.YtjejkadaafmdcaaGreat
