/- Lemmas of this claim: CostSays, Open, CornerSays, TopMoves, AsGrid, Fresh, GridSays. -/
import Derived.Test.YtjejkadaafmdcaaGreatGB
import Derived.Test.YtjejkadaafmdcaaGreatRows
import Derived.Deep.Grids
import Derived.ProofKit
import Derived.OpenShut
import Derived.Lib.SmallJoins
import Derived.Deep.Cut
import Derived.Deep.DeepCutAuto
import Derived.Maps.AppendAt
import Derived.Deep.RegionWith
import Derived.BigRegion
set_option linter.unusedVariables false
set_option linter.unusedSimpArgs false
/- The law CostSays: for any two costs and any two places it returns true. -/
namespace Go.Proofs.YtjejkadaafmdcaaGreat
open Go.RowKit Go.Sort FR
theorem same_ok (w : World) : Calls Tryz.prog 13 #[.nilIface, .int .i64 0] w fun e w' => e = .returned (.bool true) ∧ w = w' := same_nil 0 w
theorem same_bad (k : Int) (w : World) (h : 0 < k) : Calls Tryz.prog 13 #[.iface 107 (.int .i64 k), .int .i64 k] w fun e w' => e = .returned (.bool true) ∧ w = w' := by
  have := same_err k k w h; simpa using this
theorem costLess_yes (a b c d : Int) (w : World) (h1 : inC a) (h2 : inC b) (h3 : inC c) (h4 : inC d) (h : C.lt ⟨a, b⟩ ⟨c, d⟩) :
    Calls Tryz.prog 72 #[.agg #[.int .i64 a, .int .i64 b], .agg #[.int .i64 c, .int .i64 d]] w fun e w' => e = .returned (.bool true) ∧ Below w.heap.size w w' := by
  have := costLess a b c d w h1 h2 h3 h4
  rwa [decide_eq_true (C.cmp_neg.2 h)] at this
/-- which of four numbers is the k-th -/
def nth4 (x y u v : Int) (k : Nat) : Int := if k = 0 then x else if k = 1 then y else if k = 2 then u else v
theorem cell4 (w : World) (T : TypeId) (x y u v : Int) (k : Nat) (h : k < 4) : (w.alloc (.cells #[.int .i64 x, .int .i64 y, .int .i64 u, .int .i64 v] T)).cell? ⟨w.heap.size, k, none⟩ = some (.int .i64 (nth4 x y u v k)) := by
  rcases (show k = 0 ∨ k = 1 ∨ k = 2 ∨ k = 3 from by omega) with rfl | rfl | rfl | rfl <;> go_simp <;> rfl
def inR (n : Int) : Prop := -1048576 ≤ n ∧ n ≤ 1048576
/-- the first k of four are within the reach -/
def fst4 (x y u v : Int) (k : Nat) : Prop := ∀ j, j < k → inR (nth4 x y u v j)
theorem fst4_succ {x y u v : Int} {k : Nat} (h : fst4 x y u v k) (h1 : -1048576 ≤ nth4 x y u v k) (h2 : nth4 x y u v k ≤ 1048576) : fst4 x y u v (k+1) := by
  intro j hj
  by_cases e : j = k
  · subst e; exact ⟨h1, h2⟩
  · exact h j (by omega)
end Go.Proofs.YtjejkadaafmdcaaGreat
/- How arguments of the laws read: plots, slices of numbers and of bools. -/
namespace Go.Proofs.YtjejkadaafmdcaaGreat
open Go.RowKit Go.Sort FR
open Go.ChangeShapes Go.WideShapes Go.ChangeAt Go.Joins
structure SlI (W : World) (A : Option Addr) (n : Nat) (f : Nat → Int) : Prop where
  ints : Ints W A n f
  len : n ≤ 9223372036854775807
  wf : ∀ k, -9223372036854775808 ≤ f k ∧ f k ≤ 9223372036854775807
/-- a slice of n bools, f k at place k -/
def Bools (w : World) (a : Option Addr) (n : Nat) (f : Nat → Bool) : Prop := 0 < n → ∃ ad, a = some ad ∧ ad.block < w.heap.size ∧ ∀ k, k < n → w.cell? (ad.add k) = some (.bool (f k))
structure SlB (W : World) (A : Option Addr) (n : Nat) (f : Nat → Bool) : Prop where
  bools : Bools W A n f
  len : n ≤ 9223372036854775807
theorem wf_bd {x : Int} (h : (Lit.int .i64 x).wf = true) : -9223372036854775808 ≤ x ∧ x ≤ 9223372036854775807 := by
  have h1 : IntKind.i64.min = -9223372036854775808 := by decide
  have h2 : IntKind.i64.max = 9223372036854775807 := by decide
  simp [Lit.wf, h1, h2] at h
  omega
section
variable {H : Type} {enc : TypeId × Value → H} {w : World} {base : Nat} {held : Bool}
theorem sli_of {fuel : Nat} {cs : List Value} {x : DataW H × List MemPlace} (h : DataW.trod enc Tryz.prog w base (fun _ => true) held fuel 22 cs = some x) :
    ∃ A n m f, cs = [.slice A n m] ∧ SlI w A n f := by
  rcases open_ints Tryz.underlying22 Tryz.underlying3 (by kernel_rfl) h with ⟨rfl, _⟩ | ⟨a, len, cap, zs, rfl, _, hl, hm, hz, _, hc, hwf⟩
  · exact ⟨none, 0, 0, fun _ => 0, rfl, fun h => absurd h (by omega), by omega, fun _ => by omega⟩
  · refine ⟨some a, len, cap, fun k => zs.getD k 0, rfl, fun hp => ⟨a, rfl, ?_, fun k hk => ?_⟩, ?_, fun k => ?_⟩
    · have := hc 0 (by simp at hz; omega)
      have := block_lt_of_cell this
      rwa [add_block] at this
    · exact hc k (by simp at hz; omega)
    · unfold maxLen at hm; omega
    · by_cases hk : k < zs.length
      · have e : zs.getD k 0 = zs[k] := by simp [List.getD, hk]
        simp only [e]
        exact wf_bd (hwf _ (List.getElem_mem hk))
      · have e : zs.getD k 0 = 0 := by simp [List.getD, List.getElem?_eq_none (by omega : zs.length ≤ k)]
        simp only [e]
        omega
theorem slb_of {fuel : Nat} {cs : List Value} {x : DataW H × List MemPlace} (h : DataW.trod enc Tryz.prog w base (fun _ => true) held fuel 25 cs = some x) :
    ∃ A n m f, cs = [.slice A n m] ∧ SlB w A n f := by
  rcases Go.Deep.open_bools Tryz.underlying25 Tryz.underlying4 (by kernel_rfl) h with ⟨rfl, _⟩ | ⟨a, len, cap, B, rfl, _, hl, hm, _, hc⟩
  · exact ⟨none, 0, 0, fun _ => false, rfl, fun h => absurd h (by omega), by omega⟩
  · refine ⟨some a, len, cap, B, rfl, fun hp => ⟨a, rfl, ?_, fun k hk => ?_⟩, ?_⟩
    · have := hc 0 (by omega)
      have := block_lt_of_cell this
      rwa [add_block] at this
    · exact hc k (by omega)
    · unfold maxLen at hm; omega
variable {r : Reach} {b0 : Nat} {v : Value} {d : DataW H} {p : List MemPlace}
set_option maxRecDepth 100000 in
theorem open_ints' (hv : Value.okWide Tryz.prog w r b0 22 v) (h : DataW.Trod enc Tryz.prog w base (fun _ => true) held 22 v d p) : ∃ A n m f, v = .slice A n m ∧ SlI w A n f := by
  obtain ⟨a, l, c, rfl⟩ := okWide_slice Tryz.underlying22 hv
  obtain ⟨fuel, hf⟩ := h
  obtain ⟨A, n, m, f, e, hs⟩ := sli_of hf
  have e' : Value.slice a l c = .slice A n m := (List.cons.inj (show [Value.slice a l c] = [.slice A n m] from e)).1
  exact ⟨A, n, m, f, e', hs⟩
set_option maxRecDepth 100000 in
theorem open_bools' (hv : Value.okWide Tryz.prog w r b0 25 v) (h : DataW.Trod enc Tryz.prog w base (fun _ => true) held 25 v d p) : ∃ A n m f, v = .slice A n m ∧ SlB w A n f := by
  obtain ⟨a, l, c, rfl⟩ := okWide_slice Tryz.underlying25 hv
  obtain ⟨fuel, hf⟩ := h
  obtain ⟨A, n, m, f, e, hs⟩ := slb_of hf
  have e' : Value.slice a l c = .slice A n m := (List.cons.inj (show [Value.slice a l c] = [.slice A n m] from e)).1
  exact ⟨A, n, m, f, e', hs⟩
theorem cellsPlot : Tryz.prog.cellsOf 24 = 3 := by kernel_rfl
set_option maxRecDepth 100000 in
theorem open_plot (hv : Value.okWide Tryz.prog w r b0 24 v) (h : DataW.Trod enc Tryz.prog w base (fun _ => true) held 24 v d p) : ∃ a b A n m f, v = .agg #[.int .i64 a, .int .i64 b, .slice A n m] ∧ SlI w A n f := by
  obtain ⟨v0, v1, v2, y0, y1, y2, k, rfl, _, _, h0, h1, h2⟩ := open_agg3 Tryz.underlying24 (by kernel_rfl) cellsPlot hv h
  obtain ⟨a, e0, _, _⟩ := DataW.trod_int Tryz.underlying3 h0
  obtain ⟨b, e1, _, _⟩ := DataW.trod_int Tryz.underlying3 h1
  obtain ⟨A, n, m, f, e2, hs⟩ := sli_of h2
  simp at e0 e1 e2
  subst e0 e1 e2
  exact ⟨a, b, A, n, m, f, rfl, hs⟩
end
end Go.Proofs.YtjejkadaafmdcaaGreat
/- The law CornerSays: for any plot and any cell it returns true. -/
namespace Go.Proofs.YtjejkadaafmdcaaGreat
open Go.RowKit Go.Sort FR
theorem sameNumbers (w : World) (A A' : Option Addr) (n m m' : Nat) (f : Nat → Int) (h : Ints w A n f) (h' : Ints w A' n f) (hn : n < 1099511627776) :
    Calls Tryz.prog 49 #[.slice A n m, .slice A' n m'] w fun e w' => e = .returned (.bool true) ∧ Below w.heap.size w w' := by
  rcases Nat.eq_zero_or_pos n with hn0 | hnp
  · subst hn0
    go_enter Tryz.func49, Tryz.ntmps49
    go_wp2_with fail
    go_loopw [5] (fun i wr => i = .int .i64 0 ∧ Below w.heap.size w wr) (fun i _ => 0 - (intOf i).toNat)
    case atStart => exact ⟨rfl, by (repeat' (first | exact Below.refl _ _ | assumption | apply bel_drewN | apply bel_drew | apply bel_alloc | (refine bel_trans ?_ (by assumption))))⟩
    case round =>
      obtain ⟨rfl, HB⟩ := hrel
      go_wp2
      go_ret
      exact ⟨rfl, HB⟩
  · obtain ⟨ad, rfl, a1, a2⟩ := h hnp
    obtain ⟨ad', rfl, b1, b2⟩ := h' hnp
    have a2 := Lib.hid a2
    have b2 := Lib.hid b2
    clear h h'
    go_enter Tryz.func49, Tryz.ntmps49
    go_wp2_with fail
    go_loopw [5] (fun i wr => ∃ k : Nat, k ≤ n ∧ i = .int .i64 k ∧ Below w.heap.size w wr) (fun i _ => n - (intOf i).toNat)
    case atStart => exact ⟨0, by omega, rfl, by (repeat' (first | exact Below.refl _ _ | assumption | apply bel_drewN | apply bel_drew | apply bel_alloc | (refine bel_trans ?_ (by assumption))))⟩
    case round =>
      obtain ⟨k, hk, rfl, HB⟩ := hrel
      by_cases hlt : k < n
      · have e1 := (HB.cell (p := ad.add k) (by rw [add_block]; exact a1)).trans (a2.out k hlt)
        have e2 := (HB.cell (p := ad'.add k) (by rw [add_block]; exact b1)).trans (b2.out k hlt)
        have q1 : (k : Int) < (n : Int) := by omega
        go_wp2_with fail
        go_quiet (fail)
        go_wp2
        go_roundw
        case rel => exact ⟨k + 1, by omega, by go_num, bel_drewN HB⟩
        case measure => simp [intOf]; omega
      · obtain rfl : k = n := by omega
        go_wp2
        go_ret
        exact ⟨rfl, HB⟩
set_option maxHeartbeats 800000 in
theorem rCorners (w : World) (p : Nat) (g : G) (v : Int) (h : RGridAt w p g v) :
    Calls Tryz.prog 60 #[.pointer (some ⟨p, 0, none⟩)] w (RetInts w (cornersI g)) := by
  have hp := Lib.hid h.lt
  have hn := G.n_le h.1
  have en : ((g.n : Nat) : Int) = (g.w : Int) * g.h := by unfold G.n; simp
  have m1 : 0 ≤ (g.w : Int) * g.h := by omega
  have m2 : (g.w : Int) * g.h ≤ 256 := by omega
  have en := Lib.hid en
  go_enter Tryz.func60, Tryz.ntmps60
  go_wp2_with fail
  go_loopw [3, 4] (fun l i wr => ∃ k : Nat, k ≤ g.n ∧ i = .int .i64 k ∧ OwnI wr w.heap.size l (upTo (cornerB g) k) ∧ Below w.heap.size w wr) (fun _ i _ => g.n - (intOf i).toNat)
  case atStart => exact ⟨0, by omega, rfl, OwnI.nil _ _, Below.refl _ _⟩
  case round =>
    obtain ⟨k, hk, rfl, hown, HB⟩ := hrel
    have hl := upTo_len (cornerB g) k
    have hR := h.below HB hp.out
    obtain ⟨s1, s2⟩ := hR.size
    have hz := HB.size
    by_cases hlt : k < g.n
    · have hw : IntKind.i64.wrap ((g.w : Int) * g.h) = (g.w : Int) * g.h := IntWalk.i64_in _ (by omega)
      have hd : decide ((k : Int) < (g.w : Int) * g.h) = true := by have := en.out; simp; omega
      go_wp2_with fail
      go_quiet (fail)
      clear hw hd s1 s2
      go_wp2_with fail
      (with_reducible refine (rCorner _ p g v k (h.below (bel_drewN HB) hp.out) hlt).mono ?_)
      rintro e w2 ⟨rfl, hb2⟩
      have HB2 := bel_trans (bel_drewN HB) hb2
      have hown2 : OwnI w2 w.heap.size _ _ := OwnI.below (w := wr.drewN nq) (B' := 0) hown hb2
      have hz2 := HB2.size
      cases hm : cornerB g k with
      | false =>
        have e := Lib.hid (upTo_no (p := cornerB g) hm)
        clear hm
        go_wp2
        go_roundw
        case rel => exact ⟨k + 1, by omega, by go_num, by rw [e.out]; exact hown2, HB2⟩
        case measure => simp [intOf]; omega
      | true =>
        have e := Lib.hid (upTo_yes (p := cornerB g) hm)
        clear hm
        go_wp2_with (at_builtin; refine wpList_append_int _ rfl _ _ rfl w.heap.size _ _ _ rfl (hown2.alloc _) ⟨w2.heap.size, 0, none⟩ rfl (cell1_new _ _ _) (by omega) (by simp; omega) ?_; intro v' w3 hown3 hgrow)
        have HB3 := below_grown (HB2.alloc (by omega) _) (by simp; omega) (hown2.alloc _) hgrow
        go_wp2
        go_roundw
        case rel => exact ⟨k + 1, by omega, by go_num, by rw [e.out]; exact hown3, HB3⟩
        case measure => simp [intOf]; omega
    · obtain rfl : k = g.n := by omega
      have hw : IntKind.i64.wrap ((g.w : Int) * g.h) = (g.w : Int) * g.h := IntWalk.i64_in _ (by omega)
      have hd : decide (((g.n : Nat) : Int) < (g.w : Int) * g.h) = false := by have := en.out; simp; omega
      go_wp2_with fail
      go_quiet (fail)
      clear hw hd s1 s2
      go_wp2
      go_ret
      exact ret_ints (B := w.heap.size) (w' := wr.drewN nq) hown (bel_drewN HB)
theorem lit4 (w : World) (a b c d : Int) : Ints (w.alloc (.cells #[.int .i64 a, .int .i64 b, .int .i64 c, .int .i64 d] 3)) (some ⟨w.heap.size, 0, none⟩) 4 (fun k => [a, b, c, d].getD k 0) := by
  intro _
  refine ⟨_, rfl, by simp, fun k hk => ?_⟩
  rcases (show k = 0 ∨ k = 1 ∨ k = 2 ∨ k = 3 by omega) with rfl | rfl | rfl | rfl <;> go_simp <;> rfl
def g33 : G := gset ⟨(3 : Int).toNat, (3 : Int).toNat, fun _ => false⟩ 4 true
theorem corners33 : cornersI g33 = [0, 2, 6, 8] := by decide +kernel
theorem corner33 : cornerB g33 0 = true := by decide +kernel
end Go.Proofs.YtjejkadaafmdcaaGreat
/- The law TopMoves: for any plot it returns true: who may go may come back. -/
namespace Go.Proofs.YtjejkadaafmdcaaGreat
open Go.RowKit Go.Sort FR
theorem upTo_get {p : Nat → Bool} {n k : Nat} (h : k < (upTo p n).length) : ∃ d : Nat, (upTo p n).getD k 0 = (d : Int) ∧ d < n ∧ p d = true := by
  have e : (upTo p n).getD k 0 = (upTo p n)[k] := by simp [List.getD, h]
  rw [e]
  have hm : (upTo p n)[k] ∈ upTo p n := List.getElem_mem h
  generalize (upTo p n)[k] = z at hm ⊢
  unfold upTo at hm
  rw [List.mem_map] at hm
  obtain ⟨d, hd, rfl⟩ := hm
  rw [List.mem_filter, List.mem_range] at hd
  exact ⟨d, rfl, hd.1, hd.2⟩
theorem upTo_has {p : Nat → Bool} {n d : Nat} (hd : d < n) (hp : p d = true) : ∃ k, k < (upTo p n).length ∧ (upTo p n).getD k 0 = (d : Int) := by
  have hm : (d : Int) ∈ upTo p n := by
    unfold upTo; rw [List.mem_map]; exact ⟨d, by rw [List.mem_filter, List.mem_range]; exact ⟨hd, hp⟩, rfl⟩
  obtain ⟨k, hk, e⟩ := List.getElem_of_mem hm
  exact ⟨k, hk, by simp [List.getD, hk, e]⟩
theorem upTo_rise {p : Nat → Bool} {n k : Nat} (h : k + 1 < (upTo p n).length) : (upTo p n).getD k 0 < (upTo p n).getD (k + 1) 0 := by
  have hs : (upTo p n).Pairwise (· < ·) := by
    unfold upTo
    rw [List.pairwise_map]
    exact ((List.pairwise_lt_range (n := n)).filter p).imp (by intro a b hab; omega)
  have e1 : (upTo p n).getD k 0 = (upTo p n)[k] := by simp [List.getD, show k < (upTo p n).length by omega]
  have e2 : (upTo p n).getD (k + 1) 0 = (upTo p n)[k + 1] := by simp [List.getD, h]
  rw [e1, e2]
  exact List.pairwise_iff_getElem.1 hs k (k + 1) (by omega) h (by omega)
/-- a move that leads back -/
def backOk (g : G) (c d c' : Nat) (z : Int) : Prop := ∃ d' : Nat, z = d' ∧ g.toI c' d' = (c : Int) ∧ (z - d).tmod 4 = 0
def fndAt (g : G) (c d c' k : Nat) (f : Bool) : Prop := f = true ∨ (f = false ∧ ∀ j, j < k → ¬ backOk g c d c' ((movesI g c').getD j 0))
theorem to_eq {g : G} {c d : Nat} (h : g.mayC c d = true) : g.toI c d = (g.to c d : Nat) ∧ g.to c d < g.n := by
  have hl := G.mayC_lt h
  refine ⟨?_, hl⟩
  obtain ⟨a, b, e⟩ := G.mayC_to h
  unfold G.to
  unfold G.mayC at h
  have hm := (G.may_iff.1 h).2.1
  obtain ⟨⟨h1, h2, h3, h4⟩, _⟩ := G.op_iff.1 hm
  have := G.to_place (g := g) (c := c) (d := d) h1 h2 h3
  have hnn : 0 ≤ g.toI c d := by
    unfold G.toI
    have e := G.XY g c
    have e' : (c : Int) = (g.Y c : Int) * g.w + g.X c := by rw [← Int.natCast_mul, ← Int.natCast_add, e]
    have q : 0 ≤ ((g.Y c : Int) + dyN d) * g.w := Int.mul_nonneg h3 (by omega)
    rw [Int.add_mul] at q
    omega
  omega
theorem fnd_end {g : G} {c d : Nat} {f : Bool} (hd : d < 8) (h : g.mayC c d = true) (hf : fndAt g c d (g.to c d) (movesI g (g.to c d)).length f) : f = true := by
  rcases hf with h' | ⟨_, hf⟩
  · exact h'
  · exfalso
    obtain ⟨h1, h2⟩ := G.mayC_back hd h
    obtain ⟨k, hk, e⟩ := upTo_has (p := g.mayC (g.to c d)) (n := 8) (d := (d + 4) % 8) (Nat.mod_lt _ (by decide)) h1
    refine hf k hk ⟨(d + 4) % 8, e, ?_, ?_⟩
    · rw [(to_eq h1).1, h2]
    · show ((upTo (g.mayC (g.to c d)) 8).getD k 0 - (d : Int)).tmod 4 = 0
      rw [e]
      rcases (show d = 0 ∨ d = 1 ∨ d = 2 ∨ d = 3 ∨ d = 4 ∨ d = 5 ∨ d = 6 ∨ d = 7 by omega) with rfl | rfl | rfl | rfl | rfl | rfl | rfl | rfl <;> decide
theorem fnd_zero (g : G) (c d c' : Nat) : fndAt g c d c' 0 false := .inr ⟨rfl, fun j hj => by omega⟩
theorem fnd_true (g : G) (c d c' k : Nat) : fndAt g c d c' k true := .inl rfl
theorem fnd_miss {g : G} {c d c' k : Nat} (h : fndAt g c d c' k false) (hn : ¬ backOk g c d c' ((movesI g c').getD k 0)) : fndAt g c d c' (k + 1) false := by
  rcases h with h | ⟨_, h⟩
  · cases h
  · refine .inr ⟨rfl, fun j hj => ?_⟩
    by_cases e : j = k
    · subst e; exact hn
    · exact h j (by omega)
theorem may21 : G.may ⟨(2 : Int).toNat, (1 : Int).toNat, fun _ => false⟩ 0 0 2 = true := by decide +kernel
theorem May_eq (w : World) (p : Nat) (g : G) (v x y : Int) (d : Nat) (t : Bool) (h : GridAt w p g v) (hd : d < 8) (hx : inP x) (hy : inP y) (e : g.may x y d = t) :
    Calls Tryz.prog 96 #[.pointer (some ⟨p, 0, none⟩), .int .i64 x, .int .i64 y, .int .i64 (d : Nat)] w fun e w' => e = .returned (.bool t) ∧ Below w.heap.size w w' := by
  rw [← e]; exact gridMay w p g v x y d h hd hx hy
theorem To_eq (w : World) (p : Nat) (g : G) (v : Int) (c d : Nat) (z : Int) (h : GridAt w p g v) (hc : c < g.n) (hd : d < 8) (e : g.toI c d = z) :
    Calls Tryz.prog 93 #[.pointer (some ⟨p, 0, none⟩), .int .i64 (c : Nat), .int .i64 (d : Nat)] w fun e w' => e = .returned (.int .i64 z) ∧ Below w.heap.size w w' := by
  rw [← e]; exact gridTo w p g v c d h hc hd
/-- an element of a slice of numbers, in every later world -/
theorem Ints.cell {w w' : World} {ad : Addr} {n : Nat} {f : Nat → Int} (h : Ints w (some ad) n f) (hb : Below w.heap.size w w') {k : Nat} (hk : k < n) : w'.cell? (ad.add k) = some (.int .i64 (f k)) := by
  obtain ⟨ad', e, h2, h3⟩ := h (by omega)
  cases e
  exact (hb.cell (p := ad.add k) (by rw [add_block]; exact h2)).trans (h3 k hk)
theorem Ints.addr {w : World} {A : Option Addr} {n : Nat} {f : Nat → Int} (h : Ints w A n f) (hn : 0 < n) : ∃ ad, A = some ad := by
  obtain ⟨ad, e, _⟩ := h hn
  exact ⟨ad, e⟩
theorem idx_run {A : Option Addr} {ad : Addr} {n m k : Nat} (h : A = some ad) (hk : k < n) (wx : World) : (Instr.indexAt 22 (.slice A n m) (.int .i64 (k : Nat))).run Tryz.prog wx = .ok (.pointer (some (ad.add k))) wx := by
  subst h
  have q : (k : Int) < (n : Int) := by omega
  go_simp
end Go.Proofs.YtjejkadaafmdcaaGreat
/- asGrid hands back true, of a grid and a reference's grid that have the same cells. -/
namespace Go.Proofs.YtjejkadaafmdcaaGreat
open Go.RowKit Go.Sort FR
theorem gridMoves_out (w : World) (p : Nat) (g : G) (v c : Int) (h : GridAt w p g v) (hc : c < 0 ∨ g.n ≤ c) :
    Calls Tryz.prog 92 #[.pointer (some ⟨p, 0, none⟩), .int .i64 c] w fun e w' => e = .returned (.tuple #[.slice none 0 0, .iface 107 (.int .i64 1)]) ∧ Below w.heap.size w w' := by
  go_enter Tryz.func92, Tryz.ntmps92
  go_wp2_with fail
  (with_reducible refine (gridPlace_out w p g v c h hc).mono ?_)
  rintro e w1 ⟨rfl, hb1⟩
  go_wp2
  go_ret2
  exact ⟨rfl, hb1⟩
theorem rTo_eq (w : World) (p : Nat) (g : G) (v : Int) (c d : Nat) (z : Int) (h : RGridAt w p g v) (hc : c < g.n) (hd : d < 8) (e : g.toI c d = z) :
    Calls Tryz.prog 82 #[.pointer (some ⟨p, 0, none⟩), .int .i64 (c : Nat), .int .i64 (d : Nat)] w fun e w' => e = .returned (.int .i64 z) ∧ Below w.heap.size w w' := by
  rw [← e]; exact rTo w p g v c d h hc hd
theorem rMay_at (w : World) (p : Nat) (g : G) (v x y : Int) (d : Nat) (t : Bool) (h : RGridAt w p g v) (hd : d < 8) (hx : inP x) (hy : inP y) (e : g.may x y d = t) :
    Calls Tryz.prog 97 #[.pointer (some ⟨p, 0, none⟩), .int .i64 x, .int .i64 y, .int .i64 (d : Nat)] w fun e w' => e = .returned (.bool t) ∧ Below w.heap.size w w' := by
  rw [← e]; exact rMay w p g v x y d h hd hx hy
/-- what Cell hands back, in the grid or not -/
def CellVal (g : G) (x y cv : Int) (ev : Value) : Prop := (0 ≤ x ∧ x < g.w ∧ 0 ≤ y ∧ y < g.h ∧ cv = y * g.w + x ∧ ev = .nilIface) ∨ (¬ (0 ≤ x ∧ x < g.w ∧ 0 ≤ y ∧ y < g.h) ∧ cv = 0 ∧ ev = .iface 107 (.int .i64 1))
theorem gridCell_any (w : World) (p : Nat) (g : G) (v x y : Int) (h : GridAt w p g v) :
    Calls Tryz.prog 54 #[.pointer (some ⟨p, 0, none⟩), .int .i64 x, .int .i64 y] w fun e w' => ∃ cv ev, e = .returned (.tuple #[.int .i64 cv, ev]) ∧ w = w' ∧ CellVal g x y cv ev := by
  by_cases hin : 0 ≤ x ∧ x < g.w ∧ 0 ≤ y ∧ y < g.h
  · obtain ⟨h1, h2, h3, h4⟩ := hin
    exact (gridCell_in w p g v x y h h1 h2 h3 h4).mono fun _ _ ⟨a, b⟩ => ⟨_, _, a, b, .inl ⟨h1, h2, h3, h4, rfl, rfl⟩⟩
  · exact (gridCell_out w p g v x y h hin).mono fun _ _ ⟨a, b⟩ => ⟨_, _, a, b, .inr ⟨hin, rfl, rfl⟩⟩
def InB (g : G) (x y : Int) (t : Bool) : Prop := t = true ↔ (0 ≤ x ∧ x < g.w ∧ 0 ≤ y ∧ y < g.h)
set_option maxRecDepth 100000 in
set_option maxHeartbeats 6400000 in
theorem asGrid (W0 : World) (p q : Nat) (g : G) (v : Int) (hG : GridAt W0 p g v) (hR : RGridAt W0 q g v) :
    Calls Tryz.prog 50 #[.pointer (some ⟨p, 0, none⟩), .pointer (some ⟨q, 0, none⟩)] W0 fun e w' => e = .returned (.bool true) ∧ Below W0.heap.size W0 w' := by
  have hpl := Lib.hid hG.lt
  have hql := Lib.hid hR.lt
  have hn := G.n_le hG.1
  obtain ⟨o1, o2, o3, o4⟩ := hG.1
  have en : ((g.n : Nat) : Int) = (g.w : Int) * g.h := by unfold G.n; simp
  have en := Lib.hid en
  go_enter Tryz.func50, Tryz.ntmps50
  go_wp2_with fail
  (with_reducible refine (gridSize W0 p g v hG).mono ?_)
  rintro e w1 ⟨rfl, hb1⟩
  have hR1 := hR.below hb1 hql.out
  obtain ⟨s1, s2⟩ := hR1.size
  have s3 := hR1.ver
  have s1q := cell_regrown s1
  have s2q := cell_regrown s2
  have s3q := cell_regrown s3
  have m1 : 0 ≤ (g.w : Int) * g.h := by rw [← en.out]; omega
  have m2 : (g.w : Int) * g.h ≤ 256 := by rw [← en.out]; omega
  have hw : IntKind.i64.wrap ((g.w : Int) * g.h) = (g.w : Int) * g.h := IntWalk.i64_in _ (by omega)
  have hq1 : (((g.n : Nat) : Int) == (g.w : Int) * g.h) = true := by rw [← en.out]; simp
  have hq2 : (((g.n : Nat) : Int) != (g.w : Int) * g.h) = false := by rw [← en.out]; simp
  go_wp2_with fail
  refine wp_region_quiet_below (by kernel_rfl) (by kernel_rfl) ?_
  repeat (first | go_big_quiet_step (first | (with_reducible exact Calls.regrown_of (gridCellsN _ p g v (hG.below (hb1.trans ((below_regrown w1 _ _).mono hb1.size)) hpl.out))) | (with_reducible exact Calls.regrown_of ((gridVersion _ p g v (hG.below (hb1.trans ((below_regrown w1 _ _).mono hb1.size)) hpl.out)).mono fun _ _ h => ⟨h.1, h.2 ▸ Below.refl _ _⟩))) | quiet_step (first | (with_reducible exact Calls.regrown_of (gridCellsN _ p g v (hG.below (hb1.trans ((below_regrown w1 _ _).mono hb1.size)) hpl.out))) | (with_reducible exact Calls.regrown_of ((gridVersion _ p g v (hG.below (hb1.trans ((below_regrown w1 _ _).mono hb1.size)) hpl.out)).mono fun _ _ h => ⟨h.1, h.2 ▸ Below.refl _ _⟩))))
  refine wpQuiet_nil ?_
  intro _ hw'
  obtain ⟨⟨dq, osq⟩, hw''⟩ := hw'
  have HB2 := bel_trans hb1 (below_regrown w1 dq osq)
  have hb2 := below_regrown w1 dq osq
  subst hw''
  generalize grow (redrawn w1 dq) osq = w2 at HB2 hb2 ⊢
  clear s1 s2 s3 s1q s2q s3q hw hq1 hq2
  have e1 : (g.w : Int) * g.h ≤ (g.n : Nat) := by rw [← en.out]; omega
  have e2 : ((g.n : Nat) : Int) ≤ (g.w : Int) * g.h := by rw [← en.out]; omega
  have hz2 := HB2.size
  clear hb1 hb2
  go_wp2_with fail
  go_loopw [7] (fun i wr => ∃ (k : Nat) (ci : Int), k ≤ g.n + 2 ∧ i = .int .i64 ci ∧ ci = (k : Int) - 1 ∧ Below W0.heap.size W0 wr) (fun i _ => (g.n + 2 - intOf i).toNat)
  case atStart => exact ⟨0, -1, by omega, rfl, by omega, HB2⟩
  case round =>
    obtain ⟨k, ci, hk, rfl, hci, HB⟩ := hrel
    have c1 : -1 ≤ ci := by omega
    by_cases hlt : ci ≤ g.n
    · by_cases hin : 0 ≤ ci ∧ ci < g.n
      · obtain ⟨i0, i1⟩ := hin
        obtain ⟨c, rfl⟩ := Int.eq_ofNat_of_zero_le i0
        have hcn : c < g.n := by omega
        have Hci := Lib.hid hci
        clear hci i0 i1
        go_wp2_with fail
        (with_reducible refine (rIs_in _ q g v c (hR.below HB hql.out) hcn).mono ?_)
        rintro e w3 ⟨rfl, hb3⟩
        have HB3 := bel_trans HB hb3
        clear hb3
        go_wp2_with fail
        (with_reducible refine (gridPlace_in _ p g v c (hG.below HB3 hpl.out) hcn).mono ?_)
        rintro e w4 ⟨rfl, hb4⟩
        have HB4 := bel_trans HB3 hb4
        clear hb4
        go_wp2_with fail
        (with_reducible refine (gridFree_in _ p g v c (hG.below HB4 hpl.out) hcn).mono ?_)
        rintro e w5 ⟨rfl, hb5⟩
        have HB5 := bel_trans HB4 hb5
        clear hb5
        go_wp2_with fail
        (with_reducible refine (gridMoves _ p g v c (hG.below HB5 hpl.out) hcn).mono ?_)
        rintro e w6 ⟨A1, ma, rfl, hI1, hb6⟩
        have HB6 := bel_trans HB5 hb6
        clear hb6
        go_wp2_with fail
        (with_reducible refine (same_ok _).mono ?_)
        rintro e w' ⟨rfl, rfl⟩
        go_wp2_with fail
        (with_reducible refine (same_ok _).mono ?_)
        rintro e w' ⟨rfl, rfl⟩
        go_wp2_with fail
        (with_reducible refine (same_ok _).mono ?_)
        rintro e w' ⟨rfl, rfl⟩
        have eX : (c : Int) % g.w = (g.X c : Nat) := by unfold G.X; simp
        have eY : (c : Int) / g.w = (g.Y c : Nat) := by unfold G.Y; simp
        have y1 : g.Y c < 16 := by have := G.Y_lt hcn; omega
        have x1 : g.X c < 16 := by have := G.X_lt hG.1 c; omega
        have eXb : ((g.X c : Nat) : Int) == (c : Int) % g.w := by rw [eX]; simp
        have eYb : ((g.Y c : Nat) : Int) == (c : Int) / g.w := by rw [eY]; simp
        have d1 : 0 ≤ (c : Int) / g.w := by rw [eY]; omega
        have d2 : (c : Int) / g.w ≤ 256 := by rw [eY]; omega
        have hbit := (hR.below HB6 hql.out).bit c (by omega)
        clear eX eY
        obtain ⟨nl, hnl⟩ : ∃ nl, (movesI g c).length = nl := ⟨_, rfl⟩
        rw [hnl] at hI1 ⊢
        have Hnl := Lib.hid hnl
        have hl8 : nl ≤ 8 := by rw [← hnl]; exact upTo_len _ _
        clear hnl
        have hz6 := HB6.size
        go_upto_region 16 with (fail)
        generalize hfr : (!g.b c) = fr
        generalize g.b c = bb at hbit hfr
        have hne : (fr == bb) = false := by rw [← hfr]; cases bb <;> rfl
        clear hfr
        go_cut [149] (fun s wx => s = .bool false ∧ Below w6.heap.size w6 wx)
        case first =>
          all_goals
            go_wp2_with fail
            (with_reducible refine (rMoves _ q g v c (hR.below HB6 hql.out) hcn).mono ?_)
            rintro e w7 ⟨A2, mb, rfl, hI2, hb7⟩
            rw [Hnl.out] at hI2 ⊢
            have hI1' := hI1.below hb7
            go_wp2_with fail
            (with_reducible refine (sameNumbers _ A1 A2 nl ma mb _ hI1' hI2 (by omega)).mono ?_)
            rintro e w8 ⟨rfl, hb8⟩
            have hb78 := bel_trans hb7 hb8
            clear hb7 hb8 hI1' hI2 hbit
            go_wp2
            go_meet
            case rel => exact ⟨rfl, hb78⟩
        case rest =>
          obtain ⟨w8, rfl⟩ : ∃ w8 : World, w8 = wc := ⟨_, rfl⟩
          obtain ⟨rfl, hb8⟩ := hcut
          have HB8 := bel_trans HB6 hb8
          have hI8 := hI1.below hb8
          clear hb8 hbit hne
          go_wp2_with fail
          obtain ⟨wo, rfl⟩ : ∃ wo : World, wo = wr := ⟨_, rfl⟩
          go_loopw [16] (fun i wr => ∃ j : Nat, j ≤ nl ∧ i = .int .i64 j ∧ Below w8.heap.size w8 wr) (fun i _ => nl - (intOf i).toNat)
          case atStart => exact ⟨0, by omega, rfl, Below.refl _ _⟩
          case round =>
            obtain ⟨j, hj, rfl, HBj⟩ := hrel
            by_cases hlj : j < nl
            · obtain ⟨ad, hA⟩ := hI8.addr (by omega)
              have hI9 := hI8
              rw [hA] at hI9
              have hix := fun wx => idx_run (m := ma) hA hlj wx
              clear hA
              obtain ⟨d, hd, hd8, hmay⟩ := upTo_get (p := g.mayC c) (n := 8) (k := j) (by have := Hnl.out; show j < (movesI g c).length; omega)
              have hd' : (movesI g c).getD j 0 = (d : Int) := hd
              have hE := hI9.cell HBj hlj
              simp only [hd'] at hE
              clear hd hd' hmay
              have hEq := cell_regrown hE
              have q1 : (j : Int) < (nl : Int) := by omega
              have HBw := bel_trans HB8 HBj
              obtain ⟨z, hz⟩ : ∃ z, g.toI c d = z := ⟨_, rfl⟩
              go_wp2_with fail
              refine wp_region_quiet_below (by kernel_rfl) (by kernel_rfl) ?_
              repeat (first | go_big_quiet_step (first | (with_reducible exact Calls.regrown_of (To_eq _ p g v c d z (hG.below (HBw.trans ((below_regrown wr _ _).mono HBw.size)) hpl.out) hcn hd8 hz)) | (with_reducible exact Calls.regrown_of (rTo_eq _ q g v c d z (hR.below (HBw.trans ((below_regrown wr _ _).mono HBw.size)) hql.out) hcn hd8 hz))) | quiet_step (first | (with_reducible exact Calls.regrown_of (To_eq _ p g v c d z (hG.below (HBw.trans ((below_regrown wr _ _).mono HBw.size)) hpl.out) hcn hd8 hz)) | (with_reducible exact Calls.regrown_of (rTo_eq _ q g v c d z (hR.below (HBw.trans ((below_regrown wr _ _).mono HBw.size)) hql.out) hcn hd8 hz))))
              refine wpQuiet_nil ?_
              intro _ hw'
              obtain ⟨⟨dq, osq⟩, hw''⟩ := hw'
              have HB9 := bel_trans HBw (below_regrown wr dq osq)
              have hb2 := below_regrown wr dq osq
              subst hw''
              generalize grow (redrawn wr dq) osq = w9 at HB9 hb2 ⊢
              clear hz
              go_wp2
              go_roundw
              case rel => exact ⟨j + 1, by omega, by go_num, bel_trans HBj hb2⟩
              case measure => simp [intOf]; omega
            · obtain rfl : j = nl := by omega
              go_wp2
              go_roundw
              case rel => first | exact ⟨k + 1, _, by have := Hci.out; omega, rfl, by have := Hci.out; omega, bel_trans HB8 HBj⟩ | ((repeat apply Exists.intro); exact ⟨⟨k + 1, _, by have := Hci.out; omega, rfl, by have := Hci.out; omega, bel_trans HB8 HBj⟩, rfl⟩)
              case measure => simp [intOf]; omega
      · have hout : ci < 0 ∨ g.n ≤ ci := by omega
        have Hci := Lib.hid hci
        clear hci
        go_wp2_with fail
        (with_reducible refine (rIs_out _ q g v ci (hR.below HB hql.out) hout).mono ?_)
        rintro e w3 ⟨rfl, hb3⟩
        have HB3 := bel_trans HB hb3
        clear hb3
        go_wp2_with fail
        (with_reducible refine (gridPlace_out _ p g v ci (hG.below HB3 hpl.out) hout).mono ?_)
        rintro e w4 ⟨rfl, hb4⟩
        have HB4 := bel_trans HB3 hb4
        clear hb4
        go_wp2_with fail
        (with_reducible refine (gridFree_out _ p g v ci (hG.below HB4 hpl.out) hout).mono ?_)
        rintro e w5 ⟨rfl, hb5⟩
        have HB5 := bel_trans HB4 hb5
        clear hb5
        go_wp2_with fail
        (with_reducible refine (gridMoves_out _ p g v ci (hG.below HB5 hpl.out) hout).mono ?_)
        rintro e w6 ⟨rfl, hb6⟩
        have HB6 := bel_trans HB5 hb6
        clear hb6
        go_wp2_with fail
        (with_reducible refine (same_bad 1 _ (by decide)).mono ?_)
        rintro e w' ⟨rfl, rfl⟩
        go_wp2_with fail
        (with_reducible refine (same_bad 1 _ (by decide)).mono ?_)
        rintro e w' ⟨rfl, rfl⟩
        go_wp2_with fail
        (with_reducible refine (same_bad 1 _ (by decide)).mono ?_)
        rintro e w' ⟨rfl, rfl⟩
        go_wp2
        go_roundw
        case rel => (repeat apply Exists.intro); exact ⟨⟨k + 1, _, by have := Hci.out; omega, rfl, by have := Hci.out; omega, HB6⟩, rfl⟩
        case measure => simp [intOf]; omega
    · clear hci
      go_wp2_with fail
      go_loopw [17] (fun i wr => ∃ (a : Nat) (x : Int), a ≤ g.w + 2 ∧ i = .int .i64 x ∧ x = (a : Int) - 1 ∧ Below W0.heap.size W0 wr) (fun i _ => (g.w + 2 - intOf i).toNat)
      case atStart => exact ⟨0, -1, by omega, rfl, by omega, HB⟩
      case round =>
        obtain ⟨a, x, ha, rfl, hx, HBx⟩ := hrel
        have x1 : -1 ≤ x := by omega
        have Hx := Lib.hid hx
        clear hx
        by_cases hltx : x ≤ g.w
        · go_wp2_with fail
          obtain ⟨wo, rfl⟩ : ∃ wo : World, wo = wr := ⟨_, rfl⟩
          go_loopw [18] (fun i wr => ∃ (b : Nat) (y : Int), b ≤ g.h + 2 ∧ i = .int .i64 y ∧ y = (b : Int) - 1 ∧ Below W0.heap.size W0 wr) (fun i _ => (g.h + 2 - intOf i).toNat)
          case atStart => exact ⟨0, -1, by omega, rfl, by omega, HBx⟩
          case round =>
            obtain ⟨b, y, hb, rfl, hy, HBy⟩ := hrel
            have y1 : -1 ≤ y := by omega
            have Hy := Lib.hid hy
            clear hy
            by_cases hlty : y ≤ g.h
            · obtain ⟨t, ht⟩ : ∃ t, g.op x y = t := ⟨_, rfl⟩
              have cO := Lib.hid (fun w' h' => gridOpen_at w' p g v x y t h' ht)
              have cR := Lib.hid (fun w' h' => rOpen_at w' q g v x y t h' ht)
              clear ht
              have hpx : inP x := by unfold inP; omega
              have hpy : inP y := by unfold inP; omega
              go_wp2_with fail
              (with_reducible refine (gridCell_any _ p g v x y (hG.below HBy hpl.out)).mono ?_)
              rintro e w' ⟨cv, ev, rfl, rfl, hcase⟩
              have hcase := Lib.hid hcase
              go_upto_region 30 with (fail)
              go_cut [21] (fun s wx => ∃ inb : Bool, s = .bool inb ∧ InB g x y inb ∧ wx = wr)
              case first =>
                go_wp2
                all_goals (go_meet; (case rel => exact ⟨_, rfl, by unfold InB; simp; omega, rfl⟩))
              case rest =>
                obtain ⟨inb, rfl, hinb, hwc⟩ := hcut
                rw [hwc]
                clear hwc
                go_upto_region 31 with (fail)
                go_cut [243] (fun s wx => s = .bool false ∧ Below W0.heap.size W0 wx)
                case first =>
                  go_wp2_with fail
                  (with_reducible refine (cO.out _ (hG.below HBy hpl.out)).mono ?_)
                  rintro e w' ⟨rfl, rfl⟩
                  go_wp2_with fail
                  (with_reducible refine (cR.out _ (hR.below HBy hql.out)).mono ?_)
                  rintro e w3 ⟨rfl, hb3⟩
                  have HB3 := bel_trans HBy hb3
                  clear hb3
                  rcases hcase.out with ⟨i1, i2, i3, i4, rfl, rfl⟩ | ⟨i1, rfl, rfl⟩
                  · obtain rfl : inb = true := hinb.2 ⟨i1, i2, i3, i4⟩
                    have n1 : 0 ≤ y * (g.w : Int) := Int.mul_nonneg i3 (by omega)
                    have n2 : y * (g.w : Int) ≤ 256 := Int.le_trans (Int.mul_le_mul (show y ≤ 16 by omega) (show (g.w : Int) ≤ 16 by omega) (by omega) (by omega)) (by omega)
                    cases t
                    all_goals
                      go_wp2
                      go_meet
                      case rel => exact ⟨rfl, HB3⟩
                  · obtain rfl : inb = false := by
                      cases inb with
                      | false => rfl
                      | true => exact absurd (hinb.1 rfl) i1
                    clear i1 hinb
                    cases t
                    all_goals
                      go_wp2_with fail
                      (with_reducible refine (same_bad 1 _ (by decide)).mono ?_)
                      rintro e w' ⟨rfl, rfl⟩
                      go_wp2
                      go_meet
                      case rel => exact ⟨rfl, HB3⟩
                case rest =>
                  obtain ⟨rfl, HB3⟩ := hcut
                  go_wp2_with fail
                  obtain ⟨wq, rfl⟩ : ∃ wq : World, wq = wr := ⟨_, rfl⟩
                  go_loopw [22] (fun i wr => ∃ j : Nat, j ≤ 8 ∧ i = .int .i64 j ∧ Below W0.heap.size W0 wr) (fun i _ => 8 - (intOf i).toNat)
                  case atStart => exact ⟨0, by omega, rfl, HB3⟩
                  case round =>
                    obtain ⟨j, hj, rfl, HBj⟩ := hrel
                    by_cases hlj : j < 8
                    · obtain ⟨s, hs⟩ : ∃ s, g.may x y j = s := ⟨_, rfl⟩
                      go_wp2_with fail
                      (with_reducible refine (May_eq _ p g v x y j s (hG.below HBj hpl.out) hlj hpx hpy hs).mono ?_)
                      rintro e w4 ⟨rfl, hb4⟩
                      have HB4 := bel_trans HBj hb4
                      clear hb4
                      go_wp2_with fail
                      (with_reducible refine (rMay_at _ q g v x y j s (hR.below HB4 hql.out) hlj hpx hpy hs).mono ?_)
                      rintro e w5 ⟨rfl, hb5⟩
                      have HB5 := bel_trans HB4 hb5
                      clear hb5 hs
                      go_wp2
                      go_roundw
                      case rel => exact ⟨j + 1, by omega, by go_num, HB5⟩
                      case measure => simp [intOf]; omega
                    · obtain rfl : j = 8 := by omega
                      go_wp2
                      go_roundw
                      case rel => first | exact ⟨b + 1, _, by have := Hy.out; omega, rfl, by have := Hy.out; omega, HBj⟩ | ((repeat apply Exists.intro); exact ⟨⟨b + 1, _, by have := Hy.out; omega, rfl, by have := Hy.out; omega, HBj⟩, rfl⟩)
                      case measure => simp [intOf]; omega
            · go_wp2
              go_roundw
              case rel => first | exact ⟨a + 1, _, by have := Hx.out; omega, rfl, by have := Hx.out; omega, HBy⟩ | ((repeat apply Exists.intro); exact ⟨⟨a + 1, _, by have := Hx.out; omega, rfl, by have := Hx.out; omega, HBy⟩, rfl⟩)
              case measure => simp [intOf]; omega
        · go_wp2
          go_ret
          exact ⟨rfl, HBx⟩
end Go.Proofs.YtjejkadaafmdcaaGreat
/- Moves again: the list that is handed back lies in a new block. -/
namespace Go.Proofs.YtjejkadaafmdcaaGreat
open Go.RowKit Go.Sort FR
theorem OwnI.intsN {w : World} {B : Nat} {v : Value} {zs : List Int} (h : OwnI w B v zs) : ∃ A m, v = .slice A zs.length m ∧ Ints w A zs.length (fun k => zs.getD k 0) ∧ ∀ ad, A = some ad → B ≤ ad.block := by
  rcases h.2 with ⟨rfl, hn⟩ | ⟨g, cap, cur, rfl, hg, hh, hc, hm, hs, ht⟩
  · rw [hn]; exact ⟨none, 0, rfl, fun h => absurd h (by omega), fun ad h => by cases h⟩
  · refine ⟨_, cap, rfl, fun _ => ⟨⟨g, 0, none⟩, rfl, (Array.getElem?_eq_some_iff.1 hh).1, fun k hk => ?_⟩, fun ad h => by injection h with h; rw [← h]; exact hg⟩
    refine World.ownsRow.cells h (g := g) rfl k _ ?_
    simp [List.getD, hk]
/-- a new list of numbers is handed back -/
def RetIntsN (w : World) (zs : List Int) (e : Ending) (w' : World) : Prop := ∃ A m, e = .returned (.slice A zs.length m) ∧ Ints w' A zs.length (fun k => zs.getD k 0) ∧ (∀ ad, A = some ad → w.heap.size ≤ ad.block) ∧ Below w.heap.size w w'
def RetInts2N (w : World) (zs : List Int) (e : Ending) (w' : World) : Prop := ∃ A m, e = .returned (.tuple #[.slice A zs.length m, .nilIface]) ∧ Ints w' A zs.length (fun k => zs.getD k 0) ∧ (∀ ad, A = some ad → w.heap.size ≤ ad.block) ∧ Below w.heap.size w w'
theorem ret_intsN {w w' : World} {v : Value} {zs : List Int} (h : OwnI w' w.heap.size v zs) (hb : Below w.heap.size w w') : RetIntsN w zs (.returned v) w' := by
  obtain ⟨A, m, rfl, hi, hf⟩ := h.intsN
  exact ⟨A, m, rfl, hi, hf, hb⟩
theorem ret_ints2N {w w' : World} {v : Value} {zs : List Int} (h : OwnI w' w.heap.size v zs) (hb : Below w.heap.size w w') : RetInts2N w zs (.returned (.tuple #[v, .nilIface])) w' := by
  obtain ⟨A, m, rfl, hi, hf⟩ := h.intsN
  exact ⟨A, m, rfl, hi, hf, hb⟩
theorem wpList_append_int2 {ops : Array Oper} {rest : List Oper} {o : Oper} {a : Act} {Q : Exit → Act → World → Prop} (w : World) (hgd : o.guard = none) (s x : Operand)
    (ho : o.op = .call { callee := .builtin .append, args := #[s, x], argTypes := #[22, 22] })
    (B : Nat) (v : Value) (zs : List Int) (z : Int) (hs : a.eval s = v) (hown : OwnI w B v zs) (ad : Addr) (hx : a.eval x = .slice (some ad) 1 1) (hc : w.cell? ad = some (.int .i64 z))
    (hl : zs.length < 1099511627776) (hB : B ≤ w.heap.size)
    (h : ∀ v' w', OwnI w' B v' (zs ++ [z]) → w.grownBy w' v.ownBlock → (v'.ownBlock = v.ownBlock ∨ v'.ownBlock = some w.heap.size) → wpList Tryz.prog ops Q rest (a.put o.dst v') w') : wpList Tryz.prog ops Q (o :: rest) a w := by
  obtain ⟨i0, hi, hz0, hz1, hz2⟩ := info_parts int_info
  refine wpList_append_own_at w hgd s x 22 ho B 3 i0 (.int .i64 0) 1 8 Tryz.underlying22 hi hz0 hz1 hz2 rfl (by decide) v zs.length (zs.map (Value.int .i64)) hs hown ad 1 1 [.int .i64 z] hx rfl ?_ ?_ ?_ ?_ hB ?_
  · intro j u hu
    cases j with
    | zero => simp at hu; subst hu; simpa [Addr.add] using hc
    | succ j => simp at hu
  · intro u hu; simp at hu; subst hu; rfl
  · unfold maxLen; omega
  · omega
  · intro v' w' h1 h2 _ h4
    refine h v' w' ?_ h2 h4
    unfold OwnI
    simpa using h1
/-- numbers that lie apart from what is written -/
theorem Ints.kept {S : List Nat} {w w' : World} {A : Option Addr} {n : Nat} {f : Nat → Int} (h : Ints w A n f) (hk : Kept S w w') (hS : ∀ ad, A = some ad → ad.block ∉ S) : Ints w' A n f := by
  intro hn
  obtain ⟨ad, h1, h2, h3⟩ := h hn
  exact ⟨ad, h1, Nat.lt_of_lt_of_le h2 hk.size, fun k hk' => by
    have e : w'.cell? (ad.add k) = w.cell? (ad.add k) := World.cell?_of_block (by rw [add_block]; exact hk.block _ h2 (hS ad h1))
    rw [e]; exact h3 k hk'⟩
set_option maxHeartbeats 800000 in
theorem rMovesN (w : World) (p : Nat) (g : G) (v : Int) (c : Nat) (h : RGridAt w p g v) (hc : c < g.n) :
    Calls Tryz.prog 81 #[.pointer (some ⟨p, 0, none⟩), .int .i64 (c : Nat)] w (RetIntsN w (movesI g c)) := by
  have hin := inPG h.1 hc
  have hp := Lib.hid h.lt
  obtain ⟨o1, o2, o3, o4⟩ := h.1
  have hn := G.n_le h.1
  have eX : (c : Int) % g.w = (g.X c : Nat) := by unfold G.X; simp
  have eY : (c : Int) / g.w = (g.Y c : Nat) := by unfold G.Y; simp
  have hY := G.Y_lt hc
  have q1 : 0 ≤ (c : Int) / g.w := by omega
  have q2 : (c : Int) / g.w ≤ 256 := by omega
  have hf := Lib.hid (And.intro eX eY)
  clear eX eY
  go_enter Tryz.func81, Tryz.ntmps81
  go_wp2_with fail
  go_loopw [5, 6] (fun l i wr => ∃ k : Nat, k ≤ 8 ∧ i = .int .i64 k ∧ OwnI wr w.heap.size l (upTo (g.mayC c) k) ∧ Below w.heap.size w wr) (fun _ i _ => 8 - (intOf i).toNat)
  case atStart => exact ⟨0, by omega, rfl, OwnI.nil _ _, Below.refl _ _⟩
  case round =>
    obtain ⟨k, hk, rfl, hown, HB⟩ := hrel
    have hl := upTo_len (g.mayC c) k
    by_cases hlt : k < 8
    · have hR := h.below HB hp.out
      have s1 := hR.size.1
      have s2 := cell_regrown s1
      go_wp2_with fail
      refine wp_region_quiet_below (by kernel_rfl) (by kernel_rfl) ?_
      repeat (first | go_big_quiet_step ((with_reducible exact Calls.regrown_of (rMay_eq _ p g v c k _ _ (h.below (HB.trans ((below_regrown wr _ _).mono HB.size)) hp.out) hlt hin hf.out.1 hf.out.2))) | quiet_step ((with_reducible exact Calls.regrown_of (rMay_eq _ p g v c k _ _ (h.below (HB.trans ((below_regrown wr _ _).mono HB.size)) hp.out) hlt hin hf.out.1 hf.out.2))))
      refine wpQuiet_nil ?_
      intro _ hw'
      obtain ⟨⟨dq, osq⟩, hw''⟩ := hw'
      have HB2 := bel_trans HB (below_regrown wr dq osq)
      have hb2 := below_regrown wr dq osq
      subst hw''
      generalize grow (redrawn wr dq) osq = w2 at HB2 hb2 ⊢
      clear s1 s2
      have hown2 : OwnI w2 w.heap.size _ _ := hown.below (B' := 0) hb2
      have hz2 := HB2.size
      cases hm : g.mayC c k with
      | false =>
        have e := Lib.hid (upTo_no (p := g.mayC c) hm)
        clear hm
        go_wp2
        go_roundw
        case rel => exact ⟨k + 1, by omega, by go_num, by rw [e.out]; exact hown2, HB2⟩
        case measure => simp [intOf]; omega
      | true =>
        have e := Lib.hid (upTo_yes (p := g.mayC c) hm)
        clear hm
        go_wp2_with (at_builtin; refine wpList_append_int _ rfl _ _ rfl w.heap.size _ _ _ rfl (hown2.alloc _) ⟨w2.heap.size, 0, none⟩ rfl (cell1_new _ _ _) (by omega) (by simp; omega) ?_; intro v' w3 hown3 hgrow)
        have HB3 := below_grown (HB2.alloc (by omega) _) (by simp; omega) (hown2.alloc _) hgrow
        go_wp2
        go_roundw
        case rel => exact ⟨k + 1, by omega, by go_num, by rw [e.out]; exact hown3, HB3⟩
        case measure => simp [intOf]; omega
    · obtain rfl : k = 8 := by omega
      go_wp2
      go_ret
      exact ret_intsN hown HB
set_option maxHeartbeats 800000 in
theorem gridMovesN (w : World) (p : Nat) (g : G) (v : Int) (c : Nat) (h : GridAt w p g v) (hc : c < g.n) :
    Calls Tryz.prog 92 #[.pointer (some ⟨p, 0, none⟩), .int .i64 (c : Nat)] w (RetInts2N w (movesI g c)) := by
  have hin := inPG h.1 hc
  have hp := Lib.hid h.lt
  go_enter Tryz.func92, Tryz.ntmps92
  go_wp2_with fail
  refine (gridPlace_in w p g v c h hc).mono ?_
  rintro e w1 ⟨rfl, hb1⟩
  go_wp2_with fail
  have hs1 := hb1.size
  go_loopw [9, 21] (fun l i wr => ∃ k : Nat, k ≤ 8 ∧ i = .int .i64 k ∧ OwnI wr w.heap.size l (upTo (g.mayC c) k) ∧ Below w.heap.size w wr) (fun _ i _ => 8 - (intOf i).toNat)
  case atStart => exact ⟨0, by omega, rfl, OwnI.nil _ _, hb1⟩
  case round =>
    obtain ⟨k, hk, rfl, hown, HB⟩ := hrel
    have hl := upTo_len (g.mayC c) k
    by_cases hlt : k < 8
    · go_wp2_with fail
      refine (gridMay _ p g v _ _ k (h.below HB hp.out) hlt hin.1 hin.2).mono ?_
      rintro e w2 ⟨rfl, hb2⟩
      have HB2 := bel_trans HB hb2
      have hown2 := hown.below (B' := 0) hb2
      have hz2 := HB2.size
      cases hm : g.may (g.X c : Nat) (g.Y c : Nat) k with
      | false =>
        have e := Lib.hid (upTo_no (p := g.mayC c) hm)
        clear hm
        go_wp2
        go_roundw
        case rel => exact ⟨k + 1, by omega, by go_num, by rw [e.out]; exact hown2, HB2⟩
        case measure => simp [intOf]; omega
      | true =>
        have e := Lib.hid (upTo_yes (p := g.mayC c) hm)
        clear hm
        go_wp2_with (at_builtin; (refine wpList_append_int _ rfl _ _ rfl w.heap.size _ _ _ rfl (hown2.alloc _) ⟨w2.heap.size, 0, none⟩ rfl (cell1_new _ _ _) (by omega) (by simp; omega) ?_); intro v' w3 hown3 hgrow)
        have HB3 := below_grown (HB2.alloc (by omega) _) (by simp; omega) (hown2.alloc _) hgrow
        go_wp2
        go_roundw
        case rel => exact ⟨k + 1, by omega, by go_num, by rw [e.out]; exact hown3, HB3⟩
        case measure => simp [intOf]; omega
    · obtain rfl : k = 8 := by omega
      go_wp2
      go_ret2
      exact ret_ints2N hown HB
end Go.Proofs.YtjejkadaafmdcaaGreat
/- The law GridSays: for any size, and whatever cells are set, it returns true. -/
namespace Go.Proofs.YtjejkadaafmdcaaGreat
open Go.RowKit Go.Sort FR
theorem lit2 (w : World) (a b : Int) : Ints (w.alloc (.cells #[.int .i64 a, .int .i64 b] 3)) (some ⟨w.heap.size, 0, none⟩) 2 (fun k => [a, b].getD k 0) := by
  intro _
  refine ⟨_, rfl, by simp, fun k hk => ?_⟩
  rcases (show k = 0 ∨ k = 1 by omega) with rfl | rfl <;> go_simp <;> rfl
def g32 : G := gset ⟨(3 : Int).toNat, (2 : Int).toNat, fun _ => false⟩ 4 true
theorem moves32 : movesI g32 0 = [2, 4] := by decide +kernel
/-- what both Sets hand back at a cell and a bool, and what they leave: the same grid -/
theorem set_both (w : World) (p q : Nat) (g : G) (v c : Int) (t : Bool) (hG : GridAt w p g v) (hR : RGridAt w q g v) (hpq : p ≠ q) (hv : 0 ≤ v ∧ v ≤ 1099511627000) :
    ∃ (did : Bool) (ev : Value) (f : Int) (g' : G) (v' : Int), v ≤ v' ∧ v' ≤ v + 1 ∧ g'.w = g.w ∧ g'.h = g.h ∧
      Calls Tryz.prog 35 #[.pointer (some ⟨p, 0, none⟩), .int .i64 c, .bool t] w (fun e w' => e = .returned (.tuple #[.bool did, ev]) ∧ GridAt w' p g' v' ∧ RGridAt w' q g v ∧ Kept [p] w w') ∧
      (∀ w1, RGridAt w1 q g v → Calls Tryz.prog 12 #[.pointer (some ⟨q, 0, none⟩), .int .i64 c, .bool t] w1 (fun e w' => e = .returned (.tuple #[.bool did, .int .i64 f]) ∧ RGridAt w' q g' v' ∧ Kept [q] w1 w')) ∧
      (∀ w1, Calls Tryz.prog 13 #[ev, .int .i64 f] w1 (fun e w' => e = .returned (.bool true) ∧ w1 = w')) := by
  by_cases hin : 0 ≤ c ∧ c < g.n
  · obtain ⟨i0, i1⟩ := hin
    obtain ⟨k, rfl⟩ := Int.eq_ofNat_of_zero_le i0
    have hk : k < g.n := by omega
    by_cases hs : g.b k = t
    · subst hs
      refine ⟨false, .nilIface, 0, g, v, by omega, by omega, rfl, rfl, (gridSet_same w p g v k hG hk).mono fun _ _ ⟨h1, h2⟩ => ⟨h1, hG.below h2 hG.lt, hR.below h2 hR.lt, .of_below h2⟩,
        fun w1 h => (rSet_same w1 q g v k h hk).mono fun _ _ ⟨h1, h2⟩ => ⟨h1, h.below h2 h.lt, .of_below h2⟩, fun w1 => same_ok w1⟩
    · have ht : g.b k = !t := by cases h : g.b k <;> cases t <;> simp_all
      refine ⟨true, .nilIface, 0, gset g k t, v + 1, by omega, by omega, rfl, rfl, (gridSet_new w p g v k t hG hk ht (by omega)).mono fun _ _ ⟨h1, h2, h3⟩ => ⟨h1, h2, hR.kept h3 (by simp; omega), h3⟩,
        fun w1 h => rSet_new w1 q g v k t h hk ht (by omega), fun w1 => same_ok w1⟩
  · have hout : c < 0 ∨ g.n ≤ c := by omega
    refine ⟨false, .iface 107 (.int .i64 1), 1, g, v, by omega, by omega, rfl, rfl, (gridSet_out w p g v c t hG hout).mono fun _ _ ⟨h1, h2⟩ => ⟨h1, hG.below h2 hG.lt, hR.below h2 hR.lt, .of_below h2⟩,
      fun w1 h => (rSet_out w1 q g v c t h hout).mono fun _ _ ⟨h1, h2⟩ => ⟨h1, h.below h2 h.lt, .of_below h2⟩, fun w1 => same_bad 1 w1 (by decide)⟩
theorem bidx_run {A : Option Addr} {ad : Addr} {n m k : Nat} (h : A = some ad) (hk : k < n) (wx : World) : (Instr.indexAt 25 (.slice A n m) (.int .i64 (k : Nat))).run Tryz.prog wx = .ok (.pointer (some (ad.add k))) wx := by
  subst h
  have q : (k : Int) < (n : Int) := by omega
  go_simp
theorem Bools.cell {w w' : World} {ad : Addr} {n : Nat} {f : Nat → Bool} (h : Bools w (some ad) n f) (hb : Below w.heap.size w w') {k : Nat} (hk : k < n) : w'.cell? (ad.add k) = some (.bool (f k)) := by
  obtain ⟨ad', e, h2, h3⟩ := h (by omega)
  cases e
  exact (hb.cell (p := ad.add k) (by rw [add_block]; exact h2)).trans (h3 k hk)
theorem Bools.addr {w : World} {A : Option Addr} {n : Nat} {f : Nat → Bool} (h : Bools w A n f) (hn : 0 < n) : ∃ ad, A = some ad := by
  obtain ⟨ad, e, _⟩ := h hn
  exact ⟨ad, e⟩
def GSR (W0 : World) (p q k : Nat) (wr : World) : Prop := ∃ g v, GridAt wr p g v ∧ RGridAt wr q g v ∧ 0 ≤ v ∧ v ≤ k ∧ Below W0.heap.size W0 wr
end Go.Proofs.YtjejkadaafmdcaaGreat
