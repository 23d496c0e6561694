/- Lemmas of this claim: Open, TopMoves, CostSays, CornerSays, AsGrid. -/
import Derived.Test.YtjejkadaafmdcaaDoorKTextSays7
import Derived.Deep.Grids
import Derived.ProofKit
import Derived.OpenShut
import Derived.Lib.SmallJoins
import Derived.Deep.Cut
import Derived.Test.YtjejkadaafmdcaaDoorRows
import Derived.Deep.DeepCutAuto
set_option linter.unusedVariables false
set_option linter.unusedSimpArgs false
/- How arguments of the laws read: plots, slices of numbers and of bools. -/
namespace Go.Proofs.YtjejkadaafmdcaaDoor
open Go.RowKit Go.Sort FR
open Go.ChangeShapes Go.WideShapes Go.ChangeAt Go.Joins
structure SlI (W : World) (A : Option Addr) (n : Nat) (f : Nat → Int) : Prop where
  ints : Ints W A n f
  len : n ≤ 9223372036854775807
  wf : ∀ k, -9223372036854775808 ≤ f k ∧ f k ≤ 9223372036854775807
/-- a slice of n bools, f k at place k -/
def Bools (w : World) (a : Option Addr) (n : Nat) (f : Nat → Bool) : Prop := 0 < n → ∃ ad, a = some ad ∧ ad.block < w.heap.size ∧ ∀ k, k < n → w.cell? (ad.add k) = some (.bool (f k))
structure SlB (W : World) (A : Option Addr) (n : Nat) (f : Nat → Bool) : Prop where
  bools : Bools W A n f
  len : n ≤ 9223372036854775807
theorem wf_bd {x : Int} (h : (Lit.int .i64 x).wf = true) : -9223372036854775808 ≤ x ∧ x ≤ 9223372036854775807 := by
  have h1 : IntKind.i64.min = -9223372036854775808 := by decide
  have h2 : IntKind.i64.max = 9223372036854775807 := by decide
  simp [Lit.wf, h1, h2] at h
  omega
section
variable {H : Type} {enc : TypeId × Value → H} {w : World} {base : Nat} {held : Bool}
theorem sli_of {fuel : Nat} {cs : List Value} {x : DataW H × List MemPlace} (h : DataW.trod enc Tryd.prog w base (fun _ => true) held fuel 22 cs = some x) :
    ∃ A n m f, cs = [.slice A n m] ∧ SlI w A n f := by
  rcases open_ints Tryd.underlying22 Tryd.underlying3 (by kernel_rfl) h with ⟨rfl, _⟩ | ⟨a, len, cap, zs, rfl, _, hl, hm, hz, _, hc, hwf⟩
  · exact ⟨none, 0, 0, fun _ => 0, rfl, fun h => absurd h (by omega), by omega, fun _ => by omega⟩
  · refine ⟨some a, len, cap, fun k => zs.getD k 0, rfl, fun hp => ⟨a, rfl, ?_, fun k hk => ?_⟩, ?_, fun k => ?_⟩
    · have := hc 0 (by simp at hz; omega)
      have := block_lt_of_cell this
      rwa [add_block] at this
    · exact hc k (by simp at hz; omega)
    · unfold maxLen at hm; omega
    · by_cases hk : k < zs.length
      · have e : zs.getD k 0 = zs[k] := by simp [List.getD, hk]
        simp only [e]
        exact wf_bd (hwf _ (List.getElem_mem hk))
      · have e : zs.getD k 0 = 0 := by simp [List.getD, List.getElem?_eq_none (by omega : zs.length ≤ k)]
        simp only [e]
        omega
variable {r : Reach} {b0 : Nat} {v : Value} {d : DataW H} {p : List MemPlace}
theorem cellsPlot : Tryd.prog.cellsOf 32 = 3 := by kernel_rfl
set_option maxRecDepth 100000 in
theorem open_plot (hv : Value.okWide Tryd.prog w r b0 32 v) (h : DataW.Trod enc Tryd.prog w base (fun _ => true) held 32 v d p) : ∃ a b A n m f, v = .agg #[.int .i64 a, .int .i64 b, .slice A n m] ∧ SlI w A n f := by
  obtain ⟨v0, v1, v2, y0, y1, y2, k, rfl, _, _, h0, h1, h2⟩ := open_agg3 Tryd.underlying32 (by kernel_rfl) cellsPlot hv h
  obtain ⟨a, e0, _, _⟩ := DataW.trod_int Tryd.underlying3 h0
  obtain ⟨b, e1, _, _⟩ := DataW.trod_int Tryd.underlying3 h1
  obtain ⟨A, n, m, f, e2, hs⟩ := sli_of h2
  simp at e0 e1 e2
  subst e0 e1 e2
  exact ⟨a, b, A, n, m, f, rfl, hs⟩
end
end Go.Proofs.YtjejkadaafmdcaaDoor
/- The law TopMoves: for any plot it returns true: who may go may come back. -/
namespace Go.Proofs.YtjejkadaafmdcaaDoor
open Go.RowKit Go.Sort FR
theorem upTo_get {p : Nat → Bool} {n k : Nat} (h : k < (upTo p n).length) : ∃ d : Nat, (upTo p n).getD k 0 = (d : Int) ∧ d < n ∧ p d = true := by
  have e : (upTo p n).getD k 0 = (upTo p n)[k] := by simp [List.getD, h]
  rw [e]
  have hm : (upTo p n)[k] ∈ upTo p n := List.getElem_mem h
  generalize (upTo p n)[k] = z at hm ⊢
  unfold upTo at hm
  rw [List.mem_map] at hm
  obtain ⟨d, hd, rfl⟩ := hm
  rw [List.mem_filter, List.mem_range] at hd
  exact ⟨d, rfl, hd.1, hd.2⟩
theorem May_eq (w : World) (p : Nat) (g : G) (v x y : Int) (d : Nat) (t : Bool) (h : GridAt w p g v) (hd : d < 8) (hx : inP x) (hy : inP y) (e : g.may x y d = t) :
    Calls Tryd.prog 44 #[.pointer (some ⟨p, 0, none⟩), .int .i64 x, .int .i64 y, .int .i64 (d : Nat)] w fun e w' => e = .returned (.bool t) ∧ Below w.heap.size w w' := by
  rw [← e]; exact gridMay w p g v x y d h hd hx hy
theorem To_eq (w : World) (p : Nat) (g : G) (v : Int) (c d : Nat) (z : Int) (h : GridAt w p g v) (hc : c < g.n) (hd : d < 8) (e : g.toI c d = z) :
    Calls Tryd.prog 40 #[.pointer (some ⟨p, 0, none⟩), .int .i64 (c : Nat), .int .i64 (d : Nat)] w fun e w' => e = .returned (.int .i64 z) ∧ Below w.heap.size w w' := by
  rw [← e]; exact gridTo w p g v c d h hc hd
/-- an element of a slice of numbers, in every later world -/
theorem Ints.cell {w w' : World} {ad : Addr} {n : Nat} {f : Nat → Int} (h : Ints w (some ad) n f) (hb : Below w.heap.size w w') {k : Nat} (hk : k < n) : w'.cell? (ad.add k) = some (.int .i64 (f k)) := by
  obtain ⟨ad', e, h2, h3⟩ := h (by omega)
  cases e
  exact (hb.cell (p := ad.add k) (by rw [add_block]; exact h2)).trans (h3 k hk)
theorem Ints.addr {w : World} {A : Option Addr} {n : Nat} {f : Nat → Int} (h : Ints w A n f) (hn : 0 < n) : ∃ ad, A = some ad := by
  obtain ⟨ad, e, _⟩ := h hn
  exact ⟨ad, e⟩
theorem idx_run {A : Option Addr} {ad : Addr} {n m k : Nat} (h : A = some ad) (hk : k < n) (wx : World) : (Instr.indexAt 22 (.slice A n m) (.int .i64 (k : Nat))).run Tryd.prog wx = .ok (.pointer (some (ad.add k))) wx := by
  subst h
  have q : (k : Int) < (n : Int) := by omega
  go_simp
end Go.Proofs.YtjejkadaafmdcaaDoor
/- The law CostSays: for any two costs and any two places it returns true. -/
namespace Go.Proofs.YtjejkadaafmdcaaDoor
open Go.RowKit Go.Sort FR
theorem same_ok (w : World) : Calls Tryd.prog 6 #[.nilIface, .int .i64 0] w fun e w' => e = .returned (.bool true) ∧ w = w' := same_nil 0 w
theorem same_bad (k : Int) (w : World) (h : 0 < k) : Calls Tryd.prog 6 #[.iface 23 (.int .i64 k), .int .i64 k] w fun e w' => e = .returned (.bool true) ∧ w = w' := by
  have := same_err k k w h; simpa using this
end Go.Proofs.YtjejkadaafmdcaaDoor
/- The law CornerSays: for any plot and any cell it returns true. -/
namespace Go.Proofs.YtjejkadaafmdcaaDoor
open Go.RowKit Go.Sort FR
theorem sameNumbers (w : World) (A A' : Option Addr) (n m m' : Nat) (f : Nat → Int) (h : Ints w A n f) (h' : Ints w A' n f) (hn : n < 1099511627776) :
    Calls Tryd.prog 7 #[.slice A n m, .slice A' n m'] w fun e w' => e = .returned (.bool true) ∧ Below w.heap.size w w' := by
  rcases Nat.eq_zero_or_pos n with hn0 | hnp
  · subst hn0
    go_enter Tryd.func7, Tryd.ntmps7
    go_wp2_with fail
    go_loopw [5] (fun i wr => i = .int .i64 0 ∧ Below w.heap.size w wr) (fun i _ => 0 - (intOf i).toNat)
    case atStart => exact ⟨rfl, by (repeat' (first | exact Below.refl _ _ | assumption | apply bel_drewN | apply bel_drew | apply bel_alloc | (refine bel_trans ?_ (by assumption))))⟩
    case round =>
      obtain ⟨rfl, HB⟩ := hrel
      go_wp2
      go_ret
      exact ⟨rfl, HB⟩
  · obtain ⟨ad, rfl, a1, a2⟩ := h hnp
    obtain ⟨ad', rfl, b1, b2⟩ := h' hnp
    have a2 := Lib.hid a2
    have b2 := Lib.hid b2
    clear h h'
    go_enter Tryd.func7, Tryd.ntmps7
    go_wp2_with fail
    go_loopw [5] (fun i wr => ∃ k : Nat, k ≤ n ∧ i = .int .i64 k ∧ Below w.heap.size w wr) (fun i _ => n - (intOf i).toNat)
    case atStart => exact ⟨0, by omega, rfl, by (repeat' (first | exact Below.refl _ _ | assumption | apply bel_drewN | apply bel_drew | apply bel_alloc | (refine bel_trans ?_ (by assumption))))⟩
    case round =>
      obtain ⟨k, hk, rfl, HB⟩ := hrel
      by_cases hlt : k < n
      · have e1 := (HB.cell (p := ad.add k) (by rw [add_block]; exact a1)).trans (a2.out k hlt)
        have e2 := (HB.cell (p := ad'.add k) (by rw [add_block]; exact b1)).trans (b2.out k hlt)
        have q1 : (k : Int) < (n : Int) := by omega
        go_wp2_with fail
        go_quiet (fail)
        go_wp2
        go_roundw
        case rel => exact ⟨k + 1, by omega, by go_num, bel_drewN HB⟩
        case measure => simp [intOf]; omega
      · obtain rfl : k = n := by omega
        go_wp2
        go_ret
        exact ⟨rfl, HB⟩
end Go.Proofs.YtjejkadaafmdcaaDoor
/- asGrid hands back true, of a grid and a reference's grid that have the same cells. -/
namespace Go.Proofs.YtjejkadaafmdcaaDoor
open Go.RowKit Go.Sort FR
theorem gridMoves_out (w : World) (p : Nat) (g : G) (v c : Int) (h : GridAt w p g v) (hc : c < 0 ∨ g.n ≤ c) :
    Calls Tryd.prog 38 #[.pointer (some ⟨p, 0, none⟩), .int .i64 c] w fun e w' => e = .returned (.tuple #[.slice none 0 0, .iface 23 (.int .i64 1)]) ∧ Below w.heap.size w w' := by
  go_enter Tryd.func38, Tryd.ntmps38
  go_wp2_with fail
  (with_reducible refine (gridPlace_out w p g v c h hc).mono ?_)
  rintro e w1 ⟨rfl, hb1⟩
  go_wp2
  go_ret2
  exact ⟨rfl, hb1⟩
theorem rTo_eq (w : World) (p : Nat) (g : G) (v : Int) (c d : Nat) (z : Int) (h : RGridAt w p g v) (hc : c < g.n) (hd : d < 8) (e : g.toI c d = z) :
    Calls Tryd.prog 41 #[.pointer (some ⟨p, 0, none⟩), .int .i64 (c : Nat), .int .i64 (d : Nat)] w fun e w' => e = .returned (.int .i64 z) ∧ Below w.heap.size w w' := by
  rw [← e]; exact rTo w p g v c d h hc hd
theorem rMay_at (w : World) (p : Nat) (g : G) (v x y : Int) (d : Nat) (t : Bool) (h : RGridAt w p g v) (hd : d < 8) (hx : inP x) (hy : inP y) (e : g.may x y d = t) :
    Calls Tryd.prog 45 #[.pointer (some ⟨p, 0, none⟩), .int .i64 x, .int .i64 y, .int .i64 (d : Nat)] w fun e w' => e = .returned (.bool t) ∧ Below w.heap.size w w' := by
  rw [← e]; exact rMay w p g v x y d h hd hx hy
/-- what Cell hands back, in the grid or not -/
def CellVal (g : G) (x y cv : Int) (ev : Value) : Prop := (0 ≤ x ∧ x < g.w ∧ 0 ≤ y ∧ y < g.h ∧ cv = y * g.w + x ∧ ev = .nilIface) ∨ (¬ (0 ≤ x ∧ x < g.w ∧ 0 ≤ y ∧ y < g.h) ∧ cv = 0 ∧ ev = .iface 23 (.int .i64 1))
theorem gridCell_any (w : World) (p : Nat) (g : G) (v x y : Int) (h : GridAt w p g v) :
    Calls Tryd.prog 42 #[.pointer (some ⟨p, 0, none⟩), .int .i64 x, .int .i64 y] w fun e w' => ∃ cv ev, e = .returned (.tuple #[.int .i64 cv, ev]) ∧ w = w' ∧ CellVal g x y cv ev := by
  by_cases hin : 0 ≤ x ∧ x < g.w ∧ 0 ≤ y ∧ y < g.h
  · obtain ⟨h1, h2, h3, h4⟩ := hin
    exact (gridCell_in w p g v x y h h1 h2 h3 h4).mono fun _ _ ⟨a, b⟩ => ⟨_, _, a, b, .inl ⟨h1, h2, h3, h4, rfl, rfl⟩⟩
  · exact (gridCell_out w p g v x y h hin).mono fun _ _ ⟨a, b⟩ => ⟨_, _, a, b, .inr ⟨hin, rfl, rfl⟩⟩
def InB (g : G) (x y : Int) (t : Bool) : Prop := t = true ↔ (0 ≤ x ∧ x < g.w ∧ 0 ≤ y ∧ y < g.h)
set_option maxRecDepth 100000 in
set_option maxHeartbeats 6400000 in
theorem asGrid (W0 : World) (p q : Nat) (g : G) (v : Int) (hG : GridAt W0 p g v) (hR : RGridAt W0 q g v) :
    Calls Tryd.prog 15 #[.pointer (some ⟨p, 0, none⟩), .pointer (some ⟨q, 0, none⟩)] W0 fun e w' => e = .returned (.bool true) ∧ Below W0.heap.size W0 w' := by
  have hpl := Lib.hid hG.lt
  have hql := Lib.hid hR.lt
  have hn := G.n_le hG.1
  obtain ⟨o1, o2, o3, o4⟩ := hG.1
  have en : ((g.n : Nat) : Int) = (g.w : Int) * g.h := by unfold G.n; simp
  have en := Lib.hid en
  go_enter Tryd.func15, Tryd.ntmps15
  go_wp2_with fail
  (with_reducible refine (gridSize W0 p g v hG).mono ?_)
  rintro e w1 ⟨rfl, hb1⟩
  have hR1 := hR.below hb1 hql.out
  obtain ⟨s1, s2⟩ := hR1.size
  have s3 := hR1.ver
  have s1q := cell_regrown s1
  have s2q := cell_regrown s2
  have s3q := cell_regrown s3
  have m1 : 0 ≤ (g.w : Int) * g.h := by rw [← en.out]; omega
  have m2 : (g.w : Int) * g.h ≤ 256 := by rw [← en.out]; omega
  have hw : IntKind.i64.wrap ((g.w : Int) * g.h) = (g.w : Int) * g.h := IntWalk.i64_in _ (by omega)
  have hq1 : (((g.n : Nat) : Int) == (g.w : Int) * g.h) = true := by rw [← en.out]; simp
  have hq2 : (((g.n : Nat) : Int) != (g.w : Int) * g.h) = false := by rw [← en.out]; simp
  go_wp2_with fail
  refine wp_region_quiet_below (by kernel_rfl) (by kernel_rfl) ?_
  repeat (first | go_big_quiet_step (first | (with_reducible exact Calls.regrown_of (gridCellsN _ p g v (hG.below (hb1.trans ((below_regrown w1 _ _).mono hb1.size)) hpl.out))) | (with_reducible exact Calls.regrown_of ((gridVersion _ p g v (hG.below (hb1.trans ((below_regrown w1 _ _).mono hb1.size)) hpl.out)).mono fun _ _ h => ⟨h.1, h.2 ▸ Below.refl _ _⟩))) | quiet_step (first | (with_reducible exact Calls.regrown_of (gridCellsN _ p g v (hG.below (hb1.trans ((below_regrown w1 _ _).mono hb1.size)) hpl.out))) | (with_reducible exact Calls.regrown_of ((gridVersion _ p g v (hG.below (hb1.trans ((below_regrown w1 _ _).mono hb1.size)) hpl.out)).mono fun _ _ h => ⟨h.1, h.2 ▸ Below.refl _ _⟩))))
  refine wpQuiet_nil ?_
  intro _ hw'
  obtain ⟨⟨dq, osq⟩, hw''⟩ := hw'
  have HB2 := bel_trans hb1 (below_regrown w1 dq osq)
  have hb2 := below_regrown w1 dq osq
  subst hw''
  generalize grow (redrawn w1 dq) osq = w2 at HB2 hb2 ⊢
  clear s1 s2 s3 s1q s2q s3q hw hq1 hq2
  have e1 : (g.w : Int) * g.h ≤ (g.n : Nat) := by rw [← en.out]; omega
  have e2 : ((g.n : Nat) : Int) ≤ (g.w : Int) * g.h := by rw [← en.out]; omega
  have hz2 := HB2.size
  clear hb1 hb2
  go_wp2_with fail
  go_loopw [7] (fun i wr => ∃ (k : Nat) (ci : Int), k ≤ g.n + 2 ∧ i = .int .i64 ci ∧ ci = (k : Int) - 1 ∧ Below W0.heap.size W0 wr) (fun i _ => (g.n + 2 - intOf i).toNat)
  case atStart => exact ⟨0, -1, by omega, rfl, by omega, HB2⟩
  case round =>
    obtain ⟨k, ci, hk, rfl, hci, HB⟩ := hrel
    have c1 : -1 ≤ ci := by omega
    by_cases hlt : ci ≤ g.n
    · by_cases hin : 0 ≤ ci ∧ ci < g.n
      · obtain ⟨i0, i1⟩ := hin
        obtain ⟨c, rfl⟩ := Int.eq_ofNat_of_zero_le i0
        have hcn : c < g.n := by omega
        have Hci := Lib.hid hci
        clear hci i0 i1
        go_wp2_with fail
        (with_reducible refine (rIs_in _ q g v c (hR.below HB hql.out) hcn).mono ?_)
        rintro e w3 ⟨rfl, hb3⟩
        have HB3 := bel_trans HB hb3
        clear hb3
        go_wp2_with fail
        (with_reducible refine (gridPlace_in _ p g v c (hG.below HB3 hpl.out) hcn).mono ?_)
        rintro e w4 ⟨rfl, hb4⟩
        have HB4 := bel_trans HB3 hb4
        clear hb4
        go_wp2_with fail
        (with_reducible refine (gridFree_in _ p g v c (hG.below HB4 hpl.out) hcn).mono ?_)
        rintro e w5 ⟨rfl, hb5⟩
        have HB5 := bel_trans HB4 hb5
        clear hb5
        go_wp2_with fail
        (with_reducible refine (gridMoves _ p g v c (hG.below HB5 hpl.out) hcn).mono ?_)
        rintro e w6 ⟨A1, ma, rfl, hI1, hb6⟩
        have HB6 := bel_trans HB5 hb6
        clear hb6
        go_wp2_with fail
        (with_reducible refine (same_ok _).mono ?_)
        rintro e w' ⟨rfl, rfl⟩
        go_wp2_with fail
        (with_reducible refine (same_ok _).mono ?_)
        rintro e w' ⟨rfl, rfl⟩
        go_wp2_with fail
        (with_reducible refine (same_ok _).mono ?_)
        rintro e w' ⟨rfl, rfl⟩
        have eX : (c : Int) % g.w = (g.X c : Nat) := by unfold G.X; simp
        have eY : (c : Int) / g.w = (g.Y c : Nat) := by unfold G.Y; simp
        have y1 : g.Y c < 16 := by have := G.Y_lt hcn; omega
        have x1 : g.X c < 16 := by have := G.X_lt hG.1 c; omega
        have eXb : ((g.X c : Nat) : Int) == (c : Int) % g.w := by rw [eX]; simp
        have eYb : ((g.Y c : Nat) : Int) == (c : Int) / g.w := by rw [eY]; simp
        have d1 : 0 ≤ (c : Int) / g.w := by rw [eY]; omega
        have d2 : (c : Int) / g.w ≤ 256 := by rw [eY]; omega
        have hbit := (hR.below HB6 hql.out).bit c (by omega)
        clear eX eY
        obtain ⟨nl, hnl⟩ : ∃ nl, (movesI g c).length = nl := ⟨_, rfl⟩
        rw [hnl] at hI1 ⊢
        have Hnl := Lib.hid hnl
        have hl8 : nl ≤ 8 := by rw [← hnl]; exact upTo_len _ _
        clear hnl
        have hz6 := HB6.size
        go_upto_region 16 with (fail)
        generalize hfr : (!g.b c) = fr
        generalize g.b c = bb at hbit hfr
        have hne : (fr == bb) = false := by rw [← hfr]; cases bb <;> rfl
        clear hfr
        go_cut [149] (fun s wx => s = .bool false ∧ Below w6.heap.size w6 wx)
        case first =>
          all_goals
            go_wp2_with fail
            (with_reducible refine (rMoves _ q g v c (hR.below HB6 hql.out) hcn).mono ?_)
            rintro e w7 ⟨A2, mb, rfl, hI2, hb7⟩
            rw [Hnl.out] at hI2 ⊢
            have hI1' := hI1.below hb7
            go_wp2_with fail
            (with_reducible refine (sameNumbers _ A1 A2 nl ma mb _ hI1' hI2 (by omega)).mono ?_)
            rintro e w8 ⟨rfl, hb8⟩
            have hb78 := bel_trans hb7 hb8
            clear hb7 hb8 hI1' hI2 hbit
            go_wp2
            go_meet
            case rel => exact ⟨rfl, hb78⟩
        case rest =>
          obtain ⟨w8, rfl⟩ : ∃ w8 : World, w8 = wc := ⟨_, rfl⟩
          obtain ⟨rfl, hb8⟩ := hcut
          have HB8 := bel_trans HB6 hb8
          have hI8 := hI1.below hb8
          clear hb8 hbit hne
          go_wp2_with fail
          obtain ⟨wo, rfl⟩ : ∃ wo : World, wo = wr := ⟨_, rfl⟩
          go_loopw [16] (fun i wr => ∃ j : Nat, j ≤ nl ∧ i = .int .i64 j ∧ Below w8.heap.size w8 wr) (fun i _ => nl - (intOf i).toNat)
          case atStart => exact ⟨0, by omega, rfl, Below.refl _ _⟩
          case round =>
            obtain ⟨j, hj, rfl, HBj⟩ := hrel
            by_cases hlj : j < nl
            · obtain ⟨ad, hA⟩ := hI8.addr (by omega)
              have hI9 := hI8
              rw [hA] at hI9
              have hix := fun wx => idx_run (m := ma) hA hlj wx
              clear hA
              obtain ⟨d, hd, hd8, hmay⟩ := upTo_get (p := g.mayC c) (n := 8) (k := j) (by have := Hnl.out; show j < (movesI g c).length; omega)
              have hd' : (movesI g c).getD j 0 = (d : Int) := hd
              have hE := hI9.cell HBj hlj
              simp only [hd'] at hE
              clear hd hd' hmay
              have hEq := cell_regrown hE
              have q1 : (j : Int) < (nl : Int) := by omega
              have HBw := bel_trans HB8 HBj
              obtain ⟨z, hz⟩ : ∃ z, g.toI c d = z := ⟨_, rfl⟩
              go_wp2_with fail
              refine wp_region_quiet_below (by kernel_rfl) (by kernel_rfl) ?_
              repeat (first | go_big_quiet_step (first | (with_reducible exact Calls.regrown_of (To_eq _ p g v c d z (hG.below (HBw.trans ((below_regrown wr _ _).mono HBw.size)) hpl.out) hcn hd8 hz)) | (with_reducible exact Calls.regrown_of (rTo_eq _ q g v c d z (hR.below (HBw.trans ((below_regrown wr _ _).mono HBw.size)) hql.out) hcn hd8 hz))) | quiet_step (first | (with_reducible exact Calls.regrown_of (To_eq _ p g v c d z (hG.below (HBw.trans ((below_regrown wr _ _).mono HBw.size)) hpl.out) hcn hd8 hz)) | (with_reducible exact Calls.regrown_of (rTo_eq _ q g v c d z (hR.below (HBw.trans ((below_regrown wr _ _).mono HBw.size)) hql.out) hcn hd8 hz))))
              refine wpQuiet_nil ?_
              intro _ hw'
              obtain ⟨⟨dq, osq⟩, hw''⟩ := hw'
              have HB9 := bel_trans HBw (below_regrown wr dq osq)
              have hb2 := below_regrown wr dq osq
              subst hw''
              generalize grow (redrawn wr dq) osq = w9 at HB9 hb2 ⊢
              clear hz
              go_wp2
              go_roundw
              case rel => exact ⟨j + 1, by omega, by go_num, bel_trans HBj hb2⟩
              case measure => simp [intOf]; omega
            · obtain rfl : j = nl := by omega
              go_wp2
              go_roundw
              case rel => first | exact ⟨k + 1, _, by have := Hci.out; omega, rfl, by have := Hci.out; omega, bel_trans HB8 HBj⟩ | ((repeat apply Exists.intro); exact ⟨⟨k + 1, _, by have := Hci.out; omega, rfl, by have := Hci.out; omega, bel_trans HB8 HBj⟩, rfl⟩)
              case measure => simp [intOf]; omega
      · have hout : ci < 0 ∨ g.n ≤ ci := by omega
        have Hci := Lib.hid hci
        clear hci
        go_wp2_with fail
        (with_reducible refine (rIs_out _ q g v ci (hR.below HB hql.out) hout).mono ?_)
        rintro e w3 ⟨rfl, hb3⟩
        have HB3 := bel_trans HB hb3
        clear hb3
        go_wp2_with fail
        (with_reducible refine (gridPlace_out _ p g v ci (hG.below HB3 hpl.out) hout).mono ?_)
        rintro e w4 ⟨rfl, hb4⟩
        have HB4 := bel_trans HB3 hb4
        clear hb4
        go_wp2_with fail
        (with_reducible refine (gridFree_out _ p g v ci (hG.below HB4 hpl.out) hout).mono ?_)
        rintro e w5 ⟨rfl, hb5⟩
        have HB5 := bel_trans HB4 hb5
        clear hb5
        go_wp2_with fail
        (with_reducible refine (gridMoves_out _ p g v ci (hG.below HB5 hpl.out) hout).mono ?_)
        rintro e w6 ⟨rfl, hb6⟩
        have HB6 := bel_trans HB5 hb6
        clear hb6
        go_wp2_with fail
        (with_reducible refine (same_bad 1 _ (by decide)).mono ?_)
        rintro e w' ⟨rfl, rfl⟩
        go_wp2_with fail
        (with_reducible refine (same_bad 1 _ (by decide)).mono ?_)
        rintro e w' ⟨rfl, rfl⟩
        go_wp2_with fail
        (with_reducible refine (same_bad 1 _ (by decide)).mono ?_)
        rintro e w' ⟨rfl, rfl⟩
        go_wp2
        go_roundw
        case rel => (repeat apply Exists.intro); exact ⟨⟨k + 1, _, by have := Hci.out; omega, rfl, by have := Hci.out; omega, HB6⟩, rfl⟩
        case measure => simp [intOf]; omega
    · clear hci
      go_wp2_with fail
      go_loopw [17] (fun i wr => ∃ (a : Nat) (x : Int), a ≤ g.w + 2 ∧ i = .int .i64 x ∧ x = (a : Int) - 1 ∧ Below W0.heap.size W0 wr) (fun i _ => (g.w + 2 - intOf i).toNat)
      case atStart => exact ⟨0, -1, by omega, rfl, by omega, HB⟩
      case round =>
        obtain ⟨a, x, ha, rfl, hx, HBx⟩ := hrel
        have x1 : -1 ≤ x := by omega
        have Hx := Lib.hid hx
        clear hx
        by_cases hltx : x ≤ g.w
        · go_wp2_with fail
          obtain ⟨wo, rfl⟩ : ∃ wo : World, wo = wr := ⟨_, rfl⟩
          go_loopw [18] (fun i wr => ∃ (b : Nat) (y : Int), b ≤ g.h + 2 ∧ i = .int .i64 y ∧ y = (b : Int) - 1 ∧ Below W0.heap.size W0 wr) (fun i _ => (g.h + 2 - intOf i).toNat)
          case atStart => exact ⟨0, -1, by omega, rfl, by omega, HBx⟩
          case round =>
            obtain ⟨b, y, hb, rfl, hy, HBy⟩ := hrel
            have y1 : -1 ≤ y := by omega
            have Hy := Lib.hid hy
            clear hy
            by_cases hlty : y ≤ g.h
            · obtain ⟨t, ht⟩ : ∃ t, g.op x y = t := ⟨_, rfl⟩
              have cO := Lib.hid (fun w' h' => gridOpen_at w' p g v x y t h' ht)
              have cR := Lib.hid (fun w' h' => rOpen_at w' q g v x y t h' ht)
              clear ht
              have hpx : inP x := by unfold inP; omega
              have hpy : inP y := by unfold inP; omega
              go_wp2_with fail
              (with_reducible refine (gridCell_any _ p g v x y (hG.below HBy hpl.out)).mono ?_)
              rintro e w' ⟨cv, ev, rfl, rfl, hcase⟩
              have hcase := Lib.hid hcase
              go_upto_region 30 with (fail)
              go_cut [21] (fun s wx => ∃ inb : Bool, s = .bool inb ∧ InB g x y inb ∧ wx = wr)
              case first =>
                go_wp2
                all_goals (go_meet; (case rel => exact ⟨_, rfl, by unfold InB; simp; omega, rfl⟩))
              case rest =>
                obtain ⟨inb, rfl, hinb, hwc⟩ := hcut
                rw [hwc]
                clear hwc
                go_upto_region 31 with (fail)
                go_cut [243] (fun s wx => s = .bool false ∧ Below W0.heap.size W0 wx)
                case first =>
                  go_wp2_with fail
                  (with_reducible refine (cO.out _ (hG.below HBy hpl.out)).mono ?_)
                  rintro e w' ⟨rfl, rfl⟩
                  go_wp2_with fail
                  (with_reducible refine (cR.out _ (hR.below HBy hql.out)).mono ?_)
                  rintro e w3 ⟨rfl, hb3⟩
                  have HB3 := bel_trans HBy hb3
                  clear hb3
                  rcases hcase.out with ⟨i1, i2, i3, i4, rfl, rfl⟩ | ⟨i1, rfl, rfl⟩
                  · obtain rfl : inb = true := hinb.2 ⟨i1, i2, i3, i4⟩
                    have n1 : 0 ≤ y * (g.w : Int) := Int.mul_nonneg i3 (by omega)
                    have n2 : y * (g.w : Int) ≤ 256 := Int.le_trans (Int.mul_le_mul (show y ≤ 16 by omega) (show (g.w : Int) ≤ 16 by omega) (by omega) (by omega)) (by omega)
                    cases t
                    all_goals
                      go_wp2
                      go_meet
                      case rel => exact ⟨rfl, HB3⟩
                  · obtain rfl : inb = false := by
                      cases inb with
                      | false => rfl
                      | true => exact absurd (hinb.1 rfl) i1
                    clear i1 hinb
                    cases t
                    all_goals
                      go_wp2_with fail
                      (with_reducible refine (same_bad 1 _ (by decide)).mono ?_)
                      rintro e w' ⟨rfl, rfl⟩
                      go_wp2
                      go_meet
                      case rel => exact ⟨rfl, HB3⟩
                case rest =>
                  obtain ⟨rfl, HB3⟩ := hcut
                  go_wp2_with fail
                  obtain ⟨wq, rfl⟩ : ∃ wq : World, wq = wr := ⟨_, rfl⟩
                  go_loopw [22] (fun i wr => ∃ j : Nat, j ≤ 8 ∧ i = .int .i64 j ∧ Below W0.heap.size W0 wr) (fun i _ => 8 - (intOf i).toNat)
                  case atStart => exact ⟨0, by omega, rfl, HB3⟩
                  case round =>
                    obtain ⟨j, hj, rfl, HBj⟩ := hrel
                    by_cases hlj : j < 8
                    · obtain ⟨s, hs⟩ : ∃ s, g.may x y j = s := ⟨_, rfl⟩
                      go_wp2_with fail
                      (with_reducible refine (May_eq _ p g v x y j s (hG.below HBj hpl.out) hlj hpx hpy hs).mono ?_)
                      rintro e w4 ⟨rfl, hb4⟩
                      have HB4 := bel_trans HBj hb4
                      clear hb4
                      go_wp2_with fail
                      (with_reducible refine (rMay_at _ q g v x y j s (hR.below HB4 hql.out) hlj hpx hpy hs).mono ?_)
                      rintro e w5 ⟨rfl, hb5⟩
                      have HB5 := bel_trans HB4 hb5
                      clear hb5 hs
                      go_wp2
                      go_roundw
                      case rel => exact ⟨j + 1, by omega, by go_num, HB5⟩
                      case measure => simp [intOf]; omega
                    · obtain rfl : j = 8 := by omega
                      go_wp2
                      go_roundw
                      case rel => first | exact ⟨b + 1, _, by have := Hy.out; omega, rfl, by have := Hy.out; omega, HBj⟩ | ((repeat apply Exists.intro); exact ⟨⟨b + 1, _, by have := Hy.out; omega, rfl, by have := Hy.out; omega, HBj⟩, rfl⟩)
                      case measure => simp [intOf]; omega
            · go_wp2
              go_roundw
              case rel => first | exact ⟨a + 1, _, by have := Hx.out; omega, rfl, by have := Hx.out; omega, HBy⟩ | ((repeat apply Exists.intro); exact ⟨⟨a + 1, _, by have := Hx.out; omega, rfl, by have := Hx.out; omega, HBy⟩, rfl⟩)
              case measure => simp [intOf]; omega
        · go_wp2
          go_ret
          exact ⟨rfl, HBx⟩
end Go.Proofs.YtjejkadaafmdcaaDoor
