/- (*Flood).Way: the way back to the first one, turned round. -/
import Derived.Test.YtkiogciokngjfaaFlood4
import Derived.Test.YtkiogciokngjfaaShRev
import Derived.Sort.OwnSortedInts
set_option linter.unusedVariables false
set_option linter.unusedSimpArgs false
namespace Go.Proofs.Ytkiogciokngjfaa
open Go.RowKit Go.Sort FR
/-- behind slices.Reverse the same list owns what it held, turned round -/
theorem intsReverse (w : World) (B : Nat) (v : Value) (zs : List Int) (hown : OwnI w B v zs) (hl : zs.length ≤ 1000000000) (hB : B ≤ w.heap.size) :
    Calls Try.prog 127 #[v] w fun e w' => e = .returned (.tuple #[]) ∧ OwnI w' B v zs.reverse ∧ Below B w w' := by
  rcases hown.2 with ⟨rfl, hn⟩ | ⟨g, cap, cur, rfl, hg, hh, hc, hm, hs, ht⟩
  · have : zs = [] := List.eq_nil_of_length_eq_zero hn
    subst this
    refine (Try.slices_Reverse_int_empty none 0 w).mono ?_
    rintro e w' ⟨h1, h2⟩
    subst h2
    exact ⟨h1, OwnI.nil _ _, Below.refl _ _⟩
  · have ht1 : cur.toList.take zs.length = zs.map (Value.int .i64) := by rw [Nat.mul_one] at ht; exact ht
    refine (Try.slices_Reverse_int g 0 cap zs w (holds_of_blockI hh ht1) (by omega)).mono ?_
    rintro e w' ⟨h1, n, h2⟩
    have e0 : w' = grow (putRow (Value.int .i64) (Sort.ahead w n) g 0 zs.reverse.toArray) #[] := by rw [grow_empty]; exact h2
    have h3 := ownsRow_sortedI (w := w) (n := n) (os := #[]) (ss := zs) (ts := zs.reverse) (by simp) hg hh hc hm hs
    have h4 := grownBy_sortedI (w := w) (g := g) (n := n) (os := #[]) zs.reverse.toArray
    rw [← e0] at h3 h4
    refine ⟨h1, ?_, ⟨h4.os, h4.tape, h4.output, h4.size, fun k hk => ?_⟩⟩
    · unfold OwnI; rw [List.length_reverse]; exact h3
    · by_cases hkw : k < w.heap.size
      · exact h4.block k hkw (by intro e; injection e with e; omega)
      · omega
set_option maxHeartbeats 800000 in
theorem floodWay_out (w : World) (b : Nat) (g : G) (fr : Nat) (done : Nat → Option C) (back : Nat → Option Nat) (c : Int) (h : FloodAt w b g fr done back) (hc : c < 0 ∨ g.n ≤ c) :
    Calls Try.prog 77 #[.pointer (some ⟨b, 0, none⟩), .int .i64 c] w fun e w' => e = .returned (.tuple #[.slice none 0 0, .iface 137 (.int .i64 1)]) ∧ Below w.heap.size w w' := by
  go_enter Try.func77, Try.ntmps77
  go_wp2_with fail
  (with_reducible refine (floodCost_out _ b g fr done back c h hc).mono ?_)
  rintro e w1 ⟨rfl, hb1⟩
  go_wp2
  go_ret2
  exact ⟨rfl, by (repeat' (first | exact Below.refl _ _ | assumption | apply bel_drewN | apply bel_drew | apply bel_alloc | (refine bel_trans ?_ (by assumption))))⟩
set_option maxHeartbeats 800000 in
theorem floodWay_none (w : World) (b : Nat) (g : G) (fr : Nat) (done : Nat → Option C) (back : Nat → Option Nat) (c : Nat) (h : FloodAt w b g fr done back) (hc : c < g.n) (hd : done c = none) :
    Calls Try.prog 77 #[.pointer (some ⟨b, 0, none⟩), .int .i64 (c : Nat)] w fun e w' => e = .returned (.tuple #[.slice none 0 0, .iface 137 (.int .i64 5)]) ∧ Below w.heap.size w w' := by
  go_enter Try.func77, Try.ntmps77
  go_wp2_with fail
  (with_reducible refine (floodCost_none _ b g fr done back c h hc hd).mono ?_)
  rintro e w1 ⟨rfl, hb1⟩
  go_wp2
  go_ret2
  exact ⟨rfl, by (repeat' (first | exact Below.refl _ _ | assumption | apply bel_drewN | apply bel_drew | apply bel_alloc | (refine bel_trans ?_ (by assumption))))⟩
def WayD (w : World) (back : Nat → Option Nat) (fr c : Nat) (e : Ending) (w' : World) : Prop := ∃ (l : List Nat) (A : Option Addr) (m : Nat), e = .returned (.tuple #[.slice A l.length m, .nilIface]) ∧ Ints w' A l.length (fun k => (l.reverse.map fun n : Nat => (n : Int)).getD k 0) ∧ BackWay back c l ∧ (∃ l', l = l' ++ [fr]) ∧ l.length ≤ 1000000 ∧ Below w.heap.size w w'
/-- what holds at a round's head -/
def WyI (W : World) (b gp mc mb : Nat) (g : G) (v0 : Int) (done : Nat → Option C) (back : Nat → Option Nat) (nb c gk : Nat) (sl : Value) (wr : World) : Prop :=
  ∃ (l : List Nat) (x : Nat) (d : C), OwnI wr W.heap.size sl ((l ++ [x]).map fun n : Nat => (n : Int)) ∧ BackWay back c (l ++ [x]) ∧ done x = some d ∧ rk 512 d ≤ gk ∧ l.length + rk 512 d ≤ 300000 ∧ Below W.heap.size W wr
set_option maxRecDepth 100000 in
set_option maxHeartbeats 1600000 in
theorem floodWay_ok (w : World) (b : Nat) (g : G) (fr : Nat) (done : Nat → Option C) (back : Nat → Option Nat) (c : Nat) (ds dd : Int) (h : FloodAt w b g fr done back) (hd : done c = some ⟨ds, dd⟩) :
    Calls Try.prog 77 #[.pointer (some ⟨b, 0, none⟩), .int .i64 (c : Nat)] w (WayD w back fr c) := by
  go_enter Try.func77, Try.ntmps77
  go_wp2_with fail
  (with_reducible refine (floodCost_some _ b g fr done back c ds dd h hd).mono ?_)
  rintro e w1 ⟨rfl, hb1⟩
  go_upto_region 5 with (fail)
  refine wp_name ?_
  intro W hW
  have HW : Below w.heap.size w W := by rw [hW]; (repeat' (first | exact Below.refl _ _ | assumption | apply bel_drewN | apply bel_drew | apply bel_alloc | (refine bel_trans ?_ (by assumption))))
  have hO : OwnI W w.heap.size (.slice (some ⟨w1.heap.size + 1, 0, none⟩) 1 1) ((([] : List Nat) ++ [c]).map fun n : Nat => (n : Int)) := by
    rw [hW]
    refine ⟨rfl, .inr ⟨w1.heap.size + 1, 1, #[.int .i64 (c : Nat)], rfl, by have := hb1.size; omega, ?_, by simp, by decide, rfl, rfl⟩⟩
    have := heap_alloc_new (w1.alloc (.cells #[.int .i64 ds, .int .i64 dd] 23)) (.cells #[.int .i64 (c : Nat)] 3 (0, 0))
    simpa using this
  obtain ⟨gp, mc, mb, v0, nb, hF, hok, hbl⟩ := h
  have hok := Lib.hid hok
  have hrk : rk 512 ⟨ds, dd⟩ ≤ 263169 := rk_le 512 _
  obtain ⟨N0, hN0⟩ : ∃ N0, N0 = rk 512 ⟨ds, dd⟩ := ⟨_, rfl⟩
  have hstart : WyI w b gp mc mb g v0 done back nb c N0 (.slice (some ⟨w1.heap.size + 1, 0, none⟩) 1 1) W := ⟨[], c, ⟨ds, dd⟩, hO, BackWay.one back c, hd, by omega, by simp; omega, HW⟩
  have HF := Lib.hid hF
  have hlt := hF.lt
  obtain ⟨k0, k1, k2⟩ := hF.cells
  clear hW hO hF hN0 hb1 HW k0 k1
  go_wp2_with fail
  go_loopg [8] N0 (fun gk sl wr => WyI w b gp mc mb g v0 done back nb c gk sl wr)
  case atStart => exact hstart
  case round =>
    obtain ⟨l, x, d, hown, hbw, hdx, hgk, hlr, HB⟩ := hrel
    have Hlr := Lib.hid hlr
    clear hstart
    obtain ⟨A, m, rfl, hI⟩ := hown.ints
    obtain ⟨nt, hnt⟩ : ∃ nt, ((l ++ [x]).map fun n : Nat => (n : Int)).length = nt := ⟨_, rfl⟩
    have hnt2 : nt = l.length + 1 := by rw [← hnt]; simp
    rw [hnt] at hI hown ⊢
    obtain ⟨ad, hA⟩ := hI.addr (by omega)
    have hIb := hI
    rw [hA] at hIb
    have hix := fun wx => idx_run (m := m) (n := nt) (k := nt - 1) hA (by omega) wx
    have hE := hIb.cell (Below.refl _ _) (k := nt - 1) (by omega)
    have hg : ((l ++ [x]).map fun n : Nat => (n : Int)).getD (nt - 1) 0 = (x : Nat) := by rw [hnt2]; simp
    rw [hg] at hE
    have e1 : ((nt - 1 : Nat) : Int) = (nt : Int) - 1 := by omega
    rw [e1] at hix
    have k2 := (HB.cell (by exact hlt)).trans k2
    have hM := HF.out.mapB.kept (Kept.of_below HB) (by simp : mb ∉ ([] : List Nat))
    have hnt3 : nt ≤ 300001 := by omega
    have hnt1 : 1 ≤ nt := by omega
    have hwr : IntKind.i64.wrap ((nt : Int) - 1) = (nt : Int) - 1 := IntWalk.i64_in _ (by omega)
    have Hnt := Lib.hid hnt
    have Hnt2 := Lib.hid hnt2
    have Hown := Lib.hid hown
    have Hbw := Lib.hid hbw
    clear hA hI hIb hown hbw hnt hnt2 hg e1 hlr
    cases hbx : back x with
    | none =>
      have hlq : ∀ n, (Instr.lookup 154 (.map (some mb)) (.int .i64 (x : Nat)) true).run Try.prog (wr.drewN n) = .ok (.tuple #[.int .i64 0, .bool false]) (wr.drewN n) := fun n => mapLook_out (hM.below (bel_drewN (Below.refl _ _))) (by rw [mapI_nat]; unfold backV; rw [hbx]; rfl)
      have hl0 := mapLook_out hM (z := (x : Nat)) (by rw [mapI_nat]; unfold backV; rw [hbx]; rfl)
      go_upto_region 5 with (fail)
      go_quiet (fail)
      have hx : x = fr := by
        rcases hok.out.b0 x hbx with h | h
        · rw [hdx] at h; cases h
        · exact h
      have hbl2 := Hbw.out
      subst hx
      have hO2 := Hown.out.below (B' := 0) (bel_drewN (n := nq) (Below.refl wr.heap.size wr))
      have HB2 : Below w.heap.size w (wr.drewN nq) := bel_drewN HB
      clear hbx hlq hl0 hE k2 hM hix Hown HB
      generalize wr.drewN nq = w8 at *
      have cR := Lib.hid (intsReverse w8 w.heap.size _ _ hO2 (by rw [Hnt.out]; omega) HB2.size)
      go_wp2_with fail
      (with_reducible refine (cR.out).mono ?_)
      rintro e w9 ⟨rfl, hO9, hB9⟩
      have hfin : WayD w back x c (.returned (.tuple #[.slice A nt m, .nilIface])) w9 := by
        obtain ⟨A', m', hv, hi, hf⟩ := hO9.intsN
        have hl9 : (((l ++ [x]).map fun n : Nat => (n : Int)).reverse).length = (l ++ [x]).length := by simp
        have hll : (l ++ [x]).length = nt := by rw [Hnt2.out]; simp
        rw [hl9, hll] at hv hi
        injection hv with h1 h2 h3
        subst h1; subst h3
        refine ⟨l ++ [x], A, m, by rw [hll], ?_, hbl2, ⟨l, rfl⟩, by omega, ?_⟩
        · rw [hll]
          rw [← List.map_reverse] at hi
          exact hi
        · exact HB2.trans hB9
      clear hO9 hB9 HB2 hO2 hbl2
      go_wp2
      go_ret2
      exact hfin
    | some y =>
      have hlq : ∀ n, (Instr.lookup 154 (.map (some mb)) (.int .i64 (x : Nat)) true).run Try.prog (wr.drewN n) = .ok (.tuple #[.int .i64 (y : Nat), .bool true]) (wr.drewN n) := fun n => mapLook_in (hM.below (bel_drewN (Below.refl _ _))) (by rw [mapI_nat]; unfold backV; rw [hbx]; rfl)
      have hl0 := mapLook_in hM (z := (x : Nat)) (v := .int .i64 (y : Nat)) (by rw [mapI_nat]; unfold backV; rw [hbx]; rfl)
      obtain ⟨c1, d1, q1, q2, q3⟩ := hok.out.lower hbx
      have hd1 : c1 = d := by rw [hdx] at q1; injection q1 with q1; exact q1.symm
      subst hd1
      have Hbw2 := Lib.hid (Hbw.out.snoc hbx)
      have Q := Lib.hid (And.intro q2 q3)
      clear q1 q2 q3 hdx hbx
      go_upto_region 5 with (fail)
      go_quiet (fail)
      have hO2 := Hown.out.below (B' := 0) (bel_drewN (n := nq) (Below.refl wr.heap.size wr))
      have HB2 : Below w.heap.size w (wr.drewN nq) := bel_drewN HB
      clear hlq hl0 hE k2 hM hix Hown HB
      generalize wr.drewN nq = w8 at *
      have hs8 := HB2.size
      have hml : ((l ++ [x]).map fun n : Nat => (n : Int)).length < 1099511627776 := by rw [Hnt.out]; omega
      go_wp2_with (at_builtin; (refine wpList_append_int _ rfl _ _ rfl w.heap.size _ _ _ rfl (hO2.alloc _) ⟨w8.heap.size, 0, none⟩ rfl (cell1_new _ _ _) hml (by simp; omega) ?_); intro v' w9 hown9 hgrow)
      have HB9 := below_grown (HB2.alloc (by omega) _) (by simp; omega) (hO2.alloc _) hgrow
      have hin : WyI w b gp mc mb g v0 done back nb c (rk 512 d1) v' w9 := ⟨l ++ [x], y, d1, by simpa using hown9, Hbw2.out, Q.out.1, Nat.le_refl _, by have := Hlr.out; have := Q.out.2; simp; omega, HB9⟩
      have hin := Lib.hid hin
      have Q2 := Q.out.2
      clear hown9 hgrow HB9 hO2 HB2 hml
      go_wp2
      go_roundg (rk 512 d1)
      case measure => omega
      case rel => exact hin.out
end Go.Proofs.Ytkiogciokngjfaa
