/- The law TopMoves: for any plot it returns true: who may go may come back. -/
import Derived.Test.YtkiogciokngjfaaMoves
import Derived.Test.YtkiogciokngjfaaOpen
import Derived.Deep.Cut
set_option linter.unusedVariables false
set_option linter.unusedSimpArgs false
namespace Go.Proofs.Ytkiogciokngjfaa
open Go.RowKit Go.Sort FR
theorem upTo_get {p : Nat → Bool} {n k : Nat} (h : k < (upTo p n).length) : ∃ d : Nat, (upTo p n).getD k 0 = (d : Int) ∧ d < n ∧ p d = true := by
  have e : (upTo p n).getD k 0 = (upTo p n)[k] := by simp [List.getD, h]
  rw [e]
  have hm : (upTo p n)[k] ∈ upTo p n := List.getElem_mem h
  generalize (upTo p n)[k] = z at hm ⊢
  unfold upTo at hm
  rw [List.mem_map] at hm
  obtain ⟨d, hd, rfl⟩ := hm
  rw [List.mem_filter, List.mem_range] at hd
  exact ⟨d, rfl, hd.1, hd.2⟩
theorem upTo_has {p : Nat → Bool} {n d : Nat} (hd : d < n) (hp : p d = true) : ∃ k, k < (upTo p n).length ∧ (upTo p n).getD k 0 = (d : Int) := by
  have hm : (d : Int) ∈ upTo p n := by
    unfold upTo; rw [List.mem_map]; exact ⟨d, by rw [List.mem_filter, List.mem_range]; exact ⟨hd, hp⟩, rfl⟩
  obtain ⟨k, hk, e⟩ := List.getElem_of_mem hm
  exact ⟨k, hk, by simp [List.getD, hk, e]⟩
theorem upTo_rise {p : Nat → Bool} {n k : Nat} (h : k + 1 < (upTo p n).length) : (upTo p n).getD k 0 < (upTo p n).getD (k + 1) 0 := by
  have hs : (upTo p n).Pairwise (· < ·) := by
    unfold upTo
    rw [List.pairwise_map]
    exact ((List.pairwise_lt_range (n := n)).filter p).imp (by intro a b hab; omega)
  have e1 : (upTo p n).getD k 0 = (upTo p n)[k] := by simp [List.getD, show k < (upTo p n).length by omega]
  have e2 : (upTo p n).getD (k + 1) 0 = (upTo p n)[k + 1] := by simp [List.getD, h]
  rw [e1, e2]
  exact List.pairwise_iff_getElem.1 hs k (k + 1) (by omega) h (by omega)
/-- a move that leads back -/
def backOk (g : G) (c d c' : Nat) (z : Int) : Prop := ∃ d' : Nat, z = d' ∧ g.toI c' d' = (c : Int) ∧ (z - d).tmod 4 = 0
def fndAt (g : G) (c d c' k : Nat) (f : Bool) : Prop := f = true ∨ (f = false ∧ ∀ j, j < k → ¬ backOk g c d c' ((movesI g c').getD j 0))
theorem to_eq {g : G} {c d : Nat} (h : g.mayC c d = true) : g.toI c d = (g.to c d : Nat) ∧ g.to c d < g.n := by
  have hl := G.mayC_lt h
  refine ⟨?_, hl⟩
  obtain ⟨a, b, e⟩ := G.mayC_to h
  unfold G.to
  unfold G.mayC at h
  have hm := (G.may_iff.1 h).2.1
  obtain ⟨⟨h1, h2, h3, h4⟩, _⟩ := G.op_iff.1 hm
  have := G.to_place (g := g) (c := c) (d := d) h1 h2 h3
  have hnn : 0 ≤ g.toI c d := by
    unfold G.toI
    have e := G.XY g c
    have e' : (c : Int) = (g.Y c : Int) * g.w + g.X c := by rw [← Int.natCast_mul, ← Int.natCast_add, e]
    have q : 0 ≤ ((g.Y c : Int) + dyN d) * g.w := Int.mul_nonneg h3 (by omega)
    rw [Int.add_mul] at q
    omega
  omega
theorem fnd_end {g : G} {c d : Nat} {f : Bool} (hd : d < 8) (h : g.mayC c d = true) (hf : fndAt g c d (g.to c d) (movesI g (g.to c d)).length f) : f = true := by
  rcases hf with h' | ⟨_, hf⟩
  · exact h'
  · exfalso
    obtain ⟨h1, h2⟩ := G.mayC_back hd h
    obtain ⟨k, hk, e⟩ := upTo_has (p := g.mayC (g.to c d)) (n := 8) (d := (d + 4) % 8) (Nat.mod_lt _ (by decide)) h1
    refine hf k hk ⟨(d + 4) % 8, e, ?_, ?_⟩
    · rw [(to_eq h1).1, h2]
    · show ((upTo (g.mayC (g.to c d)) 8).getD k 0 - (d : Int)).tmod 4 = 0
      rw [e]
      rcases (show d = 0 ∨ d = 1 ∨ d = 2 ∨ d = 3 ∨ d = 4 ∨ d = 5 ∨ d = 6 ∨ d = 7 by omega) with rfl | rfl | rfl | rfl | rfl | rfl | rfl | rfl <;> decide
theorem fnd_zero (g : G) (c d c' : Nat) : fndAt g c d c' 0 false := .inr ⟨rfl, fun j hj => by omega⟩
theorem fnd_true (g : G) (c d c' k : Nat) : fndAt g c d c' k true := .inl rfl
theorem fnd_miss {g : G} {c d c' k : Nat} (h : fndAt g c d c' k false) (hn : ¬ backOk g c d c' ((movesI g c').getD k 0)) : fndAt g c d c' (k + 1) false := by
  rcases h with h | ⟨_, h⟩
  · cases h
  · refine .inr ⟨rfl, fun j hj => ?_⟩
    by_cases e : j = k
    · subst e; exact hn
    · exact h j (by omega)
theorem may21 : G.may ⟨(2 : Int).toNat, (1 : Int).toNat, fun _ => false⟩ 0 0 2 = true := by decide +kernel
theorem May_eq (w : World) (p : Nat) (g : G) (v x y : Int) (d : Nat) (t : Bool) (h : GridAt w p g v) (hd : d < 8) (hx : inP x) (hy : inP y) (e : g.may x y d = t) :
    Calls Try.prog 79 #[.pointer (some ⟨p, 0, none⟩), .int .i64 x, .int .i64 y, .int .i64 (d : Nat)] w fun e w' => e = .returned (.bool t) ∧ Below w.heap.size w w' := by
  rw [← e]; exact gridMay w p g v x y d h hd hx hy
theorem To_eq (w : World) (p : Nat) (g : G) (v : Int) (c d : Nat) (z : Int) (h : GridAt w p g v) (hc : c < g.n) (hd : d < 8) (e : g.toI c d = z) :
    Calls Try.prog 82 #[.pointer (some ⟨p, 0, none⟩), .int .i64 (c : Nat), .int .i64 (d : Nat)] w fun e w' => e = .returned (.int .i64 z) ∧ Below w.heap.size w w' := by
  rw [← e]; exact gridTo w p g v c d h hc hd
/-- an element of a slice of numbers, in every later world -/
theorem Ints.cell {w w' : World} {ad : Addr} {n : Nat} {f : Nat → Int} (h : Ints w (some ad) n f) (hb : Below w.heap.size w w') {k : Nat} (hk : k < n) : w'.cell? (ad.add k) = some (.int .i64 (f k)) := by
  obtain ⟨ad', e, h2, h3⟩ := h (by omega)
  cases e
  exact (hb.cell (p := ad.add k) (by rw [add_block]; exact h2)).trans (h3 k hk)
theorem Ints.addr {w : World} {A : Option Addr} {n : Nat} {f : Nat → Int} (h : Ints w A n f) (hn : 0 < n) : ∃ ad, A = some ad := by
  obtain ⟨ad, e, _⟩ := h hn
  exact ⟨ad, e⟩
theorem idx_run {A : Option Addr} {ad : Addr} {n m k : Nat} (h : A = some ad) (hk : k < n) (wx : World) : (Instr.indexAt 33 (.slice A n m) (.int .i64 (k : Nat))).run Try.prog wx = .ok (.pointer (some (ad.add k))) wx := by
  subst h
  have q : (k : Int) < (n : Int) := by omega
  go_simp
set_option maxRecDepth 100000 in
set_option maxHeartbeats 3200000 in
theorem topMoves (W0 : World) (a b : Int) (A : Option Addr) (n m : Nat) (f : Nat → Int) (h : SlI W0 A n f) :
    Calls Try.prog 12 #[.agg #[.int .i64 a, .int .i64 b, .slice A n m]] W0 fun e w' => e = .returned (.bool true) ∧ Below W0.heap.size W0 w' := by
  obtain ⟨hI, hl, _⟩ := h
  have hl := Lib.hid hl
  go_enter Try.func12, Try.ntmps12
  go_upto_region 1 with (fail)
  refine wp_name ?_
  intro W hW
  have HW : Below W0.heap.size W0 W := by rw [hW]; (repeat' (first | exact Below.refl _ _ | assumption | apply bel_drewN | apply bel_drew | apply bel_alloc | (refine bel_trans ?_ (by assumption))))
  have k0 : ∀ w', Below W.heap.size W w' → w'.cell? ⟨W0.heap.size, 0, none⟩ = some (.int .i64 a : Value) := fun w' hbw => (hbw.cell (p := ⟨W0.heap.size, 0, none⟩) (by rw [hW]; simp <;> omega)).trans (by rw [hW]; go_simp)
  have k1 : ∀ w', Below W.heap.size W w' → w'.cell? ⟨W0.heap.size, 1, none⟩ = some (.int .i64 b : Value) := fun w' hbw => (hbw.cell (p := ⟨W0.heap.size, 1, none⟩) (by rw [hW]; simp <;> omega)).trans (by rw [hW]; go_simp)
  have k2 : ∀ w', Below W.heap.size W w' → w'.cell? ⟨W0.heap.size, 2, none⟩ = some (.slice A n m : Value) := fun w' hbw => (hbw.cell (p := ⟨W0.heap.size, 2, none⟩) (by rw [hW]; simp <;> omega)).trans (by rw [hW]; go_simp)
  clear hW
  go_wp2_with fail
  (with_reducible refine (gridNew_ex 2 1 _ (by decide)).mono ?_)
  rintro e w1 ⟨p1, rfl, hp1, hG1, hb1⟩
  have HB := hb1
  go_wp2_with fail
  (refine (May_eq _ p1 _ _ 0 0 2 true hG1 (by decide) (by unfold inP; decide) (by unfold inP; decide) may21).mono ?_)
  rintro e w2 ⟨rfl, hb2⟩
  have HB := bel_trans HB hb2
  clear hb1 hb2 hG1
  go_wp2_with fail
  (with_reducible refine (laid_any a b A n m f _ ((hI.below HW).below HB) hl.out).mono ?_)
  rintro e w3 (⟨rfl, hb3⟩ | ⟨p, q, g, v, rfl, hp, hpq, hG, hR, hv0, hv1, hb3⟩)
  · have HB3 := bel_trans (bel_trans HW HB) hb3
    go_wp2
    go_ret
    exact ⟨rfl, HB3⟩
  have HB3 := bel_trans (bel_trans HW HB) hb3
  clear k0 k1 k2 hb3 HB HW hR
  have hpl := Lib.hid hG.lt
  have hn := G.n_le hG.1
  go_wp2_with fail
  go_loopw [8] (fun i wr => ∃ c : Nat, c ≤ g.n ∧ i = .int .i64 c ∧ Below w3.heap.size w3 wr) (fun i _ => g.n - (intOf i).toNat)
  case atStart => exact ⟨0, by omega, rfl, Below.refl _ _⟩
  case round =>
    obtain ⟨c, hc, rfl, HB⟩ := hrel
    go_wp2_with fail
    (with_reducible refine (gridCellsN _ p g v (hG.below HB hpl.out)).mono ?_)
    rintro e w4 ⟨rfl, hb4⟩
    have HB4 := bel_trans HB hb4
    clear hb4
    by_cases hlt : c < g.n
    · go_wp2_with fail
      (with_reducible refine (gridMoves _ p g v c (hG.below HB4 hpl.out) hlt).mono ?_)
      rintro e w5 ⟨A1, m1, rfl, hI1, hb5⟩
      have HB5 := bel_trans HB4 hb5
      clear hb5
      obtain ⟨nl, hnl⟩ : ∃ nl, (movesI g c).length = nl := ⟨_, rfl⟩
      rw [hnl] at hI1 ⊢
      have Hnl := Lib.hid hnl
      have hl8 : nl ≤ 8 := by rw [← hnl]; exact upTo_len _ _
      clear hnl
      go_wp2_with fail
      obtain ⟨wo, rfl⟩ : ∃ wo : World, wo = wr := ⟨_, rfl⟩
      go_loopw [11] (fun i wr => ∃ k : Nat, k ≤ nl ∧ i = .int .i64 k ∧ Below w5.heap.size w5 wr) (fun i _ => nl - (intOf i).toNat)
      case atStart => exact ⟨0, by omega, rfl, Below.refl _ _⟩
      case round =>
        obtain ⟨k, hk, rfl, HBk⟩ := hrel
        by_cases hlk : k < nl
        · obtain ⟨ad, hA1⟩ := hI1.addr (by omega)
          have hI1' := hI1
          rw [hA1] at hI1'
          have hix1 := fun wx => idx_run (m := m1) hA1 hlk wx
          have idx0 := Lib.hid (fun (k' : Nat) (hk' : k' < nl) => fun wx => idx_run (m := m1) hA1 hk' wx)
          clear hA1
          obtain ⟨d, hd, hd8, hmay⟩ := upTo_get (p := g.mayC c) (n := 8) (k := k) (by have := Hnl.out; show k < (movesI g c).length; omega)
          have hE := hI1'.cell HBk hlk
          rw [show (movesI g c).getD k 0 = (d : Int) from hd] at hE
          obtain ⟨ht1, ht2⟩ := to_eq hmay
          have Hd := Lib.hid hd
          have Hmay := Lib.hid hmay
          have Ht1 := Lib.hid ht1
          clear hd hmay ht1
          have q1 : (k : Int) < (nl : Int) := by omega
          go_wp2_with fail
          have hGk := hG.below (bel_trans HB5 HBk) hpl.out
          obtain ⟨c', hc'⟩ : ∃ c', g.to c d = c' := ⟨_, rfl⟩
          (with_reducible refine (To_eq _ p g v c d (c' : Nat) hGk hlt hd8 (hc' ▸ Ht1.out)).mono ?_)
          rintro e w6 ⟨rfl, hb6⟩
          have HB6 := bel_trans HBk hb6
          have hz6 := HB6.size
          rw [hc'] at ht2
          have Hc' := Lib.hid hc'
          clear hc' hb6 hGk hE
          go_wp2_with fail
          (with_reducible refine (gridMoves _ p g v c' (hG.below (bel_trans HB5 HB6) hpl.out) ht2).mono ?_)
          rintro e w7 ⟨A2, m2, rfl, hI2, hb7⟩
          have HB7 := bel_trans HB6 hb7
          have hz7 := HB7.size
          clear hb7
          obtain ⟨nb, hnb⟩ : ∃ nb, (movesI g c').length = nb := ⟨_, rfl⟩
          rw [hnb] at hI2 ⊢
          have Hnb := Lib.hid hnb
          have hb8 : nb ≤ 8 := by rw [← hnb]; exact upTo_len _ _
          clear hnb
          go_wp2_with fail
          obtain ⟨wp, rfl⟩ : ∃ wp : World, wp = wr := ⟨_, rfl⟩
          go_loopw [15, 16] (fun b i wr => ∃ (j : Nat) (f : Bool), j ≤ nb ∧ i = .int .i64 j ∧ b = .bool f ∧ fndAt g c d c' j f ∧ Below w7.heap.size w7 wr) (fun _ i _ => nb - (intOf i).toNat)
          case atStart => exact ⟨0, false, by omega, rfl, rfl, fnd_zero _ _ _ _, Below.refl _ _⟩
          case round =>
            obtain ⟨j, f, hj, rfl, rfl, hf, HBj⟩ := hrel
            by_cases hlj : j < nb
            · have q2 : (j : Int) < (nb : Int) := by omega
              cases f with
              | true =>
                go_wp2_with fail
                go_quiet (fail)
                go_wp2
                go_roundw
                case rel => exact ⟨j + 1, true, by omega, by go_num, rfl, fnd_true _ _ _ _ _, bel_drewN HBj⟩
                case measure => simp [intOf]; omega
              | false =>
                obtain ⟨ad2, hA2⟩ := hI2.addr (by omega)
                have hI2' := hI2
                rw [hA2] at hI2'
                have hix2 := fun wx => idx_run (m := m2) hA2 hlj wx
                clear hA2
                obtain ⟨d2, hd2, hd28, hmay2⟩ := upTo_get (p := g.mayC c') (n := 8) (k := j) (by have := Hnb.out; show j < (movesI g c').length; omega)
                have hE2 := hI2'.cell HBj hlj
                have hd2' : (movesI g c').getD j 0 = (d2 : Int) := hd2
                simp only [hd2'] at hE2
                have hE1 := hI1'.cell (bel_trans HB7 HBj) hlk
                have hd1' : (movesI g c).getD k 0 = (d : Int) := Hd.out
                simp only [hd1'] at hE1
                clear hd1' hd2
                have hE1q := cell_regrown hE1
                have hE2q := cell_regrown hE2
                obtain ⟨t2, ht2'⟩ : ∃ t, g.toI c' d2 = t := ⟨_, rfl⟩
                have hwr : IntKind.i64.wrap ((d2 : Int) - (d : Int)) = (d2 : Int) - (d : Int) := IntWalk.i64_in _ (by omega)
                by_cases hyes : t2 = (c : Int) ∧ ((d2 : Int) - (d : Int)).tmod 4 = 0
                · clear hd2'
                  obtain ⟨e1, e2⟩ := hyes
                  subst e1
                  have e2b : (((d2 : Int) - (d : Int)).tmod 4 == 0) = true := by rw [e2]; rfl
                  clear e2
                  go_wp2_with fail
                  refine wp_region_quiet_below (by kernel_rfl) (by kernel_rfl) ?_
                  repeat (first | go_big_quiet_step ((with_reducible exact Calls.regrown_of (To_eq _ p g v c' d2 _ (hG.below (bel_trans (bel_trans HB5 HB7) (HBj.trans ((below_regrown wr _ _).mono HBj.size))) hpl.out) ht2 hd28 ht2'))) | quiet_step ((with_reducible exact Calls.regrown_of (To_eq _ p g v c' d2 _ (hG.below (bel_trans (bel_trans HB5 HB7) (HBj.trans ((below_regrown wr _ _).mono HBj.size))) hpl.out) ht2 hd28 ht2'))))
                  refine wpQuiet_nil ?_
                  intro _ hw'
                  obtain ⟨⟨dq, osq⟩, hw''⟩ := hw'
                  have HBj8 := bel_trans HBj (below_regrown wr dq osq)
                  have hb2 := below_regrown wr dq osq
                  subst hw''
                  generalize grow (redrawn wr dq) osq = w8 at HBj8 hb2 ⊢
                  go_wp2
                  go_roundw
                  case rel => exact ⟨j + 1, true, by omega, by go_num, rfl, fnd_true _ _ _ _ _, HBj8⟩
                  case measure => simp [intOf]; omega
                · have hno : Hid (∀ x : Nat, (movesI g c').getD j 0 = (x : Int) → g.toI c' x = (c : Int) → ¬ ((movesI g c').getD j 0 - (d : Int)).tmod 4 = 0) := by
                    intro x x1 x2 x3
                    rw [hd2'] at x1 x3
                    have : d2 = x := by omega
                    subst this
                    exact hyes ⟨ht2'.symm.trans x2, x3⟩
                  clear hd2'
                  by_cases hc2 : t2 = (c : Int)
                  · subst hc2
                    have e2b : (((d2 : Int) - (d : Int)).tmod 4 == 0) = false := by
                      rw [beq_eq_false_iff_ne]; intro e; exact hyes ⟨rfl, e⟩
                    clear hyes
                    go_wp2_with fail
                    refine wp_region_quiet_below (by kernel_rfl) (by kernel_rfl) ?_
                    repeat (first | go_big_quiet_step ((with_reducible exact Calls.regrown_of (To_eq _ p g v c' d2 _ (hG.below (bel_trans (bel_trans HB5 HB7) (HBj.trans ((below_regrown wr _ _).mono HBj.size))) hpl.out) ht2 hd28 ht2'))) | quiet_step ((with_reducible exact Calls.regrown_of (To_eq _ p g v c' d2 _ (hG.below (bel_trans (bel_trans HB5 HB7) (HBj.trans ((below_regrown wr _ _).mono HBj.size))) hpl.out) ht2 hd28 ht2'))))
                    refine wpQuiet_nil ?_
                    intro _ hw'
                    obtain ⟨⟨dq, osq⟩, hw''⟩ := hw'
                    have HBj8 := bel_trans HBj (below_regrown wr dq osq)
                    have hb2 := below_regrown wr dq osq
                    subst hw''
                    generalize grow (redrawn wr dq) osq = w8 at HBj8 hb2 ⊢
                    go_wp2
                    go_roundw
                    case rel => exact ⟨j + 1, false, by omega, by go_num, rfl, fnd_miss hf (fun ⟨x, x1, x2, x3⟩ => hno.out x x1 x2 x3), HBj8⟩
                    case measure => simp [intOf]; omega
                  · have e1b : (t2 == (c : Int)) = false := by rw [beq_eq_false_iff_ne]; exact hc2
                    clear hyes hc2
                    go_wp2_with fail
                    refine wp_region_quiet_below (by kernel_rfl) (by kernel_rfl) ?_
                    repeat (first | go_big_quiet_step ((with_reducible exact Calls.regrown_of (To_eq _ p g v c' d2 _ (hG.below (bel_trans (bel_trans HB5 HB7) (HBj.trans ((below_regrown wr _ _).mono HBj.size))) hpl.out) ht2 hd28 ht2'))) | quiet_step ((with_reducible exact Calls.regrown_of (To_eq _ p g v c' d2 _ (hG.below (bel_trans (bel_trans HB5 HB7) (HBj.trans ((below_regrown wr _ _).mono HBj.size))) hpl.out) ht2 hd28 ht2'))))
                    refine wpQuiet_nil ?_
                    intro _ hw'
                    obtain ⟨⟨dq, osq⟩, hw''⟩ := hw'
                    have HBj8 := bel_trans HBj (below_regrown wr dq osq)
                    have hb2 := below_regrown wr dq osq
                    subst hw''
                    generalize grow (redrawn wr dq) osq = w8 at HBj8 hb2 ⊢
                    go_wp2
                    go_roundw
                    case rel => exact ⟨j + 1, false, by omega, by go_num, rfl, fnd_miss hf (fun ⟨x, x1, x2, x3⟩ => hno.out x x1 x2 x3), HBj8⟩
                    case measure => simp [intOf]; omega
            · obtain rfl : j = nb := by omega
              obtain rfl : f = true := fnd_end hd8 Hmay.out (by rw [Hc'.out, Hnb.out]; exact hf)
              have HBe := bel_trans HB7 HBj
              rcases Nat.eq_zero_or_pos k with hk0 | hkp
              · have hd0 : decide ((0 : Int) < (k : Int)) = false := by simp; omega
                go_wp2_with fail
                go_quiet (fail)
                go_wp2
                go_roundw
                case rel => exact ⟨k + 1, by omega, by go_num, bel_drewN HBe⟩
                case measure => simp [intOf]; omega
              · obtain ⟨k0, hk0⟩ : ∃ k0, k = k0 + 1 := ⟨k - 1, by omega⟩
                have hd0 : decide ((0 : Int) < (k : Int)) = true := by simp; omega
                have hw1 : IntKind.i64.wrap ((k : Int) - 1) = (k0 : Int) := by rw [show (k : Int) - 1 = (k0 : Int) by omega]; exact IntWalk.i64_in _ (by omega)
                have hw2 : (k : Int) - 1 = (k0 : Int) := by omega
                obtain ⟨d0, hdd, _, _⟩ := upTo_get (p := g.mayC c) (n := 8) (k := k0) (by have := Hnl.out; show k0 < (movesI g c).length; omega)
                have hrise := upTo_rise (p := g.mayC c) (n := 8) (k := k0) (by have := Hnl.out; show k0 + 1 < (movesI g c).length; omega)
                have hd1' : (movesI g c).getD k 0 = (d : Int) := Hd.out
                have hdd' : (movesI g c).getD k0 0 = (d0 : Int) := hdd
                rw [← hk0, show (upTo (g.mayC c) 8) = movesI g c from rfl, hd1', hdd'] at hrise
                have hge : decide (d ≤ d0) = false := by simp; omega
                have hdlt : d0 < d := by omega
                have hE1 := hI1'.cell HBe hlk
                have hE0 := hI1'.cell HBe (k := k0) (by omega)
                simp only [hd1'] at hE1
                simp only [hdd'] at hE0
                have hix0 := idx0.out k0 (by omega)
                have q0 : (k0 : Int) < (nl : Int) := by omega
                clear hd1' hdd' hdd hrise hk0
                go_wp2_with fail
                go_quiet (fail)
                clear hw1 hw2 hd0 hge
                go_wp2
                refine ⟨⟨k + 1, by omega, by go_num, bel_drewN HBe⟩, ?_⟩
                simp [intOf]; omega
        · obtain rfl : k = nl := by omega
          go_wp2
          go_roundw
          case rel => exact ⟨c + 1, by omega, by go_num, bel_trans HB5 HBk⟩
          case measure => simp [intOf]; omega
    · obtain rfl : c = g.n := by omega
      go_wp2
      go_ret
      exact ⟨rfl, bel_trans HB3 HB4⟩
end Go.Proofs.Ytkiogciokngjfaa
