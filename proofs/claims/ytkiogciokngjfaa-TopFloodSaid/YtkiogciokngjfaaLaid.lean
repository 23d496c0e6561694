/- What Laid hands back: nothing, or a grid and the reference's grid that have the same cells. -/
import Derived.Test.YtkiogciokngjfaaRGrid2
import Derived.Deep.Cut
set_option linter.unusedVariables false
set_option linter.unusedSimpArgs false
namespace Go.Proofs.Ytkiogciokngjfaa
open Go.RowKit Go.Sort FR
/-- a slice of n numbers, f k at place k -/
def Ints (w : World) (a : Option Addr) (n : Nat) (f : Nat → Int) : Prop := 0 < n → ∃ ad, a = some ad ∧ ad.block < w.heap.size ∧ ∀ k, k < n → w.cell? (ad.add k) = some (.int .i64 (f k))
theorem add_block (a : Addr) (n : Nat) : (a.add n).block = a.block := by unfold Addr.add; split <;> rfl
theorem Ints.below {w w' : World} {a : Option Addr} {n : Nat} {f : Nat → Int} (h : Ints w a n f) (hb : Below w.heap.size w w') : Ints w' a n f := by
  intro hn
  obtain ⟨ad, h1, h2, h3⟩ := h hn
  exact ⟨ad, h1, Nat.lt_of_lt_of_le h2 hb.size, fun k hk => (hb.cell (p := ad.add k) (by rw [add_block]; exact h2)).trans (h3 k hk)⟩
def Laid (w : World) (e : Ending) (w' : World) : Prop :=
  (e = .returned (.tuple #[.pointer none, .pointer none, .bool false]) ∧ Below w.heap.size w w') ∨
  ∃ p q g v, e = .returned (.tuple #[.pointer (some ⟨p, 0, none⟩), .pointer (some ⟨q, 0, none⟩), .bool true]) ∧ w.heap.size ≤ p ∧ p < q ∧ GridAt w' p g v ∧ RGridAt w' q g v ∧ 0 ≤ v ∧ v ≤ 300 ∧ Below w.heap.size w w'
theorem Laid.none {w w' : World} (h : Below w.heap.size w w') : Laid w (.returned (.tuple #[.pointer none, .pointer none, .bool false])) w' := .inl ⟨rfl, h⟩
theorem gridNew_ex (a b : Int) (w : World) (h : 1 ≤ a ∧ a ≤ 16 ∧ 1 ≤ b ∧ b ≤ 16) :
    Calls Try.prog 43 #[.int .i64 a, .int .i64 b] w fun e w' => ∃ p, e = .returned (.tuple #[.pointer (some ⟨p, 0, none⟩), .nilIface]) ∧ w.heap.size ≤ p ∧ GridAt w' p ⟨a.toNat, b.toNat, fun _ => false⟩ 0 ∧ Below w.heap.size w w' :=
  (gridNew_ok a b w h).mono fun _ _ ⟨h1, h2, h3, h4⟩ => ⟨_, h1, Nat.le_refl _, h2, h3⟩
theorem rNew_ex (a b : Int) (w : World) (h : 1 ≤ a ∧ a ≤ 16 ∧ 1 ≤ b ∧ b ≤ 16) :
    Calls Try.prog 44 #[.int .i64 a, .int .i64 b] w fun e w' => ∃ p, e = .returned (.tuple #[.pointer (some ⟨p, 0, none⟩), .int .i64 0]) ∧ w.heap.size ≤ p ∧ RGridAt w' p ⟨a.toNat, b.toNat, fun _ => false⟩ 0 ∧ Below w.heap.size w w' :=
  (rNew_ok a b w h).mono fun _ _ ⟨h1, h2, h3, h4⟩ => ⟨_, h1, Nat.le_refl _, h2, h3⟩
/-- what holds at each round's head, behind k rounds -/
def LaidR (W : World) (p q : Nat) (k : Nat) (wr : World) : Prop := ∃ g v, GridAt wr p g v ∧ RGridAt wr q g v ∧ 0 ≤ v ∧ v ≤ k ∧ Below W.heap.size W wr
theorem laid_any (a b : Int) (A : Option Addr) (n m : Nat) (f : Nat → Int) (w : World) (h : Ints w A n f) (hn : n ≤ 9223372036854775807) :
    Calls Try.prog 33 #[.agg #[.int .i64 a, .int .i64 b, .slice A n m]] w (Laid w) := by
  have h := Lib.hid h
  by_cases h3 : 300 < n
  · go_enter Try.func33, Try.ntmps33
    go_wp2
    go_ret3
    exact Laid.none (by (repeat' (first | exact Below.refl _ _ | assumption | apply bel_drewN | apply bel_drew | apply bel_alloc | (refine bel_trans ?_ (by assumption)))))
  by_cases hs : 1 ≤ a ∧ a ≤ 16 ∧ 1 ≤ b ∧ b ≤ 16
  · rcases Nat.eq_zero_or_pos n with hn0 | hnp
    · subst hn0
      go_enter Try.func33, Try.ntmps33
      go_upto_region 1 with (fail)
      refine wp_name ?_
      intro W hW
      have HW : Below w.heap.size w W := by rw [hW]; (repeat' (first | exact Below.refl _ _ | assumption | apply bel_drewN | apply bel_drew | apply bel_alloc | (refine bel_trans ?_ (by assumption))))
      have k0 : ∀ w', Below W.heap.size W w' → w'.cell? ⟨w.heap.size, 0, none⟩ = some (.int .i64 a : Value) := fun w' hbw => (hbw.cell (p := ⟨w.heap.size, 0, none⟩) (by rw [hW]; simp <;> omega)).trans (by rw [hW]; go_simp)
      have k1 : ∀ w', Below W.heap.size W w' → w'.cell? ⟨w.heap.size, 1, none⟩ = some (.int .i64 b : Value) := fun w' hbw => (hbw.cell (p := ⟨w.heap.size, 1, none⟩) (by rw [hW]; simp <;> omega)).trans (by rw [hW]; go_simp)
      have k2 : ∀ w', Below W.heap.size W w' → w'.cell? ⟨w.heap.size, 2, none⟩ = some (.slice A 0 m : Value) := fun w' hbw => (hbw.cell (p := ⟨w.heap.size, 2, none⟩) (by rw [hW]; simp <;> omega)).trans (by rw [hW]; go_simp)
      clear h
      have hws0 : W.heap.size = w.heap.size + 1 := by rw [hW]; simp
      have hws := Lib.hid hws0
      clear hws0
      clear hW
      have HB := Below.refl W.heap.size W
      go_wp2_with fail
      refine (gridNew_ex a b _ hs).mono ?_
      rintro e w1 ⟨p, rfl, hp, hG, hb1⟩
      have HB := bel_trans HB hb1
      go_wp2_with fail
      refine (rNew_ex a b _ hs).mono ?_
      rintro e w2 ⟨q, rfl, hq, hR, hb2⟩
      have hpq : p < q := Nat.lt_of_lt_of_le hG.lt hq
      have hwp : w.heap.size ≤ p := Nat.le_trans HW.size hp
      have hG := hG.below hb2 hG.lt
      have HB := bel_trans HB hb2
      go_wp2_with fail
      have hstart : LaidR W p q 0 w2 := ⟨_, 0, hG, hR, by omega, by omega, HB⟩
      have hBW := HB.size
      clear hG hR HB hb1 hb2
      go_loopw [9] (fun i wr => ∃ k : Nat, k ≤ 0 ∧ i = .int .i64 k ∧ LaidR W p q k wr) (fun i _ => 0 - (intOf i).toNat)
      case atStart => exact ⟨0, Nat.zero_le _, rfl, hstart⟩
      case round =>
        obtain ⟨k, hk, rfl, g, v, hG, hR, hv0, hv, HB⟩ := hrel
        clear hstart
        go_wp2_with fail
        go_ret3
        exact .inr ⟨p, q, g, v, rfl, by omega, by omega, hG, hR, hv0, by omega, bel_trans HW HB⟩
    · obtain ⟨ad, rfl, hadb, hE0⟩ := h.out hnp
      have hE0 := Lib.hid hE0
      go_enter Try.func33, Try.ntmps33
      go_upto_region 1 with (fail)
      refine wp_name ?_
      intro W hW
      have HW : Below w.heap.size w W := by rw [hW]; (repeat' (first | exact Below.refl _ _ | assumption | apply bel_drewN | apply bel_drew | apply bel_alloc | (refine bel_trans ?_ (by assumption))))
      have k0 : ∀ w', Below W.heap.size W w' → w'.cell? ⟨w.heap.size, 0, none⟩ = some (.int .i64 a : Value) := fun w' hbw => (hbw.cell (p := ⟨w.heap.size, 0, none⟩) (by rw [hW]; simp <;> omega)).trans (by rw [hW]; go_simp)
      have k1 : ∀ w', Below W.heap.size W w' → w'.cell? ⟨w.heap.size, 1, none⟩ = some (.int .i64 b : Value) := fun w' hbw => (hbw.cell (p := ⟨w.heap.size, 1, none⟩) (by rw [hW]; simp <;> omega)).trans (by rw [hW]; go_simp)
      have k2 : ∀ w', Below W.heap.size W w' → w'.cell? ⟨w.heap.size, 2, none⟩ = some (.slice (some ad) n m : Value) := fun w' hbw => (hbw.cell (p := ⟨w.heap.size, 2, none⟩) (by rw [hW]; simp <;> omega)).trans (by rw [hW]; go_simp)
      have HWe1 := Lib.hid (fun k (hk : k < n) w' (hb : Below W.heap.size W w') => (((HW.trans (hb.mono HW.size)).cell (p := ad.add k) (by rw [add_block]; exact hadb)).trans (hE0.out k hk)))
      have hws0 : W.heap.size = w.heap.size + 1 := by rw [hW]; simp
      have hws := Lib.hid hws0
      clear hws0
      clear hW
      have HB := Below.refl W.heap.size W
      go_wp2_with fail
      refine (gridNew_ex a b _ hs).mono ?_
      rintro e w1 ⟨p, rfl, hp, hG, hb1⟩
      have HB := bel_trans HB hb1
      go_wp2_with fail
      refine (rNew_ex a b _ hs).mono ?_
      rintro e w2 ⟨q, rfl, hq, hR, hb2⟩
      have hpq : p < q := Nat.lt_of_lt_of_le hG.lt hq
      have hwp : w.heap.size ≤ p := Nat.le_trans HW.size hp
      have hG := hG.below hb2 hG.lt
      have HB := bel_trans HB hb2
      go_wp2_with fail
      have hstart : LaidR W p q 0 w2 := ⟨_, 0, hG, hR, by omega, by omega, HB⟩
      have hBW := HB.size
      clear hG hR HB hb1 hb2
      go_loopw [9] (fun i wr => ∃ k : Nat, k ≤ n ∧ i = .int .i64 k ∧ LaidR W p q k wr) (fun i _ => n - (intOf i).toNat)
      case atStart => exact ⟨0, Nat.zero_le _, rfl, hstart⟩
      case round =>
        obtain ⟨k, hk, rfl, g, v, hG, hR, hv0, hv, HB⟩ := hrel
        clear hstart
        by_cases hlt : k < n
        · have hE := HWe1.out k hlt wr HB
          by_cases hin : 0 ≤ f k ∧ f k < g.n
          · obtain ⟨hin0, hin1⟩ := hin
            obtain ⟨c, hc⟩ := Int.eq_ofNat_of_zero_le hin0
            rw [hc] at hE
            have hcn : c < g.n := by omega
            have hn2 := G.n_le hG.1
            clear hc hin0 hin1
            go_wp2_with fail
            refine (rIs_in _ q g v c hR hcn).mono ?_
            rintro e w3 ⟨rfl, hb3⟩
            have hG := hG.below hb3 hG.lt
            have hR := hR.below hb3 hR.lt
            have HB := bel_trans HB hb3
            have hqb := hR.bit c (by omega)
            obtain ⟨t, ht⟩ : ∃ t, g.b c = !t := ⟨!g.b c, by simp⟩
            rw [ht] at hqb
            have Ht := Lib.hid ht
            clear ht hb3
            have hpp : p < w3.heap.size := hG.lt
            have hqq : q < w3.heap.size := hR.lt
            cases t
            all_goals
              go_wp2_with fail
              refine (gridSet_new _ p g v c _ hG hcn Ht.out (by omega)).mono ?_
              rintro e w4 ⟨rfl, hG4, hk4⟩
              have hR4 := hR.kept hk4 (by simp; omega)
              have HB4 := Kept.below HB hk4 HB.size (by simp; omega)
              go_wp2_with fail
              refine (rSet_new _ q g v c _ hR4 hcn Ht.out (by omega)).mono ?_
              rintro e w5 ⟨rfl, hR5, hk5⟩
              have hG5 := hG4.kept hk5 (by simp; omega)
              have HB5 := Kept.below HB4 hk5 HB4.size (by simp; omega)
              go_wp2
              go_roundw
              case rel => exact ⟨k + 1, by omega, by go_num, _, _, hG5, hR5, by omega, by omega, HB5⟩
              case measure => simp [intOf]; omega
          · have hout : f k < 0 ∨ g.n ≤ f k := by omega
            go_wp2_with fail
            refine (rIs_out _ q g v _ hR hout).mono ?_
            rintro e w3 ⟨rfl, hb3⟩
            have hG := hG.below hb3 hG.lt
            have hR := hR.below hb3 hR.lt
            have HB := bel_trans HB hb3
            clear hb3
            go_wp2_with fail
            refine (gridSet_out _ p g v _ _ hG hout).mono ?_
            rintro e w4 ⟨rfl, hb4⟩
            have hG := hG.below hb4 hG.lt
            have hR := hR.below hb4 hR.lt
            have HB := bel_trans HB hb4
            clear hb4
            go_wp2_with fail
            refine (rSet_out _ q g v _ _ hR hout).mono ?_
            rintro e w5 ⟨rfl, hb5⟩
            have hG := hG.below hb5 hG.lt
            have hR := hR.below hb5 hR.lt
            have HB := bel_trans HB hb5
            clear hb5
            go_wp2
            go_roundw
            case rel => exact ⟨k + 1, by omega, by go_num, _, _, hG, hR, by omega, by omega, HB⟩
            case measure => simp [intOf]; omega
        · go_wp2_with fail
          go_ret3
          exact .inr ⟨p, q, g, v, rfl, by omega, by omega, hG, hR, hv0, by omega, bel_trans HW HB⟩
  · go_enter Try.func33, Try.ntmps33
    go_wp2_with fail
    refine (gridNew_bad a b _ hs).mono ?_
    rintro e w1 ⟨rfl, rfl⟩
    go_wp2_with fail
    refine (rNew_bad a b _ hs).mono ?_
    rintro e w1 ⟨rfl, rfl⟩
    go_wp2
    go_ret3
    exact Laid.none (by (repeat' (first | exact Below.refl _ _ | assumption | apply bel_drewN | apply bel_drew | apply bel_alloc | (refine bel_trans ?_ (by assumption)))))
end Go.Proofs.Ytkiogciokngjfaa
