/- The document's octile cost between cells; whether they are near. -/
import Derived.Test.YtjejkadaafmdcaaGreatFloodSays
import Derived.Test.YtjejkadaafmdcaaGreatGA
import Derived.Deep.RegionHeld3
set_option linter.unusedVariables false
set_option linter.unusedSimpArgs false
namespace Go.Proofs.YtjejkadaafmdcaaGreat
open Go.RowKit Go.Sort FR
theorem keepset {w : World} {B p : Nat} {x y v : Value} (hne : p ≠ B) (h : w.cell? ⟨p, 0, none⟩ = some v) : ((w.setCell ⟨B, 0, none⟩ x).setCell ⟨B, 1, none⟩ y).cell? ⟨p, 0, none⟩ = some v := by
  have hk : Kept [B] w ((w.setCell ⟨B, 0, none⟩ x).setCell ⟨B, 1, none⟩ y) := ((Kept.refl [B] w).setCell (.inl (by simp))).setCell (.inl (by simp))
  exact (World.cell?_of_block (a := ⟨p, 0, none⟩) (hk.block p (World.block_lt_of_cell? w _ h) (by simpa using hne))).trans h
set_option maxRecDepth 100000 in
set_option maxHeartbeats 1600000 in
theorem rOct (w : World) (p : Nat) (g : G) (v : Int) (a b : Nat) (x : C) (h : RGridAt w p g v) (ha : a < g.n) (hb : b < g.n) (hx : g.oct a b = x) :
    Calls Tryz.prog 108 #[.pointer (some ⟨p, 0, none⟩), .int .i64 (a : Nat), .int .i64 (b : Nat)] w fun e w' => e = .returned (.agg #[.int .i64 x.s, .int .i64 x.d]) ∧ Below w.heap.size w w' := by
  have hok := h.1
  obtain ⟨o1, o2, o3, o4⟩ := h.1
  have l1 := G.X_lt hok a
  have l2 := G.X_lt hok b
  have l3 := G.Y_lt ha
  have l4 := G.Y_lt hb
  have hnn := G.n_le hok
  have cO := fun w => refOctile (g.X a : Nat) (g.Y a : Nat) (g.X b : Nat) (g.Y b : Nat) w (by omega) (by omega) (by omega) (by omega)
  have hx2 : octI ((g.X a : Nat) - (g.X b : Nat)) ((g.Y a : Nat) - (g.Y b : Nat)) = x := hx
  rw [hx2] at cO
  have e1 : ((g.X a : Nat) : Int) = (a : Int) % g.w := by unfold G.X; simp
  have e2 : ((g.Y a : Nat) : Int) = (a : Int) / g.w := by unfold G.Y; simp
  have e3 : ((g.X b : Nat) : Int) = (b : Int) % g.w := by unfold G.X; simp
  have e4 : ((g.Y b : Nat) : Int) = (b : Int) / g.w := by unfold G.Y; simp
  have p1 : 0 ≤ (a : Int) / g.w := by omega
  have p2 : (a : Int) / g.w ≤ 256 := by omega
  have p3 : 0 ≤ (b : Int) / g.w := by omega
  have p4 : (b : Int) / g.w ≤ 256 := by omega
  have w1 : IntKind.i64.wrap ((a : Int) / g.w) = (a : Int) / g.w := IntWalk.i64_in _ (by omega)
  have w2 : IntKind.i64.wrap ((b : Int) / g.w) = (b : Int) / g.w := IntWalk.i64_in _ (by omega)
  have w3 : (b : Int).tmod g.w = (b : Int) % g.w := Int.tmod_eq_emod_of_nonneg (by omega)
  have w4 : (a : Int).tmod g.w = (a : Int) % g.w := Int.tmod_eq_emod_of_nonneg (by omega)
  rw [e1, e2, e3, e4] at cO
  have cO := Lib.hid cO
  have kw := h.size.1
  have hne : p ≠ w.heap.size := by have := h.lt; omega
  obtain ⟨xs, xd⟩ := x
  clear hx hx2 e1 e2 e3 e4 l1 l2 l3 l4 h hok
  go_enter Tryz.func108, Tryz.ntmps108
  go_upto_region 1 with (fail)
  refine wp_name ?_
  intro W hW
  have HW : Below w.heap.size w W := by rw [hW]; (repeat' (first | exact Below.refl _ _ | assumption | apply bel_drewN | apply bel_drew | apply bel_alloc | (refine bel_trans ?_ (by assumption))))
  have q0 : W.cell? ⟨w.heap.size, 0, none⟩ = some (.int .i64 0) := by rw [hW]; go_simp
  have q1 : W.cell? ⟨w.heap.size, 1, none⟩ = some (.int .i64 0) := by rw [hW]; go_simp
  have f0 : W.frozen? ⟨w.heap.size, 0, none⟩ = false := by rw [hW]; go_simp
  have f1 : W.frozen? ⟨w.heap.size, 1, none⟩ = false := by rw [hW]; go_simp
  have hs : w.heap.size < W.heap.size := by rw [hW]; simp
  have kw := bel_cell HW kw
  have H2 := Lib.hid (And.intro q0 (And.intro q1 (And.intro f0 f1)))
  clear hW q0 q1 f0 f1
  have z1 : ((g.w : Int) == 0) = false := by rw [beq_eq_false_iff_ne]; omega
  have z2 : (0 : Int) < g.w := by omega
  have z3 : (0 : Int) ≤ (a : Int) := by omega
  have z4 : (0 : Int) ≤ (b : Int) := by omega
  have z5 : ¬ (g.w : Int) = 0 := by omega
  have z6 : ¬ g.w = 0 := by omega
  go_region_held3 (fun w' => w'.cell? ⟨p, 0, none⟩ = some (.int .i64 g.w))
    (first | exact keepset hne kw | (go_keep; done))
    ((go_at_call 32; (with_reducible refine (cO.out _).mono ?_); rintro e wA ⟨rfl, hbA⟩; have q0 := bel_cell hbA H2.out.1; have q1 := bel_cell hbA H2.out.2.1; have f0 := (hbA.frozen (p := ⟨w.heap.size, 0, none⟩) hs).trans H2.out.2.2.1; have f1 := (hbA.frozen (p := ⟨w.heap.size, 1, none⟩) hs).trans H2.out.2.2.2; have kw := bel_cell hbA kw))
  all_goals
    go_wp2
    have e5 := set_two (x := .int .i64 xs) (y := .int .i64 xd) q0 q1
    refine bodyPost_ret (v := .agg #[.int .i64 xs, .int .i64 xd]) (by simp [results, Tryz.results108, go_sem, e5]) rfl ?_
    exact ⟨rfl, ((bel_trans HW (bel_trans (bel_drew (Below.refl _ _)) hbA)).setCell (by simp) _).setCell (by simp) _⟩
end Go.Proofs.YtjejkadaafmdcaaGreat
