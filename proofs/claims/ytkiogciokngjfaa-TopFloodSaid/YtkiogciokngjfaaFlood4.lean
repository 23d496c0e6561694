/- flood.From: what is handed back. -/
import Derived.Test.YtkiogciokngjfaaFlood3
import Derived.StillTailTactics
set_option linter.unusedVariables false
set_option linter.unusedSimpArgs false
namespace Go.Proofs.Ytkiogciokngjfaa
open Go.RowKit Go.Sort FR
def FromD (w : World) (g : G) (fr : Nat) (e : Ending) (w' : World) : Prop := ∃ b done back, e = .returned (.tuple #[.pointer (some ⟨b, 0, none⟩), .nilIface]) ∧ FloodAt w' b g fr done back ∧ w.heap.size ≤ b ∧ Below w.heap.size w w' ∧ (∀ S w2, Kept S w' w2 → (∀ s ∈ S, s < w.heap.size) → FloodAt w2 b g fr done back)
/-- what holds at a round's head -/
def FrI (W : World) (b gp mc mb q : Nat) (g : G) (v : Int) (fr gk : Nat) (wr : World) : Prop := ∃ S done hp back nb k0, FlS W wr b gp mc mb q S g v done hp back nb ∧ FS g.E fr g.n done hp back k0 (fun _ _ => False) ∧ g.n - cntS done g.n ≤ gk
theorem mapI_none {f : Nat → Option Value} (h : ∀ j, f j = none) : mapI f = fun _ => none := by
  funext z; unfold mapI; split
  · exact h _
  · rfl
theorem made_flood {w2 W3 : World} {gp mc mb b : Nat} {g : G} {v : Int} (hG : GridAt w2 gp g v) (h1 : w2.heap.size = mc) (h2 : mc + 1 = mb) (h3 : mb + 1 = b) (hW : W3 = ((w2.alloc (.map #[] 0)).alloc (.map #[] 0)).alloc (.cells #[.pointer (some ⟨gp, 0, none⟩), .map (some mc), .map (some mb)] 181)) :
    FloodIn W3 b gp mc mb g v (fun _ => none) (fun _ => none) (cntS (fun _ => none) g.n) 0 := by
  have hl := hG.lt
  subst h1; subst h2; subst h3
  have b1 : Below w2.heap.size w2 W3 := by rw [hW]; (repeat' (first | exact Below.refl _ _ | assumption | apply bel_drewN | apply bel_drew | apply bel_alloc | (refine bel_trans ?_ (by assumption))))
  have hm1 : MapAt (fun z : Int => Value.int .i64 z) (w2.alloc (.map #[] 0)) w2.heap.size (fun _ => none) 0 := MapAt.made w2
  have hm2 : MapAt (fun z : Int => Value.int .i64 z) ((w2.alloc (.map #[] 0)).alloc (.map #[] 0)) (w2.alloc (.map #[] 0)).heap.size (fun _ => none) 0 := MapAt.made _
  rw [cntS_none]
  refine ⟨?_, hG.below b1 hl, ?_, ?_, ?_⟩
  · rw [hW]
    have := heap_alloc_new ((w2.alloc (.map #[] 0)).alloc (.map #[] 0)) (.cells #[.pointer (some ⟨gp, 0, none⟩), .map (some w2.heap.size), .map (some (w2.heap.size + 1))] 181 (0, 0))
    simpa using this
  · rw [mapI_none (f := doneV fun _ => none) (fun _ => rfl), hW]
    exact (hm1.below (bel_alloc (Below.refl _ _))).below (bel_alloc (Below.refl _ _))
  · rw [mapI_none (f := backV fun _ => none) (fun _ => rfl), hW]
    have := hm2.below (w' := ((w2.alloc (.map #[] 0)).alloc (.map #[] 0)).alloc (.cells #[.pointer (some ⟨gp, 0, none⟩), .map (some w2.heap.size), .map (some (w2.heap.size + 1))] 181)) (bel_alloc (Below.refl _ _))
    simpa using this
  · omega
theorem cntS_zero {hp : Nat → Option C} {N : Nat} (h : cntS hp N = 0) (hr : ∀ j, hp j ≠ none → j < N) : ∀ j, hp j = none := by
  intro j
  cases hj : hp j with
  | none => rfl
  | some c =>
    have := cntN_zero h j (hr j (by rw [hj]; simp))
    rw [hj] at this; cases this
set_option maxHeartbeats 800000 in
theorem floodFrom_out (w : World) (p : Nat) (g : G) (v c : Int) (h : GridAt w p g v) (hc : c < 0 ∨ g.n ≤ c) :
    Calls Try.prog 74 #[.pointer (some ⟨p, 0, none⟩), .int .i64 c] w fun e w' => e = .returned (.tuple #[.pointer none, .iface 137 (.int .i64 1)]) ∧ Below w.heap.size w w' := by
  go_enter Try.func74, Try.ntmps74
  go_wp2_with fail
  (with_reducible refine (gridFree_out _ p g v c h hc).mono ?_)
  rintro e w1 ⟨rfl, hb1⟩
  go_wp2
  go_ret2
  exact ⟨rfl, hb1⟩
set_option maxHeartbeats 800000 in
theorem floodFrom_blocked (w : World) (p : Nat) (g : G) (v : Int) (c : Nat) (h : GridAt w p g v) (hc : c < g.n) (hbl : g.b c = true) :
    Calls Try.prog 74 #[.pointer (some ⟨p, 0, none⟩), .int .i64 (c : Nat)] w fun e w' => e = .returned (.tuple #[.pointer none, .iface 137 (.int .i64 4)]) ∧ Below w.heap.size w w' := by
  have cF := gridFree_in w p g v c h hc
  rw [hbl] at cF
  go_enter Try.func74, Try.ntmps74
  go_wp2_with fail
  (with_reducible refine cF.mono ?_)
  rintro e w1 ⟨rfl, hb1⟩
  go_wp2
  go_ret2
  exact ⟨rfl, hb1⟩
set_option maxRecDepth 100000 in
set_option maxHeartbeats 1600000 in
theorem floodFrom_ok (w : World) (p : Nat) (g : G) (v : Int) (fr : Nat) (h : GridAt w p g v) (hc : fr < g.n) (hbl : g.b fr = false) :
    Calls Try.prog 74 #[.pointer (some ⟨p, 0, none⟩), .int .i64 (fr : Nat)] w (FromD w g fr) := by
  have hok := h.1
  have hn := G.n_le hok
  have cF := gridFree_in w p g v fr h hc
  rw [hbl] at cF
  have hmm := @run_makeMap Try.prog
  go_enter Try.func74, Try.ntmps74
  go_wp2_with fail
  (with_reducible refine cF.mono ?_)
  rintro e w1 ⟨rfl, hb1⟩
  have h1 := h.below hb1 h.lt
  clear h cF
  go_wp2_with fail
  (with_reducible refine (gridCopy w1 p g v h1).mono ?_)
  rintro e w2 ⟨rfl, hG2, hb2, hs2⟩
  go_upto_region 7 with (fail)
  refine wp_name ?_
  intro W3 hW3
  have HW3 : Below w.heap.size w W3 := by rw [hW3]; exact bel_trans hb1 (bel_trans hb2 (by (repeat' (first | exact Below.refl _ _ | assumption | apply bel_drewN | apply bel_drew | apply bel_alloc | (refine bel_trans ?_ (by assumption))))))
  obtain ⟨gp, hgp⟩ : ∃ gp, w1.heap.size = gp := ⟨_, rfl⟩
  obtain ⟨mc, hmc⟩ : ∃ mc, gp + 1 = mc := ⟨_, rfl⟩
  obtain ⟨mb, hmb⟩ : ∃ mb, mc + 1 = mb := ⟨_, rfl⟩
  obtain ⟨b, hb⟩ : ∃ b, mb + 1 = b := ⟨_, rfl⟩
  rw [hgp] at hW3 hG2 hs2 ⊢
  rw [hmc] at hW3 hs2 ⊢
  rw [hmb] at hW3 ⊢
  rw [hb] at ⊢
  have hF3 := Lib.hid (made_flood hG2 hs2 hmb hb hW3)
  have hgpw : w.heap.size ≤ gp := by have := hb1.size; omega
  have hs3 : W3.heap.size = b + 1 := by rw [hW3]; simp; omega
  clear hW3 hb1 h1 hG2 hb2
  go_wp2_with fail
  (with_reducible refine (heapNew W3).mono ?_)
  rintro e w4 ⟨q, S, rfl, hH, hSf, hb4⟩
  rw [hpI_none, show (0 : Nat) = cntS (fun _ => none) g.n from (cntS_none _).symm] at hH
  have hS4 : FlS w w4 b gp mc mb q S g v (fun _ => none) (fun _ => none) (fun _ => none) 0 := by
    refine ⟨hF3.out.below hb4, hH, ⟨fun hm => ?_, fun hm => ?_, fun hm => ?_, fun hm => ?_⟩, fun k hk => ?_, by omega, bel_trans HW3 hb4⟩
    · have := hSf _ hm; omega
    · have := hSf _ hm; omega
    · have := hSf _ hm; omega
    · have := hSf _ hm; omega
    · have := hSf _ hk; omega
  have HS4 := Lib.hid hS4
  have cP := Lib.hid (fun w' h' => heapPushN w' S q g.n (fun _ => none) fr 0 0 true h' hc (by omega) ⟨by unfold inC; simp only; omega, by unfold inC; simp only; omega⟩ rfl)
  clear hF3 hH hSf hb4 hS4 HW3
  go_wp2_with fail
  (with_reducible refine (cP.out _ HS4.out.heap).mono ?_)
  rintro e w5 hD
  have hD := Lib.hid hD
  obtain ⟨rfl, _⟩ := hD.out
  obtain ⟨S5, hS5, _⟩ := HS4.out.pushed hD.out
  have hF0 : FS g.E fr g.n (fun _ => none) (pushed (fun _ => none) fr ⟨0, 0⟩ true) (fun _ => none) fr (fun _ _ => False) := FS.start hc fr
  obtain ⟨N0, hN0⟩ : ∃ N0, N0 = g.n := ⟨_, rfl⟩
  have hstart : FrI w b gp mc mb q g v fr N0 w5 := ⟨S5, _, _, _, _, fr, hS5, hF0, by omega⟩
  clear hD HS4 hS5 hF0 cP hN0
  go_wp2_with fail
  go_loopg [] N0 (fun gk wr => FrI w b gp mc mb q g v fr gk wr)
  case atStart => exact hstart
  case round =>
    obtain ⟨S, done, hp, back, nb, k0, hS, hF, hgk⟩ := hrel
    clear hstart
    have HS := Lib.hid hS
    have HF := Lib.hid hF
    by_cases h0 : cntS hp g.n = 0
    · have hH := hS.heap
      rw [h0] at hH
      go_wp2_with fail
      (with_reducible refine (heapPop_none _ S q (hpI hp) hH).mono ?_)
      rintro e w6 ⟨rfl, hb6⟩
      have hS6 := HS.out.below hb6
      have hS7 := hS6.below (w' := w6.alloc (.cells #[.int .i64 0, .int .i64 0] 23)) (bel_alloc (Below.refl _ _))
      have hok2 := HF.out.fin (fun _ _ _ => G.E_nn) hn (cntS_zero h0 HF.out.rngH)
      have hfin : FromD w g fr (.returned (.tuple #[.pointer (some ⟨b, 0, none⟩), .nilIface])) (w6.alloc (.cells #[.int .i64 0, .int .i64 0] 23)) :=
        ⟨b, done, back, rfl, ⟨gp, mc, mb, v, nb, hS7.fl, hok2, hbl⟩, hS6.own.1, bel_alloc hS6.bel,
          fun S w2 hK hlt => ⟨gp, mc, mb, v, nb, hS7.fl.kept hK ⟨fun hm => by have := hlt _ hm; have := hS6.own.1; omega, fun hm => by have := hlt _ hm; have := hS6.own.2.1; omega, fun hm => by have := hlt _ hm; have := hS6.own.2.2.1; omega, fun hm => by have := hlt _ hm; have := hS6.own.2.2.2; omega⟩, hok2, hbl⟩⟩
      clear hS hF hH HS HF hb6 hS6 hS7 hok2
      go_wp2
      go_ret2
      exact hfin
    · go_wp2_with fail
      (with_reducible refine (heapPopN _ S q g.n hp hS.heap hF.rngH (by omega) h0).mono ?_)
      rintro e w6 ⟨k, ds, dd, hk1, hk2, rfl, hk4, hk5⟩
      have hkn : k < g.n := HF.out.rngH k (by rw [hk1]; simp)
      have hdn : done k = none := (HF.out.dij.i2 _ _ hk1).1
      have hS6 : FlS w w6 b gp mc mb q S g v done (upd hp k none) back nb :=
        ⟨hS.fl.kept hk5 hS.dis, hk4, hS.dis, hS.far, hS.own, Kept.below hS.bel hk5 hS.bel.size hS.far⟩
      have hF6 := Lib.hid (HF.out.pop (fun _ _ _ => G.E_nn) hk1 hk2)
      have HS6 := Lib.hid hS6
      clear hk1 hk2 hk4 hk5 hS hF HS HF hS6 h0
      go_upto_region 12 with (fail)
      refine wp_name ?_
      intro W6 hW6
      have HW6 : Below w6.heap.size w6 W6 := by rw [hW6]; (repeat' (first | exact Below.refl _ _ | assumption | apply bel_drewN | apply bel_drew | apply bel_alloc | (refine bel_trans ?_ (by assumption))))
      have d0 : W6.cell? ⟨w6.heap.size, 0, none⟩ = some (.int .i64 ds) := by rw [hW6]; go_simp
      have d1 : W6.cell? ⟨w6.heap.size, 1, none⟩ = some (.int .i64 dd) := by rw [hW6]; go_simp
      have hS7 := HS6.out.below HW6
      have l6 : w6.heap.size ≠ mc := by have := HS6.out.fl.mapC.lt; omega
      obtain ⟨eb, heb⟩ : ∃ eb, w6.heap.size = eb := ⟨_, rfl⟩
      rw [heb] at d0 d1 l6 ⊢
      clear hW6 HS6 HW6 heb
      obtain ⟨k0', k1, k2⟩ := hS7.fl.cells
      have lb := hS7.fl.lt
      have HS7 := Lib.hid hS7
      clear hS7
      go_still_tail 6, (by kernel_rfl)
      change wpList _ _ _ _ _ W6.drew
      have hS8 := HS7.out.below (bel_drew (Below.refl _ _))
      have d0 : W6.drew.cell? ⟨eb, 0, none⟩ = some (.int .i64 ds) := d0
      have d1 : W6.drew.cell? ⟨eb, 1, none⟩ = some (.int .i64 dd) := d1
      clear k0' k1 k2 lb HS7
      generalize W6.drew = w7 at *
      refine wpList_storeM rfl _ _ _ rfl (int_fit Try.underlying3) Try.underlying117 hS8.fl.mapC rfl (k : Nat) rfl (.agg #[.int .i64 ds, .int .i64 dd]) rfl ?_
      intro w8 hm8 hk8
      have hS9 := hS8.done hkn hdn hm8 hk8
      have d0 := cellK hk8 (by simpa using l6) d0
      have d1 := cellK hk8 (by simpa using l6) d1
      have hcnt := cntS_new hkn hdn ⟨ds, dd⟩
      have hcle := cntS_le (upd done k (some ⟨ds, dd⟩)) g.n
      have HS9 := Lib.hid hS9
      clear hS8 hm8 hk8 hS9
      go_wp2_with fail
      (with_reducible refine (floodSpread w _ b gp mc mb q S g v fr k (upd done k (some ⟨ds, dd⟩)) (upd hp k none) back nb ds dd HS9.out hF6.out (upd_same _ _ _) hok).mono ?_)
      rintro e w9 ⟨rfl, S2, hp2, back2, nb2, hS10, hF10⟩
      have hin : FrI w b gp mc mb q g v fr (g.n - cntS (upd done k (some ⟨ds, dd⟩)) g.n) w9 := ⟨S2, _, hp2, back2, nb2, k, hS10, hF10, Nat.le_refl _⟩
      have hin := Lib.hid hin
      clear HS9 hF6 hS10 hF10 d0 d1
      go_wp2
      go_roundg (g.n - cntS (upd done k (some ⟨ds, dd⟩)) g.n)
      case measure => omega
      case rel => exact hin.out
end Go.Proofs.Ytkiogciokngjfaa
