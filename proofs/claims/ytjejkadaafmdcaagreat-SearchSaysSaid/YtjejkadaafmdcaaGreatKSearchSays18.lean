/- Lemmas of this claim: RRay4, RRay5. -/
import Derived.Test.YtjejkadaafmdcaaGreatKSearchSays14
import Derived.Test.YtjejkadaafmdcaaGreatKSearchSays17
set_option linter.unusedVariables false
set_option linter.unusedSimpArgs false
/- The document's Direct, by what cells cost from both. -/
namespace Go.Proofs.YtjejkadaafmdcaaGreat
open Go.RowKit Go.Sort FR
/-- none of the first corners lies between -/
def NoMid (g : G) (ca cb : Nat) (c1 c2 : Nat → C) (i1 i2 : Nat → Bool) (i : Nat) : Prop := ∀ j, j < i → ∀ k : Nat, (cornersI g).getD j 0 = (k : Int) → ¬ MidK g ca cb c1 c2 i1 i2 k
set_option maxRecDepth 100000 in
set_option maxHeartbeats 6400000 in
theorem rDirectRays (w : World) (p : Nat) (g : G) (v : Int) (ca cb : Nat) (c1 c2 : Nat → C) (i1 i2 : Nat → Bool) (Z1 Z2 : Array Value) (A : Option Addr) (n m : Nat) (t : Bool) (h : RGridAt w p g v) (hca : ca < g.n) (hcb : cb < g.n)
    (hz1 : rayRow ca c1 i1 = Z1) (hz2 : rayRow cb c2 i2 = Z2) (h1 : FloodIs g ca c1 i1) (h2 : FloodIs g cb c2 i2) (hI : Ints w A n (fun k => (cornersI g).getD k 0)) (hn : (cornersI g).length = n) (ht : t = true ↔ g.Direct ca cb) :
    Calls Tryz.prog 107 #[.pointer (some ⟨p, 0, none⟩), .agg Z1, .agg Z2, .slice A n m] w fun e w' => e = .returned (.bool t) ∧ Below w.heap.size w w' := by
  have hNn := G.n_le h.1
  have hok := h.1
  have hn256 : n ≤ 256 := by rw [← hn]; exact Nat.le_trans (upTo_len _ _) hNn
  obtain ⟨⟨os, od⟩, hox⟩ : ∃ z, g.oct ca cb = z := ⟨_, rfl⟩
  have cO := Lib.hid (fun w' h' => rOct w' p g v ca cb ⟨os, od⟩ h' hca hcb hox)
  have hnear := near_flood (cb := cb) h1
  have hd1 : g.Direct ca cb ↔ g.Near ca cb ∧ ∀ k, g.Corner k → ¬ MidK g ca cb c1 c2 i1 i2 k := by
    unfold G.Direct
    refine and_congr_right fun _ => forall_congr' fun k => imp_congr_right fun hk => ?_
    rw [midK_iff h1 h2]
    constructor
    · rintro q ⟨a1, a2, a3⟩; exact q a1 a2 a3
    · intro q a1 a2 a3; exact q ⟨a1, a2, a3⟩
  rw [hd1, hnear] at ht
  have Hz1 := Lib.hid hz1
  have Hz2 := Lib.hid hz2
  have H1 := Lib.hid h1
  have H2 := Lib.hid h2
  have Hn := Lib.hid hn
  have Ht := Lib.hid ht
  have Hox := Lib.hid hox
  have HI := Lib.hid hI
  have HR := Lib.hid h
  have hrl := h.lt
  have Hok := Lib.hid hok
  clear hz1 hz2 h1 h2 hn ht hox hI h hnear hd1 hok
  go_enter Tryz.func107, Tryz.ntmps107
  go_upto_region 1 with (fail)
  refine wp_name ?_
  intro W hW
  have HW : Below w.heap.size w W := by rw [hW]; (repeat' (first | exact Below.refl _ _ | assumption | apply bel_drewN | apply bel_drew | apply bel_alloc | (refine bel_trans ?_ (by assumption))))
  have hA : W.heap[w.heap.size]? = some (.cells Z1 113 (0, 0)) := by rw [hW]; exact alloc_old _ _ (by simp) (alloc_at _ _ rfl)
  have hB : W.heap[w.heap.size + 1]? = some (.cells Z2 113 (0, 0)) := by rw [hW]; exact alloc_at _ _ (by simp)
  obtain ⟨b5, hb5⟩ : ∃ z, w.heap.size = z := ⟨_, rfl⟩
  rw [hb5] at hA hB ⊢
  obtain ⟨b6, hb6⟩ : ∃ z, b5 + 1 = z := ⟨_, rfl⟩
  rw [hb6] at hB ⊢
  have cA := Lib.hid (fun w' hb => ray_cell (w' := w') hA Hz1.out hb)
  have cB := Lib.hid (fun w' hb => ray_cell (w' := w') hB Hz2.out hb)
  clear hW hA hB hb5 hb6
  have a0 := (cA.out W (Below.refl _ _)).1
  have a1 := (cB.out W (Below.refl _ _)).1
  go_wp2_with fail
  (with_reducible refine (cO.out _ (HR.out.below HW hrl)).mono ?_)
  rintro e w2 ⟨rfl, hb2⟩
  go_upto_region 2 with (fail)
  refine wp_name ?_
  intro W2 hW2
  have HW2 : Below w2.heap.size w2 W2 := by rw [hW2]; (repeat' (first | exact Below.refl _ _ | assumption | apply bel_drewN | apply bel_drew | apply bel_alloc | (refine bel_trans ?_ (by assumption))))
  have o0 : W2.cell? ⟨w2.heap.size, 0, none⟩ = some (.int .i64 os) := by rw [hW2]; go_simp
  have o1 : W2.cell? ⟨w2.heap.size, 1, none⟩ = some (.int .i64 od) := by rw [hW2]; go_simp
  obtain ⟨b9, hb9⟩ : ∃ z, w2.heap.size = z := ⟨_, rfl⟩
  rw [hb9] at o0 o1 ⊢
  have HB2 := bel_trans hb2 HW2
  clear hW2 hb9 hb2 HW2 a0 a1 cO
  obtain ⟨a0, ac⟩ := cA.out W2 HB2
  obtain ⟨b0, _⟩ := cB.out W2 HB2
  obtain ⟨x1, x2, x3⟩ := ac cb (by omega)
  have q0 : (0 : Int) ≤ (cb : Int) := by omega
  have q1 : (cb : Int) < 256 := by omega
  have a0q := cell_regrown a0
  have b0q := cell_regrown b0
  have x1q := cell_regrown x1
  have x2q := cell_regrown x2
  have o0q := cell_regrown o0
  have o1q := cell_regrown o1
  obtain ⟨⟨xs, xd⟩, hx1⟩ : ∃ z, c1 cb = z := ⟨_, rfl⟩
  rw [hx1] at x1 x2 x1q x2q
  simp only at x1 x2 x1q x2q
  have Hx1 := Lib.hid hx1
  obtain ⟨ti, hti⟩ : ∃ z, i1 cb = z := ⟨_, rfl⟩
  rw [hti] at x3
  have x3q := cell_regrown x3
  have Hti := Lib.hid hti
  obtain ⟨tn, htn⟩ := boolP (g.Near ca cb)
  rw [near_flood H1.out, hti, hx1, Hox.out] at htn
  have Htn := Lib.hid htn
  obtain ⟨nt, hnt⟩ : ∃ z, (!tn) = z := ⟨_, rfl⟩
  have Hnt := Lib.hid hnt
  clear ac hx1 hti htn hnt
  have HX := Below.refl W2.heap.size W2
  go_cut [32] (fun s wx => s = .bool nt ∧ Below W2.heap.size W2 wx)
  case first =>
    cases ti with
    | false =>
      have e : tn = false := bool_no Htn.out (by simp)
      have e2 : nt = true := by rw [← Hnt.out, e]; rfl
      clear e
      subst e2
      refine wp_region_quiet_below (by kernel_rfl) (by kernel_rfl) ?_
      repeat (first | go_big_quiet_step (fail) | quiet_step (fail))
      refine wpQuiet_nil ?_
      intro _ hw'
      obtain ⟨⟨dq, osq⟩, hw''⟩ := hw'
      have HY := bel_trans HX (below_regrown W2 dq osq)
      have hb2 := below_regrown W2 dq osq
      subst hw''
      generalize grow (redrawn W2 dq) osq = w3 at HY hb2 ⊢
      go_wp2
      go_meet
      case rel => exact ⟨rfl, HY⟩
    | true =>
      by_cases e1 : xs = os
      · by_cases e2 : xd = od
        · have e : tn = true := Htn.out.2 ⟨rfl, by rw [e1, e2]⟩
          have e3 : nt = false := by rw [← Hnt.out, e]; rfl
          clear e
          subst e3
          subst e1
          subst e2
          refine wp_region_quiet_below (by kernel_rfl) (by kernel_rfl) ?_
          repeat (first | go_big_quiet_step (fail) | quiet_step (fail))
          refine wpQuiet_nil ?_
          intro _ hw'
          obtain ⟨⟨dq, osq⟩, hw''⟩ := hw'
          have HY := bel_trans HX (below_regrown W2 dq osq)
          have hb2 := below_regrown W2 dq osq
          subst hw''
          generalize grow (redrawn W2 dq) osq = w3 at HY hb2 ⊢
          go_wp2
          go_meet
          case rel => exact ⟨rfl, HY⟩
        · have e : tn = false := bool_no Htn.out (by rintro ⟨_, e⟩; injection e with _ e; exact e2 e)
          have e3 : nt = true := by rw [← Hnt.out, e]; rfl
          have e2' : (xd == od) = false := by rw [beq_eq_false_iff_ne]; exact e2
          clear e e2
          subst e3
          subst e1
          refine wp_region_quiet_below (by kernel_rfl) (by kernel_rfl) ?_
          repeat (first | go_big_quiet_step (fail) | quiet_step (fail))
          refine wpQuiet_nil ?_
          intro _ hw'
          obtain ⟨⟨dq, osq⟩, hw''⟩ := hw'
          have HY := bel_trans HX (below_regrown W2 dq osq)
          have hb2 := below_regrown W2 dq osq
          subst hw''
          generalize grow (redrawn W2 dq) osq = w3 at HY hb2 ⊢
          go_wp2
          go_meet
          case rel => exact ⟨rfl, HY⟩
      · have e : tn = false := bool_no Htn.out (by rintro ⟨_, e⟩; injection e with e _; exact e1 e)
        have e3 : nt = true := by rw [← Hnt.out, e]; rfl
        have e1' : (xs == os) = false := by rw [beq_eq_false_iff_ne]; exact e1
        clear e e1
        subst e3
        refine wp_region_quiet_below (by kernel_rfl) (by kernel_rfl) ?_
        repeat (first | go_big_quiet_step (fail) | quiet_step (fail))
        refine wpQuiet_nil ?_
        intro _ hw'
        obtain ⟨⟨dq, osq⟩, hw''⟩ := hw'
        have HY := bel_trans HX (below_regrown W2 dq osq)
        have hb2 := below_regrown W2 dq osq
        subst hw''
        generalize grow (redrawn W2 dq) osq = w3 at HY hb2 ⊢
        go_wp2
        go_meet
        case rel => exact ⟨rfl, HY⟩
  case rest =>
  obtain ⟨rfl, hbc⟩ := hcut
  obtain ⟨w3, hw3⟩ : ∃ z : World, wc = z := ⟨_, rfl⟩
  rw [hw3] at hbc ⊢
  have o0 := bel_cell hbc o0
  have o1 := bel_cell hbc o1
  have HB3 := bel_trans HB2 hbc
  clear hw3 hbc HB2 a0 b0 x1 x2 x3 a0q b0q x1q x2q x3q o0q o1q HX
  cases nt with
  | true =>
    have e : tn = false := by have := Hnt.out; cases tn <;> simp_all
    have et : t = false := bool_no Ht.out (by
      rintro ⟨h, _⟩
      rw [Hti.out, Hx1.out, Hox.out] at h
      have := Htn.out.2 h
      rw [e] at this; cases this)
    clear e
    subst et
    go_wp2
    go_ret
    exact ⟨rfl, bel_trans HW HB3⟩
  | false =>
    have e : tn = true := by have := Hnt.out; cases tn <;> simp_all
    have hnr : i1 cb = true ∧ c1 cb = g.oct ca cb := by rw [Hti.out, Hx1.out, Hox.out]; exact Htn.out.1 e
    have Hnr := Lib.hid hnr
    have hstart : NoMid g ca cb c1 c2 i1 i2 0 := fun j hj => by omega
    have HI := Lib.hid (HI.out.below (bel_trans HW HB3))
    clear e hnr
    go_wp2_with fail
    go_loopw [10] (fun kv wr => ∃ i : Nat, i ≤ n ∧ kv = .int .i64 i ∧ NoMid g ca cb c1 c2 i1 i2 i ∧ Below w3.heap.size w3 wr) (fun kv _ => n - (intOf kv).toNat)
    case atStart => exact ⟨0, by omega, rfl, hstart, Below.refl _ _⟩
    case round =>
      obtain ⟨i, hi, rfl, hno, HBr⟩ := hrel
      have Hno := Lib.hid hno
      clear hno hstart
      have HBw := bel_trans HB3 HBr
      by_cases hlt : i < n
      · have hIr := HI.out.below HBr
        obtain ⟨ad, hA⟩ := hIr.addr (by omega)
        rw [hA] at hIr
        have hix := fun wx => idx_run (m := m) hA hlt wx
        have hE := hIr.cell (Below.refl _ _) hlt
        obtain ⟨d, hd1, hd2, hd3⟩ := upTo_get (p := cornerB g) (n := g.n) (k := i) (by have := Hn.out; unfold cornersI at this; omega)
        have hd1' : (cornersI g).getD i 0 = (d : Int) := hd1
        rw [hd1'] at hE
        have Hd1 := Lib.hid hd1'
        have hdc := (corner_iff' hd2).1 hd3
        have Hdc := Lib.hid hdc
        have d0 : (0 : Int) ≤ (d : Int) := by omega
        have d1 : (d : Int) < 256 := by omega
        have i0 : (0 : Int) ≤ (i : Int) := by omega
        have i1' : (i : Int) < (n : Int) := by omega
        obtain ⟨a0, ac⟩ := cA.out wr HBw
        obtain ⟨b0, bc⟩ := cB.out wr HBw
        obtain ⟨x1, x2, x3⟩ := ac d (by omega)
        obtain ⟨y1, y2, y3⟩ := bc d (by omega)
        have o0 := bel_cell HBr o0
        have o1 := bel_cell HBr o1
        obtain ⟨r, hr⟩ := boolP (MidK g ca cb c1 c2 i1 i2 d)
        have Hr := Lib.hid hr
        have hsm : i1 d = true → 0 ≤ (c1 d).s ∧ (c1 d).s ≤ 512 ∧ 0 ≤ (c1 d).d ∧ (c1 d).d ≤ 512 := fun h => G.dist_small Hok.out hca ((H1.out d).1 h).1
        have hsm2 : i2 d = true → 0 ≤ (c2 d).s ∧ (c2 d).s ≤ 512 ∧ 0 ≤ (c2 d).d ∧ (c2 d).d ≤ 512 := fun h => G.dist_small Hok.out hcb ((H2.out d).1 h).1
        clear hIr hA hd1 hd1' hd3 hdc ac bc hr
        go_upto_region 8 with (fail)
        clear hE hix
        have a0q := cell_regrown a0
        have b0q := cell_regrown b0
        have o0q := cell_regrown o0
        have o1q := cell_regrown o1
        have HX := Below.refl wr.heap.size wr
        go_cut [77] (fun s wx => s = .bool r ∧ Below wr.heap.size wr wx)
        case first =>
          unfold MidK at Hr
          by_cases e1 : d = ca
          · have er : r = false := bool_no Hr.out (fun h => h.1 e1)
            subst er
            subst e1
            clear Hr x1 x2 x3 y1 y2 y3 hsm hsm2
            refine wp_region_quiet_below (by kernel_rfl) (by kernel_rfl) ?_
            repeat (first | go_big_quiet_step (fail) | quiet_step (fail))
            refine wpQuiet_nil ?_
            intro _ hw'
            obtain ⟨⟨dq, osq⟩, hw''⟩ := hw'
            have HY := bel_trans HX (below_regrown wr dq osq)
            have hb2 := below_regrown wr dq osq
            subst hw''
            generalize grow (redrawn wr dq) osq = w4 at HY hb2 ⊢
            go_wp2
            go_meet
            case rel => exact ⟨rfl, HY⟩
          have e1' : ((d : Int) != (ca : Int)) = true := by rw [bne_iff_ne]; omega
          by_cases e2 : d = cb
          · have er : r = false := bool_no Hr.out (fun h => h.2.1 e2)
            subst er
            subst e2
            clear Hr x1 x2 x3 y1 y2 y3 hsm hsm2 e1
            refine wp_region_quiet_below (by kernel_rfl) (by kernel_rfl) ?_
            repeat (first | go_big_quiet_step (fail) | quiet_step (fail))
            refine wpQuiet_nil ?_
            intro _ hw'
            obtain ⟨⟨dq, osq⟩, hw''⟩ := hw'
            have HY := bel_trans HX (below_regrown wr dq osq)
            have hb2 := below_regrown wr dq osq
            subst hw''
            generalize grow (redrawn wr dq) osq = w4 at HY hb2 ⊢
            go_wp2
            go_meet
            case rel => exact ⟨rfl, HY⟩
          have e2' : ((d : Int) != (cb : Int)) = true := by rw [bne_iff_ne]; omega
          cases hi1 : i1 d with
          | false =>
            have er : r = false := bool_no Hr.out (fun h => by have := h.2.2.1; rw [hi1] at this; cases this)
            rw [hi1] at x3
            have x3q := cell_regrown x3
            subst er
            clear Hr x1 x2 y1 y2 y3 hsm hsm2 e1 e2 hi1
            refine wp_region_quiet_below (by kernel_rfl) (by kernel_rfl) ?_
            repeat (first | go_big_quiet_step (fail) | quiet_step (fail))
            refine wpQuiet_nil ?_
            intro _ hw'
            obtain ⟨⟨dq, osq⟩, hw''⟩ := hw'
            have HY := bel_trans HX (below_regrown wr dq osq)
            have hb2 := below_regrown wr dq osq
            subst hw''
            generalize grow (redrawn wr dq) osq = w4 at HY hb2 ⊢
            go_wp2
            go_meet
            case rel => exact ⟨rfl, HY⟩
          | true =>
            cases hi2 : i2 d with
            | false =>
              have er : r = false := bool_no Hr.out (fun h => by have := h.2.2.2.1; rw [hi2] at this; cases this)
              rw [hi1] at x3
              rw [hi2] at y3
              have x3q := cell_regrown x3
              have y3q := cell_regrown y3
              subst er
              clear Hr x1 x2 y1 y2 hsm hsm2 e1 e2 hi1 hi2
              refine wp_region_quiet_below (by kernel_rfl) (by kernel_rfl) ?_
              repeat (first | go_big_quiet_step (fail) | quiet_step (fail))
              refine wpQuiet_nil ?_
              intro _ hw'
              obtain ⟨⟨dq, osq⟩, hw''⟩ := hw'
              have HY := bel_trans HX (below_regrown wr dq osq)
              have hb2 := below_regrown wr dq osq
              subst hw''
              generalize grow (redrawn wr dq) osq = w4 at HY hb2 ⊢
              go_wp2
              go_meet
              case rel => exact ⟨rfl, HY⟩
            | true =>
              have s1 := hsm hi1
              have s2 := hsm2 hi2
              obtain ⟨⟨us, ud⟩, hu⟩ : ∃ z, c1 d = z := ⟨_, rfl⟩
              obtain ⟨⟨vs, vd⟩, hv⟩ : ∃ z, c2 d = z := ⟨_, rfl⟩
              have hr2 := Hr.out
              rw [hi1, hi2, hu, hv, Hox.out] at hr2
              rw [hi1] at x3
              rw [hi2] at y3
              rw [hu] at s1 x1 x2
              rw [hv] at s2 y1 y2
              simp only at s1 s2 x1 x2 y1 y2
              obtain ⟨s11, s12, s13, s14⟩ := s1
              obtain ⟨s21, s22, s23, s24⟩ := s2
              have cP := Lib.hid (fun w => refPlus us ud vs vd w (by unfold inC; omega) (by unfold inC; omega) (by unfold inC; omega) (by unfold inC; omega))
              have x1q := cell_regrown x1
              have x2q := cell_regrown x2
              have x3q := cell_regrown x3
              have y1q := cell_regrown y1
              have y2q := cell_regrown y2
              have y3q := cell_regrown y3
              have Hr2 := Lib.hid hr2
              clear Hr hr2 hsm hsm2 hi1 hi2 hu hv
              by_cases q1 : us + vs = os
              · by_cases q2 : ud + vd = od
                · have er : r = true := Hr2.out.2 ⟨e1, e2, rfl, rfl, by simp only [C.add]; rw [q1, q2]⟩
                  subst er
                  subst q1
                  subst q2
                  clear e1 e2
                  refine wp_region_quiet_below (by kernel_rfl) (by kernel_rfl) ?_
                  repeat (first | go_big_quiet_step ((with_reducible exact Calls.regrown_of (cP.out _))) | quiet_step ((with_reducible exact Calls.regrown_of (cP.out _))))
                  refine wpQuiet_nil ?_
                  intro _ hw'
                  obtain ⟨⟨dq, osq⟩, hw''⟩ := hw'
                  have HY := bel_trans HX (below_regrown wr dq osq)
                  have hb2 := below_regrown wr dq osq
                  subst hw''
                  generalize grow (redrawn wr dq) osq = w4 at HY hb2 ⊢
                  go_wp2
                  go_meet
                  case rel => exact ⟨rfl, HY⟩
                · have er : r = false := bool_no Hr2.out (fun h => by have := h.2.2.2.2; simp only [C.add] at this; injection this with _ h; exact q2 h)
                  have q2' : (ud + vd == od) = false := by rw [beq_eq_false_iff_ne]; exact q2
                  subst er
                  subst q1
                  clear e1 e2 q2
                  refine wp_region_quiet_below (by kernel_rfl) (by kernel_rfl) ?_
                  repeat (first | go_big_quiet_step ((with_reducible exact Calls.regrown_of (cP.out _))) | quiet_step ((with_reducible exact Calls.regrown_of (cP.out _))))
                  refine wpQuiet_nil ?_
                  intro _ hw'
                  obtain ⟨⟨dq, osq⟩, hw''⟩ := hw'
                  have HY := bel_trans HX (below_regrown wr dq osq)
                  have hb2 := below_regrown wr dq osq
                  subst hw''
                  generalize grow (redrawn wr dq) osq = w4 at HY hb2 ⊢
                  go_wp2
                  go_meet
                  case rel => exact ⟨rfl, HY⟩
              · have er : r = false := bool_no Hr2.out (fun h => by have := h.2.2.2.2; simp only [C.add] at this; injection this with h _; exact q1 h)
                have q1' : (us + vs == os) = false := by rw [beq_eq_false_iff_ne]; exact q1
                subst er
                clear e1 e2 q1
                refine wp_region_quiet_below (by kernel_rfl) (by kernel_rfl) ?_
                repeat (first | go_big_quiet_step ((with_reducible exact Calls.regrown_of (cP.out _))) | quiet_step ((with_reducible exact Calls.regrown_of (cP.out _))))
                refine wpQuiet_nil ?_
                intro _ hw'
                obtain ⟨⟨dq, osq⟩, hw''⟩ := hw'
                have HY := bel_trans HX (below_regrown wr dq osq)
                have hb2 := below_regrown wr dq osq
                subst hw''
                generalize grow (redrawn wr dq) osq = w4 at HY hb2 ⊢
                go_wp2
                go_meet
                case rel => exact ⟨rfl, HY⟩
        case rest =>
        obtain ⟨rfl, hbc⟩ := hcut
        have HB4 := bel_trans HBr hbc
        clear a0 b0 x1 x2 x3 y1 y2 y3 a0q b0q o0q o1q HX hsm hsm2 hbc
        cases r with
        | true =>
          have et : t = false := bool_no Ht.out (fun h => h.2 d Hdc.out (Hr.out.1 (by trivial)))
          have HBE := bel_trans HW (bel_trans HB3 HB4)
          subst et
          go_wp2
          go_ret
          exact ⟨rfl, HBE⟩
        | false =>
          have hnew : NoMid g ca cb c1 c2 i1 i2 (i + 1) := fun j hj k hk => by
            by_cases e : j = i
            · subst e
              have : k = d := by have := Hd1.out; omega
              subst this
              intro h
              have := Hr.out.2 h
              simp at this
            · exact Hno.out j (by omega) k hk
          have Hnew := Lib.hid hnew
          clear hnew
          go_wp2
          go_roundw
          case rel => first | exact ⟨i + 1, by omega, by go_num, Hnew.out, HB4⟩ | ((repeat apply Exists.intro); exact ⟨⟨i + 1, by omega, by go_num, Hnew.out, HB4⟩, rfl⟩)
          case measure => simp [intOf]; omega
      · obtain rfl : i = n := by omega
        have et : t = true := Ht.out.2 ⟨Hnr.out, fun k hk => by
          obtain ⟨j, hj1, hj2⟩ := upTo_has (p := cornerB g) hk.1 ((corner_iff' hk.1).2 hk)
          exact Hno.out j (by have := Hn.out; unfold cornersI at this; omega) k hj2⟩
        have HBE := bel_trans HW HBw
        subst et
        go_wp2
        go_ret
        exact ⟨rfl, HBE⟩
end Go.Proofs.YtjejkadaafmdcaaGreat
/- The document's Direct: of two cells. -/
namespace Go.Proofs.YtjejkadaafmdcaaGreat
open Go.RowKit Go.Sort FR
theorem rangeAt_below {w w' : World} {b o : Nat} {cs : List Value} (h : w.rangeAt b o cs) (hb : Below w.heap.size w w') : w'.rangeAt b o cs := fun j v hv => bel_cell hb (h j v hv)
theorem range_all {w : World} {b : Nat} {Z : Array Value} {T : TypeId} (h : w.heap[b]? = some (.cells Z T (0, 0))) : w.rangeAt b 0 Z.toList := fun j v hv => by
  rw [Array.getElem?_toList] at hv
  simp [World.cell?, h, hv]
end Go.Proofs.YtjejkadaafmdcaaGreat
