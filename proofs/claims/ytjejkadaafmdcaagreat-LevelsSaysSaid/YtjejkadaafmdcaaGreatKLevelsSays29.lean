/- Lemmas of this claim: RLv2, RLv3, RLv4, RLv5, RLv6, LvS1, LvS2. -/
import Derived.Test.YtjejkadaafmdcaaGreatKLevelsSays28
import Derived.Test.YtjejkadaafmdcaaGreatKLevelsSays9
import Derived.Test.YtjejkadaafmdcaaGreatKLevelsSays23
set_option linter.unusedVariables false
set_option linter.unusedSimpArgs false
/- The document's levels: lay, edgeTo: the walks. -/
namespace Go.Proofs.YtjejkadaafmdcaaGreat
open Go.RowKit Go.Sort FR Go.Lib
set_option maxRecDepth 100000 in
set_option maxHeartbeats 3200000 in
theorem rLay (w : World) (A : Option Addr) (m : Nat) (L : List Ed) (x : Ed) (h : EdsAt w A L) (hs : Srt L) (hl : L.length ≤ 1000) :
    Calls Tryz.prog 110 #[.slice A L.length m, .agg #[.int .i64 x.to_, .int .i64 x.c.s, .int .i64 x.c.d, .int .i64 x.mid]] w (RetE w (putS L x)) := by
  have hend := lay_end hs x
  obtain ⟨n, hn⟩ : ∃ n, L.length = n := ⟨_, rfl⟩
  rw [hn] at hl hend ⊢
  have H := Lib.hid (And.intro h (And.intro hn hend))
  obtain ⟨xt, ⟨xs, xd⟩, xm⟩ := x
  simp only
  clear h hs hn hend
  go_enter Tryz.func110, Tryz.ntmps110
  go_upto_region 1 with (fail)
  refine wp_name ?_
  intro W hW
  have HW : Below w.heap.size w W := by rw [hW]; (repeat' (first | exact Below.refl _ _ | assumption | apply bel_drewN | apply bel_drew | apply bel_alloc | (refine bel_trans ?_ (by assumption))))
  have x0 : W.cell? ⟨w.heap.size, 0, none⟩ = some (.int .i64 xt) := by rw [hW]; go_simp
  have x1 : W.cell? ⟨w.heap.size, 1, none⟩ = some (.int .i64 xs) := by rw [hW]; go_simp
  have x2 : W.cell? ⟨w.heap.size, 2, none⟩ = some (.int .i64 xd) := by rw [hW]; go_simp
  have x3 : W.cell? ⟨w.heap.size, 3, none⟩ = some (.int .i64 xm) := by rw [hW]; go_simp
  obtain ⟨b3, hb3⟩ : ∃ z, w.heap.size = z := ⟨_, rfl⟩
  rw [hb3] at x0 x1 x2 x3 ⊢
  have l3 : b3 < W.heap.size := World.block_lt_of_cell? _ _ x0
  have X0 := Lib.hid (And.intro x0 (And.intro x1 (And.intro x2 x3)))
  clear hW x0 x1 x2 x3
  go_wp2_with fail
  obtain ⟨wz, rfl⟩ : ∃ wz : World, wz = W := ⟨_, rfl⟩
  go_loopw [5, 6, 7] (fun lv bv kv wr => ∃ i : Nat, kv = .int .i64 i ∧ i ≤ n ∧ bv = .bool (layAt L ⟨xt, ⟨xs, xd⟩, xm⟩ i).2 ∧ OwnE wr wz.heap.size lv (layAt L ⟨xt, ⟨xs, xd⟩, xm⟩ i).1 ∧ Below wz.heap.size wz wr) (fun _ _ kv _ => n - (intOf kv).toNat)
  case atStart => exact ⟨0, rfl, by omega, rfl, OwnE.nil _ _, Below.refl _ _⟩
  case round =>
    obtain ⟨i, rfl, hi, rfl, hO, hB⟩ := hrel
    have HO := Lib.hid hO
    have hlen := layAt_len L ⟨xt, ⟨xs, xd⟩, xm⟩ i
    by_cases hlt : i < n
    · obtain ⟨e, he⟩ : ∃ e, L[i]? = some e := ⟨L[i]'(by rw [H.out.2.1]; exact hlt), List.getElem?_eq_getElem _⟩
      obtain ⟨gb, hA, _⟩ := ((H.out.1.below HW).below hB).get he
      have hix := fun wx => idxE (m := m) hA hlt wx
      have hstep := layAt_succ (x := ⟨xt, ⟨xs, xd⟩, xm⟩) he
      obtain ⟨M, hM⟩ : ∃ M, layAt L ⟨xt, ⟨xs, xd⟩, xm⟩ i = M := ⟨_, rfl⟩
      obtain ⟨M, laid⟩ := M
      rw [hM] at hstep hlen HO ⊢
      simp only at hlen HO ⊢
      obtain ⟨et, ⟨es, ed⟩, em⟩ := e
      have hc : ∀ w', Below wz.heap.size wz w' → w'.cell? ⟨gb, i * 4, none⟩ = some (.int .i64 et) ∧ w'.cell? ⟨gb, i * 4 + 1, none⟩ = some (.int .i64 es) ∧ w'.cell? ⟨gb, i * 4 + 2, none⟩ = some (.int .i64 ed) ∧ w'.cell? ⟨gb, i * 4 + 3, none⟩ = some (.int .i64 em) ∧
          w'.cell? ⟨b3, 0, none⟩ = some (.int .i64 xt) ∧ w'.cell? ⟨b3, 1, none⟩ = some (.int .i64 xs) ∧ w'.cell? ⟨b3, 2, none⟩ = some (.int .i64 xd) ∧ w'.cell? ⟨b3, 3, none⟩ = some (.int .i64 xm) := fun w' hb => by
        obtain ⟨gb', hA', q1, q2, q3, q4⟩ := ((H.out.1.below HW).below hb).get he
        rw [hA] at hA'; injection hA' with hA'; injection hA' with hA'
        subst hA'
        exact ⟨q1, q2, q3, q4, bel_cell hb X0.out.1, bel_cell hb X0.out.2.1, bel_cell hb X0.out.2.2.1, bel_cell hb X0.out.2.2.2⟩
      have HC := Lib.hid hc
      have HS := Lib.hid hstep
      obtain ⟨a1, a2, a3, a4, x0, x1, x2, x3⟩ := HC.out _ hB
      clear hA he hstep hM hO hc
      cases laid with
      | true =>
        go_upto_region 6 with (fail)
        go_quiet (fail)
        have HO4 := Lib.hid (HO.out.kept (w' := wr.drewN nq) (T := []) (.of_below (bel_drewN (Below.refl _ _))) (fun _ _ => by simp))
        have HB4 : Below wz.heap.size wz (wr.drewN nq) := bel_drewN hB
        clear HO hB a1 a2 a3 a4 x0 x1 x2 x3
        generalize wr.drewN nq = w4 at *
        obtain ⟨a1, a2, a3, a4, x0, x1, x2, x3⟩ := HC.out _ HB4
        have l3 : b3 < w4.heap.size := World.block_lt_of_cell? _ _ x0
        by_cases hne : et = xt
        · have hF : layAt L ⟨xt, ⟨xs, xd⟩, xm⟩ (i + 1) = (M, true) := by rw [HS.out]; unfold layStep; simp [hne]
          have HF := Lib.hid hF
          clear hF
          have hnb : (et != xt) = false := by simp [hne]
          go_upto_region 9 with (fail)
          go_quiet (fail)
          have HO5 := Lib.hid (HO4.out.kept (w' := w4.drewN nq) (T := []) (.of_below (bel_drewN (Below.refl _ _))) (fun _ _ => by simp))
          have HB5 : Below wz.heap.size wz (w4.drewN nq) := bel_drewN HB4
          clear HO4 HB4 a1 a2 a3 a4 x0 x1 x2 x3
          generalize w4.drewN nq = w5 at *
          obtain ⟨a1, a2, a3, a4, x0, x1, x2, x3⟩ := HC.out _ HB5
          have l3 : b3 < w5.heap.size := World.block_lt_of_cell? _ _ x0
          have HBf := Lib.hid HB5
          clear HB5 a1 a2 a3 a4 x0 x1 x2 x3 hix
          go_wp2
          first
            | exact ⟨⟨i + 1, by go_num, by omega, by rw [HF.out], by rw [HF.out]; exact HO5.out, HBf.out⟩, by simp [intOf]; omega⟩
            | (go_roundw; (case rel => first | exact ⟨i + 1, by go_num, by omega, by rw [HF.out], by rw [HF.out]; exact HO5.out, HBf.out⟩ | ((repeat apply Exists.intro); exact ⟨⟨i + 1, by go_num, by omega, by rw [HF.out], by rw [HF.out]; exact HO5.out, HBf.out⟩, rfl⟩)); (case measure => simp [intOf]; omega))
        · have hF : layAt L ⟨xt, ⟨xs, xd⟩, xm⟩ (i + 1) = (M ++ [⟨et, ⟨es, ed⟩, em⟩], true) := by rw [HS.out]; unfold layStep; simp [hne]
          have HF := Lib.hid hF
          clear hF
          have hnb : (et != xt) = true := by simp [hne]
          go_upto_region 9 with (fail)
          go_quiet (fail)
          have HO5 := Lib.hid (HO4.out.kept (w' := w4.drewN nq) (T := []) (.of_below (bel_drewN (Below.refl _ _))) (fun _ _ => by simp))
          have HB5 : Below wz.heap.size wz (w4.drewN nq) := bel_drewN HB4
          clear HO4 HB4 a1 a2 a3 a4 x0 x1 x2 x3
          generalize w4.drewN nq = w5 at *
          obtain ⟨a1, a2, a3, a4, x0, x1, x2, x3⟩ := HC.out _ HB5
          have l3 : b3 < w5.heap.size := World.block_lt_of_cell? _ _ x0
          go_wp2_with (at_builtin; (refine wpList_append_E _ rfl _ _ rfl wz.heap.size _ M ⟨et, ⟨es, ed⟩, em⟩ rfl (HO5.out.kept (T := []) (.of_below (bel_alloc (Below.refl _ _))) (fun _ _ => by simp)) ⟨w5.heap.size, 0, none⟩ rfl (fun j u hu => by rw [Addr.add_lit, Nat.zero_add]; exact new_edge (alloc_at w5 _ rfl) j u hu) (by first | omega | (simp; omega)) (by have := HB5.size; simp; omega) ?_); intro v' w9 hown9 hgrow)
          have HO6 := Lib.hid hown9
          have HB6 := (bel_alloc HB5).grown hgrow (by have := HB5.size; simp; omega) (fun k hk => (World.ownsRow.lt HO5.out k hk).1)
          clear hown9 hgrow HO5 HB5 a1 a2 a3 a4 x0 x1 x2 x3
          obtain ⟨w6, hw9⟩ : ∃ z, z = w9 := ⟨_, rfl⟩
          rw [← hw9] at HO6 HB6 ⊢
          clear hw9
          obtain ⟨a1, a2, a3, a4, x0, x1, x2, x3⟩ := HC.out _ HB6
          have l3 : b3 < w6.heap.size := World.block_lt_of_cell? _ _ x0
          have HBf := Lib.hid HB6
          clear HB6 a1 a2 a3 a4 x0 x1 x2 x3 hix
          go_wp2
          first
            | exact ⟨⟨i + 1, by go_num, by omega, by rw [HF.out], by rw [HF.out]; exact HO6.out, HBf.out⟩, by simp [intOf]; omega⟩
            | (go_roundw; (case rel => first | exact ⟨i + 1, by go_num, by omega, by rw [HF.out], by rw [HF.out]; exact HO6.out, HBf.out⟩ | ((repeat apply Exists.intro); exact ⟨⟨i + 1, by go_num, by omega, by rw [HF.out], by rw [HF.out]; exact HO6.out, HBf.out⟩, rfl⟩)); (case measure => simp [intOf]; omega))
      | false =>
        by_cases hle : xt ≤ et
        · have hlb : decide (xt ≤ et) = true := by simp [hle]
          go_upto_region 6 with (fail)
          go_quiet (fail)
          have HO4 := Lib.hid (HO.out.kept (w' := wr.drewN nq) (T := []) (.of_below (bel_drewN (Below.refl _ _))) (fun _ _ => by simp))
          have HB4 : Below wz.heap.size wz (wr.drewN nq) := bel_drewN hB
          clear HO hB a1 a2 a3 a4 x0 x1 x2 x3
          generalize wr.drewN nq = w4 at *
          obtain ⟨a1, a2, a3, a4, x0, x1, x2, x3⟩ := HC.out _ HB4
          have l3 : b3 < w4.heap.size := World.block_lt_of_cell? _ _ x0
          go_wp2_with (at_builtin; (refine wpList_append_E _ rfl _ _ rfl wz.heap.size _ M ⟨xt, ⟨xs, xd⟩, xm⟩ rfl (HO4.out.kept (T := []) (.of_below (bel_alloc (Below.refl _ _))) (fun _ _ => by simp)) ⟨w4.heap.size, 0, none⟩ rfl (fun j u hu => by rw [Addr.add_lit, Nat.zero_add]; exact new_edge (alloc_at w4 _ rfl) j u hu) (by first | omega | (simp; omega)) (by have := HB4.size; simp; omega) ?_); intro v' w9 hown9 hgrow)
          have HO7 := Lib.hid hown9
          have HB7 := (bel_alloc HB4).grown hgrow (by have := HB4.size; simp; omega) (fun k hk => (World.ownsRow.lt HO4.out k hk).1)
          clear hown9 hgrow HO4 HB4 a1 a2 a3 a4 x0 x1 x2 x3
          obtain ⟨w7, hw9⟩ : ∃ z, z = w9 := ⟨_, rfl⟩
          rw [← hw9] at HO7 HB7 ⊢
          clear hw9
          obtain ⟨a1, a2, a3, a4, x0, x1, x2, x3⟩ := HC.out _ HB7
          have l3 : b3 < w7.heap.size := World.block_lt_of_cell? _ _ x0
          by_cases hne : et = xt
          · have hF : layAt L ⟨xt, ⟨xs, xd⟩, xm⟩ (i + 1) = (M ++ [⟨xt, ⟨xs, xd⟩, xm⟩], true) := by rw [HS.out]; unfold layStep; simp [hne, hle]
            have HF := Lib.hid hF
            clear hF
            have hnb : (et != xt) = false := by simp [hne]
            go_upto_region 9 with (fail)
            go_quiet (fail)
            have HO5 := Lib.hid (HO7.out.kept (w' := w7.drewN nq) (T := []) (.of_below (bel_drewN (Below.refl _ _))) (fun _ _ => by simp))
            have HB5 : Below wz.heap.size wz (w7.drewN nq) := bel_drewN HB7
            clear HO7 HB7 a1 a2 a3 a4 x0 x1 x2 x3
            generalize w7.drewN nq = w5 at *
            obtain ⟨a1, a2, a3, a4, x0, x1, x2, x3⟩ := HC.out _ HB5
            have l3 : b3 < w5.heap.size := World.block_lt_of_cell? _ _ x0
            have HBf := Lib.hid HB5
            clear HB5 a1 a2 a3 a4 x0 x1 x2 x3 hix
            go_wp2
            first
              | exact ⟨⟨i + 1, by go_num, by omega, by rw [HF.out], by rw [HF.out]; exact HO5.out, HBf.out⟩, by simp [intOf]; omega⟩
              | (go_roundw; (case rel => first | exact ⟨i + 1, by go_num, by omega, by rw [HF.out], by rw [HF.out]; exact HO5.out, HBf.out⟩ | ((repeat apply Exists.intro); exact ⟨⟨i + 1, by go_num, by omega, by rw [HF.out], by rw [HF.out]; exact HO5.out, HBf.out⟩, rfl⟩)); (case measure => simp [intOf]; omega))
          · have hF : layAt L ⟨xt, ⟨xs, xd⟩, xm⟩ (i + 1) = (M ++ [⟨xt, ⟨xs, xd⟩, xm⟩] ++ [⟨et, ⟨es, ed⟩, em⟩], true) := by rw [HS.out]; unfold layStep; simp [hne, hle]
            have HF := Lib.hid hF
            clear hF
            have hnb : (et != xt) = true := by simp [hne]
            go_upto_region 9 with (fail)
            go_quiet (fail)
            have HO5 := Lib.hid (HO7.out.kept (w' := w7.drewN nq) (T := []) (.of_below (bel_drewN (Below.refl _ _))) (fun _ _ => by simp))
            have HB5 : Below wz.heap.size wz (w7.drewN nq) := bel_drewN HB7
            clear HO7 HB7 a1 a2 a3 a4 x0 x1 x2 x3
            generalize w7.drewN nq = w5 at *
            obtain ⟨a1, a2, a3, a4, x0, x1, x2, x3⟩ := HC.out _ HB5
            have l3 : b3 < w5.heap.size := World.block_lt_of_cell? _ _ x0
            go_wp2_with (at_builtin; (refine wpList_append_E _ rfl _ _ rfl wz.heap.size _ (M ++ [⟨xt, ⟨xs, xd⟩, xm⟩]) ⟨et, ⟨es, ed⟩, em⟩ rfl (HO5.out.kept (T := []) (.of_below (bel_alloc (Below.refl _ _))) (fun _ _ => by simp)) ⟨w5.heap.size, 0, none⟩ rfl (fun j u hu => by rw [Addr.add_lit, Nat.zero_add]; exact new_edge (alloc_at w5 _ rfl) j u hu) (by first | omega | (simp; omega)) (by have := HB5.size; simp; omega) ?_); intro v' w9 hown9 hgrow)
            have HO6 := Lib.hid hown9
            have HB6 := (bel_alloc HB5).grown hgrow (by have := HB5.size; simp; omega) (fun k hk => (World.ownsRow.lt HO5.out k hk).1)
            clear hown9 hgrow HO5 HB5 a1 a2 a3 a4 x0 x1 x2 x3
            obtain ⟨w6, hw9⟩ : ∃ z, z = w9 := ⟨_, rfl⟩
            rw [← hw9] at HO6 HB6 ⊢
            clear hw9
            obtain ⟨a1, a2, a3, a4, x0, x1, x2, x3⟩ := HC.out _ HB6
            have l3 : b3 < w6.heap.size := World.block_lt_of_cell? _ _ x0
            have HBf := Lib.hid HB6
            clear HB6 a1 a2 a3 a4 x0 x1 x2 x3 hix
            go_wp2
            first
              | exact ⟨⟨i + 1, by go_num, by omega, by rw [HF.out], by rw [HF.out]; exact HO6.out, HBf.out⟩, by simp [intOf]; omega⟩
              | (go_roundw; (case rel => first | exact ⟨i + 1, by go_num, by omega, by rw [HF.out], by rw [HF.out]; exact HO6.out, HBf.out⟩ | ((repeat apply Exists.intro); exact ⟨⟨i + 1, by go_num, by omega, by rw [HF.out], by rw [HF.out]; exact HO6.out, HBf.out⟩, rfl⟩)); (case measure => simp [intOf]; omega))
        · have hlb : decide (xt ≤ et) = false := by simp; omega
          have hne : ¬ et = xt := by omega
          have hF : layAt L ⟨xt, ⟨xs, xd⟩, xm⟩ (i + 1) = (M ++ [⟨et, ⟨es, ed⟩, em⟩], false) := by rw [HS.out]; unfold layStep; simp [hne, hle]
          have HF := Lib.hid hF
          clear hF
          have hnb : (et != xt) = true := by simp [hne]
          go_upto_region 6 with (fail)
          go_quiet (fail)
          have HO4 := Lib.hid (HO.out.kept (w' := wr.drewN nq) (T := []) (.of_below (bel_drewN (Below.refl _ _))) (fun _ _ => by simp))
          have HB4 : Below wz.heap.size wz (wr.drewN nq) := bel_drewN hB
          clear HO hB a1 a2 a3 a4 x0 x1 x2 x3
          generalize wr.drewN nq = w4 at *
          obtain ⟨a1, a2, a3, a4, x0, x1, x2, x3⟩ := HC.out _ HB4
          have l3 : b3 < w4.heap.size := World.block_lt_of_cell? _ _ x0
          go_upto_region 9 with (fail)
          go_quiet (fail)
          have HO5 := Lib.hid (HO4.out.kept (w' := w4.drewN nq) (T := []) (.of_below (bel_drewN (Below.refl _ _))) (fun _ _ => by simp))
          have HB5 : Below wz.heap.size wz (w4.drewN nq) := bel_drewN HB4
          clear HO4 HB4 a1 a2 a3 a4 x0 x1 x2 x3
          generalize w4.drewN nq = w5 at *
          obtain ⟨a1, a2, a3, a4, x0, x1, x2, x3⟩ := HC.out _ HB5
          have l3 : b3 < w5.heap.size := World.block_lt_of_cell? _ _ x0
          go_wp2_with (at_builtin; (refine wpList_append_E _ rfl _ _ rfl wz.heap.size _ M ⟨et, ⟨es, ed⟩, em⟩ rfl (HO5.out.kept (T := []) (.of_below (bel_alloc (Below.refl _ _))) (fun _ _ => by simp)) ⟨w5.heap.size, 0, none⟩ rfl (fun j u hu => by rw [Addr.add_lit, Nat.zero_add]; exact new_edge (alloc_at w5 _ rfl) j u hu) (by first | omega | (simp; omega)) (by have := HB5.size; simp; omega) ?_); intro v' w9 hown9 hgrow)
          have HO6 := Lib.hid hown9
          have HB6 := (bel_alloc HB5).grown hgrow (by have := HB5.size; simp; omega) (fun k hk => (World.ownsRow.lt HO5.out k hk).1)
          clear hown9 hgrow HO5 HB5 a1 a2 a3 a4 x0 x1 x2 x3
          obtain ⟨w6, hw9⟩ : ∃ z, z = w9 := ⟨_, rfl⟩
          rw [← hw9] at HO6 HB6 ⊢
          clear hw9
          obtain ⟨a1, a2, a3, a4, x0, x1, x2, x3⟩ := HC.out _ HB6
          have l3 : b3 < w6.heap.size := World.block_lt_of_cell? _ _ x0
          have HBf := Lib.hid HB6
          clear HB6 a1 a2 a3 a4 x0 x1 x2 x3 hix
          go_wp2
          first
            | exact ⟨⟨i + 1, by go_num, by omega, by rw [HF.out], by rw [HF.out]; exact HO6.out, HBf.out⟩, by simp [intOf]; omega⟩
            | (go_roundw; (case rel => first | exact ⟨i + 1, by go_num, by omega, by rw [HF.out], by rw [HF.out]; exact HO6.out, HBf.out⟩ | ((repeat apply Exists.intro); exact ⟨⟨i + 1, by go_num, by omega, by rw [HF.out], by rw [HF.out]; exact HO6.out, HBf.out⟩, rfl⟩)); (case measure => simp [intOf]; omega))
    · obtain rfl : i = n := by omega
      have hend := H.out.2.2
      have hc : wr.cell? ⟨b3, 0, none⟩ = some (.int .i64 xt) ∧ wr.cell? ⟨b3, 1, none⟩ = some (.int .i64 xs) ∧ wr.cell? ⟨b3, 2, none⟩ = some (.int .i64 xd) ∧ wr.cell? ⟨b3, 3, none⟩ = some (.int .i64 xm) := ⟨bel_cell hB X0.out.1, bel_cell hB X0.out.2.1, bel_cell hB X0.out.2.2.1, bel_cell hB X0.out.2.2.2⟩
      obtain ⟨x0, x1, x2, x3⟩ := hc
      obtain ⟨M, hM⟩ : ∃ M, layAt L ⟨xt, ⟨xs, xd⟩, xm⟩ i = M := ⟨_, rfl⟩
      obtain ⟨M, laid⟩ := M
      rw [hM] at hend hlen HO ⊢
      simp only at hend hlen HO ⊢
      have HEnd := Lib.hid hend
      clear hM hO hend
      cases laid with
      | true =>
        have hend := HEnd.out
        rw [if_pos rfl] at hend
        have hF : RetE w (putS L ⟨xt, ⟨xs, xd⟩, xm⟩) (.returned u5) wr := by rw [← hend]; exact ⟨_, rfl, HO.out.mono HW.size, bel_trans HW hB⟩
        have hF := Lib.hid hF
        clear hend HEnd HO x0 x1 x2 x3
        go_wp2
        go_ret
        exact hF.out
      | false =>
        have hend := HEnd.out
        rw [if_neg (by simp)] at hend
        have HE2 := Lib.hid hend
        clear hend HEnd
        go_wp2_with (at_builtin; (refine wpList_append_E _ rfl _ _ rfl wz.heap.size _ M ⟨xt, ⟨xs, xd⟩, xm⟩ rfl (HO.out.kept (T := []) (.of_below (bel_alloc (Below.refl _ _))) (fun _ _ => by simp)) ⟨wr.heap.size, 0, none⟩ rfl (fun j u hu => by rw [Addr.add_lit, Nat.zero_add]; exact new_edge (alloc_at wr _ rfl) j u hu) (by first | omega | (simp; omega)) (by have := hB.size; simp; omega) ?_); intro v' w9 hown9 hgrow)
        have hB9 := (bel_alloc hB).grown hgrow (by have := hB.size; simp; omega) (fun k hk => (World.ownsRow.lt HO.out k hk).1)
        have hF : RetE w (putS L ⟨xt, ⟨xs, xd⟩, xm⟩) (.returned v') w9 := by rw [← HE2.out]; exact ⟨_, rfl, hown9.mono HW.size, bel_trans HW hB9⟩
        have hF := Lib.hid hF
        clear HO hown9 hgrow hB9 x0 x1 x2 x3
        go_wp2
        go_ret
        exact hF.out
end Go.Proofs.YtjejkadaafmdcaaGreat
/- The document's levels in memory; the place of an edge; a map's literal. (The laws of LvR are those of LvOf, XLv1, XLv8, XLv9, XLv13, by another name.) -/
namespace Go.Proofs.YtjejkadaafmdcaaGreat
open Go.RowKit Go.Sort FR Go.Lib
def LvR (w : World) (b ml me : Nat) (S : List Nat) (top : Int) (V : Int → Option Value) (nl : Nat) (E : Int → Option (List Ed)) : Prop :=
  w.heap[b]? = some (.cells #[.map (some ml), .map (some me), .int .i64 top] 56 (0, 0)) ∧ MapAt iK w ml V nl ∧ EMap w S me E ∧ b ∉ S ∧ ml ∉ S ∧ b ≠ ml ∧ b ≠ me ∧ ml ≠ me
theorem LvR.kept {w w' : World} {b ml me nl : Nat} {S T : List Nat} {top : Int} {V : Int → Option Value} {E : Int → Option (List Ed)} (h : LvR w b ml me S top V nl E) (hk : Kept T w w') (hT : ∀ k, k ∈ b :: ml :: me :: S → k ∉ T) : LvR w' b ml me S top V nl E := by
  obtain ⟨g1, g2, g3, g4⟩ := h
  exact ⟨(hk.block b (Array.getElem?_eq_some_iff.1 g1).1 (hT b (by simp))).trans g1, g2.kept hk (hT ml (by simp)), g3.kept hk (fun s hs => hT s (by simp [hs])) (hT me (by simp)), g4⟩
theorem LvR.below {w w' : World} {b ml me nl : Nat} {S : List Nat} {top : Int} {V : Int → Option Value} {E : Int → Option (List Ed)} (h : LvR w b ml me S top V nl E) (hb : Below w.heap.size w w') : LvR w' b ml me S top V nl E := h.kept (T := []) (.of_below hb) (fun _ _ => by simp)
theorem LvR.put {w w' : World} {b ml me nl : Nat} {Sb Sb' : List Nat} {top : Int} {V : Int → Option Value} {E E' : Int → Option (List Ed)} (h : LvR w b ml me Sb top V nl E) (hE : EMap w' Sb' me E') (hS : ∀ k ∈ Sb', k ∈ Sb ∨ w.heap.size ≤ k) (hk : Kept (me :: Sb) w w') : LvR w' b ml me Sb' top V nl E' := by
  obtain ⟨h1, h2, h3, h4, h5, h6, h7, h8⟩ := h
  have lb := (Array.getElem?_eq_some_iff.1 h1).1
  refine ⟨(hk.block b lb (by simp; exact ⟨h7, h4⟩)).trans h1, h2.kept hk (by simp; exact ⟨h8, h5⟩), hE, fun hm => ?_, fun hm => ?_, h6, h7, h8⟩
  · rcases hS _ hm with q | q
    · exact h4 q
    · omega
  · rcases hS _ hm with q | q
    · exact h5 q
    · have := h2.lt; omega
theorem LvR.lts {w : World} {b ml me nl : Nat} {Sb : List Nat} {top : Int} {V : Int → Option Value} {E : Int → Option (List Ed)} (h : LvR w b ml me Sb top V nl E) : b < w.heap.size ∧ ml < w.heap.size ∧ me < w.heap.size ∧ ∀ k ∈ Sb, k < w.heap.size := by
  obtain ⟨h1, h2, h3, _⟩ := h
  refine ⟨(Array.getElem?_eq_some_iff.1 h1).1, h2.lt, h3.lt, ?_⟩
  obtain ⟨_, _, _, _, _, _, _, _, h7⟩ := h3
  exact h7
theorem LvR.lev {w w' : World} {b ml me nl nl' : Nat} {Sb : List Nat} {top : Int} {V V' : Int → Option Value} {E : Int → Option (List Ed)} (h : LvR w b ml me Sb top V nl E) (hM : MapAt iK w' ml V' nl') (hk : Kept [ml] w w') : LvR w' b ml me Sb top V' nl' E := by
  obtain ⟨h1, h2, h3, h4, h5, h6, h7, h8⟩ := h
  exact ⟨(hk.block b (Array.getElem?_eq_some_iff.1 h1).1 (by simpa using h6)).trans h1, hM, h3.kept hk (fun s hs => by simp; rintro rfl; exact h5 hs) (by simpa using Ne.symm h8), h4, h5, h6, h7, h8⟩
theorem LvR.top {w : World} {b ml me nl : Nat} {Sb : List Nat} {top top' : Int} {V : Int → Option Value} {E : Int → Option (List Ed)} (h : LvR w b ml me Sb top V nl E) : LvR (w.setCell ⟨b, 2, none⟩ (.int .i64 top')) b ml me Sb top' V nl E := by
  obtain ⟨h1, h2, h3, h4, h5, h6, h7, h8⟩ := h
  have hk : Kept [b] w (w.setCell ⟨b, 2, none⟩ (.int .i64 top')) := (Kept.refl _ _).setCell (.inl (by simp))
  refine ⟨?_, h2.kept hk (by simpa using Ne.symm h6), h3.kept hk (fun s hs => by simp; rintro rfl; exact h4 hs) (by simpa using Ne.symm h7), h4, h5, h6, h7, h8⟩
  have := set_heap1 w b 2 _ _ (.int .i64 top') h1
  simpa using this
theorem LvR.look {w : World} {b ml me nl : Nat} {Sb : List Nat} {top : Int} {V : Int → Option Value} {E : Int → Option (List Ed)} (h : LvR w b ml me Sb top V nl E) {z : Int} {L : List Ed} (hL : E z = some L) :
    ∃ A cap, EdsAt w A L ∧ ∀ w', Below w.heap.size w w' → (Instr.lookup 54 (.map (some me)) (.int .i64 z) false).run Tryz.prog w' = .ok (.slice A L.length cap) w' := by
  obtain ⟨_, _, ⟨W3, N, q1, q2, q3, _, _, _, _⟩, _⟩ := h
  obtain ⟨u, hu⟩ : ∃ u, W3 z = some u := by
    cases hV : W3 z with
    | none => rw [(q2 z).2 hV] at hL; cases hL
    | some u => exact ⟨u, rfl⟩
  obtain ⟨A, cap, rfl, hEd⟩ := (q3 z u L hu hL).eds
  refine ⟨A, cap, hEd, fun w' hb => ?_⟩
  have := ((q1.below hb).look (int_fit Tryz.underlying3) Tryz.underlying54 (z := .slice none 0 0) (by simp [Tryz.zeroValue59]) z).2
  rw [hu] at this; exact this
section
variable {P : Program} {kt et mt : TypeId} {K : Type} [DecidableEq K] {kf : K → Value} {w : World} {b n : Nat} {m : K → Option Value}
theorem wpList_insertM {ops : Array Oper} {rest : List Oper} {o : Oper} {a : Act} {Q : Exit → Act → World → Prop} (hg : o.guard = none) (mo ko vo : Operand) (hop : o.op = Op.insert mt mo ko vo)
    (F : KeyFit P kt kf) (ht : P.underlying mt = some (.map kt et)) (h : MapAt kf w b m n) (hm : a.eval mo = .map (some b)) (k : K) (hk : a.eval ko = kf k) (v : Value) (hv : a.eval vo = v)
    (hK : ∀ w', MapAt kf w' b (updK m k (some v)) (if (m k).isSome then n else n + 1) → Kept [b] w w' → wpList P ops Q rest (a.put o.dst undef) w') : wpList P ops Q (o :: rest) a w := by
  refine wpList_plain hg fun K' hK' => ?_
  obtain ⟨w', hrun, r1, r2⟩ := h.store F ht k v
  unfold Oper.wp
  simp [execOp, hop, hm, hk, hv, hrun, Result.andThen]
  exact hK' _ _ (hK w' r1 r2)
end
open Classical in
/-- levels as the document keeps them: whoever has none yet is not in the map -/
noncomputable def levR (g : G) (S : LS) (z : Int) : Option Value := if (0 ≤ z ∧ g.Corner z.toNat) ∧ S.lev z.toNat ≠ 0 then some (.int .i64 (S.lev z.toNat : Nat)) else none
theorem levRof (g : G) (S : LS) : LevOf (levR g S) (levI g S) := fun z => by
  unfold levR levI
  by_cases h : 0 ≤ z ∧ g.Corner z.toNat
  · rw [if_pos h]
    by_cases h0 : S.lev z.toNat ≠ 0
    · rw [if_pos ⟨h, h0⟩]; rfl
    · rw [if_neg (fun q => h0 q.2)]
      simp at h0
      rw [h0]; rfl
  · rw [if_neg h, if_neg (fun q => h q.1)]; rfl
theorem levR_part {g : G} {S : LS} {n tp : Nat} {T : Nat → Nat → Prop} (hc : g.Corner n) (ht : tp ≠ 0) : updK (levR g S) ((n : Nat) : Int) (some (.int .i64 (tp : Nat))) = levR g (S.part n tp T) := by
  funext z
  unfold updK
  by_cases e : z = (n : Nat)
  · rw [if_pos e, e]
    unfold levR
    have q : (S.part n tp T).lev n = tp := upd_same _ _ _
    rw [if_pos ⟨⟨by omega, by simpa using hc⟩, by simp only [Int.toNat_natCast]; rw [q]; exact ht⟩]
    simp only [Int.toNat_natCast]
    rw [q]
  · rw [if_neg e]
    unfold levR
    by_cases h : 0 ≤ z ∧ g.Corner z.toNat
    · have q : (S.part n tp T).lev z.toNat = S.lev z.toNat := upd_ne _ _ (by omega)
      rw [q]
    · rw [if_neg (fun r => h r.1), if_neg (fun r => h r.1)]
/-- whoever is reached -/
def isV (L : Nat → Option C) (z : Int) : Option Value := if 0 ≤ z ∧ (L z.toNat).isSome = true then some (.bool true) else none
theorem isV_at (L : Nat → Option C) (n : Nat) : (isV L (n : Nat)).getD (.bool false) = .bool (L n).isSome := by
  cases h : (L n).isSome <;> simp [isV, h]
theorem isV_put (L : Nat → Option C) (t : Nat) (c : C) : updK (isV L) ((t : Nat) : Int) (some (.bool true)) = isV (FR.upd L t (some c)) := by
  funext z
  unfold updK isV
  by_cases e : z = (t : Nat)
  · rw [if_pos e, if_pos ⟨by omega, by rw [e]; simp [upd_same]⟩]
  · rw [if_neg e]
    by_cases h : 0 ≤ z
    · have : FR.upd L t (some c) z.toNat = L z.toNat := upd_ne _ _ (by omega)
      rw [this]
    · rw [if_neg (fun q => h q.1), if_neg (fun q => h q.1)]
theorem isV_none : isV (fun _ => none) = fun _ => none := by funext z; unfold isV; simp
theorem le4000 {c : C} (h : 0 ≤ c.s ∧ c.s ≤ 2000 ∧ 0 ≤ c.d ∧ c.d ≤ 2000) : C.le c ⟨0, ((4000 : Nat) : Int)⟩ := by
  obtain ⟨s, d⟩ := c
  simp only at h
  refine C.le_trans (C.le_dd h.1) (C.le_of_parts (Int.le_refl _) ?_)
  simp only
  omega
set_option maxRecDepth 100000 in
set_option maxHeartbeats 1600000 in
/-- the place of an edge that is there -/
theorem rEdgeTo (w : World) (A : Option Addr) (n m : Nat) (L : List Ed) (t : Int) (h : EdsAt w A L) (hn : L.length = n) (hl : n ≤ 1000) (he : ∃ e ∈ L, e.to_ = t) :
    Calls Tryz.prog 113 #[.slice A n m, .int .i64 t] w fun r w' => (∃ (k : Nat) (e : Ed), r = .returned (.int .i64 (k : Nat)) ∧ L[k]? = some e ∧ e.to_ = t) ∧ Below w.heap.size w w' := by
  have H := Lib.hid (And.intro h (And.intro hn he))
  clear h hn he
  go_enter Tryz.func113, Tryz.ntmps113
  go_wp2_with fail
  go_loopw [5] (fun kv wr => ∃ i : Nat, kv = .int .i64 i ∧ i ≤ n ∧ (∀ (j : Nat) (e : Ed), j < i → L[j]? = some e → e.to_ ≠ t) ∧ Below w.heap.size w wr) (fun kv _ => n - (intOf kv).toNat)
  case atStart => exact ⟨0, rfl, by omega, fun j e h => by omega, Below.refl _ _⟩
  case round =>
    obtain ⟨i, rfl, hi, hno, hB⟩ := hrel
    have Hno := Lib.hid hno
    clear hno
    by_cases hlt : i < n
    · obtain ⟨e, he⟩ : ∃ e, L[i]? = some e := ⟨L[i]'(by rw [H.out.2.1]; exact hlt), List.getElem?_eq_getElem _⟩
      obtain ⟨gb, hA, a1, a2, a3, a4⟩ := (H.out.1.below hB).get he
      have hix := fun wx => idxE (m := m) hA hlt wx
      have He := Lib.hid he
      obtain ⟨x, hx⟩ : ∃ x, e.to_ = x := ⟨_, rfl⟩
      rw [hx] at a1
      have Hx := Lib.hid hx
      clear hA he hx a2 a3 a4
      by_cases hxt : x = t
      · have hF : (∃ (k : Nat) (e : Ed), Ending.returned (.int .i64 (i : Nat)) = .returned (.int .i64 (k : Nat)) ∧ L[k]? = some e ∧ e.to_ = t) := ⟨i, e, rfl, He.out, by rw [Hx.out]; exact hxt⟩
        have hF := Lib.hid hF
        go_wp2
        go_ret
        exact ⟨hF.out, by (repeat' (first | exact Below.refl _ _ | assumption | apply bel_drewN | apply bel_drew | apply bel_alloc | (refine bel_trans ?_ (by assumption))))⟩
      · have hF : ∀ (j : Nat) (e : Ed), j < i + 1 → L[j]? = some e → e.to_ ≠ t := fun j e' hj he' => by
          by_cases q : j = i
          · subst q
            rw [He.out] at he'; injection he' with he'; subst he'
            rw [Hx.out]; exact hxt
          · exact Hno.out j e' (by omega) he'
        have hF := Lib.hid hF
        go_wp2
        go_roundw
        case rel => exact ⟨i + 1, by go_num, by omega, hF.out, by (repeat' (first | exact Below.refl _ _ | assumption | apply bel_drewN | apply bel_drew | apply bel_alloc | (refine bel_trans ?_ (by assumption))))⟩
        case measure => simp [intOf]; omega
    · exfalso
      obtain ⟨e, he, h1⟩ := H.out.2.2
      obtain ⟨j, hj⟩ := List.getElem?_of_mem he
      have hjl := (List.getElem?_eq_some_iff.1 hj).1
      have := H.out.2.1
      exact Hno.out j e (by omega) hj h1
end Go.Proofs.YtjejkadaafmdcaaGreat
/- The document's levels: apart: labels in two maps. -/
namespace Go.Proofs.YtjejkadaafmdcaaGreat
open Go.RowKit Go.Sort FR Go.Lib
/-- labels in two maps -/
def LabP (W w : World) (mc mi : Nat) (L : Nat → Option C) : Prop := (∃ n1, MapAt iK w mc (mapI (doneV L)) n1) ∧ (∃ n2, MapAt iK w mi (isV L) n2) ∧ Kept [mc, mi] W w
theorem LabP.below {W w w' : World} {mc mi : Nat} {L : Nat → Option C} (h : LabP W w mc mi L) (hb : Below w.heap.size w w') : LabP W w' mc mi L := by
  obtain ⟨⟨n1, h1⟩, ⟨n2, h2⟩, h3⟩ := h
  exact ⟨⟨n1, h1.below hb⟩, ⟨n2, h2.below hb⟩, h3.trans (.of_below hb)⟩
theorem LabP.lt {W w : World} {mc mi : Nat} {L : Nat → Option C} (h : LabP W w mc mi L) : mc < w.heap.size ∧ mi < w.heap.size := by
  obtain ⟨⟨n1, h1⟩, ⟨n2, h2⟩, _⟩ := h
  exact ⟨h1.lt, h2.lt⟩
theorem LabP.is {W w : World} {mc mi : Nat} {L : Nat → Option C} (h : LabP W w mc mi L) (t : Nat) : ∀ w', Below w.heap.size w w' → (Instr.lookup 123 (.map (some mi)) (.int .i64 (t : Nat)) false).run Tryz.prog w' = .ok (.bool (L t).isSome) w' := fun w' hb => by
  obtain ⟨_, ⟨n2, h2⟩, _⟩ := h
  have := ((h2.below hb).look (int_fit Tryz.underlying3) Tryz.underlying123 (boolz w') ((t : Nat) : Int)).2
  rw [isV_at] at this; exact this
theorem LabP.cost {W w : World} {mc mi : Nat} {L : Nat → Option C} (h : LabP W w mc mi L) (t : Nat) : ∃ cs cd : Int, (∀ d, L t = some d → d = ⟨cs, cd⟩) ∧ (L t = none → cs = 0 ∧ cd = 0) ∧ ∀ w', Below w.heap.size w w' →
    (Instr.lookup 122 (.map (some mc)) (.int .i64 (t : Nat)) false).run Tryz.prog w' = .ok (.agg #[.int .i64 cs, .int .i64 cd]) w' := by
  obtain ⟨⟨n1, h1⟩, _, _⟩ := h
  have key := fun w' hb => ((h1.below (w' := w') hb).look (int_fit Tryz.underlying3) Tryz.underlying122 (cost_zero w') ((t : Nat) : Int)).2
  cases hL : L t with
  | none =>
    refine ⟨0, 0, (fun d h => nomatch h), fun _ => ⟨rfl, rfl⟩, fun w' hb => ?_⟩
    have h := key w' hb
    rw [mapI_nat] at h; unfold doneV at h; rw [hL] at h
    exact h
  | some c =>
    refine ⟨c.s, c.d, (fun d h => by injection h with h; rw [← h]), (fun h => nomatch h), fun w' hb => ?_⟩
    have h := key w' hb
    rw [mapI_nat] at h; unfold doneV at h; rw [hL] at h
    exact h
/-- a label is laid: both maps -/
theorem LabP.put {W w w1 w2 : World} {mc mi n1 n2 : Nat} {L : Nat → Option C} {t : Nat} {cs cd : Int} (h : LabP W w mc mi L) (hm1 : MapAt iK w1 mc (updK (mapI (doneV L)) ((t : Nat) : Int) (some (.agg #[.int .i64 cs, .int .i64 cd]))) n1) (hk1 : Kept [mc] w w1)
    (hm2 : MapAt iK w2 mi (updK (isV L) ((t : Nat) : Int) (some (.bool true))) n2) (hk2 : Kept [mi] w1 w2) (hne : mc ≠ mi) : LabP W w2 mc mi (FR.upd L t (some ⟨cs, cd⟩)) := by
  rw [mapI_upd, show (some (Value.agg #[.int .i64 cs, .int .i64 cd]) : Option Value) = some (costV ⟨cs, cd⟩) from rfl, doneV_upd] at hm1
  rw [isV_put L t ⟨cs, cd⟩] at hm2
  exact ⟨⟨_, hm1.kept hk2 (by simpa using hne)⟩, ⟨_, hm2⟩, (h.2.2.trans (hk1.wid (by simp))).trans (hk2.wid (by simp))⟩
def oneF (fr : Nat) : Nat → C → Prop := fun s c0 => s = fr ∧ c0 = C.zero
abbrev bfA (N : Nat) (L : Nat → Option C) : Nat := BF.meas N (BF.K N 0 4000) L
/-- none of a corner's edges lowers a label -/
def CalmA (S : LS) (n : Nat) (L : Nat → Option C) (a : Nat) : Prop := ∀ c b e, L a = some c → S.Lw n a b e → ∃ d, L b = some d ∧ C.le d (C.add c e)
/-- .. of the first so many edges -/
def RlxA (S : LS) (n : Nat) (L : Nat → Option C) (x : Nat) (es : List Ed) (k : Nat) : Prop := ∀ c, L x = some c → ∀ (j : Nat) (e : Ed), j < k → es[j]? = some e → ∀ y : Nat, e.to_ = y → S.lev y = 0 → y ≠ n → ∃ d, L y = some d ∧ C.le d (C.add c e.c)
theorem rlxA_calm {g : G} {S : LS} {n : Nat} {L : Nat → Option C} {x : Nat} (hc : Cor g S) (h : RlxA S n L x (EgL S g.n x) (EgL S g.n x).length) : CalmA S n L x := by
  rintro c b e hx ⟨⟨_, h2, m, h3⟩, _, h5⟩
  have hm : (⟨(b : Nat), e, m⟩ : Ed) ∈ EgL S g.n x := mem_EgL.2 ⟨b, (hc x b (by rw [h3]; simp)).2.1.1, rfl, h3⟩
  obtain ⟨j, hj⟩ := List.getElem?_of_mem hm
  exact h c hx j _ (List.getElem?_eq_some_iff.1 hj).1 hj b rfl h2 h5
theorem rlxA_step {S : LS} {n : Nat} {L : Nat → Option C} {x k t : Nat} {es : List Ed} {e : Ed} (h : RlxA S n L x es k) (he : es[k]? = some e) (ht : e.to_ = t) (hle : S.lev t = 0 → t ≠ n → ∀ c, L x = some c → ∃ d, L t = some d ∧ C.le d (C.add c e.c)) : RlxA S n L x es (k + 1) := by
  intro c hc j e' hj hej y hy h1 h2
  by_cases e1 : j = k
  · subst e1
    rw [he] at hej; injection hej with hej; subst hej
    obtain rfl : t = y := by omega
    exact hle h1 h2 c hc
  · exact h c hc j e' (by omega) hej y hy h1 h2
/-- what holds of the labels: P always, Q while none has been lowered in this round -/
def ApO (W wr : World) (S : LS) (n fr N mc mi mm : Nat) (P Q : (Nat → Option C) → Prop) (ag : Bool) : Prop :=
  ∃ L, LabP W wr mc mi L ∧ BF (S.Lw n) (oneF fr) N 0 4000 L ∧ (∃ d, L fr = some d ∧ C.le d C.zero) ∧ bfA N L ≤ mm ∧ (ag = true → bfA N L < mm) ∧ P L ∧ (ag = false → Q L)
theorem ApO.below {W wr w' : World} {S : LS} {n fr N mc mi mm : Nat} {P Q : (Nat → Option C) → Prop} {ag : Bool} (h : ApO W wr S n fr N mc mi mm P Q ag) (hb : Below wr.heap.size wr w') : ApO W w' S n fr N mc mi mm P Q ag := by
  obtain ⟨L, h1, h2⟩ := h
  exact ⟨L, h1.below hb, h2⟩
/-- the outer round's head -/
def ApA (W wr : World) (g : G) (S : LS) (n fr mc mi gk : Nat) (sv : Value) : Prop :=
  ∃ ag L, sv = .bool ag ∧ LabP W wr mc mi L ∧ BF (S.Lw n) (oneF fr) g.n 0 4000 L ∧ (∃ d, L fr = some d ∧ C.le d C.zero) ∧ gk = 2 * bfA g.n L + (if ag then 1 else 0) ∧ (ag = false → ∀ a, g.Corner a → CalmA S n L a)
theorem apNn {S : LS} (hs : Sml S) (n fr : Nat) : ∀ j c, FR.Reach (S.Lw n) (oneF fr) j c → C.Nn c := by
  intro j c h
  exact (FR.Reach.one.1 h).nn (sml_nn hs n)
theorem apO_low {W wr w1 w2 : World} {g : G} {S : LS} {n fr mc mi mm n1 n2 : Nat} {L : Nat → Option C} {P Q : (Nat → Option C) → Prop} (hs : Sml S) (hM : LabP W wr mc mi L) (hB : BF (S.Lw n) (oneF fr) g.n 0 4000 L) (hL0 : ∃ d, L fr = some d ∧ C.le d C.zero) (hm1 : bfA g.n L ≤ mm)
    {x y : Nat} {c : C} {es ed : Int} (hx : L x = some c) (hge : S.Lw n x y ⟨es, ed⟩) (hy : y < g.n) (hlt : ∀ d, L y = some d → C.lt (C.add c ⟨es, ed⟩) d) (hP : P (FR.upd L y (some (C.add c ⟨es, ed⟩))))
    (hq1 : MapAt iK w1 mc (updK (mapI (doneV L)) ((y : Nat) : Int) (some (.agg #[.int .i64 (c.s + es), .int .i64 (c.d + ed)]))) n1) (hk1 : Kept [mc] wr w1) (hq2 : MapAt iK w2 mi (updK (isV L) ((y : Nat) : Int) (some (.bool true))) n2) (hk2 : Kept [mi] w1 w2) (hne : mc ≠ mi) : ApO W w2 S n fr g.n mc mi mm P Q true := by
  have hsm : C.le ⟨es, ed⟩ ⟨0, ((4000 : Nat) : Int)⟩ := by
    obtain ⟨⟨_, _, m, h3⟩, _⟩ := hge
    exact le4000 (hs _ _ _ _ h3)
  obtain ⟨b1, b2⟩ := hB.relax (apNn hs n fr) hx hge hsm hy hlt
  refine ⟨_, hM.put hq1 hk1 hq2 hk2 hne, b1, ?_, Nat.le_trans (Nat.le_of_lt b2) hm1, fun _ => Nat.lt_of_lt_of_le b2 hm1, hP, fun h => nomatch h⟩
  obtain ⟨d, h1, h2⟩ := hL0
  by_cases e1 : fr = y
  · subst e1
    exact ⟨_, upd_same _ _ _, C.le_trans (C.le_of_lt (hlt d h1)) h2⟩
  · exact ⟨d, by rw [upd_ne _ _ e1]; exact h1, h2⟩
/-- what apart hands back -/
def ApD (w : World) (S : LS) (fr n N : Nat) (e : Ending) (w' : World) : Prop := ∃ mc mi L, e = .returned (.tuple #[.map (some mc), .map (some mi)]) ∧ LabP w' w' mc mi L ∧ (∀ t c, L t = some c → Dist (S.Lw n) fr t c) ∧ (∀ t, L t = none → ∀ c, ¬ Walk (S.Lw n) fr t c) ∧
  (∀ t c, L t = some c → 0 ≤ c.s ∧ c.s ≤ 3000000 ∧ 0 ≤ c.d ∧ c.d ≤ 3000000) ∧ w.heap.size ≤ mc ∧ w.heap.size ≤ mi ∧ mc ≠ mi ∧ Below w.heap.size w w'
theorem apStart {S : LS} (hs : Sml S) {n fr N : Nat} (hfr : fr < N) : BF (S.Lw n) (oneF fr) N 0 4000 (FR.upd (fun _ => none) fr (some C.zero)) := by
  refine (BF.put (apNn hs n fr) BF.start hfr (FR.Reach.src ⟨rfl, rfl⟩) (fun d hd => nomatch hd) (fun _ => ?_)).1
  exact C.le_of_parts (Int.le_refl _) (by simp only [C.zero]; omega)
theorem apEnd {g : G} {S : LS} (hc : Cor g S) (hs : Sml S) {n fr : Nat} (h1 : g.Corner fr) (h2 : S.lev fr = 0) (h3 : fr ≠ n) {L : Nat → Option C} (H : BF (S.Lw n) (oneF fr) g.n 0 4000 L) (h0 : ∃ d, L fr = some d ∧ C.le d C.zero) (hcm : ∀ a, g.Corner a → CalmA S n L a) (t : Nat) :
    (∀ c, L t = some c → Dist (S.Lw n) fr t c) ∧ (L t = none → ∀ c, ¬ Walk (S.Lw n) fr t c) := by
  have hf := BF.fin (apNn hs n fr) H (fun s c0 h => by obtain ⟨rfl, rfl⟩ := h; exact h0) (fun a c b e ha he => by
    have hac := (lw_to hc h1 h2 h3 (FR.Reach.one.1 (H.reach a c ha).1)).1
    exact hcm a hac c b e ha he) t
  exact ⟨fun c hc => RDist.one.1 (hf.1 c hc), fun hn c hw => hf.2 hn c (FR.Reach.one.2 hw)⟩
end Go.Proofs.YtjejkadaafmdcaaGreat
/- The document's levels: apart: the walk. -/
namespace Go.Proofs.YtjejkadaafmdcaaGreat
open Go.RowKit Go.Sort FR Go.Lib
set_option maxRecDepth 100000 in
set_option maxHeartbeats 6400000 in
theorem rApart (w : World) (b ml me nl : Nat) (Sb : List Nat) (top : Int) (g : G) (S : LS) (hok : g.ok) (hc : Cor g S) (hs : Sml S) (h : LvR w b ml me Sb top (levR g S) nl (egE g S)) (A : Option Addr) (n0 m0 : Nat)
    (hI : Ints w A n0 (fun k => (cornersI g).getD k 0)) (hn0 : (cornersI g).length = n0) (fr n : Nat) (hfr : g.Corner fr) (hl : S.lev fr = 0) (hne : fr ≠ n) :
    Calls Tryz.prog 109 #[.pointer (some ⟨b, 0, none⟩), .slice A n0 m0, .int .i64 (fr : Nat), .int .i64 (n : Nat)] w (ApD w S fr n g.n) := by
  have hn := G.n_le hok
  have hmm := @run_makeMap Tryz.prog
  have hn256 : n0 ≤ 256 := by rw [← hn0]; exact corners_le hok
  have H := Lib.hid h
  have Hc := Lib.hid hc
  have Hs := Lib.hid hs
  have Hfr := Lib.hid (And.intro hfr (And.intro hl hne))
  have Hn := Lib.hid (And.intro hn hn0)
  have HI := Lib.hid hI
  clear h hc hs hfr hl hne hok hn hn0 hI
  go_enter Tryz.func109, Tryz.ntmps109
  go_wp2_with (first
    | (refine wpList_insertM rfl _ _ _ rfl (int_fit Tryz.underlying3) Tryz.underlying122 (MapAt.made w) rfl ((fr : Nat) : Int) rfl (.agg #[.int .i64 0, .int .i64 0]) rfl ?_; intro w1 hm1 hk1)
    | (refine wpList_insertM rfl _ _ _ rfl (int_fit Tryz.underlying3) Tryz.underlying123 (MapAt.made w1) rfl ((fr : Nat) : Int) rfl (.bool true) rfl ?_; intro w2 hm2 hk2))
  have hz1 := hk1.size
  have hz2 := hk2.size
  simp at hz1 hz2
  have hB1 : Below w.heap.size w w1 := Kept.below (bel_alloc (Below.refl _ w)) hk1 (by simp) (by simp)
  have hB2 : Below w.heap.size w w2 := Kept.below (bel_alloc hB1) hk2 (by simp; omega) (by simp; omega)
  obtain ⟨mc, hmc⟩ : ∃ z, w.heap.size = z := ⟨_, rfl⟩
  obtain ⟨mi, hmi⟩ : ∃ z, w1.heap.size = z := ⟨_, rfl⟩
  rw [hmc] at hm1 hk1 ⊢
  rw [hmi] at hm2 hk2 ⊢
  have hne : mc ≠ mi := by omega
  have hL0 : LabP w2 w2 mc mi (FR.upd (fun _ => none) fr (some C.zero)) := by
    refine ⟨⟨1, ?_⟩, ⟨1, ?_⟩, Kept.refl _ _⟩
    · have e : (fun _ => none : Int → Option Value) = mapI (doneV fun _ => none) := (mapI_none (fun _ => rfl)).symm
      rw [e, mapI_upd, show (some (Value.agg #[.int .i64 0, .int .i64 0]) : Option Value) = some (costV C.zero) from rfl, doneV_upd] at hm1
      exact (hm1.below (bel_alloc (Below.refl _ _))).kept hk2 (by simpa using hne)
    · rw [← isV_none, isV_put _ _ C.zero] at hm2
      exact hm2
  have hA : ApA w2 w2 g S n fr mc mi (2 * bfA g.n (FR.upd (fun _ => none) fr (some C.zero)) + 1) (.bool true) :=
    ⟨true, _, rfl, hL0, apStart Hs.out Hfr.out.1.1, ⟨C.zero, upd_same _ _ _, C.le_refl _⟩, by simp, (fun h => nomatch h)⟩
  obtain ⟨G0, hG0⟩ : ∃ z, 2 * bfA g.n (FR.upd (fun _ => none) fr (some C.zero)) + 1 = z := ⟨_, rfl⟩
  rw [hG0] at hA
  have HI2 := Lib.hid (HI.out.below hB2)
  have HIb : Hid (0 < n0 → ∀ ad, A = some ad → ad.block ∉ [mc, mi]) := Lib.hid fun hp ad e => by
    obtain ⟨ad', e', hlt, _⟩ := HI.out hp
    rw [e'] at e; injection e with e; subst e
    simp; omega
  have H2 := Lib.hid (H.out.below hB2)
  have hlo : ∀ k ∈ b :: ml :: me :: Sb, k ∉ [mc, mi] := fun k hk => by
    obtain ⟨q1, q2, q3, q4⟩ := H.out.lts
    rcases List.mem_cons.1 hk with e | hk
    · simp; omega
    rcases List.mem_cons.1 hk with e | hk
    · simp; omega
    rcases List.mem_cons.1 hk with e | hk
    · simp; omega
    · have := q4 k hk; simp; omega
  have Hlo := Lib.hid hlo
  have hmcw : w.heap.size ≤ mc := by omega
  have hmiw : w.heap.size ≤ mi := by omega
  clear hL0 hG0 hm1 hm2 hk1 hk2 hB1 hz1 hz2 hlo hmm hmc hmi HI H
  go_wp2_with fail
  obtain ⟨W3, rfl⟩ : ∃ wo : World, wo = w2 := ⟨_, rfl⟩
  go_loopg [12] G0 (fun gk sv wr => ApA W3 wr g S n fr mc mi gk sv)
  case atStart => exact hA
  case round =>
    obtain ⟨ag, L, rfl, hM, hBF, hL0, hgk, hst⟩ := hrel
    clear hA
    cases ag with
    | false =>
      have hend := apEnd Hc.out Hs.out Hfr.out.1 Hfr.out.2.1 Hfr.out.2.2 hBF hL0 (hst rfl)
      have hF : ApD w S fr n g.n (.returned (.tuple #[.map (some mc), .map (some mi)])) wr :=
        ⟨mc, mi, L, rfl, ⟨hM.1, hM.2.1, Kept.refl _ _⟩, fun t => (hend t).1, fun t => (hend t).2, fun t c ht => by have := hBF.small ht; have := Hn.out.1; omega, hmcw, hmiw, hne, Kept.below hB2 hM.2.2 hB2.size (by simp; omega)⟩
      have hF := Lib.hid hF
      clear hM hBF hL0 hgk hst hend
      go_wp2
      go_ret2
      exact hF.out
    | true =>
      have hgk' : gk = 2 * bfA g.n L + 1 := by simpa using hgk
      have hstart : ApO W3 wr S n fr g.n mc mi (bfA g.n L) (fun _ => True) (fun L' => ∀ i', i' < 0 → CalmA S n L' (cf g i')) false := ⟨L, hM, hBF, hL0, Nat.le_refl _, (fun h => nomatch h), trivial, fun _ i' h => by omega⟩
      obtain ⟨mm, hmm⟩ : ∃ z, bfA g.n L = z := ⟨_, rfl⟩
      rw [hmm] at hstart hgk'
      clear hM hBF hL0 hgk hst hmm
      go_wp2_with fail
      obtain ⟨wo, rfl⟩ : ∃ wo : World, wo = wr := ⟨_, rfl⟩
      go_loopw [12, 13] (fun sv kv wr => ∃ (ag : Bool) (i : Nat), sv = .bool ag ∧ kv = .int .i64 i ∧ i ≤ n0 ∧ ApO W3 wr S n fr g.n mc mi mm (fun _ => True) (fun L' => ∀ i', i' < i → CalmA S n L' (cf g i')) ag) (fun _ kv _ => n0 - (intOf kv).toNat)
      case atStart => exact ⟨false, 0, rfl, rfl, by omega, hstart⟩
      case round =>
        obtain ⟨ag, i, rfl, rfl, hi, L, hM, hBF, hL0, hm1, hm2, _, hQ⟩ := hrel
        clear hstart
        have HM := Lib.hid hM
        have HBF := Lib.hid hBF
        have HQ := Lib.hid hQ
        have H12 := Lib.hid (And.intro hm1 hm2)
        have HL0 := Lib.hid hL0
        by_cases hlt : i < n0
        · have hIr := HI2.out.kept0 hM.2.2 HIb.out
          obtain ⟨ad, hA⟩ := hIr.addr (by omega)
          rw [hA] at hIr
          have hix := fun wx => idx_run (m := m0) hA hlt wx
          have hE := hIr.cell (Below.refl _ _) hlt
          obtain ⟨c1, c2⟩ := cf_at (g := g) (i := i) (by rw [Hn.out.2]; exact hlt)
          rw [c1] at hE
          obtain ⟨x, hx⟩ : ∃ x, cf g i = x := ⟨_, rfl⟩
          rw [hx] at hE c2
          have Hx := Lib.hid (And.intro hx c2)
          have his := hM.is x wr (Below.refl _ _)
          obtain ⟨th, hth⟩ : ∃ t, (L x).isSome = t := ⟨_, rfl⟩
          rw [hth] at his
          have Hth := Lib.hid hth
          clear hIr hA c1 hx c2 hth hM hBF hQ hm1 hm2 hL0
          cases th with
          | false =>
            have hF : ApO W3 wr S n fr g.n mc mi mm (fun _ => True) (fun L' => ∀ i', i' < i + 1 → CalmA S n L' (cf g i')) ag := ⟨L, HM.out, HBF.out, HL0.out, H12.out.1, H12.out.2, trivial, fun hag i' hi' => by
              by_cases e1 : i' < i
              · exact HQ.out hag i' e1
              · obtain rfl : i' = i := by omega
                rw [Hx.out.1]
                intro c b' e' hc
                have := Hth.out
                rw [hc] at this; cases this⟩
            have hF := Lib.hid hF
            go_wp2
            go_roundw
            case rel => first | exact ⟨ag, i + 1, rfl, by go_num, by omega, hF.out⟩ | ((repeat apply Exists.intro); exact ⟨⟨ag, i + 1, rfl, by go_num, by omega, hF.out⟩, rfl⟩)
            case measure => simp [intOf]; omega
          | true =>
            go_wp2_with fail
            obtain ⟨⟨cs, cd⟩, hcx⟩ : ∃ c, L x = some c := by
              cases hL : L x with
              | none => have := Hth.out; rw [hL] at this; cases this
              | some c => exact ⟨c, rfl⟩
            have hx3 := lw_to Hc.out Hfr.out.1 Hfr.out.2.1 Hfr.out.2.2 (FR.Reach.one.1 (HBF.out.reach x _ hcx).1)
            have Hx3 := Lib.hid hx3
            have hcin := HBF.out.small hcx
            simp only at hcin
            have hst : ApO W3 wr S n fr g.n mc mi mm (fun L' => L' x = some ⟨cs, cd⟩) (fun L' => (∀ i', i' < i → CalmA S n L' (cf g i')) ∧ RlxA S n L' x (EgL S g.n x) 0) ag := ⟨L, HM.out, HBF.out, HL0.out, H12.out.1, H12.out.2, hcx, fun h => ⟨HQ.out h, fun c hc j e hj => by omega⟩⟩
            obtain ⟨ne, hne⟩ : ∃ n, (EgL S g.n x).length = n := ⟨_, rfl⟩
            have hne256 : ne ≤ 256 := by rw [← hne]; exact Nat.le_trans (len_EgL S g.n x) Hn.out.1
            have Hne := Lib.hid hne
            have Hcin := Lib.hid (show 0 ≤ cs ∧ cs ≤ 3000000 ∧ 0 ≤ cd ∧ cd ≤ 3000000 by have := Hn.out.1; omega)
            clear hcx hne hx3 hcin HM HBF HQ H12 HL0 Hth hE hix
            obtain ⟨wz, rfl⟩ : ∃ wz : World, wz = wr := ⟨_, rfl⟩
            go_loopw [12, 15] (fun sv kv wr => ∃ (ag : Bool) (k : Nat), sv = .bool ag ∧ kv = .int .i64 k ∧ k ≤ ne ∧ ApO W3 wr S n fr g.n mc mi mm (fun L' => L' x = some ⟨cs, cd⟩) (fun L' => (∀ i', i' < i → CalmA S n L' (cf g i')) ∧ RlxA S n L' x (EgL S g.n x) k) ag) (fun _ kv _ => ne - (intOf kv).toNat)
            case atStart => exact ⟨ag, 0, rfl, rfl, by omega, hst⟩
            case round =>
              obtain ⟨ag, k, rfl, rfl, hk, L, hM, hBF, hL0, hm1, hm2, hP, hQ⟩ := hrel
              clear hst
              have hLv := H2.out.kept hM.2.2 Hlo.out
              have k0 : wr.cell? ⟨b, 0, none⟩ = some (.map (some ml)) := by simp [World.cell?, hLv.1]
              have k1 : wr.cell? ⟨b, 1, none⟩ = some (.map (some me)) := by simp [World.cell?, hLv.1]
              obtain ⟨A5, m5, hEd, hlk⟩ := hLv.look (egE_at Hx.out.2)
              rw [Hne.out] at hlk
              have hlk0 := hlk wr (Below.refl _ _)
              have HM := Lib.hid hM
              have HBF := Lib.hid hBF
              have HL0 := Lib.hid hL0
              have H12 := Lib.hid (And.intro hm1 hm2)
              have HP := Lib.hid hP
              have HQ := Lib.hid hQ
              have Hlk := Lib.hid hlk
              have HLv := Lib.hid hLv
              have HEd := Lib.hid hEd
              clear hM hBF hL0 hm1 hm2 hP hQ hlk hLv hEd
              by_cases hkn : k < ne
              · obtain ⟨e, he⟩ : ∃ e, (EgL S g.n x)[k]? = some e := ⟨_, List.getElem?_eq_getElem (by rw [Hne.out]; exact hkn)⟩
                obtain ⟨t, ht1, ht2, ht3⟩ := mem_EgL.1 (List.mem_of_getElem? he)
                obtain ⟨gb, hA, a1, a2, a3, a4⟩ := HEd.out.get he
                have hix := fun wx => idxE (m := m5) hA hkn wx
                have hsx := Hs.out _ _ _ _ ht3
                obtain ⟨xt, ⟨xs, xd⟩, xm⟩ := e
                simp only at a1 a2 a3 a4 ht2 ht3 hsx
                subst ht2
                have htc := Hc.out x t (by rw [ht3]; simp)
                have He := Lib.hid (And.intro he (And.intro ht3 (And.intro htc hsx)))
                have hlv : ∀ w', Below wr.heap.size wr w' → (Instr.lookup 53 (.map (some ml)) (.int .i64 (t : Nat)) false).run Tryz.prog w' = .ok (.int .i64 (S.lev t : Nat)) w' := fun w' hb => by
                  have := ((HLv.out.2.1.below hb).look (int_fit Tryz.underlying3) Tryz.underlying53 (z := .int .i64 0) (by simp [Tryz.zeroValue3]) ((t : Nat) : Int)).2
                  rw [levRof g S _, levI_at htc.2.1] at this
                  exact this
                have Hlv := Lib.hid hlv
                clear hA he ht3 htc hsx hlv
                go_upto_region 15 with (fail)
                refine wp_name ?_
                intro Wc hWc
                have HWc : Below wr.heap.size wr Wc := by rw [hWc]; (repeat' (first | exact Below.refl _ _ | assumption | apply bel_drewN | apply bel_drew | apply bel_alloc | (refine bel_trans ?_ (by assumption))))
                have o0 : Wc.cell? ⟨wr.heap.size, 0, none⟩ = some (.int .i64 (t : Nat)) := by rw [hWc]; go_simp
                have o1 : Wc.cell? ⟨wr.heap.size, 1, none⟩ = some (.int .i64 xs) := by rw [hWc]; go_simp
                have o2 : Wc.cell? ⟨wr.heap.size, 2, none⟩ = some (.int .i64 xd) := by rw [hWc]; go_simp
                obtain ⟨b16, hb16⟩ : ∃ z, wr.heap.size = z := ⟨_, rfl⟩
                have k0 := bel_cell HWc k0
                have k1 := bel_cell HWc k1
                have HMc := Lib.hid (HM.out.below HWc)
                have hlvq : ∀ n, (Instr.lookup 53 (.map (some ml)) (.int .i64 (t : Nat)) false).run Tryz.prog (Wc.drewN n) = .ok (.int .i64 (S.lev t : Nat)) (Wc.drewN n) := fun n => Hlv.out _ (bel_drewN HWc)
                obtain ⟨lt, hlt2⟩ : ∃ z, S.lev t = z := ⟨_, rfl⟩
                rw [hlt2] at hlvq
                have Hlt := Lib.hid hlt2
                have hb16m : b16 ∉ [mc] := by have := HM.out.lt; simp; omega
                rw [hb16] at o0 o1 o2 ⊢
                clear hWc hb16 HM a1 a2 a3 a4 hix hlk0 hlt2
                have hskip : (lt ≠ 0 ∨ t = n) → ∀ wx, Below Wc.heap.size Wc wx → ApO W3 wx S n fr g.n mc mi mm (fun L' => L' x = some ⟨cs, cd⟩) (fun L' => (∀ i', i' < i → CalmA S n L' (cf g i')) ∧ RlxA S n L' x (EgL S g.n x) (k + 1)) ag := fun hor wx hb =>
                  ⟨L, HMc.out.below hb, HBF.out, HL0.out, H12.out.1, H12.out.2, HP.out, fun h => ⟨(HQ.out h).1, rlxA_step (HQ.out h).2 He.out.1 rfl (fun h1 h2 => by
                    rcases hor with q | q
                    · exact absurd (Hlt.out.symm.trans h1) q
                    · exact absurd q h2)⟩⟩
                have Hskip := Lib.hid hskip
                clear hskip
                by_cases h0 : lt = 0
                · subst h0
                  by_cases htn : t = n
                  · subst htn
                    go_quiet (fail)
                    have hF := Hskip.out (.inr rfl) _ (bel_drewN (n := nq) (Below.refl Wc.heap.size Wc))
                    have hF := Lib.hid hF
                    clear Hskip HMc o0 o1 o2 k0 k1 hlvq HWc
                    go_wp2
                    go_roundw
                    case rel => first | exact ⟨ag, k + 1, rfl, by go_num, by omega, hF.out⟩ | ((repeat apply Exists.intro); exact ⟨⟨ag, k + 1, rfl, by go_num, by omega, hF.out⟩, rfl⟩)
                    case measure => simp [intOf]; omega
                  · have hnb : (((t : Nat) : Int) == ((n : Nat) : Int)) = false := beq_eq_false_iff_ne.2 (by omega)
                    clear Hskip
                    go_quiet (fail)
                    have hb5 : Below Wc.heap.size Wc (Wc.drewN nq) := bel_drewN (Below.refl _ _)
                    have o0 := bel_cell hb5 o0
                    have o1 := bel_cell hb5 o1
                    have o2 := bel_cell hb5 o2
                    have HM5 := Lib.hid (HMc.out.below hb5)
                    clear hb5 HMc k0 k1 hlvq HWc Hlk HLv HEd Hlv hnb
                    generalize Wc.drewN nq = w5 at *
                    have hmm5 := HM5.out.lt
                    have hsx := He.out.2.2.2
                    have hcs := Hcin.out
                    obtain ⟨cs', cd', q1, _, q3⟩ := HM5.out.cost x
                    have q1 := q1 _ HP.out
                    injection q1 with q1 q2
                    subst q1; subst q2
                    have hlk5 := q3 w5 (Below.refl _ _)
                    have cP := Lib.hid (fun w => refPlus cs cd xs xd w (by unfold inC; omega) (by unfold inC; omega) (by unfold inC; omega) (by unfold inC; omega))
                    have Hsx := Lib.hid (And.intro hsx hcs)
                    clear q3 hsx hcs
                    go_wp2_with fail
                    (with_reducible refine (cP.out _).mono ?_)
                    rintro e w6 ⟨rfl, hb6⟩
                    have o0 := bel_cell hb6 o0
                    have HM6 := Lib.hid (HM5.out.below hb6)
                    clear hlk5 cP HM5 o1 o2 hb6 hmm5
                    go_upto_region 17 with (fail)
                    refine wp_name ?_
                    intro W7 hW7
                    have HW7 : Below w6.heap.size w6 W7 := by rw [hW7]; (repeat' (first | exact Below.refl _ _ | assumption | apply bel_drewN | apply bel_drew | apply bel_alloc | (refine bel_trans ?_ (by assumption))))
                    have d0 : W7.cell? ⟨w6.heap.size, 0, none⟩ = some (.int .i64 (cs + xs)) := by rw [hW7]; go_simp
                    have d1 : W7.cell? ⟨w6.heap.size, 1, none⟩ = some (.int .i64 (cd + xd)) := by rw [hW7]; go_simp
                    have o0 := bel_cell HW7 o0
                    have HM7 := Lib.hid (HM6.out.below HW7)
                    obtain ⟨b17, hb17⟩ : ∃ z, w6.heap.size = z := ⟨_, rfl⟩
                    rw [hb17] at d0 d1 ⊢
                    have his := HM7.out.is t
                    obtain ⟨ws, wd, hwd, hw0, hlc⟩ := HM7.out.cost t
                    have his0 := his W7 (Below.refl _ _)
                    have hlc0 := hlc W7 (Below.refl _ _)
                    obtain ⟨tb, htb⟩ : ∃ z, (L t).isSome = z := ⟨_, rfl⟩
                    rw [htb] at his0
                    have hwin : inC ws ∧ inC wd := by
                      cases hL : L t with
                      | none => obtain ⟨rfl, rfl⟩ := hw0 hL; exact ⟨by unfold inC; omega, by unfold inC; omega⟩
                      | some c =>
                        have h := HBF.out.small hL
                        rw [hwd c hL] at h
                        simp only at h
                        have := Hn.out.1
                        unfold inC; omega
                    have hdin : inC (cs + xs) ∧ inC (cd + xd) := by have := Hsx.out; unfold inC; omega
                    obtain ⟨tt, htt⟩ : ∃ z, (!tb || decide (C.cmp ⟨cs + xs, cd + xd⟩ ⟨ws, wd⟩ < 0)) = z := ⟨_, rfl⟩
                    have Htt := Lib.hid (And.intro htt (And.intro htb hwd))
                    clear hW7 HW7 hb17 HM6 his hlc hw0 htt htb hwd
                    go_cut [93] (fun s wx => s = .bool tt ∧ Below W7.heap.size W7 wx)
                    case first =>
                      cases tb with
                      | false =>
                        have ht : tt = true := by rw [← Htt.out.1]; rfl
                        subst ht
                        go_wp2
                        go_meet
                        case rel => exact ⟨rfl, by (repeat' (first | exact Below.refl _ _ | assumption | apply bel_drewN | apply bel_drew | apply bel_alloc | (refine bel_trans ?_ (by assumption))))⟩
                      | true =>
                        have cC := refCompare (cs + xs) (cd + xd) ws wd
                        obtain ⟨cv, hcv⟩ : ∃ cv, C.cmp ⟨cs + xs, cd + xd⟩ ⟨ws, wd⟩ = cv := ⟨_, rfl⟩
                        have ht : tt = decide (cv < 0) := by rw [← Htt.out.1, hcv]; rfl
                        rw [hcv] at cC
                        have cC := Lib.hid (fun w => cC w hdin.1 hdin.2 hwin.1 hwin.2)
                        have Ht2 := Lib.hid ht
                        clear hcv ht hdin hwin
                        go_wp2_with fail
                        (with_reducible refine (cC.out _).mono ?_)
                        rintro e w8 ⟨rfl, hb8⟩
                        go_wp2
                        go_meet
                        case rel => exact ⟨by rw [Ht2.out], hb8⟩
                    case rest =>
                      obtain ⟨rfl, hbe⟩ := hcut
                      have HM8 := Lib.hid (HM7.out.below hbe)
                      have o0 := bel_cell hbe o0
                      have d0 := bel_cell hbe d0
                      have d1 := bel_cell hbe d1
                      clear HM7 his0 hlc0 hwin hdin hbe
                      cases tt with
                      | false =>
                        have hle : ∃ d, L t = some d ∧ C.le d ⟨cs + xs, cd + xd⟩ := by
                          have h := Htt.out.1
                          cases hL : L t with
                          | none => have := Htt.out.2.1; rw [hL] at this; subst this; simp at h
                          | some d =>
                            refine ⟨d, rfl, ?_⟩
                            rw [Htt.out.2.2 d hL]
                            intro hlt
                            have := C.cmp_neg.2 hlt
                            simp at h
                            omega
                        have hF : ApO W3 wc S n fr g.n mc mi mm (fun L' => L' x = some ⟨cs, cd⟩) (fun L' => (∀ i', i' < i → CalmA S n L' (cf g i')) ∧ RlxA S n L' x (EgL S g.n x) (k + 1)) ag :=
                          ⟨L, HM8.out, HBF.out, HL0.out, H12.out.1, H12.out.2, HP.out, fun h => ⟨(HQ.out h).1, rlxA_step (HQ.out h).2 He.out.1 rfl (fun _ _ c hc => by
                            rw [HP.out] at hc; injection hc with hc; subst hc
                            exact hle)⟩⟩
                        have hF := Lib.hid hF
                        clear hle HM8 o0 d0 d1
                        go_wp2
                        go_roundw
                        case rel => first | exact ⟨ag, k + 1, rfl, by go_num, by omega, hF.out⟩ | ((repeat apply Exists.intro); exact ⟨⟨ag, k + 1, rfl, by go_num, by omega, hF.out⟩, rfl⟩)
                        case measure => simp [intOf]; omega
                      | true =>
                        have hlt : ∀ d, L t = some d → C.lt ⟨cs + xs, cd + xd⟩ d := fun d hd => by
                          have h := Htt.out.1
                          have h2 := Htt.out.2.1
                          rw [hd] at h2
                          subst h2
                          simp at h
                          rw [Htt.out.2.2 d hd]
                          exact C.cmp_neg.1 h
                        have hlw : S.Lw n x t ⟨xs, xd⟩ := ⟨⟨Hx3.out.2.1, Hlt.out, xm, He.out.2.1⟩, Hx3.out.2.2, htn⟩
                        have Hl := Lib.hid (And.intro hlt hlw)
                        have hxt : x ≠ t := He.out.2.2.1.2.2
                        have lo0 : b16 < wc.heap.size := World.block_lt_of_cell? _ _ o0
                        have ld0 : b17 < wc.heap.size := World.block_lt_of_cell? _ _ d0
                        obtain ⟨⟨n1, hM1⟩, ⟨n2, hM2⟩, hK8⟩ := HM8.out
                        clear hlt hlw
                        go_wp2_with (first
                          | (refine wpList_storeM rfl _ _ _ rfl (int_fit Tryz.underlying3) Tryz.underlying122 hM1 rfl ((t : Nat) : Int) rfl (.agg #[.int .i64 (cs + xs), .int .i64 (cd + xd)]) rfl ?_; intro wU hmU hkU; have o0 := keptc hkU hb16m o0)
                          | (refine wpList_storeM rfl _ _ _ rfl (int_fit Tryz.underlying3) Tryz.underlying123 (hM2.kept hkU (by simpa using Ne.symm hne)) rfl ((t : Nat) : Int) rfl (.bool true) rfl ?_; intro wV hmV hkV))
                        have hF : ApO W3 wV S n fr g.n mc mi mm (fun L' => L' x = some ⟨cs, cd⟩) (fun L' => (∀ i', i' < i → CalmA S n L' (cf g i')) ∧ RlxA S n L' x (EgL S g.n x) (k + 1)) true :=
                          apO_low (es := xs) (ed := xd) Hs.out HM8.out HBF.out HL0.out H12.out.1 HP.out Hl.out.2 ht1 Hl.out.1 (by show FR.upd L t _ x = _; rw [upd_ne _ _ hxt]; exact HP.out) hmU hkU hmV hkV hne
                        have hF := Lib.hid hF
                        clear hmU hkU hmV hkV hM1 hM2 hK8 HM8 o0 d0 d1
                        go_wp2
                        go_roundw
                        case rel => first | exact ⟨true, k + 1, rfl, by go_num, by omega, hF.out⟩ | ((repeat apply Exists.intro); exact ⟨⟨true, k + 1, rfl, by go_num, by omega, hF.out⟩, rfl⟩)
                        case measure => simp [intOf]; omega
                · have hd : decide ((0 : Int) < ((lt : Nat) : Int)) = true := by simp; omega
                  go_quiet (fail)
                  have hF := Hskip.out (.inl h0) _ (bel_drewN (n := nq) (Below.refl Wc.heap.size Wc))
                  have hF := Lib.hid hF
                  clear Hskip HMc o0 o1 o2 k0 k1 hlvq HWc
                  go_wp2
                  go_roundw
                  case rel => first | exact ⟨ag, k + 1, rfl, by go_num, by omega, hF.out⟩ | ((repeat apply Exists.intro); exact ⟨⟨ag, k + 1, rfl, by go_num, by omega, hF.out⟩, rfl⟩)
                  case measure => simp [intOf]; omega
              · obtain rfl : k = ne := by omega
                have hF : ApO W3 wr S n fr g.n mc mi mm (fun _ => True) (fun L' => ∀ i', i' < i + 1 → CalmA S n L' (cf g i')) ag := ⟨L, HM.out, HBF.out, HL0.out, H12.out.1, H12.out.2, trivial, fun hag i' hi' => by
                  by_cases e1 : i' < i
                  · exact (HQ.out hag).1 i' e1
                  · obtain rfl : i' = i := by omega
                    rw [Hx.out.1]
                    have := (HQ.out hag).2
                    rw [← Hne.out] at this
                    exact rlxA_calm Hc.out this⟩
                have hF := Lib.hid hF
                clear HM HBF HL0 H12 HP HQ Hlk HLv HEd
                go_wp2
                go_roundw
                case rel => first | exact ⟨ag, i + 1, rfl, by go_num, by omega, hF.out⟩ | ((repeat apply Exists.intro); exact ⟨⟨ag, i + 1, rfl, by go_num, by omega, hF.out⟩, rfl⟩)
                case measure => simp [intOf]; omega
        · obtain rfl : i = n0 := by omega
          have hall : ag = false → ∀ a, g.Corner a → CalmA S n L a := fun hag a ha => by
            obtain ⟨j, q1, rfl⟩ := cf_has ha
            exact HQ.out hag j (by rw [← Hn.out.2]; exact q1)
          have hF : ApA W3 wr g S n fr mc mi (2 * bfA g.n L + (if ag then 1 else 0)) (.bool ag) := ⟨ag, L, rfl, HM.out, HBF.out, HL0.out, rfl, hall⟩
          have hlt3 : 2 * bfA g.n L + (if ag then 1 else 0) < gk := by
            cases ag with
            | true => have := H12.out.2 rfl; simp; omega
            | false => have := H12.out.1; simp; omega
          have hF := Lib.hid hF
          have hlt3 := Lib.hid hlt3
          clear HM HBF HL0 H12 HQ hM hBF hL0 hm1 hm2 hQ hall
          go_wp2
          go_roundg (2 * bfA g.n L + (if ag then 1 else 0))
          case measure => exact hlt3.out
          case rel => exact hF.out
end Go.Proofs.YtjejkadaafmdcaaGreat
/- The document's round: plain. -/
namespace Go.Proofs.YtjejkadaafmdcaaGreat
open Go.RowKit Go.Sort FR Go.Lib
theorem wpList_append_E2 {ops : Array Oper} {rest : List Oper} {o : Oper} {a : Act} {Q : Exit → Act → World → Prop} (w : World) (hgd : o.guard = none) (s x : Operand)
    (ho : o.op = .call { callee := .builtin .append, args := #[s, x], argTypes := #[59, 59] })
    (B : Nat) (v : Value) (L : List Ed) (e : Ed) (hs : a.eval s = v) (hown : OwnE w B v L) (ad : Addr) (hx : a.eval x = .slice (some ad) 1 1)
    (hc : ∀ j u, e.cells[j]? = some u → w.cell? (ad.add j) = some u) (hl : L.length ≤ 100000) (hB : B ≤ w.heap.size)
    (h : ∀ v' w', OwnE w' B v' (L ++ [e]) → w.grownBy w' v.ownBlock → (v'.ownBlock = v.ownBlock ∨ v'.ownBlock = some w.heap.size) → wpList Tryz.prog ops Q rest (a.put o.dst v') w') : wpList Tryz.prog ops Q (o :: rest) a w := by
  obtain ⟨i0, z0, hi, hz0, hz1, hz2, hz3⟩ := edge_parts
  refine wpList_append_own_at w hgd s x 59 ho B 70 i0 z0 4 32 Tryz.underlying59 hi hz0 hz1 hz2 hz3 (by decide) v L.length (edL L) hs hown ad 1 1 e.cells hx rfl hc (ed_one e) ?_ ?_ hB ?_
  · unfold maxLen; omega
  · omega
  · intro v' w' h1 h2 _ h4
    refine h v' w' ?_ h2 h4
    unfold OwnE
    rw [List.length_append, edL_append, edL_cons, edL_nil, List.append_nil]
    exact h1
theorem nat_ext : ∀ {L M : List Nat}, L.Pairwise (· < ·) → M.Pairwise (· < ·) → (∀ z, z ∈ L ↔ z ∈ M) → L = M
  | [], [], _, _, _ => rfl
  | [], y :: M, _, _, h => by have := (h y).2 (by simp); simp at this
  | x :: L, [], _, _, h => by have := (h x).1 (by simp); simp at this
  | x :: L, y :: M, hL, hM, h => by
    rw [List.pairwise_cons] at hL hM
    have hxy : x = y := by
      have a := (h x).1 (by simp)
      have b := (h y).2 (by simp)
      rcases List.mem_cons.1 a with a | a
      · exact a
      · rcases List.mem_cons.1 b with b | b
        · exact b.symm
        · have := hM.1 x a; have := hL.1 y b; omega
    subst hxy
    rw [nat_ext hL.2 hM.2 (fun z => ?_)]
    constructor
    · intro hz
      rcases List.mem_cons.1 ((h z).1 (List.mem_cons_of_mem _ hz)) with e | e
      · subst e; have := hL.1 z hz; omega
      · exact e
    · intro hz
      rcases List.mem_cons.1 ((h z).2 (List.mem_cons_of_mem _ hz)) with e | e
      · subst e; have := hM.1 z hz; omega
      · exact e
theorem cn_map (g : G) : (cornersI g).map Int.toNat = cornersN g := by
  refine nat_ext ?_ (cornersN_sorted g) fun z => ?_
  · rw [List.pairwise_map]
    refine (corners_sorted g).imp_of_mem fun {a b} ha hb h => ?_
    have : ∀ a ∈ cornersI g, 0 ≤ a := fun a ha => by
      obtain ⟨i, hi⟩ := List.getElem?_of_mem ha
      have := (cf_at (g := g) (List.getElem?_eq_some_iff.1 hi).1).1
      rw [List.getD_eq_getElem?_getD, hi] at this
      simp at this
      omega
    have h1 := this a ha; have h2 := this b hb
    omega
  · rw [List.mem_map, mem_cornersN]
    constructor
    · rintro ⟨a, ha, rfl⟩
      obtain ⟨i, hi⟩ := List.getElem?_of_mem ha
      have hil := (List.getElem?_eq_some_iff.1 hi).1
      obtain ⟨q1, q2⟩ := cf_at (g := g) hil
      rw [List.getD_eq_getElem?_getD, hi] at q1
      simp at q1
      rw [q1]
      simpa using q2
    · intro hz
      obtain ⟨i, hi, rfl⟩ := cf_has hz
      have q := (cf_at (g := g) hi).1
      rw [List.getD_eq_getElem?_getD, List.getElem?_eq_getElem hi] at q
      simp at q
      exact ⟨_, List.getElem_mem hi, by rw [q]; simp⟩
theorem cn_len (g : G) : (cornersN g).length = (cornersI g).length := by rw [← cn_map, List.length_map]
theorem cn_at {g : G} {i : Nat} (hi : i < (cornersI g).length) : (cornersN g)[i]? = some (cf g i) := by
  have q := (cf_at (g := g) hi).1
  rw [List.getD_eq_getElem?_getD, List.getElem?_eq_getElem hi] at q
  simp at q
  rw [← cn_map, List.getElem?_map, List.getElem?_eq_getElem hi, Option.map_some, q]
  simp
/-- a round, so far, over all corners -/
noncomputable def rnAt (g : G) (S : LS) (tp i : Nat) : RS := ((cornersN g).take i).foldl (RS.step g.n tp) ⟨S, fun _ => false, false⟩
theorem rn_step {g : G} {S : LS} {tp i : Nat} (h : i < (cornersI g).length) : rnAt g S tp (i + 1) = RS.step g.n tp (rnAt g S tp i) (cf g i) := by
  unfold rnAt
  obtain ⟨hj, e⟩ := List.getElem?_eq_some_iff.1 (cn_at h)
  rw [List.take_succ_eq_append_getElem hj, List.foldl_append, e]
  rfl
theorem rn_all {g : G} {S : LS} {tp i : Nat} (h : (cornersI g).length ≤ i) : rnAt g S tp i = RS.run g.n tp (cornersN g) S := by
  unfold rnAt RS.run
  rw [List.take_of_length_le (by rw [cn_len]; exact h)]
theorem rn_inv {g : G} {S : LS} {tp K : Nat} (H : LS.Inv g g.n tp K S (fun _ => false)) (i : Nat) : LS.Inv g g.n tp K (rnAt g S tp i).S (rnAt g S tp i).near :=
  LS.fold_inv _ _ H (fun n hn => mem_cornersN.1 (List.mem_of_mem_take hn))
theorem step_has {N tp n : Nat} {R : RS} (h : R.S.lev n ≠ 0) : RS.step N tp R n = R := by unfold RS.step; rw [if_pos (.inl h)]
/-- the edge that stands for two -/
def mkE (S : LS) (n : Nat) (p : Nat × Nat) : Ed := ⟨(p.2 : Nat), C.add (S.cost n p.1) (S.cost n p.2), (n : Nat)⟩
/-- two rows that are not one -/
def Apart (v u : Value) : Prop := ∀ q, v.ownBlock = some q → u.ownBlock ≠ some q
theorem Apart.symm {v u : Value} (h : Apart v u) : Apart u v := fun q hq hv => h q hv hq
theorem Apart.grown {w w' : World} {v v' u : Value} (h : Apart v u) (hat : v'.ownBlock = v.ownBlock ∨ v'.ownBlock = some w.heap.size) (hu : ∀ q, u.ownBlock = some q → q < w.heap.size) : Apart v' u := fun q hq hu2 => by
  rcases hat with e | e
  · exact h q (by rw [← e]; exact hq) hu2
  · rw [e] at hq; injection hq with hq
    have := hu q hu2
    omega
/-- of the first edges those that lead to whoever has no level yet -/
theorem fr_take {S : LS} {N n k : Nat} {e : Ed} (h : (EgL S N n)[k]? = some e) : ((EgL S N n).take (k + 1)).filter (fun e => decide (S.lev e.to_.toNat = 0)) = ((EgL S N n).take k).filter (fun e => decide (S.lev e.to_.toNat = 0)) ++ (if S.lev e.to_.toNat = 0 then [e] else []) := by
  obtain ⟨hi, he⟩ := List.getElem?_eq_some_iff.1 h
  rw [List.take_succ_eq_append_getElem hi, List.filter_append, he]
  by_cases q : S.lev e.to_.toNat = 0 <;> simp [q]
/-- .. the first k of the pairs that must be there -/
def TK (M : List (Nat × Nat)) (k : Nat) (a b : Nat) : Prop := (a, b) ∈ M.take k
theorem TK_zero (M : List (Nat × Nat)) : TK M 0 = fun _ _ => False := by funext a b; simp [TK]
theorem TK_step {M : List (Nat × Nat)} {k a b : Nat} (h : M[k]? = some (a, b)) : (fun x y => TK M k x y ∨ (x = a ∧ y = b)) = TK M (k + 1) := by
  obtain ⟨hi, e⟩ := List.getElem?_eq_some_iff.1 h
  funext x y
  unfold TK
  rw [List.take_succ_eq_append_getElem hi, e]
  simp
theorem TK_all {M : List (Nat × Nat)} {k : Nat} (h : M.length ≤ k) (a b : Nat) : TK M k a b ↔ (a, b) ∈ M := by unfold TK; rw [List.take_of_length_le h]
theorem egE_partF {g : G} {S : LS} {n tp : Nat} : egE g (S.part n tp fun _ _ => False) = egE g S := egE_part0 (fun _ _ h => h)
end Go.Proofs.YtjejkadaafmdcaaGreat
/- stairs: the closed fact of chapter 10: plain. -/
namespace Go.Proofs.YtjejkadaafmdcaaGreat
open Go.RowKit Go.Sort FR Go.Lib
theorem fold_lev_keep {N tp : Nat} : ∀ (l : List Nat) (R : RS) {a : Nat}, R.S.lev a ≠ 0 → (l.foldl (RS.step N tp) R).S.lev a = R.S.lev a
  | [], _, _, _ => rfl
  | n :: l, R, a, h => by
    rw [List.foldl_cons, fold_lev_keep l _ (by rw [LS.step_lev h]; exact h), LS.step_lev h]
theorem rounds_lev_keep {N : Nat} (nodes : List Nat) : ∀ (k tp : Nat) (S : LS) {a : Nat}, S.lev a ≠ 0 → (LS.rounds N nodes k tp S).1.lev a = S.lev a
  | 0, _, _, _, _ => rfl
  | k + 1, tp, S, a, h => by
    have h1 : (RS.run N tp nodes S).S.lev a = S.lev a := fold_lev_keep nodes ⟨S, fun _ => false, false⟩ h
    show (if (RS.run N tp nodes S).some_ = true then LS.rounds N nodes k (tp + 1) (RS.run N tp nodes S).S else ((RS.run N tp nodes S).S, tp)).1.lev a = _
    split
    · rw [rounds_lev_keep nodes k (tp + 1) _ (by rw [h1]; exact h), h1]
    · exact h1
theorem rounds_top_le {N : Nat} (nodes : List Nat) : ∀ (k tp : Nat) (S : LS), tp ≤ (LS.rounds N nodes k tp S).2
  | 0, _, _ => Nat.le_refl _
  | k + 1, tp, S => by
    show tp ≤ (if (RS.run N tp nodes S).some_ = true then LS.rounds N nodes k (tp + 1) (RS.run N tp nodes S).S else ((RS.run N tp nodes S).S, tp)).2
    split
    · have := rounds_top_le (N := N) nodes k (tp + 1) (RS.run N tp nodes S).S; omega
    · exact Nat.le_refl _
theorem fold_some {N tp : Nat} : ∀ (l : List Nat) (R : RS), R.some_ = true → (l.foldl (RS.step N tp) R).some_ = true
  | [], _, h => h
  | n :: l, R, h => by
    rw [List.foldl_cons]
    exact fold_some l _ (LS.step_mono h)
theorem pairs_few {l : List Nat} (h : l.length ≤ 3) : (LS.pairsL l).length ≤ l.length := by
  match l, h with
  | [], _ => simp [LS.pairsL]
  | [a], _ => simp [LS.pairsL]
  | [a, b], _ => simp [LS.pairsL]
  | [a, b, c], _ => simp [LS.pairsL]
theorem first_pass : (RS.run g33.n 1 (cornersN g33) (LS.first g33)).S.lev 0 = 1 ∧ (RS.run g33.n 1 (cornersN g33) (LS.first g33)).some_ = true := by
  have hc : cornersN g33 = 0 :: [2, 6, 8] := by rw [← cn_map, corners33]; rfl
  unfold RS.run
  rw [hc, List.foldl_cons]
  have hnb : ((LS.first g33).nb g33.n 0).length ≤ 3 := by
    have hs := LS.nb_sorted (LS.first g33) g33.n 0
    have hsub : ∀ z, z ∈ (LS.first g33).nb g33.n 0 → z ∈ [2, 6, 8] := fun z hz => by
      obtain ⟨_, h2, _⟩ := LS.mem_nb.1 hz
      cases he : (LS.first g33).eg 0 z with
      | none => rw [he] at h2; cases h2
      | some cm =>
        obtain ⟨q1, _, _⟩ := LS.first_eg (c := cm.1) (m := cm.2) he
        have := q1.2.1
        have hne := q1.2.2.1
        rcases g33_corner.1 this with rfl | rfl | rfl | rfl
        · exact absurd rfl hne
        · simp
        · simp
        · simp
    have hn : g33.n = 9 := by decide +kernel
    have h1 : ((LS.first g33).nb g33.n 0).length ≤ ((List.range g33.n).filter fun z => decide (z ∈ [2, 6, 8])).length := by
      unfold LS.nb at hsub ⊢
      rw [← List.countP_eq_length_filter, ← List.countP_eq_length_filter]
      refine List.countP_mono_left fun z hz hp => ?_
      exact decide_eq_true (hsub z (List.mem_filter.2 ⟨hz, hp⟩))
    rw [hn] at h1
    have h2 : ((List.range 9).filter fun z => decide (z ∈ [2, 6, 8])).length = 3 := by decide
    rw [hn]
    omega
  have hmore : ¬ ((LS.first g33).nb g33.n 0).length < ((LS.first g33).more g33.n 0).length := by
    have h1 : ((LS.first g33).more g33.n 0).length ≤ (LS.pairsL ((LS.first g33).nb g33.n 0)).length := List.length_filter_le _ _
    have h2 := pairs_few hnb
    omega
  have hst := step_pass (N := g33.n) (tp := 1) (n := 0) (R := ⟨LS.first g33, fun _ => false, false⟩) rfl rfl hmore
  rw [hst]
  have hl : ((LS.first g33).pass g33.n 0 1).lev 0 = 1 := by show FR.upd (LS.first g33).lev 0 1 0 = 1; exact upd_same _ _ _
  exact ⟨by rw [fold_lev_keep _ _ (by rw [hl]; decide)]; exact hl, fold_some _ _ rfl⟩
/-- three levels at most: the first corner stands at level 1, the top is above -/
theorem stairs_fact : (LS.all g33 (cornersN g33) 3).1.lev 0 = 1 ∧ 1 < (LS.all g33 (cornersN g33) 3).2 := by
  obtain ⟨h1, h2⟩ := first_pass
  have e : LS.rounds g33.n (cornersN g33) 2 1 (LS.first g33) = LS.rounds g33.n (cornersN g33) 1 2 (RS.run g33.n 1 (cornersN g33) (LS.first g33)).S := by
    show (if (RS.run g33.n 1 (cornersN g33) (LS.first g33)).some_ = true then LS.rounds g33.n (cornersN g33) 1 (1 + 1) (RS.run g33.n 1 (cornersN g33) (LS.first g33)).S else _) = _
    rw [if_pos h2]
  have hl : (LS.rounds g33.n (cornersN g33) 2 1 (LS.first g33)).1.lev 0 = 1 := by rw [e, rounds_lev_keep _ _ _ _ (by rw [h1]; decide), h1]
  have ht := rounds_top_le (cornersN g33) 1 2 (RS.run g33.n 1 (cornersN g33) (LS.first g33)).S (N := g33.n)
  unfold LS.all
  refine ⟨?_, by rw [e]; simp only; omega⟩
  show (if (0 : Nat) ∈ cornersN g33 ∧ (LS.rounds g33.n (cornersN g33) 2 1 (LS.first g33)).1.lev 0 = 0 then _ else (LS.rounds g33.n (cornersN g33) 2 1 (LS.first g33)).1.lev 0) = 1
  rw [hl, if_neg (by simp)]
end Go.Proofs.YtjejkadaafmdcaaGreat
/- stairs: the closed fact of chapter 10: the walk. -/
namespace Go.Proofs.YtjejkadaafmdcaaGreat
open Go.RowKit Go.Sort FR Go.Lib
theorem stairs_true (w : World) : Calls Tryz.prog 14 #[] w fun e w' => e = .returned (.bool true) ∧ Below w.heap.size w w' := by
  go_enter Tryz.func14, Tryz.ntmps14
  go_wp2_with fail
  (with_reducible refine (gridNew_ex 3 3 _ (by decide)).mono ?_)
  rintro e w1 ⟨p0, rfl, hp0, hG, hb1⟩
  go_wp2_with fail
  refine (gridSet_new _ p0 _ _ 4 true hG (by decide) (by decide) (by decide)).mono ?_
  rintro e w2 ⟨rfl, hG2, hk2⟩
  have HB2 := Kept.below hb1 hk2 hb1.size (by simp; omega)
  have hG2 : GridAt w2 p0 g33 (0 + 1) := hG2
  have cN := Lib.hid (graphNew w2 p0 g33 _ hG2)
  clear hG hG2 hk2 hb1
  go_wp2_with fail
  (with_reducible refine cN.out.mono ?_)
  rintro e w3 ⟨b3, p3, mb3, S3, E3, rfl, hGr, hGs, _, hb3⟩
  have HB3 := bel_trans HB2 hb3
  have cL := Lib.hid (lvNew_ok w3 b3 p3 mb3 S3 g33 _ E3 3 hGr hGs (by decide) (by decide))
  clear hGr hGs hb3 HB2 cN
  go_wp2_with fail
  (refine cL.out.mono ?_)
  rintro e w4 ⟨b4, ml4, me4, Sb4, nl4, rfl, hLv, _, hb4⟩
  have HB4 := bel_trans HB3 hb4
  obtain ⟨f1, f2⟩ := stairs_fact
  have hv : levV g33 (LS.all g33 (cornersN g33) 3).1 ((0 : Nat) : Int) = some (.int .i64 ((1 : Nat) : Int)) := by
    rw [levV_at (g33_corner.2 (.inl rfl)), f1]
  obtain ⟨tp, htp⟩ : ∃ tp, (LS.all g33 (cornersN g33) 3).2 = tp := ⟨_, rfl⟩
  rw [htp] at hLv f2
  have cV := Lib.hid (lvLevel_in w4 b4 ml4 me4 nl4 Sb4 _ _ _ hLv 0 1 hv)
  have cT := Lib.hid (lvTop w4 b4 ml4 me4 nl4 Sb4 _ _ _ hLv)
  clear hLv hv f1 cL HB3 hb4 htp
  go_wp2_with fail
  (with_reducible refine cV.out.mono ?_)
  rintro e w' ⟨rfl, rfl⟩
  go_wp2_with fail
  (with_reducible refine (same_ok _).mono ?_)
  rintro e w' ⟨rfl, rfl⟩
  go_wp2_with fail
  (with_reducible refine cT.out.mono ?_)
  rintro e w' ⟨rfl, rfl⟩
  clear cV cT
  go_wp2
  go_ret
  have f3 : decide ((1 : Int) < (tp : Nat)) = true := by simp only [decide_eq_true_eq]; omega
  rw [f3]
  exact ⟨rfl, HB4⟩
end Go.Proofs.YtjejkadaafmdcaaGreat
