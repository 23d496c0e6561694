/- What the document connects a free cell to. -/
import Derived.Test.YtjejkadaafmdcaaGreatRGraph
set_option linter.unusedVariables false
set_option linter.unusedSimpArgs false
namespace Go.Proofs.YtjejkadaafmdcaaGreat
open Go.RowKit Go.Sort FR Go.Lib
set_option maxRecDepth 100000 in
set_option maxHeartbeats 6400000 in
theorem rConn (w : World) (p : Nat) (g : G) (v : Int) (x : Nat) (h : RGridAt w p g v) (hx : x < g.n) :
    Calls Tryz.prog 52 #[.pointer (some ⟨p, 0, none⟩), .int .i64 (x : Nat)] w (RetE w (eUp g x true (cornersI g).length)) := by
  have hNn := G.n_le h.1
  have hpl := h.lt
  have HG := Lib.hid h
  clear h
  go_enter Tryz.func52, Tryz.ntmps52
  go_wp2_with fail
  (with_reducible refine (rCorners _ p g v HG.out).mono ?_)
  rintro e w1 ⟨A, m, rfl, hI, hb1⟩
  obtain ⟨n, hn⟩ : ∃ n, (cornersI g).length = n := ⟨_, rfl⟩
  have hn256 : n ≤ 256 := by rw [← hn]; exact corners_le HG.out.1
  rw [hn] at hI ⊢
  have Hn := Lib.hid hn
  have HI := Lib.hid hI
  have HGW := Lib.hid (HG.out.below hb1 hpl)
  have hpW : p < w1.heap.size := Nat.lt_of_lt_of_le hpl hb1.size
  clear hn hI
  go_wp2_with fail
  obtain ⟨W, rfl⟩ : ∃ W : World, W = w1 := ⟨_, rfl⟩
  go_loopw [6, 7] (fun lv kv wr => ∃ (i : Nat) (Zs : List (Array Value)), kv = .int .i64 i ∧ i ≤ n ∧ OwnR wr W.heap.size lv Zs ∧ RaysTo g Zs i ∧ Below W.heap.size W wr) (fun _ kv _ => n - (intOf kv).toNat)
  case atStart => exact ⟨0, [], rfl, by omega, OwnR.nil _ _, ⟨rfl, fun j Z hZ => by simp at hZ⟩, Below.refl _ _⟩
  case round =>
    obtain ⟨i, Zs, rfl, hi, hO, hZ, hB⟩ := hrel
    have HO := Lib.hid hO
    have HZ := Lib.hid hZ
    clear hO hZ
    by_cases hlt : i < n
    · have hIr := HI.out.below hB
      obtain ⟨ad, hA⟩ := hIr.addr (by omega)
      rw [hA] at hIr
      have hix := fun wx => idx_run (m := m) hA hlt wx
      have hE := hIr.cell (Below.refl _ _) hlt
      rw [(cf_at (by rw [Hn.out]; exact hlt)).1] at hE
      obtain ⟨y, hy⟩ : ∃ y, cf g i = y := ⟨_, rfl⟩
      have hyc : g.Corner y := by rw [← hy]; exact (cf_at (by rw [Hn.out]; exact hlt)).2
      rw [hy] at hE
      have Hy := Lib.hid hy
      have cF := Lib.hid (rFrom wr p g v y (HGW.out.below hB hpW) hyc.1)
      clear hIr hA hy
      go_wp2_with fail
      (with_reducible refine cF.out.mono ?_)
      rintro e w2 ⟨c, is, rfl, hF, hb2⟩
      have hHO := Lib.hid (HO.out.below hb2)
      obtain ⟨Z, hZ⟩ : ∃ Z, rayRow y c is = Z := ⟨_, rfl⟩
      have zs : Z.size = 769 := by rw [← hZ, ray_size]
      have zo : Z.all (·.oneCell') = true := by rw [← hZ]; exact ray_one _ _ _
      have hsn := Lib.hid (HZ.out.snoc (Z := Z) (c := c) (is := is) (by rw [Hy.out, hZ]) (by rw [Hy.out]; exact hF))
      have hB2 := bel_trans hB hb2
      rw [hZ]
      clear hZ hF hb2 cF hE hix HO
      obtain ⟨i0, z0, hi0, hz0, hz1, hz2, hz3⟩ := ray_infos
      have hcl := hHO.out.1
      rw [HZ.out.1] at hcl
      have hcl := Lib.hid hcl
      have hbs := Lib.hid (run_buildRay w2 Z zs)
      have HI0 := Lib.hid (And.intro hi0 (And.intro hz0 (And.intro hz1 (And.intro hz2 hz3))))
      have Hzs := Lib.hid (And.intro zs zo)
      clear hi0 hz0 hz1 hz2 hz3 zs zo
      go_wp2_with (first
        | ((with_reducible refine wpList_run1 w2 (Eq.refl none) 111 (.tmp 22) (Eq.refl (Op.buildSlice 111 1 #[(0, .tmp 22)])) (.agg Z) (by with_unfolding_all rfl) hbs.out ?_))
        | (at_builtin
           refine wpList_append_own_at (w2.alloc (Obj.cells Z 113 (0, 0))) rfl (.tmp 16) (.tmp 23) 111 rfl W.heap.size 113 i0 z0 769 4360 Tryz.underlying111 HI0.out.1 HI0.out.2.1 HI0.out.2.2.1 HI0.out.2.2.2.1 HI0.out.2.2.2.2 (by decide) u6 i (rayL Zs) ?_ ?_ ⟨w2.heap.size, 0, none⟩ 1 1 Z.toList ?_ ?_ ?_ ?_ ?_ ?_ ?_ ?_
           · rfl
           · exact hcl.out.alloc _
           · rfl
           · rw [Array.length_toList, Hzs.out.1]
           · intro j u hu
             rw [Addr.add_lit]
             exact range_all (alloc_at w2 _ rfl) j u hu
           · exact ray_all Z Hzs.out.2
           · unfold maxLen; omega
           · omega
           · have := hB2.size; simp; omega
           intro v' w9 hown9 hgrow hnn hat))
      have hR9 : OwnR w9 W.heap.size v' (Zs ++ [Z]) := OwnR.snoc hHO.out.2 Hzs.out.1 (by rw [HZ.out.1]; exact hown9)
      have hR9 := Lib.hid hR9
      have hB9 : Below W.heap.size W w9 := (bel_alloc hB2).grown hgrow (by have := hB2.size; simp; omega) (fun k hk => (World.ownsRow.lt hcl.out k hk).1)
      clear hown9 hgrow hat hnn hcl hbs HI0 hHO
      first
        | exact ⟨⟨i + 1, _, by go_num, by omega, hR9.out, hsn.out, hB9⟩, by simp [intOf]; omega⟩
        | (go_roundw; (case rel => exact ⟨i + 1, _, by go_num, by omega, hR9.out, hsn.out, hB9⟩); (case measure => simp [intOf]; omega))
    · obtain rfl : i = n := by omega
      obtain ⟨AR, mR, rfl, hRays, hRn⟩ := HO.out.rays
      have hrs := HZ.out.1
      have hRo : RaysOf g Zs := ⟨by rw [hrs, Hn.out], HZ.out.2⟩
      obtain ⟨nz, hnz⟩ : ∃ z, Zs.length = z := ⟨_, rfl⟩
      have hnzi : nz = i := by omega
      subst hnzi
      rw [hnz]
      have HRays := Lib.hid hRays
      have HRo := Lib.hid hRo
      have HIr := Lib.hid (HI.out.below hB)
      have HGr := Lib.hid (HGW.out.below hB hpW)
      have hpr : p < wr.heap.size := Nat.lt_of_lt_of_le hpW hB.size
      have cF := Lib.hid (rFrom wr p g v x HGr.out hx)
      clear hRays hRo hrs hnz HO HZ hRn
      go_wp2_with fail
      (with_reducible refine cF.out.mono ?_)
      rintro e w2 ⟨c, is, rfl, hF, hb2⟩
      obtain ⟨Z, hZ⟩ : ∃ Z, rayRow x c is = Z := ⟨_, rfl⟩
      have cE := Lib.hid (rEdges w2 p g v x c is Z AR A nz mR m Zs true (HGr.out.below hb2 hpr) hx hZ hF (HIr.out.below hb2) Hn.out (HRays.out.below hb2) HRo.out)
      have HB2 := bel_trans (bel_trans hb1 hB) hb2
      rw [hZ]
      clear hZ hF cF
      go_wp2_with fail
      (with_reducible refine cE.out.mono ?_)
      rintro e w3 ⟨vE, rfl, hOE, hb3⟩
      have hfin : RetE w (eUp g x true nz) (.returned vE) w3 := ⟨_, rfl, hOE.mono HB2.size, bel_trans HB2 hb3⟩
      have hfin := Lib.hid hfin
      clear hOE
      go_wp2
      go_ret
      rw [Hn.out]
      exact hfin.out
end Go.Proofs.YtjejkadaafmdcaaGreat
