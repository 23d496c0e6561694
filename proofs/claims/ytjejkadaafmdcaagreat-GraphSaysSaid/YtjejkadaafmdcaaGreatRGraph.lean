/- The document's graph: rays of all corners. -/
import Derived.Test.YtjejkadaafmdcaaGreatREdges
set_option linter.unusedVariables false
set_option linter.unusedSimpArgs false
namespace Go.Proofs.YtjejkadaafmdcaaGreat
open Go.RowKit Go.Sort FR Go.Lib
/-- a fresh list is laid into the map -/
theorem EMap.fresh {w wI wU : World} {S : List Nat} {mb N N2 : Nat} {E : Int → Option (List Ed)} {V : Int → Option Value} {a : Int} {v' : Value} {L' : List Ed}
    (h1 : MapAt iK w mb V N) (h2 : ∀ k, E k = none ↔ V k = none) (h3 : ∀ k u L, V k = some u → E k = some L → OwnE w 0 u L) (h4 : ∀ k u q, V k = some u → u.ownBlock = some q → q ∈ S) (h5 : mb ∉ S)
    (h6 : ∀ k k' u u' q, V k = some u → V k' = some u' → u.ownBlock = some q → u'.ownBlock = some q → k = k') (h7 : ∀ s, s ∈ S → s < w.heap.size) (hb : Below w.heap.size w wI)
    (hO : OwnE wI w.heap.size v' L') (hM : MapAt iK wU mb (updK V a (some v')) N2) (hK : Kept [mb] wI wU) : EMap wU (v'.ownBlock.toList ++ S) mb (updE E a (some L')) := by
  have hml := h1.lt
  have hnew : ∀ q, v'.ownBlock = some q → w.heap.size ≤ q ∧ q < wI.heap.size := fun q hq => World.ownsRow.lt hO q hq
  refine ⟨_, N2, hM, fun k => ?_, fun k x L hx hL => ?_, fun k x q hx hq => ?_, ?_, fun k k' x x' q hx hx' hq hq' => ?_, fun s hs => ?_⟩
  · unfold updE updK
    split
    · simp
    · exact h2 k
  · unfold updE at hL
    unfold updK at hx
    split at hx
    · rename_i e
      rw [if_pos e] at hL
      injection hx with hx
      injection hL with hL
      subst hx; subst hL
      exact (hO.mono (Nat.zero_le _)).kept hK (fun q hq => by have := (hnew q hq).1; simp; omega)
    · rename_i e
      rw [if_neg e] at hL
      exact ((h3 k x L hx hL).kept (T := []) (.of_below hb) (fun _ _ => by simp)).kept hK (fun q hq => by
        have := h4 k x q hx hq
        simp
        rintro rfl
        exact h5 this)
  · unfold updK at hx
    split at hx
    · injection hx with hx
      subst hx
      exact List.mem_append_left _ (by rw [hq]; simp)
    · exact List.mem_append_right _ (h4 k x q hx hq)
  · rw [List.mem_append]
    rintro (q | q)
    · rw [Option.mem_toList] at q
      have := (hnew mb q).1
      omega
    · exact h5 q
  · unfold updK at hx hx'
    split at hx
    · injection hx with hx
      subst hx
      split at hx'
      · rename_i e1 e2; rw [e1, e2]
      · have a1 := (hnew q hq).1
        have a2 := h7 q (h4 k' x' q hx' hq')
        omega
    · split at hx'
      · injection hx' with hx'
        subst hx'
        have a1 := (hnew q hq').1
        have a2 := h7 q (h4 k x q hx hq)
        omega
      · exact h6 k k' x x' q hx hx' hq hq'
  · rcases List.mem_append.1 hs with q | q
    · rw [Option.mem_toList] at q
      exact Nat.lt_of_lt_of_le (hnew s q).2 hK.size
    · exact Nat.lt_of_lt_of_le (h7 s q) (Nat.le_trans hb.size hK.size)
/-- the lists of the first corners -/
noncomputable def EGr (g : G) (i : Nat) : Int → Option (List Ed) := fun z => if ∃ j, j < i ∧ z = (cf g j : Nat) then some (eUp g z.toNat false (cornersI g).length) else none
theorem EGr_zero (g : G) : EGr g 0 = fun _ => none := by
  funext z
  unfold EGr
  rw [if_neg]
  rintro ⟨j, h, _⟩
  omega
theorem EGr_step (g : G) (i : Nat) : updE (EGr g i) (cf g i : Nat) (some (eUp g (cf g i) false (cornersI g).length)) = EGr g (i + 1) := by
  funext z
  unfold updE EGr
  by_cases e : z = (cf g i : Nat)
  · rw [if_pos e, if_pos ⟨i, by omega, e⟩, e]; simp
  · rw [if_neg e]
    by_cases h : ∃ j, j < i ∧ z = (cf g j : Nat)
    · obtain ⟨j, h1, h2⟩ := h
      rw [if_pos ⟨j, h1, h2⟩, if_pos ⟨j, by omega, h2⟩]
    · rw [if_neg h, if_neg]
      rintro ⟨j, h1, h2⟩
      by_cases q : j = i
      · subst q; exact e h2
      · exact h ⟨j, by omega, h2⟩
theorem EGr_spec (g : G) : GSpec g (fun _ _ => True) (EGr g (cornersI g).length) := by
  refine ⟨fun z => ?_, fun c L hc => ?_⟩
  · unfold EGr
    constructor
    · intro h
      split at h
      · rename_i q
        obtain ⟨j, h1, h2⟩ := q
        exact ⟨_, h2, (cf_at h1).2⟩
      · exact absurd rfl h
    · rintro ⟨c, rfl, hc⟩
      obtain ⟨j, h1, rfl⟩ := cf_has hc
      rw [if_pos ⟨j, h1, rfl⟩]
      simp
  · unfold EGr at hc
    split at hc
    · injection hc with hc
      subst hc
      simp only [Int.toNat_natCast]
      refine ⟨?_, fun e => ?_⟩
      · intro i j a b hij ha hb
        have h := List.pairwise_iff_getElem.1 (srt_eUp (g := g) (ca := c) (self := false))
        obtain ⟨hi, rfl⟩ := List.getElem?_eq_some_iff.1 ha
        obtain ⟨hj, rfl⟩ := List.getElem?_eq_some_iff.1 hb
        exact h i j hi hj hij
      · rw [mem_eUp]
        constructor
        · rintro ⟨y, h1, h2, h3, h4⟩; exact ⟨y, h1, h2.resolve_left (by simp), trivial, h3, h4⟩
        · rintro ⟨y, h1, h2, _, h3, h4⟩; exact ⟨y, h1, .inr h2, h3, h4⟩
    · cases hc
theorem rangeAt_kept {S : List Nat} {w w' : World} {b o : Nat} {cs : List Value} (h : w.rangeAt b o cs) (hk : Kept S w w') (hb : b ∉ S) : w'.rangeAt b o cs := fun j v hv => keptc hk hb (h j v hv)
theorem RaysAt.kept {S : List Nat} {w w' : World} {A : Option Addr} {Zs : List (Array Value)} (h : RaysAt w A Zs) (hk : Kept S w w') (hn : ∀ ad, A = some ad → ad.block ∉ S) : RaysAt w' A Zs := by
  intro h0
  obtain ⟨g, e, hl, hr⟩ := h h0
  exact ⟨g, e, Nat.lt_of_lt_of_le hl hk.size, fun i Z hZ => rangeAt_kept (hr i Z hZ) hk (hn _ e)⟩
/-- the document's graph in memory -/
def RGraphOf (w : World) (b mb : Nat) (S : List Nat) (A : Option Addr) (n m : Nat) (g : G) : Prop :=
  w.heap[b]? = some (.cells #[.slice A n m, .map (some mb)] 98 (0, 0)) ∧ Ints w A n (fun k => (cornersI g).getD k 0) ∧ (cornersI g).length = n ∧ b ∉ S ∧ EMap w S mb (EGr g n)
/-- what Graph hands back -/
def RGraphD (w : World) (g : G) (e : Ending) (w' : World) : Prop :=
  ∃ b mb S A n m, e = .returned (.pointer (some ⟨b, 0, none⟩)) ∧ RGraphOf w' b mb S A n m g ∧ (∀ k ∈ b :: mb :: S, w.heap.size ≤ k) ∧ b ≠ mb ∧ Below w.heap.size w w'
/-- the first rays -/
def RaysTo (g : G) (Zs : List (Array Value)) (i : Nat) : Prop := Zs.length = i ∧ ∀ j Z, Zs[j]? = some Z → ∃ c is, Z = rayRow (cf g j) c is ∧ FloodIs g (cf g j) c is
theorem OwnR.below {w w' : World} {B : Nat} {v : Value} {Zs : List (Array Value)} (h : OwnR w B v Zs) (hb : Below w.heap.size w w') : OwnR w' B v Zs := by
  refine ⟨⟨h.1.1, ?_⟩, h.2⟩
  rcases h.1.2 with hn | ⟨g, cap, cur, rfl, hB, hg, rest⟩
  · exact .inl hn
  · exact .inr ⟨g, cap, cur, rfl, hB, (hb.block g (Array.getElem?_eq_some_iff.1 hg).1).trans hg, rest⟩
theorem RaysTo.snoc {g : G} {Zs : List (Array Value)} {i : Nat} {Z : Array Value} {c : Nat → C} {is : Nat → Bool} (h : RaysTo g Zs i) (hz : Z = rayRow (cf g i) c is) (hf : FloodIs g (cf g i) c is) : RaysTo g (Zs ++ [Z]) (i + 1) := by
  refine ⟨by rw [List.length_append, h.1]; rfl, fun j X hX => ?_⟩
  by_cases e : j < Zs.length
  · rw [List.getElem?_append_left e] at hX
    exact h.2 j X hX
  · rw [List.getElem?_append_right (by omega)] at hX
    have hj : j - Zs.length = 0 := by
      have := (List.getElem?_eq_some_iff.1 hX).1
      simp at this; omega
    rw [hj] at hX
    simp at hX
    subst hX
    have : j = i := by have := h.1; omega
    subst this
    exact ⟨c, is, hz, hf⟩
theorem OwnR.snoc {w' : World} {B : Nat} {v' : Value} {Zs : List (Array Value)} {Z : Array Value} (hs : ∀ X ∈ Zs, X.size = 769) (hz : Z.size = 769) (h : w'.ownsRow B 113 769 v' (Zs.length + 1) (rayL Zs ++ Z.toList)) : OwnR w' B v' (Zs ++ [Z]) := by
  refine ⟨?_, fun X hX => ?_⟩
  · rw [List.length_append, rayL_append]
    have : rayL [Z] = Z.toList := by simp [rayL]
    rw [this]
    exact h
  · rw [List.mem_append] at hX
    rcases hX with q | q
    · exact hs X q
    · simp at q; rw [q]; exact hz
theorem ray_all (Z : Array Value) (h : Z.all (·.oneCell') = true) : ∀ u ∈ Z.toList, u.oneCell' = true := fun u hu => (Array.all_eq_true_iff_forall_mem.1 h) u (by simpa using hu)
set_option maxRecDepth 100000 in
set_option maxHeartbeats 6400000 in
theorem rGraph (w : World) (p : Nat) (g : G) (v : Int) (h : RGridAt w p g v) :
    Calls Tryz.prog 16 #[.pointer (some ⟨p, 0, none⟩)] w (RGraphD w g) := by
  have hNn := G.n_le h.1
  have hpl := h.lt
  have hmm := @run_makeMap Tryz.prog
  have HG := Lib.hid h
  clear h
  go_enter Tryz.func16, Tryz.ntmps16
  go_wp2_with fail
  (with_reducible refine (rCorners _ p g v HG.out).mono ?_)
  rintro e w1 ⟨A, m, rfl, hI, hb1⟩
  go_upto_region 2 with (fail)
  clear hmm
  refine wp_name ?_
  intro W hW
  obtain ⟨n, hn⟩ : ∃ n, (cornersI g).length = n := ⟨_, rfl⟩
  have hn256 : n ≤ 256 := by rw [← hn]; exact corners_le HG.out.1
  rw [hn] at hI hW ⊢
  have HW : Below w1.heap.size w1 W := by rw [hW]; (repeat' (first | exact Below.refl _ _ | assumption | apply bel_drewN | apply bel_drew | apply bel_alloc | (refine bel_trans ?_ (by assumption))))
  have HBW := bel_trans hb1 HW
  obtain ⟨mb, hmb⟩ : ∃ z, w1.heap.size = z := ⟨_, rfl⟩
  have hM : MapAt iK W mb (fun _ => none) 0 := by rw [hW, ← hmb]; exact (MapAt.made w1).below (bel_alloc (Below.refl _ _))
  have hbk : W.heap[mb + 1]? = some (.cells #[.slice A n m, .map (some mb)] 98 (0, 0)) := by rw [hW, ← hmb]; exact alloc_at _ _ (by simp)
  have hwmb : w.heap.size ≤ mb := by have := hb1.size; omega
  rw [hmb]
  obtain ⟨b, hb⟩ : ∃ z, mb + 1 = z := ⟨_, rfl⟩
  rw [hb] at hbk ⊢
  have hWs : W.heap.size = b + 1 := by rw [hW]; simp; omega
  have hAmb : ∀ ad, A = some ad → 0 < n → ad.block < mb := fun ad e h0 => by
    obtain ⟨ad', e', hl, _⟩ := hI h0
    rw [e] at e'
    injection e' with e'
    rw [e', ← hmb]
    exact hl
  have HAmb := Lib.hid hAmb
  clear hAmb
  have Hn := Lib.hid hn
  have HI := Lib.hid (hI.below HW)
  have HM := Lib.hid hM
  have Hbk := Lib.hid hbk
  have HGW := Lib.hid (HG.out.below HBW hpl)
  have hpW : p < W.heap.size := Nat.lt_of_lt_of_le hpl HBW.size
  clear hn hI hM hbk hW hb1 HW hmb
  go_wp2_with fail
  go_loopw [4, 5] (fun lv kv wr => ∃ (i : Nat) (Zs : List (Array Value)), kv = .int .i64 i ∧ i ≤ n ∧ OwnR wr W.heap.size lv Zs ∧ RaysTo g Zs i ∧ Below W.heap.size W wr) (fun _ kv _ => n - (intOf kv).toNat)
  case atStart => exact ⟨0, [], rfl, by omega, OwnR.nil _ _, ⟨rfl, fun j Z hZ => by simp at hZ⟩, Below.refl _ _⟩
  case round =>
    obtain ⟨i, Zs, rfl, hi, hO, hZ, hB⟩ := hrel
    have HO := Lib.hid hO
    have HZ := Lib.hid hZ
    clear hO hZ
    have kb0 : wr.cell? ⟨b, 0, none⟩ = some (.slice A n m) := bel_cell hB (by simp [World.cell?, Hbk.out])
    by_cases hlt : i < n
    · have hIr := HI.out.below hB
      obtain ⟨ad, hA⟩ := hIr.addr (by omega)
      rw [hA] at hIr
      have hix := fun wx => idx_run (m := m) hA hlt wx
      have hE := hIr.cell (Below.refl _ _) hlt
      rw [(cf_at (by rw [Hn.out]; exact hlt)).1] at hE
      obtain ⟨y, hy⟩ : ∃ y, cf g i = y := ⟨_, rfl⟩
      have hyc : g.Corner y := by rw [← hy]; exact (cf_at (by rw [Hn.out]; exact hlt)).2
      rw [hy] at hE
      have Hy := Lib.hid hy
      have cF := Lib.hid (rFrom wr p g v y (HGW.out.below hB hpW) hyc.1)
      clear hIr hA hy
      go_wp2_with fail
      (with_reducible refine cF.out.mono ?_)
      rintro e w2 ⟨c, is, rfl, hF, hb2⟩
      have hHO := Lib.hid (HO.out.below hb2)
      obtain ⟨Z, hZ⟩ : ∃ Z, rayRow y c is = Z := ⟨_, rfl⟩
      have zs : Z.size = 769 := by rw [← hZ, ray_size]
      have zo : Z.all (·.oneCell') = true := by rw [← hZ]; exact ray_one _ _ _
      have hsn := Lib.hid (HZ.out.snoc (Z := Z) (c := c) (is := is) (by rw [Hy.out, hZ]) (by rw [Hy.out]; exact hF))
      have hB2 := bel_trans hB hb2
      rw [hZ]
      clear hZ hF hb2 cF hE hix HO kb0
      obtain ⟨i0, z0, hi0, hz0, hz1, hz2, hz3⟩ := ray_infos
      have hcl := hHO.out.1
      rw [HZ.out.1] at hcl
      have hcl := Lib.hid hcl
      have hbs := Lib.hid (run_buildRay w2 Z zs)
      have HI0 := Lib.hid (And.intro hi0 (And.intro hz0 (And.intro hz1 (And.intro hz2 hz3))))
      have Hzs := Lib.hid (And.intro zs zo)
      clear hi0 hz0 hz1 hz2 hz3 zs zo
      go_wp2_with (first
        | ((with_reducible refine wpList_run1 w2 (Eq.refl none) 111 (.tmp 30) (Eq.refl (Op.buildSlice 111 1 #[(0, .tmp 30)])) (.agg Z) (by with_unfolding_all rfl) hbs.out ?_))
        | (at_builtin
           refine wpList_append_own_at (w2.alloc (Obj.cells Z 113 (0, 0))) rfl (.tmp 21) (.tmp 31) 111 rfl W.heap.size 113 i0 z0 769 4360 Tryz.underlying111 HI0.out.1 HI0.out.2.1 HI0.out.2.2.1 HI0.out.2.2.2.1 HI0.out.2.2.2.2 (by decide) u4 i (rayL Zs) ?_ ?_ ⟨w2.heap.size, 0, none⟩ 1 1 Z.toList ?_ ?_ ?_ ?_ ?_ ?_ ?_ ?_
           · rfl
           · exact hcl.out.alloc _
           · rfl
           · rw [Array.length_toList, Hzs.out.1]
           · intro j u hu
             rw [Addr.add_lit]
             exact range_all (alloc_at w2 _ rfl) j u hu
           · exact ray_all Z Hzs.out.2
           · unfold maxLen; omega
           · omega
           · have := hB2.size; simp; omega
           intro v' w9 hown9 hgrow hnn hat))
      have hR9 : OwnR w9 W.heap.size v' (Zs ++ [Z]) := OwnR.snoc hHO.out.2 Hzs.out.1 (by rw [HZ.out.1]; exact hown9)
      have hR9 := Lib.hid hR9
      have hB9 : Below W.heap.size W w9 := (bel_alloc hB2).grown hgrow (by have := hB2.size; simp; omega) (fun k hk => (World.ownsRow.lt hcl.out k hk).1)
      clear hown9 hgrow hat hnn hcl hbs HI0 hHO
      first
        | exact ⟨⟨i + 1, _, by go_num, by omega, hR9.out, hsn.out, hB9⟩, by simp [intOf]; omega⟩
        | (go_roundw; (case rel => exact ⟨i + 1, _, by go_num, by omega, hR9.out, hsn.out, hB9⟩); (case measure => simp [intOf]; omega))
    · obtain rfl : i = n := by omega
      obtain ⟨AR, mR, rfl, hRays, hRn⟩ := HO.out.rays
      have hrs := HZ.out.1
      have hRo : RaysOf g Zs := ⟨by rw [hrs, Hn.out], HZ.out.2⟩
      obtain ⟨nz, hnz⟩ : ∃ z, Zs.length = z := ⟨_, rfl⟩
      have hnzi : nz = i := by omega
      subst hnzi
      rw [hnz]
      have HRays := Lib.hid hRays
      have HRo := Lib.hid hRo
      have HMr : Hid (EMap wr [] mb (EGr g 0)) := Lib.hid (by
        rw [EGr_zero]
        exact ⟨_, 0, HM.out.below hB, fun k => by simp, fun k u L hu => by simp at hu, fun k u q hu => by simp at hu, by simp, fun k k' u u' q hu => by simp at hu, fun s hs => by simp at hs⟩)
      have hstart : ∃ S, EMap wr S mb (EGr g 0) ∧ (∀ s ∈ S, wr.heap.size ≤ s) ∧ Kept [mb] wr wr := ⟨[], HMr.out, by simp, Kept.refl _ _⟩
      have hbr := Lib.hid ((hB.block b (by omega)).trans Hbk.out)
      have HIr := Lib.hid (HI.out.below hB)
      have HGr := Lib.hid (HGW.out.below hB hpW)
      have HBr := Lib.hid hB
      have HRn := Lib.hid hRn
      clear hRays hRo hrs hnz HMr HO HZ hB hRn
      go_wp2_with fail
      clear kb0
      obtain ⟨w2, rfl⟩ : ∃ w2 : World, w2 = wr := ⟨_, rfl⟩
      go_loopw [6] (fun kv wr => ∃ i : Nat, kv = .int .i64 i ∧ i ≤ nz ∧ ∃ S, EMap wr S mb (EGr g i) ∧ (∀ s ∈ S, w2.heap.size ≤ s) ∧ Kept [mb] w2 wr) (fun kv _ => nz - (intOf kv).toNat)
      case atStart => exact ⟨0, rfl, by omega, hstart⟩
      case round =>
        obtain ⟨i, rfl, hi, S, hE, hS, hK⟩ := hrel
        clear hstart
        have hbW : b < w2.heap.size := by have := HBr.out.size; omega
        have kb : wr.heap[b]? = some (.cells #[.slice A nz m, .map (some mb)] 98 (0, 0)) := (hK.block b hbW (by simp; omega)).trans hbr.out
        have kb0 : wr.cell? ⟨b, 0, none⟩ = some (.slice A nz m) := by simp [World.cell?, kb]
        have kb1 : wr.cell? ⟨b, 1, none⟩ = some (.map (some mb)) := by simp [World.cell?, kb]
        have Hkb := Lib.hid kb
        have HE := Lib.hid hE
        have HS := Lib.hid hS
        have HK := Lib.hid hK
        have hp2 : p < w2.heap.size := by have := HBr.out.size; omega
        have hpm : p ∉ [mb] := by simp; omega
        have HGx := Lib.hid (show RGridAt wr p g v from ⟨HGr.out.1, (HK.out.block p hp2 hpm).trans HGr.out.2⟩)
        have hpx : p < wr.heap.size := Nat.lt_of_lt_of_le hp2 HK.out.size
        have HIx := Lib.hid (HIr.out.kept0 HK.out (fun h0 ad e => by have := HAmb.out ad e h0; simp; omega))
        clear hE hS hK kb hpm
        by_cases hlt : i < nz
        · have hIr := HIx.out
          obtain ⟨ad, hA⟩ := hIr.addr (by omega)
          have hadm : ad.block < mb := HAmb.out ad hA (by omega)
          rw [hA] at hIr
          have hix := fun wx => idx_run (m := m) hA hlt wx
          have hE := hIr.cell (Below.refl _ _) hlt
          rw [(cf_at (by rw [Hn.out]; exact hlt)).1] at hE
          obtain ⟨y, hy⟩ : ∃ y, cf g i = y := ⟨_, rfl⟩
          have hyc : g.Corner y := by rw [← hy]; exact (cf_at (by rw [Hn.out]; exact hlt)).2
          rw [hy] at hE
          have Hy := Lib.hid hy
          have hzl : i < Zs.length := by rw [HRo.out.1, Hn.out]; exact hlt
          have hRr : RaysAt wr AR Zs := HRays.out.kept HK.out (fun ad e => by have := (HRn.out ad e).1; simp; omega)
          have HRx := Lib.hid hRr
          obtain ⟨gr, hAR, _, hrr⟩ := hRr (by omega)
          have hgrm : gr ≠ mb := by have := (HRn.out _ hAR).1; simp only at this; omega
          obtain ⟨Z, hZ⟩ : ∃ Z, Zs[i]? = some Z := ⟨Zs[i]'hzl, List.getElem?_eq_getElem _⟩
          have g2 := hrr i Z hZ
          obtain ⟨c2, i2, hz2, hF2⟩ := HRo.out.2 i Z hZ
          rw [Hy.out] at hz2 hF2
          have hixr := fun wx => idxRay (n := nz) (m := mR) hAR hlt wx
          have zs2 : Z.size = 769 := by rw [hz2, ray_size]
          have s1 : (Tryz.prog.info? 113).map (·.size) = some Z.toList.length := by rw [Array.length_toList, zs2]; exact ray_info
          have u1 := Tryz.underlying113
          have e1 : Z.toList.toArray = Z := Array.toArray_toList ..
          have cE := Lib.hid (fun w' (hb : Below wr.heap.size wr w') => rEdges w' p g v y c2 i2 Z AR A nz mR m Zs false (HGx.out.below hb hpx) hyc.1 hz2.symm hF2 (HIx.out.below hb) Hn.out (HRx.out.below hb) HRo.out)
          clear hIr hA hy hAR hrr hzl hZ hz2 hF2 zs2
          go_upto_region 10 with (fail)
          refine wp_region_noPanic ?_
          refine wp_region_held_drew (S := fun w' => w'.cell? ⟨b, 0, none⟩ = some (.slice A nz m) ∧ w'.cell? ⟨b, 1, none⟩ = some (.map (some mb)) ∧ w'.cell? (ad.add i) = some (.int .i64 (y : Nat)) ∧ w'.rangeAt gr (i * 769) Z.toList) (by kernel_rfl) ⟨kb0, kb1, hE, g2⟩ (fun hHeld => ?_)
          refine wpAnyH_take (i := 0) (oi := { dst := Option.some 42, op := Op.move (Operand.tmp 3), type := 49, pos := "parts.go:595", after := #[], guard := Option.none }) (v := .pointer (some ⟨b, 0, none⟩)) rfl (by kernel_rfl) (by kernel_rfl) (by kernel_rfl) (fun _ _ _ h => h) (Or.inl ⟨by rfl, fun w hSw => by obtain ⟨q0, q1, q2, -⟩ := hSw; go_simp⟩) (by assumption) ?_
          simp only [Act.put, List.setIfInBounds_toArray, List.set_cons_zero, List.set_cons_succ]
          refine wpAnyH_take (i := 1) (oi := { dst := Option.some 43, op := Op.nilCheck (Operand.tmp 42), type := 0, pos := "parts.go:595", after := #[{ on := 0, ground := Ground.data }], guard := Option.none }) (v := .pointer (some ⟨b, 0, none⟩)) rfl (by kernel_rfl) (by kernel_rfl) (by kernel_rfl) (fun _ _ _ h => h) (Or.inl ⟨by rfl, fun w hSw => by obtain ⟨q0, q1, q2, -⟩ := hSw; go_simp⟩) (by assumption) ?_
          simp only [Act.put, List.setIfInBounds_toArray, List.set_cons_zero, List.set_cons_succ]
          refine wpAnyH_take (i := 2) (oi := { dst := Option.some 44, op := Op.fieldAddr 98 (Operand.tmp 43) 1, type := 0, pos := "parts.go:595", after := #[{ on := 1, ground := Ground.data }], guard := Option.none }) (v := .pointer (some ⟨b, 1, none⟩)) rfl (by kernel_rfl) (by kernel_rfl) (by kernel_rfl) (fun _ _ _ h => h) (Or.inl ⟨by rfl, fun w hSw => by obtain ⟨q0, q1, q2, -⟩ := hSw; go_simp⟩) (by assumption) ?_
          simp only [Act.put, List.setIfInBounds_toArray, List.set_cons_zero, List.set_cons_succ]
          refine wpAnyH_take (i := 3) (oi := { dst := Option.some 45, op := Op.load 54 (Operand.tmp 44), type := 54, pos := "parts.go:595", after := #[{ on := 2, ground := Ground.data }], guard := Option.none }) (v := .map (some mb)) rfl (by kernel_rfl) (by kernel_rfl) (by kernel_rfl) (fun _ _ _ h => h) (Or.inl ⟨by rfl, fun w hSw => by obtain ⟨q0, q1, q2, -⟩ := hSw; go_simp⟩) (by assumption) ?_
          simp only [Act.put, List.setIfInBounds_toArray, List.set_cons_zero, List.set_cons_succ]
          refine wpAnyH_take (i := 4) (oi := { dst := Option.some 46, op := Op.move (Operand.tmp 3), type := 49, pos := "parts.go:595", after := #[], guard := Option.none }) (v := .pointer (some ⟨b, 0, none⟩)) rfl (by kernel_rfl) (by kernel_rfl) (by kernel_rfl) (fun _ _ _ h => h) (Or.inl ⟨by rfl, fun w hSw => by obtain ⟨q0, q1, q2, -⟩ := hSw; go_simp⟩) (by assumption) ?_
          simp only [Act.put, List.setIfInBounds_toArray, List.set_cons_zero, List.set_cons_succ]
          refine wpAnyH_take (i := 5) (oi := { dst := Option.some 47, op := Op.nilCheck (Operand.tmp 46), type := 0, pos := "parts.go:595", after := #[{ on := 4, ground := Ground.data }], guard := Option.none }) (v := .pointer (some ⟨b, 0, none⟩)) rfl (by kernel_rfl) (by kernel_rfl) (by kernel_rfl) (fun _ _ _ h => h) (Or.inl ⟨by rfl, fun w hSw => by obtain ⟨q0, q1, q2, -⟩ := hSw; go_simp⟩) (by assumption) ?_
          simp only [Act.put, List.setIfInBounds_toArray, List.set_cons_zero, List.set_cons_succ]
          refine wpAnyH_take (i := 6) (oi := { dst := Option.some 48, op := Op.fieldAddr 98 (Operand.tmp 47) 0, type := 0, pos := "parts.go:595", after := #[{ on := 5, ground := Ground.data }], guard := Option.none }) (v := .pointer (some ⟨b, 0, none⟩)) rfl (by kernel_rfl) (by kernel_rfl) (by kernel_rfl) (fun _ _ _ h => h) (Or.inl ⟨by rfl, fun w hSw => by obtain ⟨q0, q1, q2, -⟩ := hSw; go_simp⟩) (by assumption) ?_
          simp only [Act.put, List.setIfInBounds_toArray, List.set_cons_zero, List.set_cons_succ]
          refine wpAnyH_take (i := 7) (oi := { dst := Option.some 49, op := Op.load 22 (Operand.tmp 48), type := 22, pos := "parts.go:595", after := #[{ on := 6, ground := Ground.data }], guard := Option.none }) (v := .slice A nz m) rfl (by kernel_rfl) (by kernel_rfl) (by kernel_rfl) (fun _ _ _ h => h) (Or.inl ⟨by rfl, fun w hSw => by obtain ⟨q0, q1, q2, -⟩ := hSw; go_simp⟩) (by assumption) ?_
          simp only [Act.put, List.setIfInBounds_toArray, List.set_cons_zero, List.set_cons_succ]
          refine wpAnyH_take (i := 8) (oi := { dst := Option.some 50, op := Op.move (Operand.tmp 6), type := 3, pos := "parts.go:595", after := #[], guard := Option.none }) (v := .int .i64 (i : Nat)) rfl (by kernel_rfl) (by kernel_rfl) (by kernel_rfl) (fun _ _ _ h => h) (Or.inl ⟨by rfl, fun w hSw => by obtain ⟨q0, q1, q2, -⟩ := hSw; go_simp⟩) (by assumption) ?_
          simp only [Act.put, List.setIfInBounds_toArray, List.set_cons_zero, List.set_cons_succ]
          refine wpAnyH_take (i := 9) (oi := { dst := Option.some 51, op := Op.indexAddr 22 (Operand.tmp 49) (Operand.tmp 50), type := 0, pos := "parts.go:595", after := #[{ on := 7, ground := Ground.data }, { on := 8, ground := Ground.data }], guard := Option.none }) (v := .pointer (some (ad.add i))) rfl (by kernel_rfl) (by kernel_rfl) (by kernel_rfl) (fun _ _ _ h => h) (Or.inl ⟨by rfl, fun w hSw => by obtain ⟨q0, q1, q2, -⟩ := hSw; go_simp⟩) (by assumption) ?_
          simp only [Act.put, List.setIfInBounds_toArray, List.set_cons_zero, List.set_cons_succ]
          refine wpAnyH_take (i := 10) (oi := { dst := Option.some 52, op := Op.load 3 (Operand.tmp 51), type := 3, pos := "parts.go:595", after := #[{ on := 9, ground := Ground.data }], guard := Option.none }) (v := .int .i64 (y : Nat)) rfl (by kernel_rfl) (by kernel_rfl) (by kernel_rfl) (fun _ _ _ h => h) (Or.inl ⟨by rfl, fun w hSw => by obtain ⟨q0, q1, q2, -⟩ := hSw; go_simp⟩) (by assumption) ?_
          simp only [Act.put, List.setIfInBounds_toArray, List.set_cons_zero, List.set_cons_succ]
          refine wpAnyH_take (i := 11) (oi := { dst := Option.some 53, op := Op.move (Operand.tmp 0), type := 28, pos := "parts.go:595", after := #[], guard := Option.none }) (v := .pointer (some ⟨p, 0, none⟩)) rfl (by kernel_rfl) (by kernel_rfl) (by kernel_rfl) (fun _ _ _ h => h) (Or.inl ⟨by rfl, fun w hSw => by obtain ⟨q0, q1, q2, -⟩ := hSw; go_simp⟩) (by assumption) ?_
          simp only [Act.put, List.setIfInBounds_toArray, List.set_cons_zero, List.set_cons_succ]
          refine wpAnyH_take (i := 12) (oi := { dst := Option.some 54, op := Op.move (Operand.tmp 4), type := 111, pos := "parts.go:595", after := #[], guard := Option.none }) (v := .slice AR nz mR) rfl (by kernel_rfl) (by kernel_rfl) (by kernel_rfl) (fun _ _ _ h => h) (Or.inl ⟨by rfl, fun w hSw => by obtain ⟨q0, q1, q2, -⟩ := hSw; go_simp⟩) (by assumption) ?_
          simp only [Act.put, List.setIfInBounds_toArray, List.set_cons_zero, List.set_cons_succ]
          refine wpAnyH_take (i := 13) (oi := { dst := Option.some 55, op := Op.move (Operand.tmp 6), type := 3, pos := "parts.go:595", after := #[], guard := Option.none }) (v := .int .i64 (i : Nat)) rfl (by kernel_rfl) (by kernel_rfl) (by kernel_rfl) (fun _ _ _ h => h) (Or.inl ⟨by rfl, fun w hSw => by obtain ⟨q0, q1, q2, -⟩ := hSw; go_simp⟩) (by assumption) ?_
          simp only [Act.put, List.setIfInBounds_toArray, List.set_cons_zero, List.set_cons_succ]
          refine wpAnyH_take (i := 14) (oi := { dst := Option.some 56, op := Op.indexAddr 111 (Operand.tmp 54) (Operand.tmp 55), type := 0, pos := "parts.go:595", after := #[{ on := 12, ground := Ground.data }, { on := 13, ground := Ground.data }], guard := Option.none }) (v := .pointer (some ⟨gr, i * 769, none⟩)) rfl (by kernel_rfl) (by kernel_rfl) (by kernel_rfl) (fun _ _ _ h => h) (Or.inl ⟨by rfl, fun w hSw => by obtain ⟨q0, q1, q2, -⟩ := hSw; go_simp⟩) (by assumption) ?_
          simp only [Act.put, List.setIfInBounds_toArray, List.set_cons_zero, List.set_cons_succ]
          refine' wpAnyH_take (i := 15) (oi := { dst := Option.some 57, op := Op.load 113 (Operand.tmp 56), type := 113, pos := "parts.go:595", after := #[{ on := 14, ground := Ground.data }], guard := Option.none }) (v := _) rfl (by kernel_rfl) (by kernel_rfl) (by kernel_rfl) (fun _ _ _ h => h) (yieldsIf_load_mid (by rfl) 113 (.tmp 56) rfl gr (i * 769) rfl Z.toList _ (fun w h => h.2.2.2) u1 rfl s1) (by assumption) ?_
          simp only [Act.put, List.setIfInBounds_toArray, List.set_cons_zero, List.set_cons_succ]
          refine wpAnyH_take (i := 16) (oi := { dst := Option.some 58, op := Op.move (Operand.tmp 4), type := 111, pos := "parts.go:595", after := #[], guard := Option.none }) (v := .slice AR nz mR) rfl (by kernel_rfl) (by kernel_rfl) (by kernel_rfl) (fun _ _ _ h => h) (Or.inl ⟨by rfl, fun w hSw => by obtain ⟨q0, q1, q2, -⟩ := hSw; go_simp⟩) (by assumption) ?_
          simp only [Act.put, List.setIfInBounds_toArray, List.set_cons_zero, List.set_cons_succ]
          refine wpAnyH_take (i := 17) (oi := { dst := Option.some 59, op := Op.move (Operand.tmp 3), type := 49, pos := "parts.go:595", after := #[], guard := Option.none }) (v := .pointer (some ⟨b, 0, none⟩)) rfl (by kernel_rfl) (by kernel_rfl) (by kernel_rfl) (fun _ _ _ h => h) (Or.inl ⟨by rfl, fun w hSw => by obtain ⟨q0, q1, q2, -⟩ := hSw; go_simp⟩) (by assumption) ?_
          simp only [Act.put, List.setIfInBounds_toArray, List.set_cons_zero, List.set_cons_succ]
          refine wpAnyH_take (i := 18) (oi := { dst := Option.some 60, op := Op.nilCheck (Operand.tmp 59), type := 0, pos := "parts.go:595", after := #[{ on := 17, ground := Ground.data }], guard := Option.none }) (v := .pointer (some ⟨b, 0, none⟩)) rfl (by kernel_rfl) (by kernel_rfl) (by kernel_rfl) (fun _ _ _ h => h) (Or.inl ⟨by rfl, fun w hSw => by obtain ⟨q0, q1, q2, -⟩ := hSw; go_simp⟩) (by assumption) ?_
          simp only [Act.put, List.setIfInBounds_toArray, List.set_cons_zero, List.set_cons_succ]
          refine wpAnyH_take (i := 19) (oi := { dst := Option.some 61, op := Op.fieldAddr 98 (Operand.tmp 60) 0, type := 0, pos := "parts.go:595", after := #[{ on := 18, ground := Ground.data }], guard := Option.none }) (v := .pointer (some ⟨b, 0, none⟩)) rfl (by kernel_rfl) (by kernel_rfl) (by kernel_rfl) (fun _ _ _ h => h) (Or.inl ⟨by rfl, fun w hSw => by obtain ⟨q0, q1, q2, -⟩ := hSw; go_simp⟩) (by assumption) ?_
          simp only [Act.put, List.setIfInBounds_toArray, List.set_cons_zero, List.set_cons_succ]
          refine wpAnyH_take (i := 20) (oi := { dst := Option.some 62, op := Op.load 22 (Operand.tmp 61), type := 22, pos := "parts.go:595", after := #[{ on := 19, ground := Ground.data }], guard := Option.none }) (v := .slice A nz m) rfl (by kernel_rfl) (by kernel_rfl) (by kernel_rfl) (fun _ _ _ h => h) (Or.inl ⟨by rfl, fun w hSw => by obtain ⟨q0, q1, q2, -⟩ := hSw; go_simp⟩) (by assumption) ?_
          simp only [Act.put, List.setIfInBounds_toArray, List.set_cons_zero, List.set_cons_succ]
          rw [e1]
          refine wpAnyH_ready (rs := [21]) (by kernel_rfl) (by simp) ?_
          refine AllReadyH.cons (o := { dst := Option.some 63, op := Op.call { callee := Callee.value (.func 62), args := #[Operand.tmp 53, Operand.tmp 57, Operand.tmp 58, Operand.tmp 62, Operand.const (Value.bool Bool.false)], argTypes := #[28, 113, 111, 22, 4] }, type := 59, pos := "parts.go:595", after := #[{ on := 11, ground := Ground.data }, { on := 15, ground := Ground.data }, { on := 16, ground := Ground.data }, { on := 20, ground := Ground.data }], guard := Option.none }) rfl (fun K hK => ?_) .nil
          go_simp
          go_at_call 62
          (with_reducible refine (cE.out _ (bel_drew (Below.refl _ _))).mono ?_)
          rintro e wI ⟨v', rfl, hOI, hbI⟩
          have hbI := bel_trans (bel_drew (Below.refl wr.heap.size wr)) hbI
          have hmr := HE.out.lt
          obtain ⟨V, N, H1, H2, H3, H4, h5, H6, H7⟩ := HE.out
          obtain ⟨wU, hU, hMU, hKU⟩ := (H1.below hbI).store (int_fit Tryz.underlying3) Tryz.underlying54 (y : Int) v'
          have hU : (Instr.mapUpdate 54 (.map (some mb)) (.int .i64 (y : Nat)) v').run Tryz.prog wI = .ok () wU := hU
          have hfr := Lib.hid (EMap.fresh H1 H2 H3 H4 h5 H6 H7 hbI hOI hMU hKU)
          have hKU := Lib.hid hKU
          have hOI := Lib.hid hOI
          clear H1 H2 H3 H4 h5 H6 H7 hMU
          dsimp only
          refine hK.out _ _ ⟨bel_cell hbI kb0, bel_cell hbI kb1, bel_cell hbI hE, rangeAt_below g2 hbI⟩ (fun hHeld3 => ?_)
          clear hK K
          try dsimp only
          try simp only [Act.put, List.setIfInBounds_toArray, List.set_cons_zero, List.set_cons_succ]
          refine wpAnyH_ready (rs := [22]) (by kernel_rfl) (by simp) ?_
          refine AllReadyH.cons (o := { dst := Option.none, op := Op.mapUpdate 54 (Operand.tmp 45) (Operand.tmp 52) (Operand.tmp 63), type := 0, pos := "parts.go:595", after := #[{ on := 3, ground := Ground.data }, { on := 10, ground := Ground.data }, { on := 21, ground := Ground.data }, { on := 21, ground := Ground.chain }, { on := 0, ground := Ground.phase }, { on := 1, ground := Ground.phase }, { on := 2, ground := Ground.phase }, { on := 3, ground := Ground.phase }, { on := 4, ground := Ground.phase }, { on := 5, ground := Ground.phase }, { on := 6, ground := Ground.phase }, { on := 7, ground := Ground.phase }, { on := 8, ground := Ground.phase }, { on := 9, ground := Ground.phase }, { on := 10, ground := Ground.phase }, { on := 11, ground := Ground.phase }, { on := 12, ground := Ground.phase }, { on := 13, ground := Ground.phase }, { on := 14, ground := Ground.phase }, { on := 15, ground := Ground.phase }, { on := 16, ground := Ground.phase }, { on := 17, ground := Ground.phase }, { on := 18, ground := Ground.phase }, { on := 19, ground := Ground.phase }, { on := 20, ground := Ground.phase }, { on := 21, ground := Ground.phase }], guard := Option.none }) rfl (fun K hK => ?_) .nil
          go_simp
          refine hK.out _ _ ⟨keptc hKU.out (by simp; omega) (bel_cell hbI kb0), keptc hKU.out (by simp; omega) (bel_cell hbI kb1), keptc hKU.out (by rw [add_block]; simp; omega) (bel_cell hbI hE), rangeAt_kept (rangeAt_below g2 hbI) hKU.out (by simpa using hgrm)⟩ (fun hHeld4 => ?_)
          clear hK K
          try dsimp only
          try simp only [Act.put, List.setIfInBounds_toArray, List.set_cons_zero, List.set_cons_succ]
          refine wpAnyH_done (by kernel_rfl) ?_ _
          refine NoPanic.normal ?_
          have hEn := hfr.out
          rw [show updE (EGr g i) (y : Int) (some (eUp g y false nz)) = EGr g (i + 1) by rw [← Hy.out, ← Hn.out]; exact EGr_step g i] at hEn
          have hSn : ∀ s ∈ v'.ownBlock.toList ++ S, w2.heap.size ≤ s := fun s hs => by
            rcases List.mem_append.1 hs with q | q
            · rw [Option.mem_toList] at q
              exact Nat.le_trans HK.out.size (World.ownsRow.lt hOI.out s q).1
            · exact HS.out s q
          have hKn : Kept [mb] w2 wU := (HK.out.trans (Kept.of_below hbI)).trans hKU.out
          have Hn9 := Lib.hid (show ∃ S, EMap wU S mb (EGr g (i + 1)) ∧ (∀ s ∈ S, w2.heap.size ≤ s) ∧ Kept [mb] w2 wU from ⟨_, hEn, hSn, hKn⟩)
          clear hHeld hHeld3 hHeld4 hbI hU hfr hEn hSn hKn hKU hOI g2 cE e1 s1 u1 hixr hix hE kb0 kb1
          go_wp2
          first
            | exact ⟨⟨i + 1, by go_num, by omega, Hn9.out⟩, by simp [intOf]; omega⟩
            | (go_roundw; (case rel => exact ⟨i + 1, by go_num, by omega, Hn9.out⟩); (case measure => simp [intOf]; omega))
        · obtain rfl : i = nz := by omega
          have hmm : ∀ q ∈ [mb], W.heap.size ≤ q ∨ w.heap.size ≤ q := by simp; omega
          have hbw : Below w.heap.size w wr := Kept.below (bel_trans HBW HBr.out) HK.out (by have := (bel_trans HBW HBr.out).size; omega) (by simp; omega)
          have hfin : RGraphD w g (.returned (.pointer (some ⟨b, 0, none⟩))) wr := ⟨b, mb, S, A, i, m, rfl, ⟨Hkb.out, HIx.out, Hn.out, fun hh => by have := HS.out b hh; omega, HE.out⟩, by
            intro k hk
            simp only [List.mem_cons] at hk
            rcases hk with rfl | rfl | hk
            · omega
            · omega
            · have h1 := HS.out k hk; have h2 := HBr.out.size; omega, by omega, hbw⟩
          have hfin := Lib.hid hfin
          clear HE HS HK hmm hbw
          go_wp2
          go_ret
          exact hfin.out
end Go.Proofs.YtjejkadaafmdcaaGreat
