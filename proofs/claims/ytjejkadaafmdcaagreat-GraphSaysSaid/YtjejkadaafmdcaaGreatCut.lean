/- graph.cut: an edge goes, either way. -/
import Derived.Test.YtjejkadaafmdcaaGreatDel
import Derived.Deep.DeepCutAuto
set_option linter.unusedVariables false
set_option linter.unusedSimpArgs false
namespace Go.Proofs.YtjejkadaafmdcaaGreat
open Go.RowKit Go.Sort FR
/-- what half of a cut leaves behind -/
def HalfD (W : World) (S : List Nat) (mb : Nat) (E : Int → Option (List Ed)) (wx : World) : Prop := ∃ S', EMap wx S' mb E ∧ (∀ k ∈ S', k ∈ S ∨ W.heap.size ≤ k) ∧ Kept (mb :: S) W wx
set_option maxRecDepth 100000 in
set_option maxHeartbeats 3200000 in
theorem graphCut (w : World) (S0 : List Nat) (b p mb : Nat) (E : Int → Option (List Ed)) (x y : Int) (Lx Ly : List Ed) (hb : w.heap[b]? = some (.cells #[.pointer (some ⟨p, 0, none⟩), .map (some mb)] 93 (0, 0))) (hE : EMap w S0 mb E) (hbS0 : b ∉ S0) (hbm : b ≠ mb)
    (hLx : E x = some Lx) (hLy : E y = some Ly) (hxy : x ≠ y) (hlx : Lx.length ≤ 100000) (hly : Ly.length ≤ 100000) :
    Calls Tryz.prog 58 #[.pointer (some ⟨b, 0, none⟩), .int .i64 x, .int .i64 y] w (PutD w S0 mb (updE (updE E x (some (delE Lx y))) y (some (delE Ly x)))) := by
  have hmlt := hE.lt
  have hSlt : ∀ s ∈ S0, s < w.heap.size := by obtain ⟨_, _, _, _, _, _, _, _, h7⟩ := hE; exact h7
  have hbl : b < w.heap.size := (Array.getElem?_eq_some_iff.1 hb).1
  have kb1 : w.cell? ⟨b, 1, none⟩ = some (.map (some mb)) := by simp [World.cell?, hb]
  have HLx := Lib.hid hLx
  have HLy := Lib.hid hLy
  have Hxy := Lib.hid hxy
  have HE := Lib.hid hE
  clear hb hLx hLy hE
  go_enter Tryz.func58, Tryz.ntmps58
  go_upto_region 1 with (fail)
  refine wp_name ?_
  intro W hW
  have HW : Below w.heap.size w W := by rw [hW]; (repeat' (first | exact Below.refl _ _ | assumption | apply bel_drewN | apply bel_drew | apply bel_alloc | (refine bel_trans ?_ (by assumption))))
  have c0 : W.cell? ⟨w.heap.size, 0, none⟩ = some (.int .i64 x) := by rw [hW]; go_simp
  have c1 : W.cell? ⟨w.heap.size + 1, 0, none⟩ = some (.int .i64 y) := by rw [hW]; go_simp
  have k1 := bel_cell HW kb1
  have hWs : W.heap.size = w.heap.size + 2 := by rw [hW]; simp
  obtain ⟨b4, hb4⟩ : ∃ z, w.heap.size = z := ⟨_, rfl⟩
  rw [hb4] at c0 c1 hWs ⊢
  obtain ⟨b5, hb5⟩ : ∃ z, b4 + 1 = z := ⟨_, rfl⟩
  rw [hb5] at c1 ⊢
  have hb4S : b4 ∉ S0 := fun h => by have := hSlt b4 h; omega
  have hb5S : b5 ∉ S0 := fun h => by have := hSlt b5 h; omega
  have HEW := Lib.hid (HE.out.below HW)
  have Hne : Hid (b4 ≠ mb ∧ b5 ≠ mb) := Lib.hid ⟨by omega, by omega⟩
  have hlt5 : b5 < W.heap.size := by omega
  clear hW kb1
  go_cut [] (fun wx => HalfD W S0 mb (updE E x (some (delE Lx y))) wx)
  case first =>
    obtain ⟨V, N, h1, h2, h3, h4, h5, h6, h7⟩ := HEW.out
    obtain ⟨u, hu⟩ : ∃ u, V x = some u := by
      cases hV : V x with
      | none => have := (h2 x).2 hV; rw [HLx.out] at this; cases this
      | some u => exact ⟨u, rfl⟩
    have hO := h3 x u Lx hu HLx.out
    have hqS : ∀ q, u.ownBlock = some q → q ∈ S0 := fun q hq => h4 x u q hu hq
    have hl1 : (Instr.lookup 54 (.map (some mb)) (.int .i64 x) false).run Tryz.prog W.drew = .ok u W.drew := by
      have := ((h1.below (bel_drew (Below.refl _ W))).look (int_fit Tryz.underlying3) Tryz.underlying54 (z := .slice none 0 0) (by simp [Tryz.zeroValue59]) x).2
      rw [hu] at this
      exact this
    have hOA : OwnE W.drew 0 u Lx := hO.kept (T := []) (.of_below (bel_drew (Below.refl _ W))) (fun _ _ => by simp)
    have hMA : MapAt iK W.drew mb V N := h1.below (bel_drew (Below.refl _ W))
    have hnb : b ∉ u.ownBlock.toList := fun e => by rw [Option.mem_toList] at e; exact hbS0 (hqS b e)
    have hnk : b4 ∉ u.ownBlock.toList := fun e => by rw [Option.mem_toList] at e; exact hb4S (hqS _ e)
    have hnm : mb ∉ u.ownBlock.toList := fun e => by rw [Option.mem_toList] at e; exact h5 (hqS mb e)
    have hnc : u.ownBlock ≠ some b5 := fun e => hb5S (hqS _ e)
    have HA := Lib.hid (And.intro hOA (And.intro hMA (And.intro hnb (And.intro hnk (And.intro hnm hnc)))))
    have H1 := Lib.hid h1
    have H2 := Lib.hid h2
    have H3 := Lib.hid h3
    have H4 := Lib.hid h4
    have H5 := Lib.hid h5
    have H6 := Lib.hid h6
    have H7 := Lib.hid h7
    have Hu := Lib.hid hu
    clear h1 h2 h3 h4 h5 h6 h7 hO hqS hOA hMA hnb hnk hnm hnc hu
    go_region_held3 (fun w' => w'.cell? ⟨b, 1, none⟩ = some (.map (some mb)) ∧ w'.cell? ⟨b4, 0, none⟩ = some (.int .i64 x))
      (first
        | exact ⟨k1, c0⟩
        | exact hSI
        | exact hSU)
      ((first
        | (go_at_call 99
           refine (cut1Del _ u Lx b5 _ HA.out.1 hlx (show W.drew.cell? ⟨b5, 0, none⟩ = _ from c1) HA.out.2.2.2.2.2).mono ?_
           rintro e wI ⟨v', rfl, hOI, hKI, hAt⟩
           have hSI : wI.cell? ⟨b, 1, none⟩ = some (.map (some mb)) ∧ wI.cell? ⟨b4, 0, none⟩ = some (.int .i64 x) :=
             ⟨keptc (w := W.drew) hKI HA.out.2.2.1 k1, keptc (w := W.drew) hKI HA.out.2.2.2.1 c0⟩
           have hMI : MapAt iK wI mb V N := HA.out.2.1.kept hKI HA.out.2.2.2.2.1
           obtain ⟨wU, hU, hMU, hKU⟩ := hMI.store (int_fit Tryz.underlying3) Tryz.underlying54 x v'
           have hU : (Instr.mapUpdate 54 (.map (some mb)) (.int .i64 x) v').run Tryz.prog wI = .ok () wU := hU
           have hSU : wU.cell? ⟨b, 1, none⟩ = some (.map (some mb)) ∧ wU.cell? ⟨b4, 0, none⟩ = some (.int .i64 x) :=
             ⟨keptc hKU (by simpa using hbm) hSI.1, keptc hKU (by simpa using Hne.out.1) hSI.2⟩)))
    all_goals
      have hgr : W.drew.grownBy wI u.ownBlock := ⟨hKI.os, hKI.tape, hKI.output, hKI.size, fun k hk hn => hKI.block k hk (by rw [Option.mem_toList]; exact fun e => hn e.symm)⟩
      have hfin := EMap.put (w := W) (w1 := W.drew) H1.out H2.out H3.out H4.out H5.out H6.out H7.out Hu.out (bel_drew (Below.refl _ W)) hOI hgr (.inl hAt) hMU hKU
      have hfin := Lib.hid hfin
      clear hgr hOI hKI hAt hMU hKU
    all_goals
      first
        | (go_meet; (case rel => exact hfin.out))
        | (go_wp2; go_meet; (case rel => exact hfin.out))
  case rest =>
    obtain ⟨S1, hE1, hS1, hK1⟩ := hcut
    have hn4 : b4 ∉ mb :: S0 := by
      intro h
      rcases List.mem_cons.1 h with h | h
      · exact Hne.out.1 h
      · exact hb4S h
    have hn5 : b5 ∉ mb :: S0 := by
      intro h
      rcases List.mem_cons.1 h with h | h
      · exact Hne.out.2 h
      · exact hb5S h
    have hnb : b ∉ mb :: S0 := by
      intro h
      rcases List.mem_cons.1 h with h | h
      · exact hbm h
      · exact hbS0 h
    have c0' := keptc hK1 hn4 c0
    have c1' := keptc hK1 hn5 c1
    have k1' := keptc hK1 hnb k1
    have hS1o : ∀ k, k < W.heap.size → k ∉ S0 → k ∉ S1 := fun k hk hn h => by
      rcases hS1 k h with q | q
      · exact hn q
      · omega
    have hbW : b < W.heap.size := Nat.lt_of_lt_of_le hbl HW.size
    have hb4S1 : b4 ∉ S1 := hS1o b4 (by omega) hb4S
    have hb5S1 : b5 ∉ S1 := hS1o b5 hlt5 hb5S
    have hbS1 : b ∉ S1 := hS1o b hbW hbS0
    have HE1 := Lib.hid hE1
    have HLy2 : Hid (updE E x (some (delE Lx y)) y = some Ly) := Lib.hid (by unfold updE; rw [if_neg (Ne.symm Hxy.out)]; exact HLy.out)
    have HS1 := Lib.hid hS1
    have HK1 := Lib.hid hK1
    clear hE1 hS1 hK1 hn4 hn5 hnb c0 c1 k1 hS1o
    have c0 := c1'
    have c1 := c0'
    have k1 := k1'
    clear c0' c1' k1'
    go_upto_region 2 with (fail)
    obtain ⟨V, N, h1, h2, h3, h4, h5, h6, h7⟩ := HE1.out
    obtain ⟨u, hu⟩ : ∃ u, V y = some u := by
      cases hV : V y with
      | none => have := (h2 y).2 hV; rw [HLy2.out] at this; cases this
      | some u => exact ⟨u, rfl⟩
    have hO := h3 y u Ly hu HLy2.out
    have hqS : ∀ q, u.ownBlock = some q → q ∈ S1 := fun q hq => h4 y u q hu hq
    have hl1 : (Instr.lookup 54 (.map (some mb)) (.int .i64 y) false).run Tryz.prog wc.drew = .ok u wc.drew := by
      have := ((h1.below (bel_drew (Below.refl _ wc))).look (int_fit Tryz.underlying3) Tryz.underlying54 (z := .slice none 0 0) (by simp [Tryz.zeroValue59]) y).2
      rw [hu] at this
      exact this
    have hOA : OwnE wc.drew 0 u Ly := hO.kept (T := []) (.of_below (bel_drew (Below.refl _ wc))) (fun _ _ => by simp)
    have hMA : MapAt iK wc.drew mb V N := h1.below (bel_drew (Below.refl _ wc))
    have hnb : b ∉ u.ownBlock.toList := fun e => by rw [Option.mem_toList] at e; exact hbS1 (hqS b e)
    have hnk : b5 ∉ u.ownBlock.toList := fun e => by rw [Option.mem_toList] at e; exact hb5S1 (hqS _ e)
    have hnm : mb ∉ u.ownBlock.toList := fun e => by rw [Option.mem_toList] at e; exact h5 (hqS mb e)
    have hnc : u.ownBlock ≠ some b4 := fun e => hb4S1 (hqS _ e)
    have HA := Lib.hid (And.intro hOA (And.intro hMA (And.intro hnb (And.intro hnk (And.intro hnm hnc)))))
    have H1 := Lib.hid h1
    have H2 := Lib.hid h2
    have H3 := Lib.hid h3
    have H4 := Lib.hid h4
    have H5 := Lib.hid h5
    have H6 := Lib.hid h6
    have H7 := Lib.hid h7
    have Hu := Lib.hid hu
    clear h1 h2 h3 h4 h5 h6 h7 hO hqS hOA hMA hnb hnk hnm hnc hu
    go_region_held3 (fun w' => w'.cell? ⟨b, 1, none⟩ = some (.map (some mb)) ∧ w'.cell? ⟨b5, 0, none⟩ = some (.int .i64 y))
      (first
        | exact ⟨k1, c0⟩
        | exact hSI
        | exact hSU)
      ((first
        | (go_at_call 99
           refine (cut2Del _ u Ly b4 _ HA.out.1 hly (show wc.drew.cell? ⟨b4, 0, none⟩ = _ from c1) HA.out.2.2.2.2.2).mono ?_
           rintro e wI ⟨v', rfl, hOI, hKI, hAt⟩
           have hSI : wI.cell? ⟨b, 1, none⟩ = some (.map (some mb)) ∧ wI.cell? ⟨b5, 0, none⟩ = some (.int .i64 y) :=
             ⟨keptc (w := wc.drew) hKI HA.out.2.2.1 k1, keptc (w := wc.drew) hKI HA.out.2.2.2.1 c0⟩
           have hMI : MapAt iK wI mb V N := HA.out.2.1.kept hKI HA.out.2.2.2.2.1
           obtain ⟨wU, hU, hMU, hKU⟩ := hMI.store (int_fit Tryz.underlying3) Tryz.underlying54 y v'
           have hU : (Instr.mapUpdate 54 (.map (some mb)) (.int .i64 y) v').run Tryz.prog wI = .ok () wU := hU
           have hSU : wU.cell? ⟨b, 1, none⟩ = some (.map (some mb)) ∧ wU.cell? ⟨b5, 0, none⟩ = some (.int .i64 y) :=
             ⟨keptc hKU (by simpa using hbm) hSI.1, keptc hKU (by simpa using Hne.out.2) hSI.2⟩)))
    all_goals
      have hgr : wc.drew.grownBy wI u.ownBlock := ⟨hKI.os, hKI.tape, hKI.output, hKI.size, fun k hk hn => hKI.block k hk (by rw [Option.mem_toList]; exact fun e => hn e.symm)⟩
      have hfin := EMap.put (w := wc) (w1 := wc.drew) H1.out H2.out H3.out H4.out H5.out H6.out H7.out Hu.out (bel_drew (Below.refl _ wc)) hOI hgr (.inl hAt) hMU hKU
      have hfin := Lib.hid hfin
      clear hgr hOI hKI hAt hMU hKU
    all_goals
      obtain ⟨S2, hE2, hS2, hK2⟩ := hfin.out
      have hWs := HW.size
      have hfin2 : PutD w S0 mb (updE (updE E x (some (delE Lx y))) y (some (delE Ly x))) (.returned (.tuple #[])) wU := by
        refine ⟨rfl, S2, hE2, fun k hk => ?_, ?_⟩
        · rcases hS2 k hk with q | q
          · rcases HS1.out k q with r | r
            · exact .inl r
            · exact .inr (by omega)
          · have := HK1.out.size; exact .inr (by omega)
        · have hKw : Kept (mb :: S0) w wc := (Kept.of_below HW).trans HK1.out
          refine ⟨hK2.os.trans hKw.os, hK2.tape.trans hKw.tape, hK2.output.trans hKw.output, Nat.le_trans hKw.size hK2.size, fun k hk hn => ?_⟩
          refine (hK2.block k (Nat.lt_of_lt_of_le hk hKw.size) ?_).trans (hKw.block k hk hn)
          intro hm
          rcases List.mem_cons.1 hm with e | e
          · exact hn (by rw [e]; simp)
          · rcases HS1.out k e with q | q
            · exact hn (List.mem_cons_of_mem _ q)
            · omega
      have hfin2 := Lib.hid hfin2
      clear hE2 hS2 hK2
      first
        | (go_end0; exact hfin2.out)
        | (go_wp2; go_end0; exact hfin2.out)
end Go.Proofs.YtjejkadaafmdcaaGreat
