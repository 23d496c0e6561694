/- What the reference's Push does. -/
import Derived.Test.YtkiogciokngjfaaRHeap
set_option linter.unusedVariables false
set_option linter.unusedSimpArgs false
namespace Go.Proofs.Ytkiogciokngjfaa
open Go.RowKit Go.Sort FR
def ritV (a : It) : List Value := [.int .i64 a.id, .int .i64 a.c.s, .int .i64 a.c.d]
/-- slice v owns its cells (from block B on), and they are the items l -/
def OwnR (w : World) (B : Nat) (v : Value) (l : List It) : Prop := w.ownsRow B 85 3 v l.length (l.flatMap ritV)
theorem ritem_info : (Try.prog.info? 85).map (fun i => (i.zero, i.size, i.bytes)) = some (some (.agg #[.int .i64 0, .int .i64 0, .int .i64 0]), 3, 24) := by kernel_rfl
theorem OwnR.nil (w : World) (B : Nat) : OwnR w B (.slice none 0 0) [] := ⟨rfl, .inl ⟨rfl, rfl⟩⟩
theorem OwnR.below {w w' : World} {B : Nat} {v : Value} {l : List It} (h : OwnR w B v l) (hb : Below w.heap.size w w') : OwnR w' B v l :=
  World.ownsRow.kept (row := none) h ⟨hb.os, hb.tape, hb.output, hb.size, fun k hk _ => hb.block k hk⟩ (by cases hv : v.ownBlock <;> simp)
theorem OwnR.alloc {w : World} {B : Nat} {v : Value} {l : List It} (h : OwnR w B v l) (o : Obj) : OwnR (w.alloc o) B v l := World.ownsRow.alloc h o
theorem ritV_len (a : It) : (ritV a).length = 3 := rfl
theorem flat_len : ∀ (l : List It), (l.flatMap ritV).length = l.length * 3
  | [] => rfl
  | a :: l => by rw [List.flatMap_cons, List.length_append, flat_len l, ritV_len, List.length_cons]; omega
theorem flat_get : ∀ (l : List It) (k j : Nat), k < l.length → j < 3 → (l.flatMap ritV)[k * 3 + j]? = (ritV (nthI l k))[j]?
  | [], k, j, h, _ => by simp at h
  | a :: l, 0, j, _, hj => by
    rw [List.flatMap_cons, List.getElem?_append_left (by rw [ritV_len]; omega)]
    simp [nthI]
  | a :: l, k + 1, j, h, hj => by
    rw [List.flatMap_cons, List.getElem?_append_right (by rw [ritV_len]; omega), ritV_len]
    have := flat_get l k j (by simpa using h) hj
    rw [show (k + 1) * 3 + j - 3 = k * 3 + j by omega, this]
    simp [nthI, List.getD]
theorem OwnR.items {w : World} {B : Nat} {v : Value} {l : List It} (h : OwnR w B v l) (hl : 0 < l.length) : ∃ r cap, v = .slice (some ⟨r, 0, none⟩) l.length cap ∧ B ≤ r ∧ l.length ≤ cap ∧ RItems w (some ⟨r, 0, none⟩) r l := by
  rcases h.2 with ⟨rfl, hn⟩ | ⟨g, cap, cur, rfl, hg, hh, hc, hm, hs, ht⟩
  · omega
  · refine ⟨g, cap, rfl, hg, hc, fun _ => ⟨0, rfl, (Array.getElem?_eq_some_iff.1 hh).1, fun k hk => ?_⟩⟩
    have e : ∀ j, j < 3 → w.cell? ⟨g, 0 + k * 3 + j, none⟩ = (ritV (nthI l k))[j]? := by
      intro j hj
      rw [← flat_get l k j hk hj]
      have hlen : k * 3 + j < (l.flatMap ritV).length := by rw [flat_len]; omega
      have := World.ownsRow.cells h (g := g) rfl (k * 3 + j) _ (List.getElem?_eq_getElem hlen)
      have hadd : (⟨g, 0, none⟩ : Addr).add (k * 3 + j) = ⟨g, k * 3 + j, none⟩ := by unfold Addr.add; split <;> simp_all
      rw [hadd] at this
      rw [List.getElem?_eq_getElem hlen, Nat.zero_add]; exact this
    exact ⟨e 0 (by omega), e 1 (by omega), e 2 (by omega)⟩
/-- the reference's heap holds list l now -/
def RPushD (w : World) (q r : Nat) (l : List It) (t : Bool) (e : Ending) (w' : World) : Prop := e = .returned (.bool t) ∧ ∃ r', RHeapAt w' q r' l ∧ w.heap.size ≤ r' ∧ Kept [q] w w'
theorem OwnR.form {w : World} {B : Nat} {v : Value} {l : List It} (h : OwnR w B v l) : ∃ A r cap, v = .slice A l.length cap ∧ B ≤ r ∧ l.length ≤ cap ∧ RItems w A r l := by
  rcases Nat.eq_zero_or_pos l.length with h0 | h0
  · rcases h.2 with ⟨rfl, hn⟩ | ⟨g, cap, cur, rfl, hg, hh, hc, hm, hs, ht⟩
    · exact ⟨none, B, 0, by rw [hn], Nat.le_refl _, by omega, fun h => by omega⟩
    · exact ⟨_, g, cap, rfl, hg, hc, fun h => by omega⟩
  · obtain ⟨r, cap, h1, h2, h3, h4⟩ := h.items h0
    exact ⟨_, r, cap, h1, h2, h3, h4⟩
theorem rheap_end {w w4 : World} {q r n c : Nat} {A : Option Addr} {l : List It} {sl : Value} (hb : w4.heap[q]? = some (.cells #[sl] 79 (0, 0))) (hn : l.length = n) (hc : n ≤ c) (hR : RItems w4 A r l) (hq : q < w.heap.size) (hr : w.heap.size ≤ r)
    (hB : Below w.heap.size w w4) (r0 : Nat) : RPushD w q r0 l true (.returned (.bool true)) (w4.setCell ⟨q, 0, none⟩ (.slice A n c)) := by
  have hK : Kept [q] w4 (w4.setCell ⟨q, 0, none⟩ (.slice A n c)) := (Kept.refl _ _).setCell (.inl (by simp))
  refine ⟨rfl, r, ⟨A, c, ?_, by rw [hn]; exact hc, hR.kept hK (by simp; omega), by omega⟩, hr, (Kept.of_below hB).trans hK⟩
  rw [set_heapH _ _ _ _ _ _ hb, hn]; rfl
theorem wpList_append_rit {ops : Array Oper} {rest : List Oper} {o : Oper} {a : Act} {Q : Exit → Act → World → Prop} (w : World) (hgd : o.guard = none) (s x : Operand)
    (ho : o.op = .call { callee := .builtin .append, args := #[s, x], argTypes := #[77, 77] })
    (B : Nat) (v : Value) (l : List It) (z : It) (hs : a.eval s = v) (hown : OwnR w B v l) (ad : Addr) (hx : a.eval x = .slice (some ad) 1 1)
    (hc : ∀ j u, (ritV z)[j]? = some u → w.cell? (ad.add j) = some u) (hl : l.length < 1099511627776) (hB : B ≤ w.heap.size)
    (h : ∀ v' w', OwnR w' B v' (l ++ [z]) → w.grownBy w' v.ownBlock → wpList Try.prog ops Q rest (a.put o.dst v') w') : wpList Try.prog ops Q (o :: rest) a w := by
  obtain ⟨i0, hi, hz0, hz1, hz2⟩ := info_parts ritem_info
  refine wpList_append_own w hgd s x 77 ho B 85 i0 (.agg #[.int .i64 0, .int .i64 0, .int .i64 0]) 3 24 Try.underlying77 hi hz0 hz1 hz2 rfl (by decide) v l.length (l.flatMap ritV) hs hown ad 1 1 (ritV z) hx rfl hc ?_ ?_ ?_ hB ?_
  · intro u hu; simp [ritV] at hu; rcases hu with rfl | rfl | rfl <;> rfl
  · unfold maxLen; omega
  · omega
  · intro v' w' h1 h2 _
    refine h v' w' ?_ h2
    unfold OwnR
    simpa using h1
theorem below_grownR {B : Nat} {W w w' : World} {v : Value} {l : List It} (hB : Below B W w) (hs : B ≤ w.heap.size) (h : OwnR w B v l) (hg : w.grownBy w' v.ownBlock) : Below B W w' :=
  hB.grown hg hs (fun k hk => (World.ownsRow.lt h k hk).1)
theorem ins_take {l : List It} {k : Nat} (hk : k < l.length) (x : It) {st : List It × Bool} (h : (l.take k).foldl (insStep x) ([], false) = st) : (l.take (k + 1)).foldl (insStep x) ([], false) = insStep x st (nthI l k) := by
  rw [List.take_succ_eq_append_getElem hk, List.foldl_append, h, nthI_get hk]; rfl
theorem istep_skip {x y : It} {st : List It × Bool} (h : y.id = x.id) : insStep x st y = st := by unfold insStep; rw [if_pos h]
theorem istep_two {x y : It} {acc : List It} (h : y.id ≠ x.id) (hl : It.lt x y) : insStep x (acc, false) y = (acc ++ [x] ++ [y], true) := by unfold insStep; rw [if_neg h, if_pos ⟨rfl, hl⟩]
theorem istep_one {x y : It} {acc : List It} {fl : Bool} (h : y.id ≠ x.id) (hl : fl = true ∨ ¬ It.lt x y) : insStep x (acc, fl) y = (acc ++ [y], fl) := by
  unfold insStep
  rw [if_neg h, if_neg]
  rintro ⟨h1, h2⟩
  rcases hl with h' | h'
  · simp only at h1; rw [h'] at h1; cases h1
  · exact h' h2
/-- what holds at a round's head -/
def RIns (W : World) (x : It) (l : List It) (k : Nat) (v lb : Value) (wr : World) : Prop := ∃ acc fl, lb = .bool fl ∧ OwnR wr W.heap.size v acc ∧ (l.take k).foldl (insStep x) ([], false) = (acc, fl) ∧ acc.length ≤ 2 * k ∧ Below W.heap.size W wr
set_option maxRecDepth 100000 in
set_option maxHeartbeats 3200000 in
theorem refPush_yes (w : World) (q r : Nat) (l : List It) (hp : Int → Option C) (id ds dd : Int) (h : RHeapAt w q r l) (hr : RL l hp) (hl : l.length ≤ 1000) (hC : ∀ z d, hp z = some d → inCC d) (hc : inCC ⟨ds, dd⟩)
    (ht : ∀ d, hp id = some d → C.cmp ⟨ds, dd⟩ d < 0) :
    Calls Try.prog 60 #[.pointer (some ⟨q, 0, none⟩), .int .i64 id, .agg #[.int .i64 ds, .int .i64 dd]] w (RPushD w q r (insL ⟨⟨ds, dd⟩, id⟩ l) true) := by
  have h0 := Lib.hid h
  have hcc : ∀ k, k < l.length → inCC (nthI l k).c := fun k hk => hC _ _ ((hr.2 (nthI l k).id (nthI l k).c).2 (by rw [nthI_get hk]; exact List.getElem_mem hk))
  have hcc := Lib.hid hcc
  have ht' : ∀ k, k < l.length → (nthI l k).id = id → C.cmp ⟨ds, dd⟩ (nthI l k).c < 0 := fun k hk e => ht _ ((hr.2 id (nthI l k).c).2 (by rw [← e, nthI_get hk]; exact List.getElem_mem hk))
  have ht' := Lib.hid ht'
  have hq := h.lt
  obtain ⟨A, m, h1, h2, h3, h4⟩ := h
  have k0 : w.cell? ⟨q, 0, none⟩ = some (.slice A l.length m) := by simp [World.cell?, h1]
  have kf : w.frozen? ⟨q, 0, none⟩ = false := by simp [World.frozen?, h1]
  have H1 := Lib.hid h1
  have H3 := Lib.hid h3
  have hP := fun w w' (hb : Below w.heap.size w w') (h : RHeapAt w q r l) => refPlace w' q r l id (h.below hb) (by omega)
  have hP := Lib.hid hP
  clear h1 h3 ht hr hC
  go_enter Try.func60, Try.ntmps60
  go_upto_region 1 with (fail)
  refine wp_name ?_
  intro W hW
  have HW : Below w.heap.size w W := by rw [hW]; (repeat' (first | exact Below.refl _ _ | assumption | apply bel_drewN | apply bel_drew | apply bel_alloc | (refine bel_trans ?_ (by assumption))))
  have hW0 : w.heap.size < W.heap.size := by rw [hW]; simp
  have d1 : W.cell? ⟨w.heap.size, 0, none⟩ = some (.int .i64 ds) := by rw [hW]; go_simp
  have d2 : W.cell? ⟨w.heap.size, 1, none⟩ = some (.int .i64 dd) := by rw [hW]; go_simp
  clear hW
  have hqW : q < W.heap.size := by omega
  have w0 := (HW.cell (p := ⟨q, 0, none⟩) hq).trans k0
  clear k0
  go_wp2_with fail
  (with_reducible refine (hP.out w W HW h0.out).mono ?_)
  rintro e w1 ⟨z, rfl, hz, rfl⟩
  go_upto_region 2 with (fail)
  go_cut [29] (fun s wx => s = .bool false ∧ Below W.heap.size W wx)
  case first =>
    rcases hz with ⟨k, hk, rfl, hk2, _⟩ | ⟨rfl, _⟩
    · obtain ⟨⟨⟨ys, yd⟩, yi⟩, hy⟩ : ∃ y, nthI l k = y := ⟨_, rfl⟩
      obtain ⟨o, rfl, hrr, _, c2, c3⟩ := (H3.out.kept (.of_below HW) (S := []) (by simp)).one hk hy
      have hcy := hcc.out k hk
      have hty := ht'.out k hk hk2
      rw [hy] at hcy hty
      obtain ⟨cv, hcv⟩ : ∃ cv, C.cmp ⟨ds, dd⟩ ⟨ys, yd⟩ = cv := ⟨_, rfl⟩
      have cC := refCompare ds dd ys yd
      rw [hcv] at cC hty
      have cC := Lib.hid (fun w => cC w hc.1 hc.2 hcy.1 hcy.2)
      have hd : decide ((0 : Int) ≤ (k : Int)) = true := by simp
      clear hcv hy hk2 hcy
      simp only at c2 c3
      have d1q := cell_regrown d1
      have d2q := cell_regrown d2
      have w0q := cell_regrown w0
      have c2q := cell_regrown c2
      have c3q := cell_regrown c3
      have HB := Below.refl W.heap.size W
      refine wp_region_quiet_below (by kernel_rfl) (by kernel_rfl) ?_
      repeat (first | go_big_quiet_step (with_reducible exact Calls.regrown_of (cC.out _)) | quiet_step (with_reducible exact Calls.regrown_of (cC.out _)))
      refine wpQuiet_nil ?_
      intro _ hw'
      obtain ⟨⟨dq, osq⟩, hw''⟩ := hw'
      have HB2 := bel_trans HB (below_regrown W dq osq)
      have hb2 := below_regrown W dq osq
      subst hw''
      generalize grow (redrawn W dq) osq = w2 at HB2 hb2 ⊢
      go_wp2
      go_meet
      case rel => exact ⟨by rw [decide_eq_false (by omega)], HB2⟩
    · go_quiet (fail)
      go_wp2
      go_meet
      case rel => exact ⟨rfl, by (repeat' (first | exact Below.refl _ _ | assumption | apply bel_drewN | apply bel_drew | apply bel_alloc | (refine bel_trans ?_ (by assumption))))⟩
  case rest =>
    obtain ⟨rfl, HBc⟩ := hcut
    go_wp2_with fail
    have hstart : RIns W ⟨⟨ds, dd⟩, id⟩ l 0 (.slice none 0 0) (.bool false) wc := ⟨[], false, rfl, OwnR.nil _ _, rfl, by simp, HBc⟩
    clear HBc
    obtain ⟨n, hn⟩ : ∃ n, l.length = n := ⟨_, rfl⟩
    rw [hn] at hl w0 h2
    have Hn := Lib.hid hn
    clear hn hP
    go_loopw [8, 9, 10] (fun v lb iv wr => ∃ k : Nat, k ≤ n ∧ iv = .int .i64 k ∧ RIns W ⟨⟨ds, dd⟩, id⟩ l k v lb wr) (fun _ _ iv _ => n - (intOf iv).toNat)
    case atStart => exact ⟨0, by omega, rfl, hstart⟩
    case round =>
      obtain ⟨k, hk, rfl, acc, fl, rfl, hown, hfold, hacc, HBk⟩ := hrel
      clear hstart
      have hfold := Lib.hid hfold
      have w0k := (HBk.cell (p := ⟨q, 0, none⟩) (by exact hqW)).trans w0
      by_cases hlt : k < n
      · obtain ⟨⟨⟨ys, yd⟩, yi⟩, hy⟩ : ∃ y, nthI l k = y := ⟨_, rfl⟩
        obtain ⟨o, rfl, hrr, c1, c2, c3⟩ := (H3.out.kept (.of_below HW) (S := []) (by simp)).one (by rw [Hn.out]; exact hlt) hy
        have hcy := hcc.out k (by rw [Hn.out]; exact hlt)
        rw [hy] at hcy
        simp only at c1 c2 c3
        have c1k := (HBk.cell hrr).trans c1
        have c2k := (HBk.cell hrr).trans c2
        have c3k := (HBk.cell hrr).trans c3
        have hft := Lib.hid (ins_take (by rw [Hn.out]; exact hlt) ⟨⟨ds, dd⟩, id⟩ hfold.out)
        have Hy := Lib.hid hy
        clear hy
        by_cases e : yi = id
        · subst e
          go_wp2
          go_roundw
          case rel => exact ⟨k + 1, by omega, by go_num, acc, fl, rfl, hown, by rw [hft.out, Hy.out]; exact istep_skip rfl, by omega, HBk⟩
          case measure => simp [intOf]; omega
        · obtain ⟨cv, hcv⟩ : ∃ cv, C.cmp ⟨ds, dd⟩ ⟨ys, yd⟩ = cv := ⟨_, rfl⟩
          have cC := refCompare ds dd ys yd
          rw [hcv] at cC
          have cC := Lib.hid (fun w => cC w hc.1 hc.2 hcy.1 hcy.2)
          have hlt3 := lt_cases ⟨⟨ds, dd⟩, id⟩ ⟨⟨ys, yd⟩, yi⟩ cv hcv
          have Hlt3 := Lib.hid hlt3
          have hcvs : cv = -1 ∨ cv = 0 ∨ cv = 1 := by rw [← hcv]; exact C.cmp_cases _ _
          have d1k := (HBk.cell (by exact hW0)).trans d1
          have d2k := (HBk.cell (by exact hW0)).trans d2
          have d1q := cell_regrown d1k
          have d2q := cell_regrown d2k
          have w0q := cell_regrown w0k
          have c2q := cell_regrown c2k
          have c3q := cell_regrown c3k
          have Hcvs := Lib.hid hcvs
          clear hcv hcvs hlt3 hcy
          go_upto_region 10 with (fail)
          refine wp_region_quiet_below (by kernel_rfl) (by kernel_rfl) ?_
          repeat (first | go_big_quiet_step (with_reducible exact Calls.regrown_of (cC.out _)) | quiet_step (with_reducible exact Calls.regrown_of (cC.out _)))
          refine wpQuiet_nil ?_
          intro _ hw'
          obtain ⟨⟨dq, osq⟩, hw''⟩ := hw'
          have HB2 := bel_trans HBk (below_regrown wr dq osq)
          have hb2 := below_regrown wr dq osq
          subst hw''
          generalize grow (redrawn wr dq) osq = w2 at HB2 hb2 ⊢
          have hown2 := hown.below hb2
          clear d1q d2q w0q c2q c3q d1k d2k w0k c1k c2k c3k hown hb2
          have w0k := (HB2.cell (p := ⟨q, 0, none⟩) (by exact hqW)).trans w0
          have c1k := (HB2.cell hrr).trans c1
          have c2k := (HB2.cell hrr).trans c2
          have c3k := (HB2.cell hrr).trans c3
          have d1k := (HB2.cell (by exact hW0)).trans d1
          have d2k := (HB2.cell (by exact hW0)).trans d2
          have hz2 := HB2.size
          go_upto_region 11 with (fail)
          obtain ⟨b, hb⟩ : ∃ b, decide (fl = false ∧ It.lt ⟨⟨ds, dd⟩, id⟩ ⟨⟨ys, yd⟩, yi⟩) = b := ⟨_, rfl⟩
          have Hb := Lib.hid hb
          clear hb
          go_cut [80] (fun s wx => s = .bool b ∧ wx = w2)
          case first =>
            cases fl
            · rcases Hcvs.out with rfl | rfl | rfl
              · go_wp2
                go_meet
                case rel => exact ⟨by rw [← Hb.out, decide_eq_true (by rw [Hlt3.out]; simp)], rfl⟩
              · by_cases hi : id < yi
                · go_wp2
                  go_meet
                  case rel => exact ⟨by rw [← Hb.out, decide_eq_true (by rw [Hlt3.out]; simp [hi])], rfl⟩
                · go_wp2
                  go_meet
                  case rel => exact ⟨by rw [← Hb.out, decide_eq_false (by rw [Hlt3.out]; omega)], rfl⟩
              · go_wp2
                go_meet
                case rel => exact ⟨by rw [← Hb.out, decide_eq_false (by rw [Hlt3.out]; omega)], rfl⟩
            · go_wp2
              go_meet
              case rel => exact ⟨by rw [← Hb.out, decide_eq_false (by simp)], rfl⟩
          case rest =>
            obtain ⟨rfl, rfl⟩ := hcut
            have e' : (⟨⟨ys, yd⟩, yi⟩ : It).id ≠ (⟨⟨ds, dd⟩, id⟩ : It).id := e
            have e' := Lib.hid e'
            cases b with
            | false =>
              have hs := istep_one (acc := acc) (fl := fl) e'.out (by
                have := of_decide_eq_false Hb.out
                cases fl
                · right; intro h; exact this ⟨rfl, h⟩
                · exact .inl rfl)
              have hft2 := Lib.hid ((hft.out.trans (by rw [Hy.out])).trans hs)
              clear hs
              go_wp2_with (at_builtin; (refine wpList_append_rit _ rfl _ _ rfl W.heap.size _ _ ⟨⟨ys, yd⟩, yi⟩ rfl (hown2.alloc _) ⟨wc.heap.size, 0, none⟩ rfl (World.news_of_block (cs := #[.int .i64 yi, .int .i64 ys, .int .i64 yd]) (heap_alloc_new _ _)) (by omega) (by simp; omega) ?_); intro v' w3 hown3 hgrow)
              have HB3 := below_grownR (HB2.alloc (by omega) _) (by simp; omega) (hown2.alloc _) hgrow
              clear hgrow hown2 w0k c1k c2k c3k d1k d2k
              go_wp2
              go_roundw
              case rel => first | exact ⟨k + 1, by omega, by go_num, _, _, rfl, hown3, hft2.out, by simp; omega, HB3⟩ | ((repeat apply Exists.intro); exact ⟨⟨k + 1, by omega, by go_num, _, _, rfl, hown3, hft2.out, by simp; omega, HB3⟩, rfl⟩)
              case measure => simp [intOf]; omega
            | true =>
              obtain ⟨rfl, hlx⟩ := of_decide_eq_true Hb.out
              have hs := istep_two (acc := acc) e'.out hlx
              have hft2 := Lib.hid ((hft.out.trans (by rw [Hy.out])).trans hs)
              clear hs hlx
              go_upto_region 13 with (at_builtin; (refine wpList_append_rit _ rfl _ _ rfl W.heap.size _ _ ⟨⟨ds, dd⟩, id⟩ rfl (hown2.alloc _) ⟨wc.heap.size, 0, none⟩ rfl (World.news_of_block (cs := #[.int .i64 id, .int .i64 ds, .int .i64 dd]) (heap_alloc_new _ _)) (by omega) (by simp; omega) ?_); intro v' w3 hown3 hgrow)
              have HB3 := below_grownR (HB2.alloc (by omega) _) (by simp; omega) (hown2.alloc _) hgrow
              clear hgrow hown2 w0k c1k c2k c3k d1k d2k
              have w0k := (HB3.cell (p := ⟨q, 0, none⟩) (by exact hqW)).trans w0
              have c1k := (HB3.cell hrr).trans c1
              have c2k := (HB3.cell hrr).trans c2
              have c3k := (HB3.cell hrr).trans c3
              have hz3 := HB3.size
              have hl3 : (acc ++ [(⟨⟨ds, dd⟩, id⟩ : It)]).length ≤ 2 * k + 1 := by simp; omega
              go_wp2_with (at_builtin; (refine wpList_append_rit _ rfl _ _ rfl W.heap.size _ _ ⟨⟨ys, yd⟩, yi⟩ rfl (hown3.alloc _) ⟨w3.heap.size, 0, none⟩ rfl (World.news_of_block (cs := #[.int .i64 yi, .int .i64 ys, .int .i64 yd]) (heap_alloc_new _ _)) (by omega) (by simp; omega) ?_); intro v'' w4 hown4 hgrow)
              have HB4 := below_grownR (HB3.alloc (by omega) _) (by simp; omega) (hown3.alloc _) hgrow
              clear hgrow hown3 w0k c1k c2k c3k
              go_wp2
              go_roundw
              case rel => first | exact ⟨k + 1, by omega, by go_num, _, _, rfl, hown4, hft2.out, by simp; omega, HB4⟩ | ((repeat apply Exists.intro); exact ⟨⟨k + 1, by omega, by go_num, _, _, rfl, hown4, hft2.out, by simp; omega, HB4⟩, rfl⟩)
              case measure => simp [intOf]; omega
      · obtain rfl : k = n := by omega
        have hend : insL ⟨⟨ds, dd⟩, id⟩ l = insEnd ⟨⟨ds, dd⟩, id⟩ (acc, fl) := by rw [insL_eq, ← hfold.out, ← Hn.out, List.take_length]
        have Hend := Lib.hid hend
        have d1k := (HBk.cell (by exact hW0)).trans d1
        have d2k := (HBk.cell (by exact hW0)).trans d2
        have kfk := ((HW.trans (HBk.mono HW.size)).frozen (p := ⟨q, 0, none⟩) hq).trans kf
        have hb1 := ((HW.trans (HBk.mono HW.size)).block q hq).trans H1.out
        clear hend
        have hz2 := HBk.size
        have hqk := Lib.hid hb1
        have hBB := HW.trans (HBk.mono HW.size)
        clear hb1
        cases fl with
        | true =>
          obtain ⟨A4, r4, c4, rfl, hr4, hc4, hR4⟩ := hown.form
          have hR4 := Lib.hid hR4
          obtain ⟨n4, hn4⟩ : ∃ n4, acc.length = n4 := ⟨_, rfl⟩
          rw [hn4] at hc4 ⊢
          have Hn4 := Lib.hid hn4
          clear hn4 hown
          go_wp2
          go_ret
          rw [Hend.out]
          exact rheap_end hqk.out Hn4.out hc4 hR4.out hq (by omega) hBB r
        | false =>
          go_upto_region 17 with (at_builtin; (refine wpList_append_rit _ rfl _ _ rfl W.heap.size _ _ ⟨⟨ds, dd⟩, id⟩ rfl (hown.alloc _) ⟨wr.heap.size, 0, none⟩ rfl (World.news_of_block (cs := #[.int .i64 id, .int .i64 ds, .int .i64 dd]) (heap_alloc_new _ _)) (by omega) (by simp; omega) ?_); intro v'' w4 hown4 hgrow)
          have HB4 := below_grownR (HBk.alloc (by omega) _) (by simp; omega) (hown.alloc _) hgrow
          clear hgrow hown w0k d1k d2k kfk hqk
          have hBB := HW.trans (HB4.mono HW.size)
          have kfk := (hBB.frozen (p := ⟨q, 0, none⟩) hq).trans kf
          have w0k := (HB4.cell (p := ⟨q, 0, none⟩) (by exact hqW)).trans w0
          have hb4 := Lib.hid ((hBB.block q hq).trans H1.out)
          obtain ⟨A4, r4, c4, rfl, hr4, hc4, hR4⟩ := hown4.form
          have hR4 := Lib.hid hR4
          obtain ⟨n4, hn4⟩ : ∃ n4, (acc ++ [(⟨⟨ds, dd⟩, id⟩ : It)]).length = n4 := ⟨_, rfl⟩
          rw [hn4] at hc4 ⊢
          have Hn4 := Lib.hid hn4
          clear hn4 hown4
          go_wp2
          go_ret
          rw [Hend.out]
          exact rheap_end hb4.out Hn4.out hc4 hR4.out hq (by omega) hBB r
set_option maxRecDepth 100000 in
set_option maxHeartbeats 1600000 in
theorem refPush_no (w : World) (q r : Nat) (l : List It) (hp : Int → Option C) (id ds dd : Int) (d : C) (h : RHeapAt w q r l) (hr : RL l hp) (hl : l.length ≤ 1000) (hC : ∀ z d, hp z = some d → inCC d) (hc : inCC ⟨ds, dd⟩)
    (hd : hp id = some d) (ht : ¬ C.cmp ⟨ds, dd⟩ d < 0) :
    Calls Try.prog 60 #[.pointer (some ⟨q, 0, none⟩), .int .i64 id, .agg #[.int .i64 ds, .int .i64 dd]] w fun e w' => e = .returned (.bool false) ∧ Below w.heap.size w w' := by
  have h0 := Lib.hid h
  obtain ⟨es, ed⟩ := d
  have hcd := hC _ _ hd
  have hmem := (hr.2 id ⟨es, ed⟩).1 hd
  obtain ⟨k, hk, hk2⟩ := List.getElem_of_mem hmem
  have hny : nthI l k = ⟨⟨es, ed⟩, id⟩ := by rw [nthI_get hk, hk2]
  have hpl : ∀ z, PlaceIs l id z → z = k := by
    rintro z (⟨j, hj, rfl, hj2, _⟩ | ⟨_, hno⟩)
    · have := hr.ids (i := j) (j := k) hj hk (by rw [← nthI_get hj, ← nthI_get hk, hj2, hny])
      rw [this]
    · exact absurd (by rw [hny]) (hno k hk)
  have hpl := Lib.hid hpl
  obtain ⟨A, m, h1, h2, h3, h4⟩ := h
  obtain ⟨o, rfl, hrr, _, c2, c3⟩ := h3.one hk hny
  have hq := (Array.getElem?_eq_some_iff.1 h1).1
  have k0 : w.cell? ⟨q, 0, none⟩ = some (.slice (some ⟨r, o, none⟩) l.length m) := by simp [World.cell?, h1]
  have cC := refCompare ds dd es ed
  obtain ⟨cv, hcv⟩ : ∃ cv, C.cmp ⟨ds, dd⟩ ⟨es, ed⟩ = cv := ⟨_, rfl⟩
  rw [hcv] at cC ht
  have cC := Lib.hid (fun w => cC w hc.1 hc.2 hcd.1 hcd.2)
  have hP := Lib.hid (fun w w' (hb : Below w.heap.size w w') (h : RHeapAt w q r l) => refPlace w' q r l id (h.below hb) (by omega))
  have hd0 : decide ((0 : Int) ≤ (k : Int)) = true := by simp
  simp only at c2 c3
  clear h1 h3 hr hC hcv hd hny hk2 hmem hcd
  go_enter Try.func60, Try.ntmps60
  go_upto_region 1 with (fail)
  refine wp_name ?_
  intro W hW
  have HW : Below w.heap.size w W := by rw [hW]; (repeat' (first | exact Below.refl _ _ | assumption | apply bel_drewN | apply bel_drew | apply bel_alloc | (refine bel_trans ?_ (by assumption))))
  have d1 : W.cell? ⟨w.heap.size, 0, none⟩ = some (.int .i64 ds) := by rw [hW]; go_simp
  have d2 : W.cell? ⟨w.heap.size, 1, none⟩ = some (.int .i64 dd) := by rw [hW]; go_simp
  clear hW
  have w0 := (HW.cell (p := ⟨q, 0, none⟩) hq).trans k0
  have e2 := (HW.cell hrr).trans c2
  have e3 := (HW.cell hrr).trans c3
  clear k0 c2 c3
  go_wp2_with fail
  (with_reducible refine (hP.out w W HW h0.out).mono ?_)
  rintro e w1 ⟨z, rfl, hz, rfl⟩
  have := hpl.out z hz
  subst this
  have d1q := cell_regrown d1
  have d2q := cell_regrown d2
  have w0q := cell_regrown w0
  have e2q := cell_regrown e2
  have e3q := cell_regrown e3
  have HB := Below.refl W.heap.size W
  go_upto_region 2 with (fail)
  refine wp_region_quiet_below (by kernel_rfl) (by kernel_rfl) ?_
  repeat (first | go_big_quiet_step (with_reducible exact Calls.regrown_of (cC.out _)) | quiet_step (with_reducible exact Calls.regrown_of (cC.out _)))
  refine wpQuiet_nil ?_
  intro _ hw'
  obtain ⟨⟨dq, osq⟩, hw''⟩ := hw'
  have HB2 := bel_trans HB (below_regrown W dq osq)
  have hb2 := below_regrown W dq osq
  subst hw''
  generalize grow (redrawn W dq) osq = w2 at HB2 hb2 ⊢
  have ht2 : decide (0 ≤ cv) = true := by simp; omega
  clear d1q d2q w0q e2q e3q
  go_wp2
  go_ret
  exact ⟨rfl, bel_trans HW HB2⟩
end Go.Proofs.Ytkiogciokngjfaa
