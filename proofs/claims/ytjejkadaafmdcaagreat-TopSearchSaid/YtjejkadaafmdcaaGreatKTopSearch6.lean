/- Lemmas of this claim: Heap7, Heap8. -/
import Derived.Test.YtjejkadaafmdcaaGreatKTopSearch5
import Derived.Deep.RegionHeld3
set_option linter.unusedVariables false
set_option linter.unusedSimpArgs false
/- Push onto a heap. -/
namespace Go.Proofs.YtjejkadaafmdcaaGreat
open Go.RowKit Go.Sort FR
/-- t is handed back; the heap holds what it is told -/
def HeapD (w : World) (S : List Nat) (b n : Nat) (hp : Int → Option C) (v : Value) (e : Ending) (w' : World) : Prop :=
  e = .returned v ∧ ∃ S', HeapOf w' S' b n hp ∧ (∀ k ∈ S', k ∈ S ∨ w.heap.size ≤ k) ∧ Kept S w w'
theorem Filled.heapOf {w0 w : World} {b rb cap n mb : Nat} {c0 : Nat → It} {hp : Int → Option C} (h : Filled w0 w b rb cap n mb c0) (h1 : b ≠ rb) (h2 : b ≠ mb) (h3 : rb ≠ mb) (hh : Holds n c0 hp) (hc : ∀ z d, hp z = some d → inCC d) :
    HeapOf w [b, rb, mb] b n hp ∧ Kept [rb, mb] w0 w := by
  obtain ⟨c, m, N, ⟨f1, f2⟩, f3, f4, f5, f6, f7, f8⟩ := h
  exact ⟨⟨mb, m, N, c, _, f1, f3, h2, .inr ⟨rb, cap, rfl, f2, h1, h3, rfl⟩, f6, Holds.same hh f7, f5, f4, hc⟩, f8⟩
theorem hset_cc {hp : Int → Option C} {i : Int} {c : C} (h : ∀ z d, hp z = some d → inCC d) (hc : inCC c) : ∀ z d, hset hp i (some c) z = some d → inCC d := by
  intro z d hz
  unfold hset at hz
  by_cases e : z = i
  · rw [if_pos e] at hz; injection hz with hz; rwa [← hz]
  · rw [if_neg e] at hz; exact h z d hz
theorem item_zero : (Tryz.prog.info? 176).map (fun i => (i.zero, i.size, i.bytes)) = some (some (.agg #[.int .i64 0, .int .i64 0, .int .i64 0]), 3, 24) := by kernel_rfl
theorem RowOk.own {w : World} {b mb n : Nat} {sl : Value} {c : Nat → It} {S : List Nat} (h : RowOk w b mb sl n c S) (hb : b ≠ mb) : sl.ownBlock ≠ some b ∧ sl.ownBlock ≠ some mb ∧ (∀ k, sl.ownBlock = some k → k ∈ S) ∧ b ∈ S ∧ mb ∈ S := by
  rcases h with ⟨rfl, rfl, rfl⟩ | ⟨rb, cap, rfl, hI, h1, h2, rfl⟩
  · refine ⟨by simp [Value.ownBlock], by simp [Value.ownBlock], by simp [Value.ownBlock], by simp, by simp⟩
  · refine ⟨?_, ?_, ?_, by simp, by simp⟩ <;> simp [Value.ownBlock]
    · exact fun e => h1 e.symm
    · exact h2
theorem MapAt.grown {w w' : World} {b N : Nat} {m : Int → Option Value} {row : Option Nat} (h : MapAt (fun z : Int => Value.int .i64 z) w b m N) (hg : w.grownBy w' row) (hb : row ≠ some b) : MapAt (fun z : Int => Value.int .i64 z) w' b m N := by
  have hl := h.lt
  obtain ⟨es, clk, h1, h2⟩ := h
  exact ⟨es, clk, (hg.block b hl (Ne.symm hb)).trans h1, h2⟩
theorem Kept.grown {S : List Nat} {a w w' : World} {row : Option Nat} (h : Kept S a w) (hg : w.grownBy w' row) (hr : ∀ k, row = some k → k ∈ S ∨ a.heap.size ≤ k) : Kept S a w' := by
  refine ⟨hg.os.trans h.os, hg.tape.trans h.tape, hg.output.trans h.output, Nat.le_trans h.size hg.size, fun k hk hn => ?_⟩
  refine (hg.block k (Nat.lt_of_lt_of_le hk h.size) ?_).trans (h.block k hk hn)
  intro e
  rcases hr k e.symm with h' | h'
  · exact hn h'
  · omega
/-- what lies in memory behind the append -/
theorem push_lay {w W1 w1 : World} {S : List Nat} {b mb n N g cap : Nat} {c : Nat → It} {m : Int → Option Value} {sl : Value} {xs : List Value} {x : It}
    (hb : w.heap[b]? = some (.cells #[sl, .map (some mb)] 173 (0, 0))) (hM : MapAt (fun z : Int => Value.int .i64 z) w mb m N) (hne : b ≠ mb) (ag : sl.ownBlock ≠ some b) (am : sl.ownBlock ≠ some mb)
    (aS : ∀ k, sl.ownBlock = some k → k ∈ S) (ab : b ∈ S) (hW : Below w.heap.size w W1)
    (hown : w1.ownsRow 0 176 3 (.slice (some ⟨g, 0, none⟩) (n + 1) cap) (n + 1) xs) (hl : Lies xs (n + 1) (upd c n x)) (hg : W1.grownBy w1 sl.ownBlock) (hat : sl.ownBlock = some g ∨ w.heap.size ≤ g) :
    HeapIn (w1.setCell ⟨b, 0, none⟩ (.slice (some ⟨g, 0, none⟩) (n + 1) cap)) b g cap (n + 1) mb (upd c n x) ∧ MapAt (fun z : Int => Value.int .i64 z) (w1.setCell ⟨b, 0, none⟩ (.slice (some ⟨g, 0, none⟩) (n + 1) cap)) mb m N ∧ b ≠ g ∧ g ≠ mb ∧
      Kept S w (w1.setCell ⟨b, 0, none⟩ (.slice (some ⟨g, 0, none⟩) (n + 1) cap)) ∧ (g ∈ S ∨ w.heap.size ≤ g) := by
  have lb := (Array.getElem?_eq_some_iff.1 hb).1
  have lm := hM.lt
  have bg : b ≠ g := by
    rintro rfl
    rcases hat with h | h
    · exact ag h
    · omega
  have gm : g ≠ mb := by
    rintro rfl
    rcases hat with h | h
    · exact am h
    · omega
  have hb1 : w1.heap[b]? = some (.cells #[sl, .map (some mb)] 173 (0, 0)) := (hg.block b (Nat.lt_of_lt_of_le lb hW.size) (Ne.symm ag)).trans ((hW.block b lb).trans hb)
  have hM1 := (hM.below hW).grown hg am
  have hI := ItemsIn.of_owns hown hl
  have hK1 : Kept S w w1 := (Kept.of_below hW).grown hg (fun k e => .inl (aS k e))
  have hK3 : Kept [b] w1 (w1.setCell ⟨b, 0, none⟩ (.slice (some ⟨g, 0, none⟩) (n + 1) cap)) := (Kept.refl _ _).setCell (.inl (by simp))
  refine ⟨⟨?_, hI.kept hK3 (by simpa using Ne.symm bg)⟩, hM1.kept hK3 (by simpa using Ne.symm hne), bg, gm, hK1.setCell (.inl ab), ?_⟩
  · rw [set_heapH _ _ _ _ _ _ hb1]; rfl
  · rcases hat with h | h
    · exact .inl (aS g h)
    · exact .inr h
theorem heapOf_end {w w3 w4 : World} {S : List Nat} {b n g cap mb : Nat} {c : Nat → It} {hp : Int → Option C} (hF : Filled w3 w4 b g cap n mb c) (h1 : b ≠ g) (h2 : b ≠ mb) (h3 : g ≠ mb) (hH : Holds n c hp) (hC : ∀ z d, hp z = some d → inCC d)
    (hK : Kept S w w3) (ab : b ∈ S) (amS : mb ∈ S) (hg : g ∈ S ∨ w.heap.size ≤ g) (t : Value) : HeapD w S b n hp t (.returned t) w4 := by
  obtain ⟨q1, q2⟩ := hF.heapOf h1 h2 h3 hH hC
  refine ⟨rfl, _, q1, ?_, ?_⟩
  · intro k hk
    simp at hk
    rcases hk with rfl | rfl | rfl
    · exact .inl ab
    · exact hg
    · exact .inl amS
  · refine ⟨q2.os.trans hK.os, q2.tape.trans hK.tape, q2.output.trans hK.output, Nat.le_trans hK.size q2.size, fun k hk hn => ?_⟩
    refine (q2.block k (Nat.lt_of_lt_of_le hk hK.size) ?_).trans (hK.block k hk hn)
    simp
    constructor
    · rintro rfl
      rcases hg with hg | hg
      · exact hn hg
      · omega
    · rintro rfl; exact hn amS
set_option maxRecDepth 100000 in
set_option maxHeartbeats 3200000 in
theorem heapPush_new (w : World) (S : List Nat) (b n : Nat) (hp : Int → Option C) (id ds dd : Int) (h : HeapOf w S b n hp) (hz : hp id = none) (hc : inCC ⟨ds, dd⟩) (hn : n ≤ 1000000) :
    Calls Tryz.prog 115 #[.pointer (some ⟨b, 0, none⟩), .int .i64 id, .agg #[.int .i64 ds, .int .i64 dd]] w (HeapD w S b (n + 1) (hset hp id (some ⟨ds, dd⟩)) (.bool true)) := by
  have hSl := h.lt
  obtain ⟨mb, m, N, c, sl, hb, hM, hne, hR, hP, hH, hD, hL, hC⟩ := h
  have lb := (Array.getElem?_eq_some_iff.1 hb).1
  have lm := hM.lt
  have hHp := Lib.hid (Holds.push hH ⟨⟨ds, dd⟩, id⟩ hz)
  have hDp := Lib.hid (Dst.push hD hH ⟨⟨ds, dd⟩, id⟩ hz)
  have hPp := Lib.hid (hP.push ⟨⟨ds, dd⟩, id⟩)
  have hLp := Lib.hid (heap_push (x := ⟨⟨ds, dd⟩, id⟩) hL)
  have hCp := Lib.hid (hset_cc (i := id) hC hc)
  obtain ⟨ag, am, aS, ab, amS⟩ := hR.own hne
  have aS := Lib.hid aS
  obtain ⟨xs, hown, hlies⟩ := hR.owns
  have hl := mapLook_out (hM.below (w' := w.alloc (.cells #[.int .i64 ds, .int .i64 dd] 68)) (bel_alloc (Below.refl _ _))) (hP.none hH hz)
  have hlies := Lib.hid (hlies.push hown.1 ⟨⟨ds, dd⟩, id⟩)
  obtain ⟨i0, hi0, hz0, hz1, hz2⟩ := info_parts item_zero
  have k0 : w.cell? ⟨b, 0, none⟩ = some sl := by simp [World.cell?, hb]
  have k1 : w.cell? ⟨b, 1, none⟩ = some (.map (some mb)) := by simp [World.cell?, hb]
  have kf : w.frozen? ⟨b, 0, none⟩ = false := by simp [World.frozen?, hb]
  have Hb := Lib.hid hb
  have HM := Lib.hid hM
  clear hb hM hR hP hH hD hL hC hz
  go_enter Tryz.func115, Tryz.ntmps115
  go_upto_region 1 with (fail)
  refine wp_name ?_
  intro W hW
  have HW : Below w.heap.size w W := by rw [hW]; (repeat' (first | exact Below.refl _ _ | assumption | apply bel_drewN | apply bel_drew | apply bel_alloc | (refine bel_trans ?_ (by assumption))))
  have hW0 : w.heap.size < W.heap.size := by rw [hW]; simp
  have d1 : W.cell? ⟨w.heap.size, 0, none⟩ = some (.int .i64 ds) := by rw [hW]; go_simp
  have d2 : W.cell? ⟨w.heap.size, 1, none⟩ = some (.int .i64 dd) := by rw [hW]; go_simp
  rw [← hW] at hl
  have hown1 : W.ownsRow 0 176 3 sl n xs := by rw [hW]; exact hown.alloc _
  clear hW
  have an : sl.ownBlock ≠ some w.heap.size := by
    intro e
    have := aS.out _ e
    have := hSl _ this
    omega
  have w0 := (HW.cell (p := ⟨b, 0, none⟩) lb).trans k0
  have w1 := (HW.cell (p := ⟨b, 1, none⟩) lb).trans k1
  have wf := (HW.frozen (p := ⟨b, 0, none⟩) lb).trans kf
  have wfa : ∀ o, (W.alloc o).drew.frozen? ⟨b, 0, none⟩ = false := fun o => by
    have := ((bel_alloc (Below.refl _ W) (o := o)).drew.frozen (p := ⟨b, 0, none⟩) (by simp; omega)).trans wf
    exact this
  have wca : ∀ o, (W.alloc o).drew.cell? ⟨b, 0, none⟩ = some sl := fun o => by
    have := ((bel_alloc (Below.refl _ W) (o := o)).drew.cell (p := ⟨b, 0, none⟩) (by simp; omega)).trans w0
    exact this
  clear k0 k1 kf hown
  go_upto_region 3 with (fail)
  go_region_law
    ((refine step_append_lies _ (by rfl) _ _ _ (by rfl) 0 176 i0 _ 3 24 Tryz.underlying171 hi0 hz0 hz1 hz2 rfl (by omega) sl n xs (by rfl) ((hown1.alloc _).drew)
        ⟨W.heap.size, 0, none⟩ 1 1 [.int .i64 ds, .int .i64 dd, .int .i64 id] (by rfl) (by rfl) (World.news_of_block (cs := #[.int .i64 ds, .int .i64 dd, .int .i64 id]) (t := 176) (fr := (0, 0)) (heap_alloc_new W _)) (by simp [Value.oneCell'])
        (by omega) (by unfold maxLen; omega) (by omega) (by simp) (W.heap.size + 1) (by simp) ?_; intro g cap w1 hown2 hgrow hat hlt; have u0 := (hgrow.cell_far ⟨b, 0, none⟩ (by simp; omega) (Ne.symm ag)).trans (wca _); have u1 := (hgrow.frozen_far ⟨b, 0, none⟩ (by simp; omega) (Ne.symm ag)).trans (wfa _)))
  all_goals
    obtain ⟨hI, hM3, bg, gm, hK, hgS⟩ := push_lay (x := ⟨⟨ds, dd⟩, id⟩) (S := S) Hb.out HM.out hne ag am aS.out ab (bel_trans HW (bel_drew (bel_alloc (Below.refl _ _)))) hown2 hlies.out hgrow (hat.imp_right fun e => by omega)
    clear hown2 hgrow hat hlt u0 u1
    generalize (w1.setCell ⟨b, 0, none⟩ (.slice (some ⟨g, 0, none⟩) (n + 1) cap)) = w3 at *
    have kb := hI.1
    have x0 : w3.cell? ⟨b, 0, none⟩ = some (.slice (some ⟨g, 0, none⟩) (n + 1) cap) := by simp [World.cell?, kb]
    have cU := Lib.hid (heapUp w3 b g cap (n + 1) mb N (upd c n ⟨⟨ds, dd⟩, id⟩) m n hI hM3 (by omega) bg hne gm (Holds.cc hHp.out hCp.out) hLp.out hDp.out (by rw [upd_same]; exact hPp.out))
    clear kb hI hM3
    go_wp2_with fail
    (with_reducible refine (cU.out).mono ?_)
    rintro e w4 ⟨rfl, hF⟩
    have hE := heapOf_end hF bg hne gm hHp.out hCp.out hK ab amS hgS (.bool true)
    clear hF hK
    go_wp2
    go_ret
    exact hE
theorem ItemsIn.set2 {w : World} {b cap n : Nat} {c : Nat → It} (h : ItemsIn w b cap n c) {i : Nat} (hi : i < n) (x : It) (hx : x.id = (c i).id) :
    ItemsIn ((w.setCell ⟨b, i * 3, none⟩ (.int .i64 x.c.s)).setCell ⟨b, i * 3 + 1, none⟩ (.int .i64 x.c.d)) b cap n (upd c i x) := by
  obtain ⟨h1, h2, cur, h3, h4, h5⟩ := h
  refine ⟨h1, h2, _, set_heapH _ _ _ _ _ _ (set_heapH _ _ _ _ _ _ h3), by simp [h4], ?_⟩
  intro k hk
  obtain ⟨a1, a2, a3⟩ := h5 k hk
  by_cases e : k = i
  · subst e
    simp only [Array.getElem?_setIfInBounds, Array.size_setIfInBounds, upd]
    simp [a3, hx]
    omega
  · simp only [Array.getElem?_setIfInBounds, upd, if_neg e]
    rw [if_neg (by omega), if_neg (by omega), if_neg (by omega), if_neg (by omega), if_neg (by omega), if_neg (by omega)]
    exact ⟨a1, a2, a3⟩
set_option maxRecDepth 100000 in
set_option maxHeartbeats 3200000 in
theorem heapPush_old (w : World) (S : List Nat) (b n : Nat) (hp : Int → Option C) (id ds dd es ed : Int) (t : Bool) (h : HeapOf w S b n hp) (hz : hp id = some ⟨es, ed⟩) (hc : inCC ⟨ds, dd⟩) (ht : decide (C.cmp ⟨ds, dd⟩ ⟨es, ed⟩ < 0) = t) :
    Calls Tryz.prog 115 #[.pointer (some ⟨b, 0, none⟩), .int .i64 id, .agg #[.int .i64 ds, .int .i64 dd]] w (HeapD w S b n (if t = true then hset hp id (some ⟨ds, dd⟩) else hp) (.bool t)) := by
  have h0 := h
  have H0 := Lib.hid h0
  obtain ⟨mb, m, N, c, sl, hb, hM, hne, hR, hP, hH, hD, hL, hC⟩ := h
  have lb := (Array.getElem?_eq_some_iff.1 hb).1
  have lm := hM.lt
  obtain ⟨k, hk, hck, hmk⟩ := hP.some hH hz
  have hl := mapLook_in (hM.below (w' := w.alloc (.cells #[.int .i64 ds, .int .i64 dd] 68)) (bel_alloc (Below.refl _ _))) hmk
  obtain ⟨ag, am, aS, ab, amS⟩ := hR.own hne
  rcases hR with ⟨_, hn0, _⟩ | ⟨rb, cap, rfl, hI, hbr, hrm, hS⟩
  · omega
  have lr := hI.lt
  have hcap := hI.1
  have hrS : rb ∈ S := by rw [hS]; simp
  have hCe := hC _ _ hz
  have hHp := Lib.hid (Holds.turn hH hD hk ⟨⟨ds, dd⟩, id⟩ (by rw [hck]))
  have hDp := Lib.hid (Dst.turn hD hk ⟨⟨ds, dd⟩, id⟩ (by rw [hck]))
  have hPp := Lib.hid (hP.turn hk ⟨⟨ds, dd⟩, id⟩ (by rw [hck]))
  have hCp := Lib.hid (hset_cc (i := id) hC hc)
  have hLp : t = true → HeapUp n (upd c k ⟨⟨ds, dd⟩, id⟩) k := by
    intro e
    refine heap_less hk hL (It.le_of_lt ?_)
    rw [hck]
    rw [e] at ht
    exact .inl (C.cmp_neg.1 (of_decide_eq_true ht))
  have hLp := Lib.hid hLp
  have hck' := Lib.hid (show (⟨⟨ds, dd⟩, id⟩ : It).id = (c k).id by rw [hck])
  obtain ⟨c1, c2, c3⟩ := hI.cells hk
  rw [hck] at c1 c2 c3
  simp only at c1 c2 c3
  have k0 : w.cell? ⟨b, 0, none⟩ = some (.slice (some ⟨rb, 0, none⟩) n cap) := by simp [World.cell?, hb]
  have k1 : w.cell? ⟨b, 1, none⟩ = some (.map (some mb)) := by simp [World.cell?, hb]
  have cL := costLess ds dd es ed
  rw [ht] at cL
  have cL := Lib.hid (fun w => cL w hc.1 hc.2 hCe.1 hCe.2)
  have Hb := Lib.hid hb
  have HM := Lib.hid hM
  have HI := Lib.hid hI
  clear hb hM hP hH hD hL hC hz hck hmk ht hI hS hCe aS c3 h0
  go_enter Tryz.func115, Tryz.ntmps115
  go_upto_region 1 with (fail)
  refine wp_name ?_
  intro W hW
  have HW : Below w.heap.size w W := by rw [hW]; (repeat' (first | exact Below.refl _ _ | assumption | apply bel_drewN | apply bel_drew | apply bel_alloc | (refine bel_trans ?_ (by assumption))))
  have hW0 : w.heap.size < W.heap.size := by rw [hW]; simp
  have d1 : W.cell? ⟨w.heap.size, 0, none⟩ = some (.int .i64 ds) := by rw [hW]; go_simp
  have d2 : W.cell? ⟨w.heap.size, 1, none⟩ = some (.int .i64 dd) := by rw [hW]; go_simp
  rw [← hW] at hl
  clear hW
  have w0 := (HW.cell (p := ⟨b, 0, none⟩) lb).trans k0
  have w1 := (HW.cell (p := ⟨b, 1, none⟩) lb).trans k1
  have e1 := (HW.cell (p := ⟨rb, k * 3, none⟩) lr).trans c1
  have e2 := (HW.cell (p := ⟨rb, k * 3 + 1, none⟩) lr).trans c2
  clear k0 k1 c1 c2
  have d1q := cell_regrown d1
  have d2q := cell_regrown d2
  have w0q := cell_regrown w0
  have e1q := cell_regrown e1
  have e2q := cell_regrown e2
  have HB := Below.refl W.heap.size W
  go_upto_region 6 with (fail)
  refine wp_region_quiet_below (by kernel_rfl) (by kernel_rfl) ?_
  repeat (first | go_big_quiet_step (with_reducible exact Calls.regrown_of (cL.out _)) | quiet_step (with_reducible exact Calls.regrown_of (cL.out _)))
  refine wpQuiet_nil ?_
  intro _ hw'
  obtain ⟨⟨dq, osq⟩, hw''⟩ := hw'
  have HB2 := bel_trans HB (below_regrown W dq osq)
  have hb2 := below_regrown W dq osq
  subst hw''
  generalize grow (redrawn W dq) osq = w2 at HB2 hb2 ⊢
  have HW2 := bel_trans HW HB2
  have d1 := (HB2.cell (by exact hW0)).trans d1
  have d2 := (HB2.cell (by exact hW0)).trans d2
  have w0 := (HW2.cell (p := ⟨b, 0, none⟩) lb).trans (by simp [World.cell?, Hb.out] : w.cell? ⟨b, 0, none⟩ = some (.slice (some ⟨rb, 0, none⟩) n cap))
  clear d1q d2q w0q e1q e2q e1 e2 w1 hl hb2
  cases t with
  | false =>
    go_wp2
    go_ret
    exact ⟨rfl, S, H0.out.below HW2, fun k hk => .inl hk, .of_below HW2⟩
  | true =>
    have hI2 := HI.out.below HW2
    have hM2 := HM.out.below HW2
    have hb2 := (HW2.block b lb).trans Hb.out
    have kf0 := hI2.frozen (k * 3)
    have kf1 := hI2.frozen (k * 3 + 1)
    obtain ⟨c1, c2, c3⟩ := hI2.cells hk
    clear c3
    go_wp2_with fail
    go_still_tail 8, (by kernel_rfl)
    change wpList _ _ _ _ _ w2.drew
    have HW3 : Below w.heap.size w w2.drew := bel_drew HW2
    clear hI2 hM2 hb2 kf0 kf1 c1 c2 d1 d2 w0 HB2
    generalize w2.drew = w3 at *
    have hI3 := HI.out.below HW3
    have hM3 := HM.out.below HW3
    have hb3 := (HW3.block b lb).trans Hb.out
    have kf0 := hI3.frozen (k * 3)
    have kf1 := hI3.frozen (k * 3 + 1)
    obtain ⟨c1, c2, c3⟩ := hI3.cells hk
    clear c3
    have hI4 := hI3.set2 hk ⟨⟨ds, dd⟩, id⟩ hck'.out
    have hK4 : Kept [rb] w3 ((w3.setCell ⟨rb, k * 3, none⟩ (.int .i64 ds)).setCell ⟨rb, k * 3 + 1, none⟩ (.int .i64 dd)) := (((Kept.refl _ _).setCell (.inl (by simp))).setCell (.inl (by simp)))
    have hK5 : Kept S w ((w3.setCell ⟨rb, k * 3, none⟩ (.int .i64 ds)).setCell ⟨rb, k * 3 + 1, none⟩ (.int .i64 dd)) := ((Kept.of_below HW3).setCell (.inl hrS)).setCell (.inl hrS)
    have hM4 := hM3.kept hK4 (by simpa using Ne.symm hrm)
    have hb4 := (hK4.block b (by have := HW3.size; omega) (by simpa using hbr)).trans hb3
    have H4 := Lib.hid (show HeapIn _ b rb cap n mb (upd c k ⟨⟨ds, dd⟩, id⟩) ∧ MapAt (fun z : Int => Value.int .i64 z) _ mb m N ∧ Kept S w _ from ⟨⟨hb4, hI4⟩, hM4, hK5⟩)
    clear hI3 hM3 hb3 hI4 hK4 hM4 hb4 hK5
    go_wp2_with fail
    generalize ((w3.setCell ⟨rb, k * 3, none⟩ (.int .i64 ds)).setCell ⟨rb, k * 3 + 1, none⟩ (.int .i64 dd)) = w4 at *
    have cU := Lib.hid (heapUp w4 b rb cap n mb N (upd c k ⟨⟨ds, dd⟩, id⟩) m k H4.out.1 H4.out.2.1 hk hbr hne hrm (Holds.cc hHp.out hCp.out) (hLp.out (by simp)) hDp.out (by rw [upd_same]; exact hPp.out))
    have hK := H4.out.2.2
    clear H4
    (with_reducible refine (cU.out).mono ?_)
    rintro e w5 ⟨rfl, hF⟩
    have hE := heapOf_end hF hbr hne hrm hHp.out hCp.out hK ab amS (.inl hrS) (.bool true)
    clear hF hK
    go_wp2
    go_ret
    exact hE
end Go.Proofs.YtjejkadaafmdcaaGreat
/- Pop off a heap. -/
namespace Go.Proofs.YtjejkadaafmdcaaGreat
open Go.RowKit Go.Sort FR
/-- number id with cost d is popped: it stands ahead of all -/
def PopD (w : World) (S : List Nat) (b n : Nat) (hp : Int → Option C) (e : Ending) (w' : World) : Prop :=
  ∃ id ds dd, hp id = some ⟨ds, dd⟩ ∧ (∀ id' d', hp id' = some d' → It.le ⟨⟨ds, dd⟩, id⟩ ⟨d', id'⟩) ∧ e = .returned (.tuple #[.int .i64 id, .agg #[.int .i64 ds, .int .i64 dd], .bool true]) ∧
    HeapOf w' S b n (hset hp id none) ∧ Kept S w w'
theorem hset_none_cc {hp : Int → Option C} {i : Int} (h : ∀ z d, hp z = some d → inCC d) : ∀ z d, hset hp i none z = some d → inCC d := by
  intro z d hz
  unfold hset at hz
  by_cases e : z = i
  · rw [if_pos e] at hz; cases hz
  · rw [if_neg e] at hz; exact h z d hz
theorem ItemsIn.take {w : World} {b cap n : Nat} {c : Nat → It} (h : ItemsIn w b cap n c) (k : Nat) (hk : k ≤ n) : ItemsIn w b cap k c := by
  obtain ⟨h1, h2, cur, h3, h4, h5⟩ := h
  exact ⟨by omega, h2, cur, h3, h4, fun j hj => h5 j (by omega)⟩
theorem two_set {w : World} {b : Nat} {x y u v : Value} (h1 : w.cell? ⟨b, 0, none⟩ = some u) (h2 : w.cell? ⟨b, 1, none⟩ = some v) :
    ((w.setCell ⟨b, 0, none⟩ x).setCell ⟨b, 1, none⟩ y).drew.cell? ⟨b, 0, none⟩ = some x ∧ ((w.setCell ⟨b, 0, none⟩ x).setCell ⟨b, 1, none⟩ y).drew.cell? ⟨b, 1, none⟩ = some y := by
  have e1 : ((w.setCell ⟨b, 0, none⟩ x).setCell ⟨b, 1, none⟩ y).cell? ⟨b, 0, none⟩ = some x :=
    (World.cell?_setCell_other (w := w.setCell ⟨b, 0, none⟩ x) (a := ⟨b, 1, none⟩) (b := ⟨b, 0, none⟩) (v := y) (by simp)).trans (World.cell?_setCell_same (w := w) (a := ⟨b, 0, none⟩) (v := x) h1)
  have e2 : ((w.setCell ⟨b, 0, none⟩ x).setCell ⟨b, 1, none⟩ y).cell? ⟨b, 1, none⟩ = some y :=
    World.cell?_setCell_same (w := w.setCell ⟨b, 0, none⟩ x) (a := ⟨b, 1, none⟩) (v := y) ((World.cell?_setCell_other (w := w) (a := ⟨b, 0, none⟩) (b := ⟨b, 1, none⟩) (v := x) (by simp)).trans h2)
  exact ⟨e1, e2⟩
theorem pop_end {w w7 w8 : World} {S : List Nat} {b k : Nat} {hp : Int → Option C} {xs xd xi : Int} (hx : hp xi = some ⟨xs, xd⟩) (hmin : ∀ id' d', hp id' = some d' → It.le ⟨⟨xs, xd⟩, xi⟩ ⟨d', id'⟩) (hO : HeapOf w7 S b k (hset hp xi none)) (hK : Kept S w w7)
    (h8 : Kept [w.heap.size] w7 w8) (hS : ∀ j ∈ S, j < w.heap.size) : PopD w S b k hp (.returned (.tuple #[.int .i64 xi, .agg #[.int .i64 xs, .int .i64 xd], .bool true])) w8 := by
  refine ⟨xi, xs, xd, hx, hmin, rfl, hO.kept h8 ?_, ?_⟩
  · intro j hj e; simp at e; have := hS j hj; omega
  · refine ⟨h8.os.trans hK.os, h8.tape.trans hK.tape, h8.output.trans hK.output, Nat.le_trans hK.size h8.size, fun j hj hn => ?_⟩
    exact (h8.block j (Nat.lt_of_lt_of_le hj hK.size) (by simp; omega)).trans (hK.block j hj hn)
theorem pop_min {n : Nat} {c : Nat → It} {hp : Int → Option C} (hL : HeapL n c) (hH : Holds n c hp) : ∀ id' d', hp id' = some d' → It.le (c 0) ⟨d', id'⟩ := by
  intro id d h
  obtain ⟨k, hk, e⟩ := (hH id d).1 h
  rw [← e]; exact heap_min hL k hk
theorem heapPop_none (w : World) (S : List Nat) (b : Nat) (hp : Int → Option C) (h : HeapOf w S b 0 hp) :
    Calls Tryz.prog 74 #[.pointer (some ⟨b, 0, none⟩)] w fun e w' => e = .returned (.tuple #[.int .i64 0, .agg #[.int .i64 0, .int .i64 0], .bool false]) ∧ Below w.heap.size w w' := by
  obtain ⟨mb, m, N, c, sl, hb, hM, hne, hR, hP, hH, hD, hL, hC⟩ := h
  have lb := (Array.getElem?_eq_some_iff.1 hb).1
  have k0 : w.cell? ⟨b, 0, none⟩ = some sl := by simp [World.cell?, hb]
  obtain ⟨A, cap, rfl⟩ : ∃ A cap, sl = .slice A 0 cap := by
    rcases hR with ⟨h1, _⟩ | ⟨rb, cap, h1, _⟩
    · exact ⟨_, _, h1⟩
    · exact ⟨_, _, h1⟩
  clear hb hM hR hP hH hD hL hC
  go_enter Tryz.func74, Tryz.ntmps74
  go_wp2
  refine bodyPost_ret (v := .tuple #[.int .i64 0, .agg #[.int .i64 0, .int .i64 0], .bool false]) (by simp [results, Tryz.results74, go_sem]) rfl ?_
  exact ⟨rfl, by (repeat' (first | exact Below.refl _ _ | assumption | apply bel_drewN | apply bel_drew | apply bel_alloc | (refine bel_trans ?_ (by assumption))))⟩
set_option maxRecDepth 100000 in
set_option maxHeartbeats 3200000 in
theorem heapPop_some (w : World) (S : List Nat) (b k : Nat) (hp : Int → Option C) (h : HeapOf w S b (k + 1) hp) (hn : k ≤ 1000000) :
    Calls Tryz.prog 74 #[.pointer (some ⟨b, 0, none⟩)] w (PopD w S b k hp) := by
  have hSl := Lib.hid h.lt
  obtain ⟨mb, m, N, c, sl, hb, hM, hne, hR, hP, hH, hD, hL, hC⟩ := h
  have lb := (Array.getElem?_eq_some_iff.1 hb).1
  have lm := hM.lt
  obtain ⟨ag, am, aS, ab, amS⟩ := hR.own hne
  rcases hR with ⟨_, hn0, _⟩ | ⟨rb, cap, rfl, hI, hbr, hrm, hS⟩
  · omega
  have lr := hI.lt
  have hcap := hI.1
  have hrS : rb ∈ S := by rw [hS]; simp
  obtain ⟨⟨⟨xs, xd⟩, xi⟩, hx⟩ : ∃ x, c 0 = x := ⟨_, rfl⟩
  obtain ⟨⟨⟨ys, yd⟩, yi⟩, hy⟩ : ∃ y, c k = y := ⟨_, rfl⟩
  have hH2 := Holds.pop hH hD
  have hH0 := @Holds.pop0 c hp
  have hD2 := Dst.pop hD
  have hP2 := hP.pop hD (.int .i64 (0 : Nat))
  have hP0 := @PosMap.pop0 c m
  have hmin := pop_min hL hH
  have hx1 : hp xi = some ⟨xs, xd⟩ := (hH _ _).2 ⟨0, by omega, hx⟩
  have hL2 := heap_dn (n := k) (y := c k) (fun j hj j0 => hL j (by omega) j0)
  have hC2 := hset_none_cc (i := xi) hC
  have hCc : inCC (⟨ys, yd⟩ : C) := hC _ _ ((hH yi ⟨ys, yd⟩).2 ⟨k, by omega, hy⟩)
  obtain ⟨a1, a2, a3⟩ := hI.cells (k := 0) (by omega)
  obtain ⟨b1, b2, b3⟩ := hI.cells (k := k) (by omega)
  rw [hx] at a1 a2 a3 hH2 hH0 hP2 hP0 hmin
  rw [hy] at b1 b2 b3 hH2 hD2 hP2 hL2
  simp only [Nat.zero_mul, Nat.zero_add] at a1 a2 a3 b1 b2 b3 hH2 hH0 hP2 hP0
  have hH2 := Lib.hid hH2; have hH0 := Lib.hid hH0; have hD2 := Lib.hid hD2; have hP2 := Lib.hid hP2; have hP0 := Lib.hid hP0; have hmin := Lib.hid hmin; have hx1 := Lib.hid hx1; have hL2 := Lib.hid hL2; have hC2 := Lib.hid hC2
  have hHH := Lib.hid hH; have hPP := Lib.hid hP; have hDD := Lib.hid hD
  have Hb := Lib.hid hb; have HM := Lib.hid hM; have HI := Lib.hid hI; have HS := Lib.hid hS; have Hx := Lib.hid hx
  have k0 : w.cell? ⟨b, 0, none⟩ = some (.slice (some ⟨rb, 0, none⟩) (k + 1) cap) := by simp [World.cell?, hb]
  have k1 : w.cell? ⟨b, 1, none⟩ = some (.map (some mb)) := by simp [World.cell?, hb]
  have kf : w.frozen? ⟨b, 0, none⟩ = false := by simp [World.frozen?, hb]
  clear hb hM hP hH hD hL hC hI hS hx hy aS
  go_enter Tryz.func74, Tryz.ntmps74
  go_upto_region 6 with (fail)
  refine wp_name ?_
  intro W hW
  have HW : Below w.heap.size w W := by rw [hW]; (repeat' (first | exact Below.refl _ _ | assumption | apply bel_drewN | apply bel_drew | apply bel_alloc | (refine bel_trans ?_ (by assumption))))
  have hW0 : w.heap.size + 2 < W.heap.size := by rw [hW]; simp
  have z1 : W.cell? ⟨w.heap.size + 1, 0, none⟩ = some (.int .i64 xs) := by rw [hW]; go_simp
  have z2 : W.cell? ⟨w.heap.size + 1, 1, none⟩ = some (.int .i64 xd) := by rw [hW]; go_simp
  have z3 : W.cell? ⟨w.heap.size + 1, 2, none⟩ = some (.int .i64 xi) := by rw [hW]; go_simp
  have y1 : W.cell? ⟨w.heap.size + 1 + 1, 0, none⟩ = some (.int .i64 ys) := by rw [hW]; go_simp
  have y2 : W.cell? ⟨w.heap.size + 1 + 1, 1, none⟩ = some (.int .i64 yd) := by rw [hW]; go_simp
  have y3 : W.cell? ⟨w.heap.size + 1 + 1, 2, none⟩ = some (.int .i64 yi) := by rw [hW]; go_simp
  have r1 : W.cell? ⟨w.heap.size, 0, none⟩ = some (.int .i64 0) := by rw [hW]; go_simp
  have r2 : W.cell? ⟨w.heap.size, 1, none⟩ = some (.int .i64 0) := by rw [hW]; go_simp
  have f1 : W.frozen? ⟨w.heap.size, 0, none⟩ = false := by rw [hW]; go_simp
  have f2 : W.frozen? ⟨w.heap.size, 1, none⟩ = false := by rw [hW]; go_simp
  clear hW a1 a2 a3 b1 b2 b3
  have k0 := (HW.cell (p := ⟨b, 0, none⟩) lb).trans k0
  have kf := (HW.frozen (p := ⟨b, 0, none⟩) lb).trans kf
  go_upto_region 7 with (fail)
  have hb1 := (HW.block b lb).trans Hb.out
  have hI1 := HI.out.below HW
  have hM1 := HM.out.below HW
  have hK3 : Kept [b] W (W.setCell ⟨b, 0, none⟩ (.slice (some ⟨rb, 0, none⟩) k cap)) := (Kept.refl _ _).setCell (.inl (by simp))
  have hb3 : (W.setCell ⟨b, 0, none⟩ (.slice (some ⟨rb, 0, none⟩) k cap)).heap[b]? = some (.cells #[.slice (some ⟨rb, 0, none⟩) k cap, .map (some mb)] 173 (0, 0)) := by rw [set_heapH _ _ _ _ _ _ hb1]; rfl
  have hI3 := (hI1.kept hK3 (by simpa using Ne.symm hbr)).take k (by omega)
  have hM3 := hM1.kept hK3 (by simpa using Ne.symm hne)
  have e3 : ∀ j u, W.cell? ⟨w.heap.size + 1, j, none⟩ = some u → (W.setCell ⟨b, 0, none⟩ (.slice (some ⟨rb, 0, none⟩) k cap)).cell? ⟨w.heap.size + 1, j, none⟩ = some u := fun j u hu => (World.cell?_of_block (hK3.block (w.heap.size + 1) (by omega) (by simp; omega))).trans hu
  have v3 := e3 _ _ z3
  have hK : Kept S w (W.setCell ⟨b, 0, none⟩ (.slice (some ⟨rb, 0, none⟩) k cap)) := (Kept.of_below HW).setCell (.inl ab)
  clear e3 hb1 hI1 hM1 k0 kf k1
  generalize (W.setCell ⟨b, 0, none⟩ (.slice (some ⟨rb, 0, none⟩) k cap)) = w3 at *
  have b0 : w3.cell? ⟨b, 0, none⟩ = some (.slice (some ⟨rb, 0, none⟩) k cap) := by simp [World.cell?, hb3]
  have b1 : w3.cell? ⟨b, 1, none⟩ = some (.map (some mb)) := by simp [World.cell?, hb3]
  have hs3 := hK3.size
  have Hb3 := Lib.hid hb3
  clear hb3
  go_still_tail 6, (by kernel_rfl)
  change wpList _ _ _ _ _ w3.drew
  refine wpList_dropM rfl _ _ rfl (int_fit Tryz.underlying3) Tryz.underlying53 (w := w3.drew) (n := N) (m := m) (b := mb) hM3 rfl xi rfl ?_
  intro w5 hM5 hK5
  have hK35 : Kept [mb] w3 w5 := (Kept.refl _ _).drew.trans hK5
  have hKW : Kept [b, mb] W w5 := (hK3.more (by simp)).trans (hK35.more (by simp))
  have hKS : Kept S w w5 := hK.trans (hK35.more (by simp; exact amS))
  have hb5 := (hK35.block b (by have := hK3.size; have := HW.size; omega) (by simpa using hne)).trans Hb3.out
  have hI5 := hI3.kept hK35 (by simpa using hrm)
  have hs5 := hKW.size
  have hbk : ∀ (o j : Nat) u w6, Kept [b, rb, mb] w5 w6 → o ≤ 2 → W.cell? ⟨w.heap.size + o, j, none⟩ = some u → w6.cell? ⟨w.heap.size + o, j, none⟩ = some u := by
    intro o j u w6 hk6 ho hu
    refine (World.cell?_of_block (hk6.block (w.heap.size + o) (by omega) (by simp; omega))).trans ?_
    exact (World.cell?_of_block (hKW.block (w.heap.size + o) (by omega) (by simp; omega))).trans hu
  have hbf : ∀ (o j : Nat) u w6, Kept [b, rb, mb] w5 w6 → o ≤ 2 → W.frozen? ⟨w.heap.size + o, j, none⟩ = u → w6.frozen? ⟨w.heap.size + o, j, none⟩ = u := by
    intro o j u w6 hk6 ho hu
    refine (World.frozen?_of_block (hk6.block (w.heap.size + o) (by omega) (by simp; omega))).trans ?_
    exact (World.frozen?_of_block (hKW.block (w.heap.size + o) (by omega) (by simp; omega))).trans hu
  have hbk := Lib.hid hbk
  have hbf := Lib.hid hbf
  have Z := Lib.hid (And.intro z1 (And.intro z2 (And.intro z3 (And.intro r1 (And.intro r2 (And.intro f1 f2))))))
  have hI5' := Lib.hid (show HeapIn w5 b rb cap k mb c from ⟨hb5, hI5⟩)
  clear hI3 hM3 hK3 hK35 hK v3 b0 b1 hs3 Hb3 HI HM Hb z1 z2 z3 r1 r2 f1 f2 hb5 hI5 hKW hK5
  by_cases hk0 : k = 0
  · subst hk0
    have HK := Kept.refl [b, rb, mb] w5
    clear y1 y2 y3
    have hO : HeapOf w5 S b 0 (hset hp xi none) := ⟨mb, _, _, c, _, hI5'.out.1, hM5, hne, .inr ⟨rb, cap, rfl, hI5'.out.2, hbr, hrm, HS.out⟩, hP0.out hPP.out, hH0.out hHH.out, fun i j hi => by omega, fun j hj => by omega, hC2.out⟩
    have hKO := hKS
    clear hM5 hKS
    have z1 := hbk.out 1 0 _ w5 HK (by omega) Z.out.1
    have z2 := hbk.out 1 1 _ w5 HK (by omega) Z.out.2.1
    have z3 := hbk.out 1 2 _ w5 HK (by omega) Z.out.2.2.1
    have r1 := hbk.out 0 0 _ w5 HK (by omega) Z.out.2.2.2.1
    have r2 := hbk.out 0 1 _ w5 HK (by omega) Z.out.2.2.2.2.1
    have f1 := hbf.out 0 0 _ w5 HK (by omega) Z.out.2.2.2.2.2.1
    have f2 := hbf.out 0 1 _ w5 HK (by omega) Z.out.2.2.2.2.2.2
    simp only [Nat.add_zero] at r1 r2 f1 f2
    go_upto_region 11 with (fail)
    have E1 := Lib.hid (And.intro hO hKO)
    clear hO hKO
    have E2 := Lib.hid (two_set (x := .int .i64 xs) (y := .int .i64 xd) r1 r2)
    have E3 : Kept [w.heap.size] w5 ((w5.setCell ⟨w.heap.size, 0, none⟩ (.int .i64 xs)).setCell ⟨w.heap.size, 1, none⟩ (.int .i64 xd)).drew := (((Kept.refl _ _).setCell (.inl (by simp))).setCell (.inl (by simp))).drew
    go_region
    go_wp2
    obtain ⟨q1, q2⟩ := E2.out
    generalize ((w5.setCell ⟨w.heap.size, 0, none⟩ (.int .i64 xs)).setCell ⟨w.heap.size, 1, none⟩ (.int .i64 xd)).drew = w8 at q1 q2 E3 ⊢
    refine bodyPost_ret (v := .tuple #[.int .i64 xi, .agg #[.int .i64 xs, .int .i64 xd], .bool true]) (by simp [results, Tryz.results74, go_sem, q1, q2]) rfl ?_
    exact pop_end hx1.out hmin.out E1.out.1 E1.out.2 E3 hSl.out
  · have HK5 := Kept.refl [b, rb, mb] w5
    have y1 := hbk.out 2 0 _ w5 HK5 (by omega) y1
    have y2 := hbk.out 2 1 _ w5 HK5 (by omega) y2
    have y3 := hbk.out 2 2 _ w5 HK5 (by omega) y3
    have hk1 : 0 < k := by omega
    have hk2 : decide (0 < (k : Int)) = true := by simp; omega
    have hk3 : decide (0 < k) = true := by simp; omega
    have cP := Lib.hid (heapPut w5 b rb cap k mb _ c _ 0 ⟨⟨ys, yd⟩, yi⟩ hI5'.out hM5 hk1 hbr hne hrm)
    clear hM5
    go_wp2_with fail
    refine (cP.out).mono ?_
    rintro e w6 ⟨rfl, hI6, ⟨N6, hM6⟩, hK6⟩
    have cD := Lib.hid (heapDown w6 b rb cap k mb N6 _ _ 0 hI6 hM6 hk1 (by omega) hbr hne hrm (Holds.cc hH2.out hC2.out) hL2.out hD2.out (by rw [upd_same]; exact hP2.out))
    clear hI6 hM6 y1 y2 y3 cP HK5
    go_wp2_with fail
    refine (cD.out).mono ?_
    rintro e w7 ⟨rfl, hF⟩
    obtain ⟨hO, hK7⟩ := hF.heapOf hbr hne hrm hH2.out hC2.out
    rw [← HS.out] at hO
    have hK67 : Kept [b, rb, mb] w5 w7 := (hK6.more (by simp)).trans (hK7.more (by simp))
    have hKO : Kept S w w7 := hKS.trans (hK67.more (by rw [HS.out]; simp))
    have HK := hK67
    clear hF hK6 hK7 hK67 cD hKS
    have z1 := hbk.out 1 0 _ w7 HK (by omega) Z.out.1
    have z2 := hbk.out 1 1 _ w7 HK (by omega) Z.out.2.1
    have z3 := hbk.out 1 2 _ w7 HK (by omega) Z.out.2.2.1
    have r1 := hbk.out 0 0 _ w7 HK (by omega) Z.out.2.2.2.1
    have r2 := hbk.out 0 1 _ w7 HK (by omega) Z.out.2.2.2.2.1
    have f1 := hbf.out 0 0 _ w7 HK (by omega) Z.out.2.2.2.2.2.1
    have f2 := hbf.out 0 1 _ w7 HK (by omega) Z.out.2.2.2.2.2.2
    simp only [Nat.add_zero] at r1 r2 f1 f2
    go_upto_region 11 with (fail)
    have E1 := Lib.hid (And.intro hO hKO)
    clear hO hKO
    have E2 := Lib.hid (two_set (x := .int .i64 xs) (y := .int .i64 xd) r1 r2)
    have E3 : Kept [w.heap.size] w7 ((w7.setCell ⟨w.heap.size, 0, none⟩ (.int .i64 xs)).setCell ⟨w.heap.size, 1, none⟩ (.int .i64 xd)).drew := (((Kept.refl _ _).setCell (.inl (by simp))).setCell (.inl (by simp))).drew
    go_region
    go_wp2
    obtain ⟨q1, q2⟩ := E2.out
    generalize ((w7.setCell ⟨w.heap.size, 0, none⟩ (.int .i64 xs)).setCell ⟨w.heap.size, 1, none⟩ (.int .i64 xd)).drew = w8 at q1 q2 E3 ⊢
    refine bodyPost_ret (v := .tuple #[.int .i64 xi, .agg #[.int .i64 xs, .int .i64 xd], .bool true]) (by simp [results, Tryz.results74, go_sem, q1, q2]) rfl ?_
    exact pop_end hx1.out hmin.out E1.out.1 E1.out.2 E3 hSl.out
end Go.Proofs.YtjejkadaafmdcaaGreat
