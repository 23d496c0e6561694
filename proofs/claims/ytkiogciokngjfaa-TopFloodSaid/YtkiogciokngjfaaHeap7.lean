/- Push onto a heap. -/
import Derived.Test.YtkiogciokngjfaaHeap6
import Derived.Deep.RegionHeld3
set_option linter.unusedVariables false
set_option linter.unusedSimpArgs false
namespace Go.Proofs.Ytkiogciokngjfaa
open Go.RowKit Go.Sort FR
/-- t is handed back; the heap holds what it is told -/
def HeapD (w : World) (S : List Nat) (b n : Nat) (hp : Int → Option C) (v : Value) (e : Ending) (w' : World) : Prop :=
  e = .returned v ∧ ∃ S', HeapOf w' S' b n hp ∧ (∀ k ∈ S', k ∈ S ∨ w.heap.size ≤ k) ∧ Kept S w w'
theorem Filled.heapOf {w0 w : World} {b rb cap n mb : Nat} {c0 : Nat → It} {hp : Int → Option C} (h : Filled w0 w b rb cap n mb c0) (h1 : b ≠ rb) (h2 : b ≠ mb) (h3 : rb ≠ mb) (hh : Holds n c0 hp) (hc : ∀ z d, hp z = some d → inCC d) :
    HeapOf w [b, rb, mb] b n hp ∧ Kept [rb, mb] w0 w := by
  obtain ⟨c, m, N, ⟨f1, f2⟩, f3, f4, f5, f6, f7, f8⟩ := h
  exact ⟨⟨mb, m, N, c, _, f1, f3, h2, .inr ⟨rb, cap, rfl, f2, h1, h3, rfl⟩, f6, Holds.same hh f7, f5, f4, hc⟩, f8⟩
theorem hset_cc {hp : Int → Option C} {i : Int} {c : C} (h : ∀ z d, hp z = some d → inCC d) (hc : inCC c) : ∀ z d, hset hp i (some c) z = some d → inCC d := by
  intro z d hz
  unfold hset at hz
  by_cases e : z = i
  · rw [if_pos e] at hz; injection hz with hz; rwa [← hz]
  · rw [if_neg e] at hz; exact h z d hz
theorem item_zero : (Try.prog.info? 159).map (fun i => (i.zero, i.size, i.bytes)) = some (some (.agg #[.int .i64 0, .int .i64 0, .int .i64 0]), 3, 24) := by kernel_rfl
theorem RowOk.own {w : World} {b mb n : Nat} {sl : Value} {c : Nat → It} {S : List Nat} (h : RowOk w b mb sl n c S) (hb : b ≠ mb) : sl.ownBlock ≠ some b ∧ sl.ownBlock ≠ some mb ∧ (∀ k, sl.ownBlock = some k → k ∈ S) ∧ b ∈ S ∧ mb ∈ S := by
  rcases h with ⟨rfl, rfl, rfl⟩ | ⟨rb, cap, rfl, hI, h1, h2, rfl⟩
  · refine ⟨by simp [Value.ownBlock], by simp [Value.ownBlock], by simp [Value.ownBlock], by simp, by simp⟩
  · refine ⟨?_, ?_, ?_, by simp, by simp⟩ <;> simp [Value.ownBlock]
    · exact fun e => h1 e.symm
    · exact h2
theorem MapAt.grown {w w' : World} {b N : Nat} {m : Int → Option Value} {row : Option Nat} (h : MapAt (fun z : Int => Value.int .i64 z) w b m N) (hg : w.grownBy w' row) (hb : row ≠ some b) : MapAt (fun z : Int => Value.int .i64 z) w' b m N := by
  have hl := h.lt
  obtain ⟨es, clk, h1, h2⟩ := h
  exact ⟨es, clk, (hg.block b hl (Ne.symm hb)).trans h1, h2⟩
theorem Kept.grown {S : List Nat} {a w w' : World} {row : Option Nat} (h : Kept S a w) (hg : w.grownBy w' row) (hr : ∀ k, row = some k → k ∈ S ∨ a.heap.size ≤ k) : Kept S a w' := by
  refine ⟨hg.os.trans h.os, hg.tape.trans h.tape, hg.output.trans h.output, Nat.le_trans h.size hg.size, fun k hk hn => ?_⟩
  refine (hg.block k (Nat.lt_of_lt_of_le hk h.size) ?_).trans (h.block k hk hn)
  intro e
  rcases hr k e.symm with h' | h'
  · exact hn h'
  · omega
/-- what lies in memory behind the append -/
theorem push_lay {w W1 w1 : World} {S : List Nat} {b mb n N g cap : Nat} {c : Nat → It} {m : Int → Option Value} {sl : Value} {xs : List Value} {x : It}
    (hb : w.heap[b]? = some (.cells #[sl, .map (some mb)] 157 (0, 0))) (hM : MapAt (fun z : Int => Value.int .i64 z) w mb m N) (hne : b ≠ mb) (ag : sl.ownBlock ≠ some b) (am : sl.ownBlock ≠ some mb)
    (aS : ∀ k, sl.ownBlock = some k → k ∈ S) (ab : b ∈ S) (hW : Below w.heap.size w W1)
    (hown : w1.ownsRow 0 159 3 (.slice (some ⟨g, 0, none⟩) (n + 1) cap) (n + 1) xs) (hl : Lies xs (n + 1) (upd c n x)) (hg : W1.grownBy w1 sl.ownBlock) (hat : sl.ownBlock = some g ∨ w.heap.size ≤ g) :
    HeapIn (w1.setCell ⟨b, 0, none⟩ (.slice (some ⟨g, 0, none⟩) (n + 1) cap)) b g cap (n + 1) mb (upd c n x) ∧ MapAt (fun z : Int => Value.int .i64 z) (w1.setCell ⟨b, 0, none⟩ (.slice (some ⟨g, 0, none⟩) (n + 1) cap)) mb m N ∧ b ≠ g ∧ g ≠ mb ∧
      Kept S w (w1.setCell ⟨b, 0, none⟩ (.slice (some ⟨g, 0, none⟩) (n + 1) cap)) ∧ (g ∈ S ∨ w.heap.size ≤ g) := by
  have lb := (Array.getElem?_eq_some_iff.1 hb).1
  have lm := hM.lt
  have bg : b ≠ g := by
    rintro rfl
    rcases hat with h | h
    · exact ag h
    · omega
  have gm : g ≠ mb := by
    rintro rfl
    rcases hat with h | h
    · exact am h
    · omega
  have hb1 : w1.heap[b]? = some (.cells #[sl, .map (some mb)] 157 (0, 0)) := (hg.block b (Nat.lt_of_lt_of_le lb hW.size) (Ne.symm ag)).trans ((hW.block b lb).trans hb)
  have hM1 := (hM.below hW).grown hg am
  have hI := ItemsIn.of_owns hown hl
  have hK1 : Kept S w w1 := (Kept.of_below hW).grown hg (fun k e => .inl (aS k e))
  have hK3 : Kept [b] w1 (w1.setCell ⟨b, 0, none⟩ (.slice (some ⟨g, 0, none⟩) (n + 1) cap)) := (Kept.refl _ _).setCell (.inl (by simp))
  refine ⟨⟨?_, hI.kept hK3 (by simpa using Ne.symm bg)⟩, hM1.kept hK3 (by simpa using Ne.symm hne), bg, gm, hK1.setCell (.inl ab), ?_⟩
  · rw [set_heapH _ _ _ _ _ _ hb1]; rfl
  · rcases hat with h | h
    · exact .inl (aS g h)
    · exact .inr h
theorem heapOf_end {w w3 w4 : World} {S : List Nat} {b n g cap mb : Nat} {c : Nat → It} {hp : Int → Option C} (hF : Filled w3 w4 b g cap n mb c) (h1 : b ≠ g) (h2 : b ≠ mb) (h3 : g ≠ mb) (hH : Holds n c hp) (hC : ∀ z d, hp z = some d → inCC d)
    (hK : Kept S w w3) (ab : b ∈ S) (amS : mb ∈ S) (hg : g ∈ S ∨ w.heap.size ≤ g) (t : Value) : HeapD w S b n hp t (.returned t) w4 := by
  obtain ⟨q1, q2⟩ := hF.heapOf h1 h2 h3 hH hC
  refine ⟨rfl, _, q1, ?_, ?_⟩
  · intro k hk
    simp at hk
    rcases hk with rfl | rfl | rfl
    · exact .inl ab
    · exact hg
    · exact .inl amS
  · refine ⟨q2.os.trans hK.os, q2.tape.trans hK.tape, q2.output.trans hK.output, Nat.le_trans hK.size q2.size, fun k hk hn => ?_⟩
    refine (q2.block k (Nat.lt_of_lt_of_le hk hK.size) ?_).trans (hK.block k hk hn)
    simp
    constructor
    · rintro rfl
      rcases hg with hg | hg
      · exact hn hg
      · omega
    · rintro rfl; exact hn amS
set_option maxRecDepth 100000 in
set_option maxHeartbeats 3200000 in
theorem heapPush_new (w : World) (S : List Nat) (b n : Nat) (hp : Int → Option C) (id ds dd : Int) (h : HeapOf w S b n hp) (hz : hp id = none) (hc : inCC ⟨ds, dd⟩) (hn : n ≤ 1000000) :
    Calls Try.prog 59 #[.pointer (some ⟨b, 0, none⟩), .int .i64 id, .agg #[.int .i64 ds, .int .i64 dd]] w (HeapD w S b (n + 1) (hset hp id (some ⟨ds, dd⟩)) (.bool true)) := by
  have hSl := h.lt
  obtain ⟨mb, m, N, c, sl, hb, hM, hne, hR, hP, hH, hD, hL, hC⟩ := h
  have lb := (Array.getElem?_eq_some_iff.1 hb).1
  have lm := hM.lt
  have hHp := Lib.hid (Holds.push hH ⟨⟨ds, dd⟩, id⟩ hz)
  have hDp := Lib.hid (Dst.push hD hH ⟨⟨ds, dd⟩, id⟩ hz)
  have hPp := Lib.hid (hP.push ⟨⟨ds, dd⟩, id⟩)
  have hLp := Lib.hid (heap_push (x := ⟨⟨ds, dd⟩, id⟩) hL)
  have hCp := Lib.hid (hset_cc (i := id) hC hc)
  obtain ⟨ag, am, aS, ab, amS⟩ := hR.own hne
  have aS := Lib.hid aS
  obtain ⟨xs, hown, hlies⟩ := hR.owns
  have hl := mapLook_out (hM.below (w' := w.alloc (.cells #[.int .i64 ds, .int .i64 dd] 23)) (bel_alloc (Below.refl _ _))) (hP.none hH hz)
  have hlies := Lib.hid (hlies.push hown.1 ⟨⟨ds, dd⟩, id⟩)
  obtain ⟨i0, hi0, hz0, hz1, hz2⟩ := info_parts item_zero
  have k0 : w.cell? ⟨b, 0, none⟩ = some sl := by simp [World.cell?, hb]
  have k1 : w.cell? ⟨b, 1, none⟩ = some (.map (some mb)) := by simp [World.cell?, hb]
  have kf : w.frozen? ⟨b, 0, none⟩ = false := by simp [World.frozen?, hb]
  have Hb := Lib.hid hb
  have HM := Lib.hid hM
  clear hb hM hR hP hH hD hL hC hz
  go_enter Try.func59, Try.ntmps59
  go_upto_region 1 with (fail)
  refine wp_name ?_
  intro W hW
  have HW : Below w.heap.size w W := by rw [hW]; (repeat' (first | exact Below.refl _ _ | assumption | apply bel_drewN | apply bel_drew | apply bel_alloc | (refine bel_trans ?_ (by assumption))))
  have hW0 : w.heap.size < W.heap.size := by rw [hW]; simp
  have d1 : W.cell? ⟨w.heap.size, 0, none⟩ = some (.int .i64 ds) := by rw [hW]; go_simp
  have d2 : W.cell? ⟨w.heap.size, 1, none⟩ = some (.int .i64 dd) := by rw [hW]; go_simp
  rw [← hW] at hl
  have hown1 : W.ownsRow 0 159 3 sl n xs := by rw [hW]; exact hown.alloc _
  clear hW
  have an : sl.ownBlock ≠ some w.heap.size := by
    intro e
    have := aS.out _ e
    have := hSl _ this
    omega
  have w0 := (HW.cell (p := ⟨b, 0, none⟩) lb).trans k0
  have w1 := (HW.cell (p := ⟨b, 1, none⟩) lb).trans k1
  have wf := (HW.frozen (p := ⟨b, 0, none⟩) lb).trans kf
  have wfa : ∀ o, (W.alloc o).drew.frozen? ⟨b, 0, none⟩ = false := fun o => by
    have := ((bel_alloc (Below.refl _ W) (o := o)).drew.frozen (p := ⟨b, 0, none⟩) (by simp; omega)).trans wf
    exact this
  have wca : ∀ o, (W.alloc o).drew.cell? ⟨b, 0, none⟩ = some sl := fun o => by
    have := ((bel_alloc (Below.refl _ W) (o := o)).drew.cell (p := ⟨b, 0, none⟩) (by simp; omega)).trans w0
    exact this
  clear k0 k1 kf hown
  go_upto_region 3 with (fail)
  go_region_law
    ((refine step_append_lies _ (by rfl) _ _ _ (by rfl) 0 159 i0 _ 3 24 Try.underlying155 hi0 hz0 hz1 hz2 rfl (by omega) sl n xs (by rfl) ((hown1.alloc _).drew)
        ⟨W.heap.size, 0, none⟩ 1 1 [.int .i64 ds, .int .i64 dd, .int .i64 id] (by rfl) (by rfl) (World.news_of_block (cs := #[.int .i64 ds, .int .i64 dd, .int .i64 id]) (t := 159) (fr := (0, 0)) (heap_alloc_new W _)) (by simp [Value.oneCell'])
        (by omega) (by unfold maxLen; omega) (by omega) (by simp) (W.heap.size + 1) (by simp) ?_; intro g cap w1 hown2 hgrow hat hlt; have u0 := (hgrow.cell_far ⟨b, 0, none⟩ (by simp; omega) (Ne.symm ag)).trans (wca _); have u1 := (hgrow.frozen_far ⟨b, 0, none⟩ (by simp; omega) (Ne.symm ag)).trans (wfa _)))
  all_goals
    obtain ⟨hI, hM3, bg, gm, hK, hgS⟩ := push_lay (x := ⟨⟨ds, dd⟩, id⟩) (S := S) Hb.out HM.out hne ag am aS.out ab (bel_trans HW (bel_drew (bel_alloc (Below.refl _ _)))) hown2 hlies.out hgrow (hat.imp_right fun e => by omega)
    clear hown2 hgrow hat hlt u0 u1
    generalize (w1.setCell ⟨b, 0, none⟩ (.slice (some ⟨g, 0, none⟩) (n + 1) cap)) = w3 at *
    have kb := hI.1
    have x0 : w3.cell? ⟨b, 0, none⟩ = some (.slice (some ⟨g, 0, none⟩) (n + 1) cap) := by simp [World.cell?, kb]
    have cU := Lib.hid (heapUp w3 b g cap (n + 1) mb N (upd c n ⟨⟨ds, dd⟩, id⟩) m n hI hM3 (by omega) bg hne gm (Holds.cc hHp.out hCp.out) hLp.out hDp.out (by rw [upd_same]; exact hPp.out))
    clear kb hI hM3
    go_wp2_with fail
    (with_reducible refine (cU.out).mono ?_)
    rintro e w4 ⟨rfl, hF⟩
    have hE := heapOf_end hF bg hne gm hHp.out hCp.out hK ab amS hgS (.bool true)
    clear hF hK
    go_wp2
    go_ret
    exact hE
theorem ItemsIn.set2 {w : World} {b cap n : Nat} {c : Nat → It} (h : ItemsIn w b cap n c) {i : Nat} (hi : i < n) (x : It) (hx : x.id = (c i).id) :
    ItemsIn ((w.setCell ⟨b, i * 3, none⟩ (.int .i64 x.c.s)).setCell ⟨b, i * 3 + 1, none⟩ (.int .i64 x.c.d)) b cap n (upd c i x) := by
  obtain ⟨h1, h2, cur, h3, h4, h5⟩ := h
  refine ⟨h1, h2, _, set_heapH _ _ _ _ _ _ (set_heapH _ _ _ _ _ _ h3), by simp [h4], ?_⟩
  intro k hk
  obtain ⟨a1, a2, a3⟩ := h5 k hk
  by_cases e : k = i
  · subst e
    simp only [Array.getElem?_setIfInBounds, Array.size_setIfInBounds, upd]
    simp [a3, hx]
    omega
  · simp only [Array.getElem?_setIfInBounds, upd, if_neg e]
    rw [if_neg (by omega), if_neg (by omega), if_neg (by omega), if_neg (by omega), if_neg (by omega), if_neg (by omega)]
    exact ⟨a1, a2, a3⟩
set_option maxRecDepth 100000 in
set_option maxHeartbeats 3200000 in
theorem heapPush_old (w : World) (S : List Nat) (b n : Nat) (hp : Int → Option C) (id ds dd es ed : Int) (t : Bool) (h : HeapOf w S b n hp) (hz : hp id = some ⟨es, ed⟩) (hc : inCC ⟨ds, dd⟩) (ht : decide (C.cmp ⟨ds, dd⟩ ⟨es, ed⟩ < 0) = t) :
    Calls Try.prog 59 #[.pointer (some ⟨b, 0, none⟩), .int .i64 id, .agg #[.int .i64 ds, .int .i64 dd]] w (HeapD w S b n (if t = true then hset hp id (some ⟨ds, dd⟩) else hp) (.bool t)) := by
  have h0 := h
  have H0 := Lib.hid h0
  obtain ⟨mb, m, N, c, sl, hb, hM, hne, hR, hP, hH, hD, hL, hC⟩ := h
  have lb := (Array.getElem?_eq_some_iff.1 hb).1
  have lm := hM.lt
  obtain ⟨k, hk, hck, hmk⟩ := hP.some hH hz
  have hl := mapLook_in (hM.below (w' := w.alloc (.cells #[.int .i64 ds, .int .i64 dd] 23)) (bel_alloc (Below.refl _ _))) hmk
  obtain ⟨ag, am, aS, ab, amS⟩ := hR.own hne
  rcases hR with ⟨_, hn0, _⟩ | ⟨rb, cap, rfl, hI, hbr, hrm, hS⟩
  · omega
  have lr := hI.lt
  have hcap := hI.1
  have hrS : rb ∈ S := by rw [hS]; simp
  have hCe := hC _ _ hz
  have hHp := Lib.hid (Holds.turn hH hD hk ⟨⟨ds, dd⟩, id⟩ (by rw [hck]))
  have hDp := Lib.hid (Dst.turn hD hk ⟨⟨ds, dd⟩, id⟩ (by rw [hck]))
  have hPp := Lib.hid (hP.turn hk ⟨⟨ds, dd⟩, id⟩ (by rw [hck]))
  have hCp := Lib.hid (hset_cc (i := id) hC hc)
  have hLp : t = true → HeapUp n (upd c k ⟨⟨ds, dd⟩, id⟩) k := by
    intro e
    refine heap_less hk hL (It.le_of_lt ?_)
    rw [hck]
    rw [e] at ht
    exact .inl (C.cmp_neg.1 (of_decide_eq_true ht))
  have hLp := Lib.hid hLp
  have hck' := Lib.hid (show (⟨⟨ds, dd⟩, id⟩ : It).id = (c k).id by rw [hck])
  obtain ⟨c1, c2, c3⟩ := hI.cells hk
  rw [hck] at c1 c2 c3
  simp only at c1 c2 c3
  have k0 : w.cell? ⟨b, 0, none⟩ = some (.slice (some ⟨rb, 0, none⟩) n cap) := by simp [World.cell?, hb]
  have k1 : w.cell? ⟨b, 1, none⟩ = some (.map (some mb)) := by simp [World.cell?, hb]
  have cL := costLess ds dd es ed
  rw [ht] at cL
  have cL := Lib.hid (fun w => cL w hc.1 hc.2 hCe.1 hCe.2)
  have Hb := Lib.hid hb
  have HM := Lib.hid hM
  have HI := Lib.hid hI
  clear hb hM hP hH hD hL hC hz hck hmk ht hI hS hCe aS c3 h0
  go_enter Try.func59, Try.ntmps59
  go_upto_region 1 with (fail)
  refine wp_name ?_
  intro W hW
  have HW : Below w.heap.size w W := by rw [hW]; (repeat' (first | exact Below.refl _ _ | assumption | apply bel_drewN | apply bel_drew | apply bel_alloc | (refine bel_trans ?_ (by assumption))))
  have hW0 : w.heap.size < W.heap.size := by rw [hW]; simp
  have d1 : W.cell? ⟨w.heap.size, 0, none⟩ = some (.int .i64 ds) := by rw [hW]; go_simp
  have d2 : W.cell? ⟨w.heap.size, 1, none⟩ = some (.int .i64 dd) := by rw [hW]; go_simp
  rw [← hW] at hl
  clear hW
  have w0 := (HW.cell (p := ⟨b, 0, none⟩) lb).trans k0
  have w1 := (HW.cell (p := ⟨b, 1, none⟩) lb).trans k1
  have e1 := (HW.cell (p := ⟨rb, k * 3, none⟩) lr).trans c1
  have e2 := (HW.cell (p := ⟨rb, k * 3 + 1, none⟩) lr).trans c2
  clear k0 k1 c1 c2
  have d1q := cell_regrown d1
  have d2q := cell_regrown d2
  have w0q := cell_regrown w0
  have e1q := cell_regrown e1
  have e2q := cell_regrown e2
  have HB := Below.refl W.heap.size W
  go_upto_region 6 with (fail)
  refine wp_region_quiet_below (by kernel_rfl) (by kernel_rfl) ?_
  repeat (first | go_big_quiet_step (with_reducible exact Calls.regrown_of (cL.out _)) | quiet_step (with_reducible exact Calls.regrown_of (cL.out _)))
  refine wpQuiet_nil ?_
  intro _ hw'
  obtain ⟨⟨dq, osq⟩, hw''⟩ := hw'
  have HB2 := bel_trans HB (below_regrown W dq osq)
  have hb2 := below_regrown W dq osq
  subst hw''
  generalize grow (redrawn W dq) osq = w2 at HB2 hb2 ⊢
  have HW2 := bel_trans HW HB2
  have d1 := (HB2.cell (by exact hW0)).trans d1
  have d2 := (HB2.cell (by exact hW0)).trans d2
  have w0 := (HW2.cell (p := ⟨b, 0, none⟩) lb).trans (by simp [World.cell?, Hb.out] : w.cell? ⟨b, 0, none⟩ = some (.slice (some ⟨rb, 0, none⟩) n cap))
  clear d1q d2q w0q e1q e2q e1 e2 w1 hl hb2
  cases t with
  | false =>
    go_wp2
    go_ret
    exact ⟨rfl, S, H0.out.below HW2, fun k hk => .inl hk, .of_below HW2⟩
  | true =>
    have hI2 := HI.out.below HW2
    have hM2 := HM.out.below HW2
    have hb2 := (HW2.block b lb).trans Hb.out
    have kf0 := hI2.frozen (k * 3)
    have kf1 := hI2.frozen (k * 3 + 1)
    obtain ⟨c1, c2, c3⟩ := hI2.cells hk
    clear c3
    go_wp2_with fail
    go_still_tail 8, (by kernel_rfl)
    change wpList _ _ _ _ _ w2.drew
    have HW3 : Below w.heap.size w w2.drew := bel_drew HW2
    clear hI2 hM2 hb2 kf0 kf1 c1 c2 d1 d2 w0 HB2
    generalize w2.drew = w3 at *
    have hI3 := HI.out.below HW3
    have hM3 := HM.out.below HW3
    have hb3 := (HW3.block b lb).trans Hb.out
    have kf0 := hI3.frozen (k * 3)
    have kf1 := hI3.frozen (k * 3 + 1)
    obtain ⟨c1, c2, c3⟩ := hI3.cells hk
    clear c3
    have hI4 := hI3.set2 hk ⟨⟨ds, dd⟩, id⟩ hck'.out
    have hK4 : Kept [rb] w3 ((w3.setCell ⟨rb, k * 3, none⟩ (.int .i64 ds)).setCell ⟨rb, k * 3 + 1, none⟩ (.int .i64 dd)) := (((Kept.refl _ _).setCell (.inl (by simp))).setCell (.inl (by simp)))
    have hK5 : Kept S w ((w3.setCell ⟨rb, k * 3, none⟩ (.int .i64 ds)).setCell ⟨rb, k * 3 + 1, none⟩ (.int .i64 dd)) := ((Kept.of_below HW3).setCell (.inl hrS)).setCell (.inl hrS)
    have hM4 := hM3.kept hK4 (by simpa using Ne.symm hrm)
    have hb4 := (hK4.block b (by have := HW3.size; omega) (by simpa using hbr)).trans hb3
    have H4 := Lib.hid (show HeapIn _ b rb cap n mb (upd c k ⟨⟨ds, dd⟩, id⟩) ∧ MapAt (fun z : Int => Value.int .i64 z) _ mb m N ∧ Kept S w _ from ⟨⟨hb4, hI4⟩, hM4, hK5⟩)
    clear hI3 hM3 hb3 hI4 hK4 hM4 hb4 hK5
    go_wp2_with fail
    generalize ((w3.setCell ⟨rb, k * 3, none⟩ (.int .i64 ds)).setCell ⟨rb, k * 3 + 1, none⟩ (.int .i64 dd)) = w4 at *
    have cU := Lib.hid (heapUp w4 b rb cap n mb N (upd c k ⟨⟨ds, dd⟩, id⟩) m k H4.out.1 H4.out.2.1 hk hbr hne hrm (Holds.cc hHp.out hCp.out) (hLp.out (by simp)) hDp.out (by rw [upd_same]; exact hPp.out))
    have hK := H4.out.2.2
    clear H4
    (with_reducible refine (cU.out).mono ?_)
    rintro e w5 ⟨rfl, hF⟩
    have hE := heapOf_end hF hbr hne hrm hHp.out hCp.out hK ab amS (.inl hrS) (.bool true)
    clear hF hK
    go_wp2
    go_ret
    exact hE
end Go.Proofs.Ytkiogciokngjfaa
