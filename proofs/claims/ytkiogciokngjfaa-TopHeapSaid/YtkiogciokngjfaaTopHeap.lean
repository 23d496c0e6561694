/- The law TopHeap: whatever is pushed, what is popped comes in order. -/
import Derived.Test.YtkiogciokngjfaaHeapSays
import Derived.Test.YtkiogciokngjfaaTopMoves
import Derived.StillTailTactics
set_option linter.unusedVariables false
set_option linter.unusedSimpArgs false
namespace Go.Proofs.Ytkiogciokngjfaa
open Go.RowKit Go.Sort FR
def costV (c : C) : Value := .agg #[.int .i64 c.s, .int .i64 c.d]
/-- the map of costs that says what hp says -/
def costM (hp : Int → Option C) : Int → Option Value := fun z => (hp z).map costV
theorem costM_set (hp : Int → Option C) (id : Int) (c : C) : updK (costM hp) id (some (costV c)) = costM (hset hp id (some c)) := by
  funext z; unfold updK costM hset; by_cases e : z = id <;> simp [e]
theorem costM_del (hp : Int → Option C) (id : Int) : updK (costM hp) id none = costM (hset hp id none) := by
  funext z; unfold updK costM hset; by_cases e : z = id <;> simp [e]
theorem cost_zero (w : World) : (zeroValue 23).run Try.prog w = .ok (.agg #[.int .i64 0, .int .i64 0]) w := by kernel_rfl
theorem cLook_in {w : World} {b N : Nat} {hp : Int → Option C} (h : MapAt (fun z : Int => Value.int .i64 z) w b (costM hp) N) {z s d : Int} (hz : hp z = some ⟨s, d⟩) :
    (Instr.lookup 117 (.map (some b)) (.int .i64 z) true).run Try.prog w = .ok (.tuple #[.agg #[.int .i64 s, .int .i64 d], .bool true]) w := by
  have := (h.look (int_fit Try.underlying3) Try.underlying117 (cost_zero w) z).1
  unfold costM at this
  rw [hz] at this; exact this
theorem cLook_out {w : World} {b N : Nat} {hp : Int → Option C} (h : MapAt (fun z : Int => Value.int .i64 z) w b (costM hp) N) {z : Int} (hz : hp z = none) :
    (Instr.lookup 117 (.map (some b)) (.int .i64 z) true).run Try.prog w = .ok (.tuple #[.agg #[.int .i64 0, .int .i64 0], .bool false]) w := by
  have := (h.look (int_fit Try.underlying3) Try.underlying117 (cost_zero w) z).1
  unfold costM at this
  rw [hz] at this; exact this
/-- a slice of n costs, f k at place k -/
def Costs (w : World) (A : Option Addr) (n : Nat) (f : Nat → C) : Prop := 0 < n → ∃ b o, A = some ⟨b, o, none⟩ ∧ b < w.heap.size ∧ ∀ k, k < n → w.cell? ⟨b, o + k * 2, none⟩ = some (.int .i64 (f k).s) ∧ w.cell? ⟨b, o + k * 2 + 1, none⟩ = some (.int .i64 (f k).d)
structure SlC (W : World) (A : Option Addr) (n : Nat) (f : Nat → C) : Prop where
  cs : Costs W A n f
  len : n ≤ 9223372036854775807
theorem idx_runC {A : Option Addr} {b o n m k : Nat} (h : A = some ⟨b, o, none⟩) (hk : k < n) (wx : World) : (Instr.indexAt 116 (.slice A n m) (.int .i64 (k : Nat))).run Try.prog wx = .ok (.pointer (some ⟨b, o + k * 2, none⟩)) wx := by
  subst h
  have q : (k : Int) < (n : Int) := by omega
  go_simp
/-- the heap and the map say the same -/
structure HM (W0 w : World) (S : List Nat) (b mb n : Nat) (hp : Int → Option C) : Prop where
  h : HeapOf w S b n hp
  m : MapAt (fun z : Int => Value.int .i64 z) w mb (costM hp) n
  mS : mb ∉ S
  SB : ∀ j ∈ S, W0.heap.size ≤ j
  mB : W0.heap.size ≤ mb
  B : Below W0.heap.size W0 w
theorem HM.below {W0 w w' : World} {S : List Nat} {b mb n : Nat} {hp : Int → Option C} (h : HM W0 w S b mb n hp) (hb : Below w.heap.size w w') : HM W0 w' S b mb n hp :=
  ⟨h.h.below hb, h.m.below hb, h.mS, h.SB, h.mB, bel_trans h.B hb⟩
theorem HM.mid {W0 w wh : World} {S S1 : List Nat} {b mb n n3 : Nat} {hp hp3 : Int → Option C} (h : HM W0 w S b mb n hp) (h1 : HeapOf wh S1 b n3 hp3) (h2 : ∀ j ∈ S1, j ∈ S ∨ w.heap.size ≤ j) (h3 : Kept S w wh) :
    MapAt (fun z : Int => Value.int .i64 z) wh mb (costM hp) n ∧ mb ∉ S1 ∧ (∀ j ∈ S1, W0.heap.size ≤ j) ∧ Below W0.heap.size W0 wh := by
  have hs := h.B.size
  refine ⟨h.m.kept h3 h.mS, ?_, ?_, Kept.below h.B h3 hs h.SB⟩
  · intro hm
    rcases h2 _ hm with h' | h'
    · exact h.mS h'
    · have := h.m.lt; omega
  · intro j hj
    rcases h2 j hj with h' | h'
    · exact h.SB j h'
    · omega
theorem HM.fin {W0 wh w9 : World} {S1 : List Nat} {b mb N n3 : Nat} {hp3 : Int → Option C} {M : Int → Option Value} (h1 : HeapOf wh S1 b n3 hp3) (hm : mb ∉ S1) (hS : ∀ j ∈ S1, W0.heap.size ≤ j) (hmB : W0.heap.size ≤ mb) (hB : Below W0.heap.size W0 wh)
    (h9 : MapAt (fun z : Int => Value.int .i64 z) w9 mb M N) (hN : N = n3) (hM : M = costM hp3) (hk : Kept [mb] wh w9) : HM W0 w9 S1 b mb n3 hp3 := by
  subst hN hM
  refine ⟨h1.kept hk ?_, h9, hm, hS, hmB, Kept.below hB hk hB.size (by simp; exact hmB)⟩
  intro j hj e
  simp at e; subst e; exact hm hj
/-- what holds at the head of a round that pops -/
def TH2 (W0 : World) (b mb L j : Nat) (id : Int) (w : World) : Prop := ∃ ls ld S n hp, HM W0 w S b mb n hp ∧ j + n ≤ 120 ∧ w.heap[L]? = some (.cells #[.int .i64 ls, .int .i64 ld] 23 (0, 0)) ∧ L ∉ S ∧ L ≠ mb ∧ W0.heap.size ≤ L ∧ inCC ⟨ls, ld⟩ ∧
  (0 < j → ∀ z d, hp z = some d → It.lt ⟨⟨ls, ld⟩, id⟩ ⟨d, z⟩)
/-- what holds at a round's head -/
def TH1 (W0 : World) (b mb k : Nat) (w : World) : Prop := ∃ S n hp, HM W0 w S b mb n hp ∧ n ≤ k
/-- does the push change something? -/
def lessT (hp : Int → Option C) (id ds dd : Int) : Bool := match hp id with
  | none => true
  | some e => decide (C.cmp ⟨ds, dd⟩ e < 0)
theorem push_any (S : List Nat) (b n : Nat) (hp : Int → Option C) (id ds dd : Int) (hc : inCC ⟨ds, dd⟩) (hn : n ≤ 1000) (w : World) (h : HeapOf w S b n hp) :
    Calls Try.prog 59 #[.pointer (some ⟨b, 0, none⟩), .int .i64 id, .agg #[.int .i64 ds, .int .i64 dd]] w
      (HeapD w S b (if lessT hp id ds dd = true then (if (hp id).isSome then n else n + 1) else n) (if lessT hp id ds dd = true then hset hp id (some ⟨ds, dd⟩) else hp) (.bool (lessT hp id ds dd))) := by
  cases hz : hp id with
  | none =>
    have e : lessT hp id ds dd = true := by unfold lessT; rw [hz]
    rw [e]
    simpa using heapPush_new w S b n hp id ds dd h hz hc (by omega)
  | some d =>
    obtain ⟨es, ed⟩ := d
    have e : lessT hp id ds dd = decide (C.cmp ⟨ds, dd⟩ ⟨es, ed⟩ < 0) := by unfold lessT; rw [hz]
    have := heapPush_old w S b n hp id ds dd es ed (lessT hp id ds dd) h hz hc e.symm
    simpa using this
theorem push_ex (S : List Nat) (b n : Nat) (hp : Int → Option C) (id ds dd : Int) (lt : Bool) (hlt : lessT hp id ds dd = lt) (hc : inCC ⟨ds, dd⟩) (hn : n ≤ 1000) : ∃ n3 hp3, n3 ≤ n + 1 ∧ (lt = true → hp3 = hset hp id (some ⟨ds, dd⟩) ∧ n3 = if (hp id).isSome then n else n + 1) ∧ (lt = false → hp3 = hp ∧ n3 = n) ∧
    ∀ w, HeapOf w S b n hp → Calls Try.prog 59 #[.pointer (some ⟨b, 0, none⟩), .int .i64 id, .agg #[.int .i64 ds, .int .i64 dd]] w (HeapD w S b n3 hp3 (.bool lt)) := by
  refine ⟨_, _, ?_, ?_, ?_, fun w h => by have := push_any S b n hp id ds dd hc hn w h; rw [hlt] at this; exact this⟩
  · split
    · split <;> omega
    · omega
  · rintro rfl; simp
  · rintro rfl; simp
theorem cell_keptA {S : List Nat} {w w' : World} {ad : Addr} {v : Value} (hk : Kept S w w') (hx : ad.block ∉ S) (h : w.cell? ad = some v) : w'.cell? ad = some v := by
  have hlt := World.block_lt_of_cell? w _ h
  exact (World.cell?_of_block (hk.block ad.block hlt hx)).trans h
theorem look_cases {W0 w : World} {S : List Nat} {b mb n : Nat} {hp : Int → Option C} {id : Int} (h : HM W0 w S b mb n hp) : ∃ (s d : Int) (t : Bool),
    (Instr.lookup 117 (.map (some mb)) (.int .i64 id) true).run Try.prog w = .ok (.tuple #[.agg #[.int .i64 s, .int .i64 d], .bool t]) w ∧ ((t = true ∧ hp id = some ⟨s, d⟩) ∨ (t = false ∧ s = 0 ∧ d = 0 ∧ hp id = none)) := by
  cases hz : hp id with
  | none => exact ⟨0, 0, false, cLook_out h.m hz, .inr ⟨rfl, rfl, rfl, rfl⟩⟩
  | some d => exact ⟨d.s, d.d, true, cLook_in h.m hz, .inl ⟨rfl, rfl⟩⟩
theorem Ints.blk {w : World} {ad : Addr} {n : Nat} {f : Nat → Int} (h : Ints w (some ad) n f) (hn : 0 < n) : ad.block < w.heap.size := by
  obtain ⟨ad', e, h1, _⟩ := h hn
  injection e with e; subst e; exact h1
set_option maxRecDepth 100000 in
set_option maxHeartbeats 6400000 in
theorem topHeap (W0 : World) (A : Option Addr) (n m : Nat) (f : Nat → Int) (h : SlI W0 A n f) (A2 : Option Addr) (n2 m2 : Nat) (f2 : Nat → C) (h2 : SlC W0 A2 n2 f2) :
    Calls Try.prog 13 #[.slice A n m, .slice A2 n2 m2] W0 fun e w' => e = .returned (.bool true) ∧ Below W0.heap.size W0 w' := by
  obtain ⟨hI, hl, _⟩ := h
  obtain ⟨hI2, hl2⟩ := h2
  have hI2 := Lib.hid hI2
  have hI := Lib.hid hI
  have hmm := @run_makeMap Try.prog
  go_enter Try.func13, Try.ntmps13
  go_wp2_with fail
  (with_reducible refine (heapNew _).mono ?_)
  rintro e w1 ⟨b0, S0, rfl, hH0, hS0, hb1⟩
  go_wp2_with fail
  refine (heapPush_new w1 S0 b0 0 (fun _ => none) 1 5 0 hH0 rfl ⟨by decide, by decide⟩ (by decide)).mono ?_
  rintro e w2 ⟨rfl, S2, hH2, hS2, hk2⟩
  have hb2 := Kept.below hb1 hk2 hb1.size hS0
  clear hS0 hb1 hS2 hk2 hH0
  go_wp2_with fail
  (with_reducible refine (heapLen _ S2 b0 _ _ hH2).mono ?_)
  rintro e w3 ⟨rfl, rfl⟩
  clear hH2
  by_cases hn : 120 < n
  · go_wp2
    go_ret
    exact ⟨rfl, hb2⟩
  by_cases hn2 : 120 < n2
  · go_wp2
    go_ret
    exact ⟨rfl, hb2⟩
  clear hl hl2
  go_wp2_with fail
  (with_reducible refine (heapNew _).mono ?_)
  rintro e w4 ⟨b, S, rfl, hH, hS, hb4⟩
  have HB := bel_trans hb2 hb4
  have hBS : ∀ k ∈ S, W0.heap.size ≤ k := fun k hk => Nat.le_trans hb2.size (hS k hk)
  clear hS
  go_upto_region 8 with (fail)
  have hstart : TH1 W0 b w4.heap.size 0 (w4.alloc (.map #[] 0)) := by
    refine ⟨S, 0, fun _ => none, ⟨hH.below (bel_alloc (Below.refl _ _)), MapAt.made w4, fun hm => ?_, hBS, HB.size, bel_alloc HB⟩, by omega⟩
    have := hH.lt _ hm; omega
  clear hH hb2 hb4 hBS HB hmm
  generalize w4.alloc (.map #[] 0) = w5 at hstart ⊢
  generalize w4.heap.size = mb at hstart ⊢
  go_wp2_with fail
  go_loopw [8] (fun iv wr => ∃ k : Nat, k ≤ n ∧ k ≤ n2 ∧ iv = .int .i64 k ∧ TH1 W0 b mb k wr) (fun iv _ => n - (intOf iv).toNat)
  case atStart => exact ⟨0, by omega, by omega, rfl, hstart⟩
  case round =>
    obtain ⟨k, hk, hk2, rfl, S, ne, hp, hM, hne⟩ := hrel
    clear hstart
    by_cases hlt : k < n ∧ k < n2
    · obtain ⟨hlt1, hlt2⟩ := hlt
      obtain ⟨ad, hA⟩ := hI.out.addr (by omega)
      have hIa := hI.out
      rw [hA] at hIa
      have hix := fun wx => idx_run (m := m) hA hlt1 wx
      have hix2 := Lib.hid hix
      have hE0 := hIa.cell (Below.refl _ _) hlt1
      have hadW := hIa.blk (by omega)
      obtain ⟨pb, po, hA2, hpb, hcells⟩ := hI2.out (by omega)
      have hjx := fun wx => idx_runC (m := m2) hA2 hlt2 wx
      obtain ⟨⟨ds, dd⟩, hfk⟩ : ∃ x, f2 k = x := ⟨_, rfl⟩
      obtain ⟨c1, c2⟩ := hcells k hlt2
      rw [hfk] at c1 c2
      simp only at c1 c2
      clear hA hA2 hcells hfk
      have hE := (hM.B.cell (by rw [add_block]; exact hadW)).trans hE0
      have d1 := (hM.B.cell hpb).trans c1
      have d2 := (hM.B.cell hpb).trans c2
      obtain ⟨na, cF, hna0, hna1, hna2⟩ := fault_of ds dd
      have cF := Lib.hid cF
      have hna2 := Lib.hid hna2
      have hM := Lib.hid hM
      go_wp2_with fail
      refine (cF.out _).mono ?_
      rintro e w6 ⟨rfl, hb6⟩
      by_cases hna : na = 0
      · subst hna
        have hok := hna2.out rfl
        obtain ⟨ic1, ic2⟩ := hok.inC
        clear hna0 hna1 hna2 hok
        have hM6 := Lib.hid (hM.out.below hb6)
        clear hM hb6 hE d1 d2
        have hE := (hM6.out.B.cell (by rw [add_block]; exact hadW)).trans hE0
        have d1 := (hM6.out.B.cell hpb).trans c1
        have d2 := (hM6.out.B.cell hpb).trans c2
        obtain ⟨es, ed, t1, hlook, hcase⟩ := look_cases (id := f k) hM6.out
        have hcase := Lib.hid hcase
        go_upto_region 14 with (fail)
        refine wp_name ?_
        intro W hW
        have HW : Below w6.heap.size w6 W := by rw [hW]; (repeat' (first | exact Below.refl _ _ | assumption | apply bel_drewN | apply bel_drew | apply bel_alloc | (refine bel_trans ?_ (by assumption))))
        have e1 : W.cell? ⟨w6.heap.size, 0, none⟩ = some (.int .i64 es) := by rw [hW]; go_simp
        have e2 : W.cell? ⟨w6.heap.size, 1, none⟩ = some (.int .i64 ed) := by rw [hW]; go_simp
        clear hW hlook
        have hM7 := Lib.hid (hM6.out.below HW)
        have hlt2' : (k : Int) < (n2 : Int) := by omega
        clear HW hM6 hE d1 d2
        have hE := (hM7.out.B.cell (by rw [add_block]; exact hadW)).trans hE0
        have d1 := (hM7.out.B.cell hpb).trans c1
        have d2 := (hM7.out.B.cell hpb).trans c2
        obtain ⟨lt, hlt⟩ : ∃ lt, lessT hp (f k) ds dd = lt := ⟨_, rfl⟩
        have Hlt := Lib.hid hlt
        clear hlt
        have HB := Below.refl W.heap.size W
        have d1q := cell_regrown d1
        have d2q := cell_regrown d2
        have e1q := cell_regrown e1
        have e2q := cell_regrown e2
        go_cut [11] (fun s wx => s = .bool lt ∧ Below W.heap.size W wx)
        case first =>
          rcases hcase.out with ⟨rfl, hsome⟩ | ⟨rfl, rfl, rfl, hnone⟩
          · have hce := hM7.out.h.cc _ _ hsome
            have cC := refCompare ds dd es ed
            obtain ⟨cv, hcv⟩ : ∃ cv, C.cmp ⟨ds, dd⟩ ⟨es, ed⟩ = cv := ⟨_, rfl⟩
            have hl2 : lt = decide (cv < 0) := by rw [← Hlt.out, ← hcv]; unfold lessT; rw [hsome]
            rw [hcv] at cC
            have cC := Lib.hid (fun w => cC w ic1 ic2 hce.1 hce.2)
            have hl2 := Lib.hid hl2
            clear hcv hce hsome
            refine wp_region_quiet_below (by kernel_rfl) (by kernel_rfl) ?_
            repeat (first | go_big_quiet_step (with_reducible exact Calls.regrown_of (cC.out _)) | quiet_step (with_reducible exact Calls.regrown_of (cC.out _)))
            refine wpQuiet_nil ?_
            intro _ hw'
            obtain ⟨⟨dq, osq⟩, hw''⟩ := hw'
            have HB2 := bel_trans HB (below_regrown W dq osq)
            have hb2 := below_regrown W dq osq
            subst hw''
            generalize grow (redrawn W dq) osq = w8 at HB2 hb2 ⊢
            go_wp2
            go_meet
            case rel => exact ⟨by rw [hl2.out], HB2⟩
          · have hl2 : lt = true := by rw [← Hlt.out]; unfold lessT; rw [hnone]
            subst hl2
            clear hnone
            go_quiet (fail)
            go_wp2
            go_meet
            case rel => exact ⟨rfl, by (repeat' (first | exact Below.refl _ _ | assumption | apply bel_drewN | apply bel_drew | apply bel_alloc | (refine bel_trans ?_ (by assumption))))⟩
        case rest =>
          obtain ⟨rfl, HBc⟩ := hcut
          have hM8 := Lib.hid (hM7.out.below HBc)
          clear HBc HB hE d1 d2 e1 e2 d1q d2q e1q e2q
          have hE := (hM8.out.B.cell (by rw [add_block]; exact hadW)).trans hE0
          have d1 := (hM8.out.B.cell hpb).trans c1
          have d2 := (hM8.out.B.cell hpb).trans c2
          go_upto_region 15 with (fail)
          obtain ⟨n3, hp3, hn3, hyes, hno, cP⟩ := push_ex S b ne hp (f k) ds dd lt Hlt.out ⟨ic1, ic2⟩ (by omega)
          have cP := Lib.hid cP
          have hyes := Lib.hid hyes
          have hno := Lib.hid hno
          have hoS : ∀ j, j < W0.heap.size → j ∉ S := fun j hj hm => by have := hM8.out.SB j hm; omega
          have hadS := hoS _ hadW
          have hpbS := hoS _ hpb
          have hoS := Lib.hid hoS
          have q1 : (0 : Int) ≤ (k : Int) := by omega
          go_region_held3 (fun w' => w'.cell? (ad.add k) = some (.int .i64 (f k)) ∧ w'.cell? ⟨pb, po + k * 2, none⟩ = some (.int .i64 ds) ∧ w'.cell? ⟨pb, po + k * 2 + 1, none⟩ = some (.int .i64 dd))
            (first
              | go_keep
              | (go_split_ands
                 exact ⟨cell_keptA hKh (by rw [add_block]; exact hadS) (by assumption), cell_kept hKh hpbS (by assumption), cell_kept hKh hpbS (by assumption)⟩))
            (first
              | (go_at_call 59
                 refine (cP.out _ (by exact hM8.out.h)).mono ?_
                 rintro e wh ⟨rfl, S1, hh1, hh2, hKh⟩
                 try replace hKh := Kept.undrew hKh))
          obtain ⟨g1, g2, g3, g4⟩ := hM8.out.mid hh1 hh2 hKh
          have hmB := hM8.out.mB
          have G := Lib.hid (And.intro hh1 (And.intro g1 (And.intro g2 (And.intro g3 g4))))
          clear hh1 hh2 hKh g1 g2 g3 hE d1 d2 hM8 cP
          cases lt with
          | false =>
            have hF : TH1 W0 b mb (k + 1) wh := by
              obtain ⟨e1, e2⟩ := hno.out rfl
              subst e1 e2
              obtain ⟨f1, f2, f3, f4, f5⟩ := G.out
              exact ⟨S1, _, _, ⟨f1, f2, f3, f4, hmB, f5⟩, by omega⟩
            go_wp2
            go_roundw
            case rel => first | exact ⟨k + 1, by omega, by omega, by go_num, hF⟩ | ((repeat apply Exists.intro); exact ⟨⟨k + 1, by omega, by omega, by go_num, hF⟩, rfl⟩)
            case measure => simp [intOf]; omega
          | true =>
            have hE := (g4.cell (by rw [add_block]; exact hadW)).trans hE0
            have d1 := (g4.cell hpb).trans c1
            have d2 := (g4.cell hpb).trans c2
            clear g4
            go_upto_region 18 with (fail)
            go_still_tail 9, (by kernel_rfl)
            change wpList _ _ _ _ _ wh.drew
            refine wpList_storeM rfl _ _ _ rfl (int_fit Try.underlying3) Try.underlying117 (w := wh.drew) (n := ne) (m := costM hp) (b := mb) G.out.2.1 rfl (f k) rfl (costV ⟨ds, dd⟩) rfl ?_
            intro w9 hM9 hk9
            have hF : TH1 W0 b mb (k + 1) w9 := by
              obtain ⟨e1, e2⟩ := hyes.out rfl
              obtain ⟨f1, f2, f3, f4, f5⟩ := G.out
              refine ⟨S1, n3, hp3, HM.fin f1 f3 f4 hmB f5 hM9 ?_ ?_ (Kept.undrew hk9), by omega⟩
              · rw [e2]; unfold costM; simp
              · rw [e1, costM_set]
            clear hM9 hk9 hE d1 d2
            go_wp2
            go_roundw
            case rel => first | exact ⟨k + 1, by omega, by omega, by go_num, hF⟩ | ((repeat apply Exists.intro); exact ⟨⟨k + 1, by omega, by omega, by go_num, hF⟩, rfl⟩)
            case measure => simp [intOf]; omega
      · have hna3 : 0 < na := by omega
        have HB6 := bel_trans hM.out.B hb6
        go_wp2
        go_ret
        exact ⟨rfl, HB6⟩
    · have hlt' : n ≤ k ∨ (k < n ∧ n2 ≤ k) := by omega
      clear hlt
      go_upto_region 9 with (fail)
      go_cut [54] (fun s wx => s = .bool false ∧ wx = wr)
      case first =>
        rcases hlt' with h' | ⟨h', h''⟩
        · go_wp2
          go_meet
          case rel => exact ⟨rfl, rfl⟩
        · have hd2 : decide (k < n2) = false := by simp; omega
          go_wp2
          go_meet
          case rel => exact ⟨by first | rfl | rw [hd2], rfl⟩
      case rest =>
        obtain ⟨rfl, hwc⟩ := hcut
        rw [hwc]
        clear hwc
        have hM := Lib.hid hM
        go_upto_region 19 with (fail)
        go_wp2_with fail
        (with_reducible refine (heapLen _ S b _ _ hM.out.h).mono ?_)
        rintro e w9 ⟨rfl, rfl⟩
        have hlen := hM.out.m.len Try.underlying117 3
        go_upto_region 22 with (fail)
        refine wp_name ?_
        intro W hW
        have HW : Below wr.heap.size wr W := by rw [hW]; (repeat' (first | exact Below.refl _ _ | assumption | apply bel_drewN | apply bel_drew | apply bel_alloc | (refine bel_trans ?_ (by assumption))))
        have hblk : W.heap[wr.heap.size]? = some (.cells #[.int .i64 0, .int .i64 0] 23 (0, 0)) := by rw [hW]; exact heap_alloc_new _ _
        clear hW hlen
        have hstart : TH2 W0 b mb wr.heap.size 0 0 W := ⟨0, 0, S, ne, hp, hM.out.below HW, by omega, hblk, fun hm => by have := hM.out.h.lt _ hm; omega, by have := hM.out.m.lt; omega, hM.out.B.size, ⟨by decide, by decide⟩, fun h => by omega⟩
        generalize wr.heap.size = L at hstart ⊢
        clear HW hblk hM
        go_wp2_with fail
        obtain ⟨wo, rfl⟩ : ∃ wo : World, wo = wr := ⟨_, rfl⟩
        go_loopw [13, 14] (fun iv kv wr => ∃ (j : Nat) (id : Int), kv = .int .i64 j ∧ iv = .int .i64 id ∧ TH2 W0 b mb L j id wr) (fun _ kv _ => 200 - (intOf kv).toNat)
        case atStart => exact ⟨0, 0, rfl, rfl, hstart⟩
        case round =>
          obtain ⟨j, id, rfl, rfl, ls, ld, S, nn, hp, hM, hjn, hLb, hLS, hLm, hLB, hLc, hLt⟩ := hrel
          clear hstart
          have hM := Lib.hid hM
          have hLb := Lib.hid hLb
          have hLt := Lib.hid hLt
          cases nn with
          | zero =>
            go_wp2_with fail
            (with_reducible refine (heapPop_none _ S b hp hM.out.h).mono ?_)
            rintro e w9 ⟨rfl, hb9⟩
            have hm9 := hM.out.m.below (hb9.trans (bel_alloc (Below.refl _ _) (o := .cells #[.int .i64 0, .int .i64 0] 23) |>.mono hb9.size))
            have hlen := hm9.len Try.underlying117 3
            clear hm9
            go_wp2
            go_ret
            exact ⟨rfl, bel_trans hM.out.B (by (repeat' (first | exact Below.refl _ _ | assumption | apply bel_drewN | apply bel_drew | apply bel_alloc | (refine bel_trans ?_ (by assumption)))))⟩
          | succ nn =>
            go_wp2_with fail
            (with_reducible refine (heapPop_some _ S b nn hp hM.out.h (by omega)).mono ?_)
            rintro e w9 ⟨id2, ds, dd, hp2, hmin, rfl, hH9, hK9⟩
            have hdc := hM.out.h.cc _ _ hp2
            have hm9l := (hM.out.m.kept hK9 hM.out.mS).lt
            have hltn : 0 < j → It.lt ⟨⟨ls, ld⟩, id⟩ ⟨⟨ds, dd⟩, id2⟩ := fun h => hLt.out h _ _ hp2
            have hm9 := hM.out.m.kept hK9 hM.out.mS
            have hB9 := Kept.below hM.out.B hK9 hM.out.B.size hM.out.SB
            have hL9 := (hK9.block L (Array.getElem?_eq_some_iff.1 hLb.out).1 hLS).trans hLb.out
            have hnext : 0 < j + 1 → ∀ z d, hset hp id2 none z = some d → It.lt ⟨⟨ds, dd⟩, id2⟩ ⟨d, z⟩ := by
              intro _ z d hz
              unfold hset at hz
              by_cases e : z = id2
              · rw [if_pos e] at hz; cases hz
              · rw [if_neg e] at hz
                rcases It.le_iff.1 (hmin z d hz) with h' | h'
                · exact h'
                · injection h' with _ h2; exact absurd h2.symm e
            have hnext := Lib.hid hnext
            have hltn := Lib.hid hltn
            have hSome := Lib.hid hp2
            obtain ⟨_, _, hmS, hSB, hmB, _⟩ := hM.out
            have hSB := Lib.hid hSB
            clear hp2 hmin hM hLt hLb hK9
            go_upto_region 28 with (fail)
            refine wp_name ?_
            intro W5 hW5
            have HW5 : Below w9.heap.size w9 W5 := by rw [hW5]; (repeat' (first | exact Below.refl _ _ | assumption | apply bel_drewN | apply bel_drew | apply bel_alloc | (refine bel_trans ?_ (by assumption))))
            have hs5 : w9.heap.size < W5.heap.size := by rw [hW5]; simp
            have p1 : W5.cell? ⟨w9.heap.size, 0, none⟩ = some (.int .i64 ds) := by rw [hW5]; go_simp
            have p2 : W5.cell? ⟨w9.heap.size, 1, none⟩ = some (.int .i64 dd) := by rw [hW5]; go_simp
            clear hW5
            have hlook := cLook_in (hm9.below HW5) hSome.out
            go_upto_region 29 with (fail)
            refine wp_name ?_
            intro W6 hW6
            have HW6 : Below W5.heap.size W5 W6 := by rw [hW6]; (repeat' (first | exact Below.refl _ _ | assumption | apply bel_drewN | apply bel_drew | apply bel_alloc | (refine bel_trans ?_ (by assumption))))
            have r1 : W6.cell? ⟨W5.heap.size, 0, none⟩ = some (.int .i64 ds) := by rw [hW6]; go_simp
            have r2 : W6.cell? ⟨W5.heap.size, 1, none⟩ = some (.int .i64 dd) := by rw [hW6]; go_simp
            have hs6 : W5.heap.size < W6.heap.size := by rw [hW6]; simp
            clear hW6 hlook
            have HW := HW5.trans (HW6.mono HW5.size)
            have p1 := (HW6.cell (by exact hs5)).trans p1
            have p2 := (HW6.cell (by exact hs5)).trans p2
            have lL : L < w9.heap.size := (Array.getElem?_eq_some_iff.1 hL9).1
            have hL6 := Lib.hid ((HW.block L lL).trans hL9)
            have hm6 := Lib.hid (hm9.below HW)
            have hH6 := Lib.hid (hH9.below HW)
            have hB6 := bel_trans hB9 HW
            clear hm9 hH9 hB9 hL9 HW5 HW6 HW
            have l1 : W6.cell? ⟨L, 0, none⟩ = some (.int .i64 ls) := by simp [World.cell?, hL6.out]
            have l2 : W6.cell? ⟨L, 1, none⟩ = some (.int .i64 ld) := by simp [World.cell?, hL6.out]
            have cC := refCompare ls ld ds dd
            obtain ⟨cv, hcv⟩ : ∃ cv, C.cmp ⟨ls, ld⟩ ⟨ds, dd⟩ = cv := ⟨_, rfl⟩
            have hlc := lt_cases ⟨⟨ls, ld⟩, id⟩ ⟨⟨ds, dd⟩, id2⟩ cv hcv
            rw [hcv] at cC
            have cC := Lib.hid (fun w => cC w hLc.1 hLc.2 hdc.1 hdc.2)
            have hcv3 : 0 < j → cv < 0 ∨ (cv = 0 ∧ id < id2) := fun h => hlc.1 (hltn.out h)
            have hcv3 := Lib.hid hcv3
            clear hcv hlc hltn
            go_wp2_with fail
            refine (cC.out _).mono ?_
            rintro e w10 ⟨rfl, hb10⟩
            have p1 := (hb10.cell (by exact Nat.lt_trans hs5 hs6)).trans p1
            have p2 := (hb10.cell (by exact Nat.lt_trans hs5 hs6)).trans p2
            have r1 := (hb10.cell (by exact hs6)).trans r1
            have r2 := (hb10.cell (by exact hs6)).trans r2
            have hL10 := Lib.hid ((hb10.block L (Array.getElem?_eq_some_iff.1 hL6.out).1).trans hL6.out)
            have hm10 := Lib.hid (hm6.out.below hb10)
            have hH10 := Lib.hid (hH6.out.below hb10)
            have hB10 := bel_trans hB6 hb10
            clear hm6 hH6 hB6 hL6 hb10 l1 l2 cC
            go_upto_region 30 with (fail)
            go_cut [156] (fun s wx => s = .bool false ∧ wx = w10)
            case first =>
              by_cases hj0 : j = 0
              · subst hj0
                go_wp2
                go_meet
                case rel => exact ⟨rfl, rfl⟩
              · have hj1 : 0 < j := by omega
                have hj2 : decide (0 < j) = true := by simp; omega
                rcases hcv3.out hj1 with h' | ⟨rfl, h'⟩
                · go_wp2
                  go_meet
                  case rel => exact ⟨by rw [decide_eq_false (by omega)], rfl⟩
                · go_wp2
                  go_meet
                  case rel => exact ⟨by rw [decide_eq_false (by omega)], rfl⟩
            case rest =>
              obtain ⟨rfl, hwc⟩ := hcut
              rw [hwc]
              clear hwc
              have hmlt := hm10.out.lt
              have lL10 := (Array.getElem?_eq_some_iff.1 hL10.out).1
              have hp1 := World.block_lt_of_cell? _ _ p1
              go_upto_region 33 with (at_delete; (refine wpList_dropM rfl _ _ rfl (int_fit Try.underlying3) Try.underlying117 (w := w10) hm10.out rfl id2 rfl ?_); intro w11 hm11 hk11)
              have hpm : w9.heap.size ≠ mb := by omega
              have q1 := cell_kept hk11 (by simp; exact hpm) p1
              have q2 := cell_kept hk11 (by simp; exact hpm) p2
              have hL11 := (hk11.block L lL10 (by simp; exact hLm)).trans hL10.out
              have l1 : w11.cell? ⟨L, 0, none⟩ = some (.int .i64 ls) := by simp [World.cell?, hL11]
              have l2 : w11.cell? ⟨L, 1, none⟩ = some (.int .i64 ld) := by simp [World.cell?, hL11]
              have lf1 : w11.frozen? ⟨L, 0, none⟩ = false := by simp [World.frozen?, hL11]
              have lf2 : w11.frozen? ⟨L, 1, none⟩ = false := by simp [World.frozen?, hL11]
              have hF : HM W0 w11 S b mb nn (hset hp id2 none) := HM.fin hH10.out hmS hSB.out hmB hB10 hm11 (by unfold costM; rw [hSome.out]; simp) (by rw [costM_del]) hk11
              have hkL : Kept [L] w11 ((w11.setCell ⟨L, 0, none⟩ (.int .i64 ds)).setCell ⟨L, 1, none⟩ (.int .i64 dd)) := ((Kept.refl _ _).setCell (.inl (by simp))).setCell (.inl (by simp))
              have hF2 : HM W0 ((w11.setCell ⟨L, 0, none⟩ (.int .i64 ds)).setCell ⟨L, 1, none⟩ (.int .i64 dd)) S b mb nn (hset hp id2 none) :=
                ⟨hF.h.kept hkL (fun x hx e => by simp at e; subst e; exact hLS hx), hF.m.kept hkL (by simp; exact fun e => hLm e.symm), hmS, hSB.out, hmB, Kept.below hF.B hkL hF.B.size (by simp; exact hLB)⟩
              have hLz : ((w11.setCell ⟨L, 0, none⟩ (.int .i64 ds)).setCell ⟨L, 1, none⟩ (.int .i64 dd)).heap[L]? = some (.cells #[.int .i64 ds, .int .i64 dd] 23 (0, 0)) := by
                rw [set_heapH _ _ _ _ _ _ (set_heapH _ _ _ _ _ _ hL11)]; rfl
              have hZ : TH2 W0 b mb L (j + 1) id2 ((w11.setCell ⟨L, 0, none⟩ (.int .i64 ds)).setCell ⟨L, 1, none⟩ (.int .i64 dd)) := ⟨ds, dd, S, nn, _, hF2, by omega, hLz, hLS, hLm, hLB, hdc, hnext.out⟩
              clear hm11 hk11 hL11 hF hkL hF2 hLz hH10 hm10 hL10 p1 p2 r1 r2
              go_wp2
              go_roundw
              case rel => first | exact ⟨j + 1, id2, by go_num, rfl, hZ⟩ | ((repeat apply Exists.intro); exact ⟨⟨j + 1, id2, by go_num, rfl, hZ⟩, rfl⟩)
              case measure => simp [intOf]; omega
end Go.Proofs.Ytkiogciokngjfaa
