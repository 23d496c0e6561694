/- graph.octile, graph.put: an edge is put into the lists. -/
import Derived.Test.YtjejkadaafmdcaaGreatGraph1
import Derived.Deep.RegionHeld3
set_option linter.unusedVariables false
set_option linter.unusedSimpArgs false
namespace Go.Proofs.YtjejkadaafmdcaaGreat
open Go.RowKit Go.Sort FR
theorem gOctile (w : World) (p : Nat) (g : G) (v : Int) (a b : Nat) (x : C) (h : GridAt w p g v) (ha : a < g.n) (hb : b < g.n) (hx : g.oct a b = x) :
    Calls Tryz.prog 80 #[.pointer (some ⟨p, 0, none⟩), .int .i64 (a : Nat), .int .i64 (b : Nat)] w fun e w' => e = .returned (.agg #[.int .i64 x.s, .int .i64 x.d]) ∧ Below w.heap.size w w' := by
  have hok := h.1
  obtain ⟨o1, o2, o3, o4⟩ := h.1
  have l1 := G.X_lt hok a
  have l2 := G.X_lt hok b
  have l3 := G.Y_lt ha
  have l4 := G.Y_lt hb
  have cO := fun w => costOctile (g.X a : Nat) (g.Y a : Nat) (g.X b : Nat) (g.Y b : Nat) w (by omega) (by omega) (by omega) (by omega)
  have hx2 : octI ((g.X a : Nat) - (g.X b : Nat)) ((g.Y a : Nat) - (g.Y b : Nat)) = x := hx
  rw [hx2] at cO
  have cO := Lib.hid cO
  obtain ⟨xs, xd⟩ := x
  clear hx hx2 l1 l2 l3 l4 hok
  go_enter Tryz.func80, Tryz.ntmps80
  go_upto_region 1 with (fail)
  refine wp_name ?_
  intro W hW
  have HW : Below w.heap.size w W := by rw [hW]; (repeat' (first | exact Below.refl _ _ | assumption | apply bel_drewN | apply bel_drew | apply bel_alloc | (refine bel_trans ?_ (by assumption))))
  have q0 : W.cell? ⟨w.heap.size, 0, none⟩ = some (.int .i64 0) := by rw [hW]; go_simp
  have q1 : W.cell? ⟨w.heap.size, 1, none⟩ = some (.int .i64 0) := by rw [hW]; go_simp
  have f0 : W.frozen? ⟨w.heap.size, 0, none⟩ = false := by rw [hW]; go_simp
  have f1 : W.frozen? ⟨w.heap.size, 1, none⟩ = false := by rw [hW]; go_simp
  have hs : w.heap.size < W.heap.size := by rw [hW]; simp
  have hG := h.below HW h.lt
  have H2 := Lib.hid (And.intro q0 (And.intro q1 (And.intro f0 f1)))
  clear hW q0 q1 f0 f1
  go_wp2_with fail
  (with_reducible refine (gridPlace_in _ p g v a hG ha).mono ?_)
  rintro e w1 ⟨rfl, hb1⟩
  go_wp2_with fail
  (with_reducible refine (gridPlace_in _ p g v b (hG.below hb1 hG.lt) hb).mono ?_)
  rintro e w2 ⟨rfl, hb2⟩
  go_wp2_with fail
  (with_reducible refine (cO.out _).mono ?_)
  rintro e w3 ⟨rfl, hb3⟩
  have hb := bel_trans (bel_trans hb1 hb2) hb3
  have q0 := bel_cell hb H2.out.1
  have q1 := bel_cell hb H2.out.2.1
  have f0 := (hb.frozen (p := ⟨w.heap.size, 0, none⟩) hs).trans H2.out.2.2.1
  have f1 := (hb.frozen (p := ⟨w.heap.size, 1, none⟩) hs).trans H2.out.2.2.2
  go_wp2
  have e5 := set_two (x := .int .i64 xs) (y := .int .i64 xd) q0 q1
  refine bodyPost_ret (v := .agg #[.int .i64 xs, .int .i64 xd]) (by simp [results, Tryz.results80, go_sem, e5]) rfl ?_
  exact ⟨rfl, ((bel_trans HW hb).setCell (by simp) _).setCell (by simp) _⟩
theorem keptc {S : List Nat} {w w' : World} {p : Addr} {v : Value} (hk : Kept S w w') (hn : p.block ∉ S) (h : w.cell? p = some v) : w'.cell? p = some v :=
  (World.cell?_of_block (a := p) (hk.block p.block (World.block_lt_of_cell? w _ h) hn)).trans h
/-- what put leaves behind -/
def PutD (w : World) (S : List Nat) (mb : Nat) (E : Int → Option (List Ed)) (e : Ending) (w' : World) : Prop :=
  e = .returned (.tuple #[]) ∧ ∃ S', EMap w' S' mb E ∧ (∀ k ∈ S', k ∈ S ∨ w.heap.size ≤ k) ∧ Kept (mb :: S) w w'
set_option maxRecDepth 100000 in
set_option maxHeartbeats 3200000 in
theorem graphPut (w : World) (S : List Nat) (b p mb : Nat) (E : Int → Option (List Ed)) (a : Int) (x : Ed) (L : List Ed) (hb : w.heap[b]? = some (.cells #[.pointer (some ⟨p, 0, none⟩), .map (some mb)] 93 (0, 0))) (hE : EMap w S mb E) (hbS : b ∉ S) (hbm : b ≠ mb)
    (hL : E a = some L) (hs : Srt L) (hin : ∀ e ∈ L, inC e.to_) (hx : inC x.to_) (hl : L.length ≤ 1000) :
    Calls Tryz.prog 89 #[.pointer (some ⟨b, 0, none⟩), .int .i64 a, .agg #[.int .i64 x.to_, .int .i64 x.c.s, .int .i64 x.c.d, .int .i64 x.mid]] w (PutD w S mb (updE E a (some (insS L x)))) := by
  have hmlt := hE.lt
  obtain ⟨V, N, h1, h2, h3, h4, h5, h6, h7⟩ := hE
  obtain ⟨u, hu⟩ : ∃ u, V a = some u := by
    cases hV : V a with
    | none => rw [(h2 a).2 hV] at hL; cases hL
    | some u => exact ⟨u, rfl⟩
  have hO := h3 a u L hu hL
  have hqS : ∀ q, u.ownBlock = some q → q ∈ S := fun q hq => h4 a u q hu hq
  obtain ⟨A, cap, rfl, hEd⟩ := hO.eds
  have hbl : b < w.heap.size := (Array.getElem?_eq_some_iff.1 hb).1
  have hlk : ∀ w', Below w.heap.size w w' → (Instr.lookup 54 (.map (some mb)) (.int .i64 a) false).run Tryz.prog w' = .ok (.slice A L.length cap) w' := fun w' hbw => by
    have := ((h1.below hbw).look (int_fit Tryz.underlying3) Tryz.underlying54 (z := .slice none 0 0) (by simp [Tryz.zeroValue59]) a).2
    rw [hu] at this
    exact this
  obtain ⟨xt, ⟨xs, xd⟩, xm⟩ := x
  simp only at hx ⊢
  have H1 := Lib.hid h1
  have H2 := Lib.hid h2
  have H3 := Lib.hid h3
  have H4 := Lib.hid h4
  have H6 := Lib.hid h6
  have H7 := Lib.hid h7
  have HO := Lib.hid hO
  have Hu := Lib.hid hu
  have HqS := Lib.hid hqS
  have Hlk := Lib.hid hlk
  obtain ⟨i, hi⟩ : ∃ i, lowN L xt = i := ⟨_, rfl⟩
  obtain ⟨fd, hfd⟩ : ∃ i, hasE L xt = i := ⟨_, rfl⟩
  have hil : i ≤ L.length := by rw [← hi]; exact (low_spec hs xt).1
  have cB := Lib.hid (fun w' (hb' : Below w.heap.size w w') => (show Calls Tryz.prog 111 #[.slice A L.length cap, .int .i64 xt, .func (.func 130) #[] #[]] w' fun r w2 => r = .returned (.tuple #[.int .i64 (i : Nat), .bool fd]) ∧ Below w'.heap.size w' w2 by
    have := binEdge2 w' A L.length cap L xt (hEd.below hb') rfl hs hin hx (by omega)
    rw [hi, hfd] at this
    exact this))
  have hins : insS L ⟨xt, ⟨xs, xd⟩, xm⟩ = L.take i ++ (⟨xt, ⟨xs, xd⟩, xm⟩ : Ed) :: L.drop i := by unfold insS; rw [← hi]
  rw [hins]
  have Hfd := Lib.hid hfd
  obtain ⟨n, hn⟩ : ∃ n, L.length = n := ⟨_, rfl⟩
  rw [hn] at hl hil HO HqS Hu Hlk cB
  have Hn := Lib.hid hn
  have HB0 := Lib.hid hb
  have kb1 : w.cell? ⟨b, 1, none⟩ = some (.map (some mb)) := by simp [World.cell?, hb]
  have hx := Lib.hid hx
  clear h1 h2 h3 h4 h6 h7 hO hu hqS hlk hEd hi hfd hins hin hs hL hn hb
  go_enter Tryz.func89, Tryz.ntmps89
  go_upto_region 1 with (fail)
  refine wp_name ?_
  intro W hW
  have HW : Below w.heap.size w W := by rw [hW]; (repeat' (first | exact Below.refl _ _ | assumption | apply bel_drewN | apply bel_drew | apply bel_alloc | (refine bel_trans ?_ (by assumption))))
  have c0 : W.cell? ⟨w.heap.size, 0, none⟩ = some (.int .i64 xt) := by rw [hW]; go_simp
  have c1 : W.cell? ⟨w.heap.size, 1, none⟩ = some (.int .i64 xs) := by rw [hW]; go_simp
  have c2 : W.cell? ⟨w.heap.size, 2, none⟩ = some (.int .i64 xd) := by rw [hW]; go_simp
  have c3 : W.cell? ⟨w.heap.size, 3, none⟩ = some (.int .i64 xm) := by rw [hW]; go_simp
  obtain ⟨b5, hb5⟩ : ∃ z, w.heap.size = z := ⟨_, rfl⟩
  have hbb5 : b ≠ b5 := by omega
  have hmb5 : mb ≠ b5 := by omega
  have hSb5 : ∀ q, (Value.slice A n cap).ownBlock = some q → q ≠ b5 := fun q hq => by have := HO.out.lt hq; omega
  have HSb5 := Lib.hid hSb5
  rw [hb5] at c0 c1 c2 c3 ⊢
  have k1 := bel_cell HW kb1
  have hlq : ∀ d os, (Instr.lookup 54 (.map (some mb)) (.int .i64 a) false).run Tryz.prog (grow (redrawn W d) os) = .ok (.slice A n cap) (grow (redrawn W d) os) := fun d os => Hlk.out _ (bel_trans HW (below_regrown W d os))
  have c0q := cell_regrown c0
  have k1q := cell_regrown k1
  have HX := Below.refl W.heap.size W
  clear hW kb1 hSb5
  refine wp_region_quiet_below (by kernel_rfl) (by kernel_rfl) ?_
  repeat (first | go_big_quiet_step ((with_reducible exact Calls.regrown_of (cB.out _ (bel_trans HW (below_regrown W _ _))))) | quiet_step ((with_reducible exact Calls.regrown_of (cB.out _ (bel_trans HW (below_regrown W _ _))))))
  refine wpQuiet_nil ?_
  intro _ hw'
  obtain ⟨⟨dq, osq⟩, hw''⟩ := hw'
  have HY := bel_trans HX (below_regrown W dq osq)
  have hb2 := below_regrown W dq osq
  subst hw''
  generalize grow (redrawn W dq) osq = W2 at HY hb2 ⊢
  have c0 := bel_cell HY c0
  have c1 := bel_cell HY c1
  have c2 := bel_cell HY c2
  have c3 := bel_cell HY c3
  have k1 := bel_cell HY k1
  have HB2 := bel_trans HW HY
  clear c0q k1q hlq HX hb2 HY
  go_upto_region 2 with (fail)
  obtain ⟨o, ho⟩ : ∃ o, Obj.cells #[Value.int .i64 xt, Value.int .i64 xs, Value.int .i64 xd, Value.int .i64 xm] 70 (0, 0) = o := ⟨_, rfl⟩
  have hl1 : (Instr.lookup 54 (.map (some mb)) (.int .i64 a) false).run Tryz.prog W2.drew = .ok (.slice A n cap) W2.drew := Hlk.out _ (bel_drew HB2)
  have hl2 : ∀ o, (Instr.lookup 54 (.map (some mb)) (.int .i64 a) false).run Tryz.prog (W2.alloc o).drew = .ok (.slice A n cap) (W2.alloc o).drew := fun o => Hlk.out _ (bel_drew (bel_alloc HB2))
  have hOA : OwnE (W2.alloc o).drew 0 (.slice A n cap) L := HO.out.kept (T := []) (.of_below (bel_drew (bel_alloc HB2))) (fun _ _ => by simp)
  have hMA : MapAt iK (W2.alloc o).drew mb V N := H1.out.below (bel_drew (bel_alloc HB2))
  have hxA : (W2.alloc o).drew.heap[W2.heap.size]? = some (.cells (Ed.cells ⟨xt, ⟨xs, xd⟩, xm⟩).toArray 70 (0, 0)) := by rw [← ho]; exact alloc_at W2 _ rfl
  have hneA : (Value.slice A n cap).ownBlock ≠ some W2.heap.size := fun e => by have := HO.out.lt e; have := HB2.size; omega
  have hnb : some b ≠ (Value.slice A n cap).ownBlock := fun e => hbS (HqS.out b e.symm)
  have hn5 : some b5 ≠ (Value.slice A n cap).ownBlock := fun e => (HSb5.out b5 e.symm) rfl
  have hnm : some mb ≠ (Value.slice A n cap).ownBlock := fun e => h5 (HqS.out mb e.symm)
  have hBA : Below w.heap.size w (W2.alloc o).drew := bel_drew (bel_alloc HB2)
  have HA := Lib.hid (And.intro hOA (And.intro hMA (And.intro hxA (And.intro hneA (And.intro hnb (And.intro hn5 (And.intro hnm hBA)))))))
  have HL1000 : L.length ≤ 100000 := by have := Hn.out; omega
  have HiL : i ≤ L.length := by have := Hn.out; omega
  have Ho := Lib.hid ho
  clear hOA hMA hxA hneA hnb hn5 hnm hBA
  rw [← ho] at HA
  clear ho
  go_region_held3 (fun w' => w'.cell? ⟨b, 1, none⟩ = some (.map (some mb)) ∧ w'.cell? ⟨b5, 0, none⟩ = some (.int .i64 xt) ∧ w'.cell? ⟨b5, 1, none⟩ = some (.int .i64 xs) ∧ w'.cell? ⟨b5, 2, none⟩ = some (.int .i64 xd) ∧ w'.cell? ⟨b5, 3, none⟩ = some (.int .i64 xm))
    (first
      | exact ⟨k1, c0, c1, c2, c3⟩
      | exact ⟨alloc_some k1, alloc_some c0, alloc_some c1, alloc_some c2, alloc_some c3⟩
      | exact hSI
      | exact hSU)
    ((first
      | (go_at_call 131
         refine (insEdge _ 0 (.slice A n cap) L i W2.heap.size ⟨xt, ⟨xs, xd⟩, xm⟩ HA.out.1 HiL HA.out.2.2.1 HA.out.2.2.2.1 (Nat.zero_le _) HL1000).mono ?_
         rintro e wI ⟨v', rfl, hOI, hGI, hAt⟩
         have hSI : wI.cell? ⟨b, 1, none⟩ = some (.map (some mb)) ∧ wI.cell? ⟨b5, 0, none⟩ = some (.int .i64 xt) ∧ wI.cell? ⟨b5, 1, none⟩ = some (.int .i64 xs) ∧ wI.cell? ⟨b5, 2, none⟩ = some (.int .i64 xd) ∧ wI.cell? ⟨b5, 3, none⟩ = some (.int .i64 xm) :=
           ⟨hGI.cell (alloc_some k1) HA.out.2.2.2.2.1, hGI.cell (alloc_some c0) HA.out.2.2.2.2.2.1, hGI.cell (alloc_some c1) HA.out.2.2.2.2.2.1, hGI.cell (alloc_some c2) HA.out.2.2.2.2.2.1, hGI.cell (alloc_some c3) HA.out.2.2.2.2.2.1⟩
         have hMI : MapAt iK wI mb V N := HA.out.2.1.kept (S := (Value.slice A n cap).ownBlock.toList) ⟨hGI.os, hGI.tape, hGI.output, hGI.size, fun q hq hn => hGI.block q hq (fun e => hn (by rw [← e]; simp))⟩ (by
           intro hh
           have := HA.out.2.2.2.2.2.2.1
           cases hv : (Value.slice A n cap).ownBlock with
           | none => rw [hv] at hh; simp at hh
           | some r => rw [hv] at hh this; simp at hh; exact this (by rw [hh]))
         obtain ⟨wU, hU, hMU, hKU⟩ := hMI.store (int_fit Tryz.underlying3) Tryz.underlying54 a v'
         have hU : (Instr.mapUpdate 54 (.map (some mb)) (.int .i64 a) v').run Tryz.prog wI = .ok () wU := hU
         have hSU : wU.cell? ⟨b, 1, none⟩ = some (.map (some mb)) ∧ wU.cell? ⟨b5, 0, none⟩ = some (.int .i64 xt) ∧ wU.cell? ⟨b5, 1, none⟩ = some (.int .i64 xs) ∧ wU.cell? ⟨b5, 2, none⟩ = some (.int .i64 xd) ∧ wU.cell? ⟨b5, 3, none⟩ = some (.int .i64 xm) :=
           ⟨keptc hKU (by simpa using hbm) hSI.1, keptc hKU (by simpa using Ne.symm hmb5) hSI.2.1, keptc hKU (by simpa using Ne.symm hmb5) hSI.2.2.1, keptc hKU (by simpa using Ne.symm hmb5) hSI.2.2.2.1, keptc hKU (by simpa using Ne.symm hmb5) hSI.2.2.2.2⟩)))
  all_goals
    have hfin := EMap.put H1.out H2.out H3.out H4.out h5 H6.out H7.out Hu.out HA.out.2.2.2.2.2.2.2 hOI hGI hAt hMU hKU
    go_end0
    exact ⟨rfl, hfin⟩
end Go.Proofs.YtjejkadaafmdcaaGreat
