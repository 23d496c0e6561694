/- The document's edges from a cell to corners. -/
import Derived.Test.YtjejkadaafmdcaaGreatRays
import Derived.Deep.DeepCutAuto
set_option linter.unusedVariables false
set_option linter.unusedSimpArgs false
namespace Go.Proofs.YtjejkadaafmdcaaGreat
open Go.RowKit Go.Sort FR Go.Lib
theorem step_append_E {ops : Array Oper} {o : Oper} {a : Act} {w : World} {K : Act → World → Prop} {Q : Exit → Act → World → Prop} {X : Prop} (hg : o.guard = none) (s x : Operand)
    (ho : o.op = .call { callee := .builtin .append, args := #[s, x], argTypes := #[59, 59] }) (B : Nat) (v : Value) (L : List Ed) (e : Ed) (hs : a.eval s = v) (hown : OwnE w B v L) (ad : Addr) (hx : a.eval x = .slice (some ad) 1 1)
    (hc : ∀ j u, e.cells[j]? = some u → w.cell? (ad.add j) = some u) (hl : L.length ≤ 100000) (hB : B ≤ w.heap.size)
    (h : ∀ v' w', OwnE w' B v' (L ++ [e]) → w.grownBy w' v.ownBlock → (v'.ownBlock = v.ownBlock ∨ v'.ownBlock = some w.heap.size) → K (a.put o.dst v') w') : if Region.wanted o (yielded ops a.tmps) = true then Oper.wp Tryz.prog o a w K Q else X := by
  obtain ⟨i0, z0, hi, hz0, hz1, hz2, hz3⟩ := edge_parts
  obtain ⟨v', w', hr, h2, h3, h4, h5⟩ := run_append_own_at (P := Tryz.prog) w B 59 o.type 70 i0 z0 4 32 Tryz.underlying59 hi hz0 hz1 hz2 hz3 (by decide) v L.length (edL L) hown ad 1 1 e.cells rfl hc (ed_one e) (by unfold maxLen; omega) (by omega) hB
  have hw : Region.wanted o (yielded ops a.tmps) = true := by simp [Region.wanted, hg]
  rw [if_pos hw]
  unfold Oper.wp
  have hO : OwnE w' B v' (L ++ [e]) := by
    unfold OwnE
    rw [List.length_append, edL_append, edL_cons, edL_nil, List.append_nil]
    exact h2
  simp [execOp, ho, resolve, invoke, builtin, hs, hx, hr, Result.andThen]
  exact h v' w' hO h3 h5
open Classical in
/-- which of the first corners have an edge -/
noncomputable def eUp (g : G) (ca : Nat) (self : Bool) (k : Nat) : List Ed :=
  ((List.range k).filter fun i => decide (g.Direct ca (cf g i)) && (self || !(cf g i == ca))).map fun i => ⟨(cf g i : Nat), g.oct ca (cf g i), -1⟩
theorem eUp_len (g : G) (ca : Nat) (self : Bool) (k : Nat) : (eUp g ca self k).length ≤ k := by
  unfold eUp
  rw [List.length_map]
  exact Nat.le_trans (List.length_filter_le _ _) (by simp)
open Classical in
theorem eUp_yes {g : G} {ca k : Nat} {self : Bool} (hd : g.Direct ca (cf g k)) (hs : self = true ∨ cf g k ≠ ca) : eUp g ca self (k + 1) = eUp g ca self k ++ [⟨(cf g k : Nat), g.oct ca (cf g k), -1⟩] := by
  unfold eUp
  rw [List.range_succ, List.filter_append, List.map_append]
  have : (decide (g.Direct ca (cf g k)) && (self || !(cf g k == ca))) = true := by
    rcases hs with h | h <;> simp [hd, h]
  simp [this]
open Classical in
theorem eUp_no {g : G} {ca k : Nat} {self : Bool} (h : ¬ g.Direct ca (cf g k) ∨ (self = false ∧ cf g k = ca)) : eUp g ca self (k + 1) = eUp g ca self k := by
  unfold eUp
  rw [List.range_succ, List.filter_append, List.map_append]
  have : (decide (g.Direct ca (cf g k)) && (self || !(cf g k == ca))) = false := by
    rcases h with h | ⟨h1, h2⟩
    · simp [h]
    · simp [h1, h2]
  simp [this]
open Classical in
theorem mem_eUp {g : G} {ca : Nat} {self : Bool} {e : Ed} : e ∈ eUp g ca self (cornersI g).length ↔ ∃ y : Nat, g.Corner y ∧ (self = true ∨ y ≠ ca) ∧ g.Direct ca y ∧ e = ⟨y, g.oct ca y, -1⟩ := by
  unfold eUp
  rw [List.mem_map]
  constructor
  · rintro ⟨i, hi, rfl⟩
    rw [List.mem_filter, List.mem_range] at hi
    obtain ⟨h1, h2⟩ := hi
    simp only [Bool.and_eq_true, decide_eq_true_eq, Bool.or_eq_true, Bool.not_eq_true', beq_eq_false_iff_ne] at h2
    exact ⟨_, (cf_at h1).2, h2.2, h2.1, rfl⟩
  · rintro ⟨y, h1, h2, h3, rfl⟩
    obtain ⟨i, hi, rfl⟩ := cf_has h1
    refine ⟨i, ?_, rfl⟩
    rw [List.mem_filter, List.mem_range]
    refine ⟨hi, ?_⟩
    simp only [Bool.and_eq_true, decide_eq_true_eq, Bool.or_eq_true, Bool.not_eq_true', beq_eq_false_iff_ne]
    exact ⟨h3, h2⟩
open Classical in
theorem srt_eUp {g : G} {ca : Nat} {self : Bool} : (eUp g ca self (cornersI g).length).Pairwise (fun a b => a.to_ < b.to_) := by
  unfold eUp
  rw [List.pairwise_map]
  refine (List.Pairwise.filter _ (List.pairwise_lt_range.imp_of_mem ?_))
  intro i j hi hj hij
  rw [List.mem_range] at hj
  have := cf_lt hij hj
  simp only
  omega
theorem OwnE.mono {w : World} {B B' : Nat} {v : Value} {L : List Ed} (h : OwnE w B v L) (hB : B' ≤ B) : OwnE w B' v L := by
  refine ⟨h.1, ?_⟩
  rcases h.2 with hn | ⟨g, cap, cur, rfl, hb, rest⟩
  · exact .inl hn
  · exact .inr ⟨g, cap, cur, rfl, Nat.le_trans hB hb, rest⟩
/-- what edges hands back -/
def RetE (w : World) (L : List Ed) (e : Ending) (w' : World) : Prop := ∃ vE, e = .returned vE ∧ OwnE w' w.heap.size vE L ∧ Below w.heap.size w w'
/-- rays of the corners -/
def RaysOf (g : G) (Zs : List (Array Value)) : Prop := Zs.length = (cornersI g).length ∧ ∀ i Z, Zs[i]? = some Z → ∃ c is, Z = rayRow (cf g i) c is ∧ FloodIs g (cf g i) c is
set_option maxRecDepth 100000 in
set_option maxHeartbeats 6400000 in
theorem rEdges (w : World) (p : Nat) (g : G) (v : Int) (ca : Nat) (c1 : Nat → C) (i1 : Nat → Bool) (Z1 : Array Value) (AR A : Option Addr) (n mR m : Nat) (Zs : List (Array Value)) (self : Bool) (h : RGridAt w p g v) (hca : ca < g.n)
    (hz1 : rayRow ca c1 i1 = Z1) (h1 : FloodIs g ca c1 i1) (hI : Ints w A n (fun k => (cornersI g).getD k 0)) (hn : (cornersI g).length = n) (hR : RaysAt w AR Zs) (hRo : RaysOf g Zs) :
    Calls Tryz.prog 62 #[.pointer (some ⟨p, 0, none⟩), .agg Z1, .slice AR n mR, .slice A n m, .bool self] w (RetE w (eUp g ca self n)) := by
  have hNn := G.n_le h.1
  have hn256 : n ≤ 256 := by rw [← hn]; exact corners_le h.1
  have zs1 : Z1.size = 769 := by rw [← hz1, ray_size]
  have zo1 : Z1.all (·.oneCell') = true := by rw [← hz1]; exact ray_one _ _ _
  have Hz1 := Lib.hid hz1
  have H1 := Lib.hid h1
  have Hn := Lib.hid hn
  have HI := Lib.hid hI
  have HR := Lib.hid hR
  have HRo := Lib.hid hRo
  have HG := Lib.hid h
  have hpl := h.lt
  clear hz1 h1 hn hI hR hRo h
  go_enter Tryz.func62, Tryz.ntmps62
  go_upto_region 2 with (fail)
  refine wp_name ?_
  intro W hW
  have HW : Below w.heap.size w W := by rw [hW]; (repeat' (first | exact Below.refl _ _ | assumption | apply bel_drewN | apply bel_drew | apply bel_alloc | (refine bel_trans ?_ (by assumption))))
  have hA : W.heap[w.heap.size]? = some (.cells Z1 113 (0, 0)) := by rw [hW]; exact alloc_at _ _ rfl
  obtain ⟨b6, hb6⟩ : ∃ z, w.heap.size = z := ⟨_, rfl⟩
  have Hb6 := Lib.hid hb6
  rw [hb6] at hA ⊢
  clear hW hb6
  have cA := Lib.hid (fun w' hb => ray_cell (w' := w') hA Hz1.out hb)
  have g1 := Lib.hid (range_all hA)
  have hb6l : b6 < W.heap.size := (Array.getElem?_eq_some_iff.1 hA).1
  clear hA
  go_wp2_with fail
  go_loopw [11, 12] (fun lv kv wr => ∃ i : Nat, kv = .int .i64 i ∧ i ≤ n ∧ OwnE wr W.heap.size lv (eUp g ca self i) ∧ Below W.heap.size W wr) (fun _ kv _ => n - (intOf kv).toNat)
  case atStart => exact ⟨0, rfl, by omega, OwnE.nil _ _, Below.refl _ _⟩
  case round =>
    obtain ⟨i, rfl, hi, hO, hB⟩ := hrel
    have HO := Lib.hid hO
    clear hO
    by_cases hlt : i < n
    · have hIr := (HI.out.below HW).below hB
      have HIr := Lib.hid hIr
      obtain ⟨ad, hA⟩ := hIr.addr (by omega)
      rw [hA] at hIr
      have hix := fun wx => idx_run (m := m) hA hlt wx
      have hE := hIr.cell (Below.refl _ _) hlt
      rw [(cf_at (by rw [Hn.out]; exact hlt)).1] at hE
      obtain ⟨y, hy⟩ : ∃ y, cf g i = y := ⟨_, rfl⟩
      have hyc : g.Corner y := by rw [← hy]; exact (cf_at (by rw [Hn.out]; exact hlt)).2
      rw [hy] at hE
      have Hy := Lib.hid hy
      have hadW : ad.block < W.heap.size := by
        obtain ⟨ad', e', hl', _⟩ := HI.out (by omega)
        rw [hA] at e'
        injection e' with e'
        rw [e']
        exact Nat.lt_of_lt_of_le hl' HW.size
      have a0 := (cA.out wr hB).1
      clear hIr hA hy
      have hskip : self = false → y = ca → eUp g ca self (i + 1) = eUp g ca self i := fun h1 h2 => eUp_no (.inr ⟨h1, by rw [Hy.out]; exact h2⟩)
      have Hskip := Lib.hid hskip
      have hle := eUp_len g ca self i
      clear hskip
      go_upto_region 5 with (fail)
      by_cases hyca : y = ca ∧ self = false
      · obtain ⟨rfl, rfl⟩ := hyca
        have hd1 : ((y : Int) == (y : Int)) = true := by simp
        go_quiet (fail)
        have hF := HO.out.kept (w' := wr.drewN nq) (T := []) (.of_below (bel_drewN (Below.refl _ _))) (fun _ _ => by simp)
        rw [← Hskip.out rfl rfl] at hF
        have hF := Lib.hid hF
        clear hE hix a0 HO hd1
        go_wp2
        first
          | exact ⟨⟨i + 1, by go_num, by omega, hF.out, bel_drewN hB⟩, by simp [intOf]; omega⟩
          | (go_roundw; (case rel => exact ⟨i + 1, by go_num, by omega, hF.out, bel_drewN hB⟩); (case measure => simp [intOf]; omega))
      · have hpick : self = true ∨ y ≠ ca := by
          by_cases h1 : y = ca
          · left
            cases hs : self with
            | true => rfl
            | false => exact absurd ⟨h1, hs⟩ hyca
          · exact .inr h1
        have Hpick := Lib.hid hpick
        go_cut [30] (fun s wx => s = .bool false ∧ Below wr.heap.size wr wx)
        case first =>
          by_cases h1 : y = ca
          · have hs : self = true := by
              rcases Hpick.out with q | q
              · exact q
              · exact absurd h1 q
            subst h1
            subst hs
            have hd1 : ((y : Int) == (y : Int)) = true := by simp
            clear hyca hpick
            go_quiet (fail)
            go_wp2
            go_meet
            case rel => exact ⟨rfl, bel_drewN (Below.refl _ _)⟩
          · have hd1 : ((y : Int) == (ca : Int)) = false := by simp; omega
            clear hyca hpick
            go_quiet (fail)
            go_wp2
            go_meet
            case rel => exact ⟨rfl, bel_drewN (Below.refl _ _)⟩
        case rest =>
        obtain ⟨rfl, hbc⟩ := hcut
        have hBc := bel_trans hB hbc
        have hOc := Lib.hid (HO.out.kept (T := []) (.of_below hbc) (fun _ _ => by simp))
        have hE := bel_cell hbc hE
        have a0 := bel_cell hbc a0
        have hRr := ((HR.out.below HW).below hBc)
        obtain ⟨gr, hAR, _, hrr⟩ := hRr (by rw [HRo.out.1, Hn.out]; omega)
        have hzl : i < Zs.length := by rw [HRo.out.1, Hn.out]; exact hlt
        obtain ⟨Z2, hZ2⟩ : ∃ Z, Zs[i]? = some Z := ⟨Zs[i]'hzl, List.getElem?_eq_getElem _⟩
        have g2 := hrr i Z2 hZ2
        obtain ⟨c2, i2, hz2, hF2⟩ := HRo.out.2 i Z2 hZ2
        rw [Hy.out] at hz2 hF2
        have hixr := fun wx => idxRay (n := n) (m := mR) hAR hlt wx
        obtain ⟨t, ht⟩ := boolQ (g.Direct ca y)
        have Ht := Lib.hid ht
        have cD := Lib.hid (fun w' (hb : Below wc.heap.size wc w') => rDirectRays w' p g v ca y c1 c2 i1 i2 Z1 Z2 A n m t ((((HG.out.below HW hpl).below hBc (Nat.lt_of_lt_of_le hpl HW.size)).below hb (Nat.lt_of_lt_of_le hpl (Nat.le_trans HW.size hBc.size)))) hca hyc.1 Hz1.out hz2.symm H1.out hF2 (((HI.out.below HW).below hBc).below hb) Hn.out ht)
        have zs2 : Z2.size = 769 := by rw [hz2, ray_size]
        have s1 : (Tryz.prog.info? 113).map (·.size) = some Z1.toList.length := by rw [Array.length_toList, zs1]; exact ray_info
        have s2 : (Tryz.prog.info? 113).map (·.size) = some Z2.toList.length := by rw [Array.length_toList, zs2]; exact ray_info
        have u1 := Tryz.underlying113
        have e1 : Z1.toList.toArray = Z1 := Array.toArray_toList ..
        have e2 : Z2.toList.toArray = Z2 := Array.toArray_toList ..
        have gA := rangeAt_below g1.out hBc
        clear hyca hpick hbc hAR hrr hzl hZ2 hz2 hF2 ht hRr HO zs2
        go_upto_region 6 with (fail)
        refine wp_region_noPanic ?_
        refine wp_region_held_drew (S := fun w' => w'.rangeAt b6 0 Z1.toList ∧ w'.rangeAt gr (i * 769) Z2.toList) (by kernel_rfl) ⟨gA, g2⟩ (fun hHeld => ?_)
        refine' wpAnyH_take (i := 1) (oi := { dst := some 32, op := .load 113 (.tmp 6), type := 113, pos := "parts.go:563", after := #[], guard := none }) (v := _) rfl (by kernel_rfl) (by kernel_rfl) (by kernel_rfl) (fun _ _ _ h => h) (yieldsIf_load_mid (by rfl) 113 (.tmp 6) rfl b6 0 rfl Z1.toList _ (fun w h => h.1) u1 rfl s1) (by assumption) ?_
        simp only [Act.put, List.setIfInBounds_toArray, List.set_cons_zero, List.set_cons_succ]
        refine wpAnyH_take (i := 0) (oi := { dst := some 31, op := .move (.tmp 0), type := 28, pos := "parts.go:563", after := #[], guard := none }) (v := .pointer (some ⟨p, 0, none⟩)) rfl (by kernel_rfl) (by kernel_rfl) (by kernel_rfl) (fun _ _ _ h => h) (Or.inl ⟨by rfl, fun w hSw => by go_simp⟩) (by assumption) ?_
        simp only [Act.put, List.setIfInBounds_toArray, List.set_cons_zero, List.set_cons_succ]
        refine wpAnyH_take (i := 2) (oi := { dst := some 33, op := .move (.tmp 2), type := 111, pos := "parts.go:563", after := #[], guard := none }) (v := .slice AR n mR) rfl (by kernel_rfl) (by kernel_rfl) (by kernel_rfl) (fun _ _ _ h => h) (Or.inl ⟨by rfl, fun w hSw => by go_simp⟩) (by assumption) ?_
        simp only [Act.put, List.setIfInBounds_toArray, List.set_cons_zero, List.set_cons_succ]
        refine wpAnyH_take (i := 3) (oi := { dst := some 34, op := .move (.tmp 12), type := 3, pos := "parts.go:563", after := #[], guard := none }) (v := .int .i64 (i : Nat)) rfl (by kernel_rfl) (by kernel_rfl) (by kernel_rfl) (fun _ _ _ h => h) (Or.inl ⟨by rfl, fun w hSw => by go_simp⟩) (by assumption) ?_
        simp only [Act.put, List.setIfInBounds_toArray, List.set_cons_zero, List.set_cons_succ]
        refine wpAnyH_take (i := 4) (oi := { dst := some 35, op := .indexAddr 111 (.tmp 33) (.tmp 34), type := 0, pos := "parts.go:563", after := #[{ on := 2, ground := .data }, { on := 3, ground := .data }], guard := none }) (v := .pointer (some ⟨gr, i * 769, none⟩)) rfl (by kernel_rfl) (by kernel_rfl) (by kernel_rfl) (fun _ _ _ h => h) (Or.inl ⟨by rfl, fun w hSw => by go_simp⟩) (by assumption) ?_
        simp only [Act.put, List.setIfInBounds_toArray, List.set_cons_zero, List.set_cons_succ]
        refine' wpAnyH_take (i := 5) (oi := { dst := some 36, op := .load 113 (.tmp 35), type := 113, pos := "parts.go:563", after := #[{ on := 4, ground := .data }], guard := none }) (v := _) rfl (by kernel_rfl) (by kernel_rfl) (by kernel_rfl) (fun _ _ _ h => h) (yieldsIf_load_mid (by rfl) 113 (.tmp 35) rfl gr (i * 769) rfl Z2.toList _ (fun w h => h.2) u1 rfl s2) (by assumption) ?_
        simp only [Act.put, List.setIfInBounds_toArray, List.set_cons_zero, List.set_cons_succ]
        refine wpAnyH_take (i := 6) (oi := { dst := some 37, op := .move (.tmp 3), type := 22, pos := "parts.go:563", after := #[], guard := none }) (v := .slice A n m) rfl (by kernel_rfl) (by kernel_rfl) (by kernel_rfl) (fun _ _ _ h => h) (Or.inl ⟨by rfl, fun w hSw => by go_simp⟩) (by assumption) ?_
        simp only [Act.put, List.setIfInBounds_toArray, List.set_cons_zero, List.set_cons_succ]
        rw [e1, e2]
        refine wpAnyH_ready (rs := [7]) (by kernel_rfl) (by simp) ?_
        refine AllReadyH.cons (o := { dst := some 38, op := .call { callee := .value (.func 107), args := #[.tmp 31, .tmp 32, .tmp 36, .tmp 37], argTypes := #[28, 113, 113, 22] }, type := 4, pos := "parts.go:563", after := #[{ on := 0, ground := .data }, { on := 1, ground := .data }, { on := 5, ground := .data }, { on := 6, ground := .data }], guard := none }) rfl (fun K hK => ?_) .nil
        go_simp
        go_at_call 107
        (with_reducible refine (cD.out _ (bel_drew (Below.refl _ _))).mono ?_)
        rintro e wB ⟨rfl, hbB⟩
        have hbE := bel_trans (bel_drew (Below.refl wc.heap.size wc)) hbB
        dsimp only
        refine hK.out _ _ ⟨rangeAt_below gA hbE, rangeAt_below g2 hbE⟩ (fun hHeld3 => ?_)
        clear hK K
        try dsimp only
        try simp only [Act.put, List.setIfInBounds_toArray, List.set_cons_zero, List.set_cons_succ]
        refine wpAnyH_ready (rs := [8]) (by kernel_rfl) (by simp) ?_
        refine AllReadyH.cons (o := { dst := some 13, op := .assign (.tmp 38), type := 4, pos := "parts.go:563", after := #[{ on := 7, ground := .data }, { on := 7, ground := .chain }, { on := 0, ground := .phase }, { on := 1, ground := .phase }, { on := 2, ground := .phase }, { on := 3, ground := .phase }, { on := 4, ground := .phase }, { on := 5, ground := .phase }, { on := 6, ground := .phase }, { on := 7, ground := .phase }], guard := none }) rfl (fun K hK => ?_) .nil
        go_simp
        refine hK.out _ _ ⟨rangeAt_below gA hbE, rangeAt_below g2 hbE⟩ (fun hHeld4 => ?_)
        clear hK K
        try dsimp only
        try simp only [Act.put, List.setIfInBounds_toArray, List.set_cons_zero, List.set_cons_succ]
        refine wpAnyH_done (by kernel_rfl) ?_ _
        refine NoPanic.normal ?_
        have hOB := Lib.hid (hOc.out.kept (T := []) (.of_below hbE) (fun _ _ => by simp))
        have hBB := bel_trans hBc hbE
        have hE := bel_cell hbE hE
        have a0 := bel_cell hbE a0
        clear hHeld hHeld3 hHeld4 hbB hbE gA g2 cD e1 e2 s1 s2 u1 hixr hOc hBc hB
        cases t with
        | false =>
          have hno : ¬ g.Direct ca y := fun hh => by have := Ht.out.2 hh; cases this
          have hF := hOB.out
          rw [← eUp_no (g := g) (ca := ca) (k := i) (self := self) (.inl (by rw [Hy.out]; exact hno))] at hF
          have hF := Lib.hid hF
          clear hno hOB hE a0 Ht
          go_wp2
          first
            | exact ⟨⟨i + 1, by go_num, by omega, hF.out, hBB⟩, by simp [intOf]; omega⟩
            | (go_roundw; (case rel => exact ⟨i + 1, by go_num, by omega, hF.out, hBB⟩); (case measure => simp [intOf]; omega))
        | true =>
          have hyes : g.Direct ca y := Ht.out.1 rfl
          obtain ⟨⟨os, od⟩, hox⟩ : ∃ z, g.oct ca y = z := ⟨_, rfl⟩
          have cO := Lib.hid (fun w' (hb : Below wB.heap.size wB w') => rOct w' p g v ca y ⟨os, od⟩ ((((HG.out.below HW hpl).below hBB (Nat.lt_of_lt_of_le hpl HW.size)).below hb (Nat.lt_of_lt_of_le hpl (Nat.le_trans HW.size hBB.size)))) hca hyc.1 hox)
          have hlist := eUp_yes (g := g) (ca := ca) (k := i) (self := self) (by rw [Hy.out]; exact hyes) (by rw [Hy.out]; exact Hpick.out)
          rw [Hy.out, hox] at hlist
          have Hlist := Lib.hid hlist
          have hadl := World.block_lt_of_cell? _ _ hE
          have hb6w : b6 ≤ wB.heap.size := Nat.le_trans (Nat.le_of_lt hb6l) hBB.size
          have n1 := World.new_ne wB _ hE
          have n2 := World.new_ne wB _ a0
          have a0a := fun o => alloc_some (o := o) a0
          have hEa := fun o => alloc_some (o := o) hE
          clear hyes hox hlist Ht
          go_upto_region 8 with (fail)
          go_region_held3 (fun w' => w'.cell? ⟨b6, 0, none⟩ = some (.int .i64 (ca : Nat)) ∧ w'.cell? (ad.add i) = some (.int .i64 (y : Nat)))
            (first
              | (go_keep; done)
              | (go_split_ands
                 exact ⟨bel_cell hbP (by assumption), bel_cell hbP (by assumption)⟩)
              | (go_split_ands
                 exact ⟨alloc_some (by assumption), alloc_some (by assumption)⟩)
              | exact hS9
              | (go_split_ands
                 refine ⟨?_, ?_⟩ <;> (go_keep; done)))
            (first
              | (go_at_call 108
                 refine (cO.out _ (bel_drew (Below.refl _ _))).mono ?_
                 rintro e wP ⟨rfl, hbP⟩
                 obtain ⟨hcP, hfP⟩ := bcell hbP)
              | (refine step_append_E rfl _ _ rfl W.heap.size _ _ ⟨(y : Nat), ⟨os, od⟩, -1⟩ (by simp [Act.eval, Act.put]) (hOB.out.kept (T := []) (.of_below (bel_alloc (bel_trans (bel_drew (Below.refl _ _)) hbP))) (fun _ _ => by simp)) ⟨wP.heap.size, 0, none⟩ (by simp [Act.eval, Act.put]) (fun j u hu => by rw [Addr.add_lit, Nat.zero_add]; exact new_edge (alloc_at wP _ rfl) j u hu) (by omega) (by have h1 := hBB.size; have h2 := hbP.size; simp; simp at h2; omega) ?_
                 intro v' w9 hown9 hgrow hat
                 have hS9 : w9.cell? ⟨b6, 0, none⟩ = some (.int .i64 (ca : Nat)) ∧ w9.cell? (ad.add i) = some (.int .i64 (y : Nat)) :=
                   ⟨hgrow.cell (alloc_some (bel_cell (bel_trans (bel_drew (Below.refl _ _)) hbP) a0)) (fun e => by have := (World.ownsRow.lt hOB.out _ e.symm).1; simp only at this; omega),
                    hgrow.cell (alloc_some (bel_cell (bel_trans (bel_drew (Below.refl _ _)) hbP) hE)) (fun e => by have := (World.ownsRow.lt hOB.out _ e.symm).1; rw [add_block] at this; omega)⟩))
          all_goals
            have hF := hown9
            rw [← Hlist.out] at hF
            have hB9 : Below W.heap.size W w9 := (bel_alloc (bel_trans hBB (bel_trans (bel_drew (Below.refl _ _)) hbP))).grown hgrow (by have h1 := hBB.size; have h2 := hbP.size; simp; simp at h2; omega) (fun k hk => (World.ownsRow.lt hOB.out k hk).1)
            have hF := Lib.hid hF
            clear hown9 hgrow hat hS9 hcP hfP hbP
            go_wp2
            first
              | exact ⟨⟨i + 1, by go_num, by omega, hF.out, hB9⟩, by simp [intOf]; omega⟩
              | (go_roundw; (case rel => exact ⟨i + 1, by go_num, by omega, hF.out, hB9⟩); (case measure => simp [intOf]; omega))
    · obtain rfl : i = n := by omega
      have hfin : RetE w (eUp g ca self i) (.returned _) wr := ⟨_, rfl, HO.out.mono HW.size, bel_trans HW hB⟩
      have hfin := Lib.hid hfin
      clear HO
      go_wp2
      go_ret
      exact hfin.out
end Go.Proofs.YtjejkadaafmdcaaGreat
