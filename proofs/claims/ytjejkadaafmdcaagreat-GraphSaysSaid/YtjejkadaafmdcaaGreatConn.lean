/- The product's graph: Connect, Grid, and Edges of what is no node. -/
import Derived.Test.YtjejkadaafmdcaaGreatRConn
set_option linter.unusedVariables false
set_option linter.unusedSimpArgs false
namespace Go.Proofs.YtjejkadaafmdcaaGreat
open Go.RowKit Go.Sort FR Go.Lib
theorem wpList_append_E {ops : Array Oper} {rest : List Oper} {o : Oper} {a : Act} {Q : Exit → Act → World → Prop} (w : World) (hgd : o.guard = none) (s x : Operand)
    (ho : o.op = .call { callee := .builtin .append, args := #[s, x], argTypes := #[59, 59] })
    (B : Nat) (v : Value) (L : List Ed) (e : Ed) (hs : a.eval s = v) (hown : OwnE w B v L) (ad : Addr) (hx : a.eval x = .slice (some ad) 1 1)
    (hc : ∀ j u, e.cells[j]? = some u → w.cell? (ad.add j) = some u) (hl : L.length ≤ 100000) (hB : B ≤ w.heap.size)
    (h : ∀ v' w', OwnE w' B v' (L ++ [e]) → w.grownBy w' v.ownBlock → wpList Tryz.prog ops Q rest (a.put o.dst v') w') : wpList Tryz.prog ops Q (o :: rest) a w := by
  obtain ⟨i0, z0, hi, hz0, hz1, hz2, hz3⟩ := edge_parts
  refine wpList_append_own_at w hgd s x 59 ho B 70 i0 z0 4 32 Tryz.underlying59 hi hz0 hz1 hz2 hz3 (by decide) v L.length (edL L) hs hown ad 1 1 e.cells hx rfl hc (ed_one e) ?_ ?_ hB ?_
  · unfold maxLen; omega
  · omega
  · intro v' w' h1 h2 _ _
    refine h v' w' ?_ h2
    unfold OwnE
    rw [List.length_append, edL_append, edL_cons, edL_nil, List.append_nil]
    exact h1
/-- what Connect hands back -/
def RetE2 (w : World) (L : List Ed) (e : Ending) (w' : World) : Prop := ∃ vE, e = .returned (.tuple #[vE, .nilIface]) ∧ OwnE w' w.heap.size vE L ∧ Below w.heap.size w w'
def GridD (w : World) (g : G) (v : Int) (e : Ending) (w' : World) : Prop := ∃ q, e = .returned (.pointer (some ⟨q, 0, none⟩)) ∧ GridAt w' q g v ∧ w.heap.size ≤ q ∧ Below w.heap.size w w'
theorem graphGrid (w : World) (b p mb : Nat) (S : List Nat) (g : G) (v : Int) (E : Int → Option (List Ed)) (h : GraphOf w b p mb S g v E) :
    Calls Tryz.prog 51 #[.pointer (some ⟨b, 0, none⟩)] w (GridD w g v) := by
  have kb0 : w.cell? ⟨b, 0, none⟩ = some (.pointer (some ⟨p, 0, none⟩)) := by simp [World.cell?, h.1]
  have cC := Lib.hid (gridCopy w p g v h.2.1)
  clear h
  go_enter Tryz.func51, Tryz.ntmps51
  go_wp2_with fail
  (with_reducible refine cC.out.mono ?_)
  rintro e w1 ⟨rfl, hG1, hb1, hs1⟩
  have hfin : GridD w g v (.returned (.pointer (some ⟨w.heap.size, 0, none⟩))) w1 := ⟨_, rfl, hG1, Nat.le_refl _, hb1⟩
  have hfin := Lib.hid hfin
  clear hG1 hb1 hs1
  go_wp2
  go_ret
  exact hfin.out
theorem graphEdges_none (w : World) (b p mb : Nat) (S : List Nat) (g : G) (v : Int) (E : Int → Option (List Ed)) (h : GraphOf w b p mb S g v E) (c : Int) (hc : E c = none) :
    Calls Tryz.prog 43 #[.pointer (some ⟨b, 0, none⟩), .int .i64 c] w fun e w' => e = .returned (.tuple #[.slice none 0 0, .iface 107 (.int .i64 5)]) ∧ Below w.heap.size w w' := by
  obtain ⟨g1, _, ⟨V, N, q1, q2, q3, _, _, _, _⟩, _⟩ := h
  have kb1 : w.cell? ⟨b, 1, none⟩ = some (.map (some mb)) := by simp [World.cell?, g1]
  have hu : V c = none := (q2 c).1 hc
  have hlk : (Instr.lookup 54 (.map (some mb)) (.int .i64 c) true).run Tryz.prog w = .ok (.tuple #[.slice none 0 0, .bool false]) w := by
    have := (q1.look (int_fit Tryz.underlying3) Tryz.underlying54 (z := .slice none 0 0) (by simp [Tryz.zeroValue59]) c).1
    rw [hu] at this
    exact this
  clear g1 q1 q2 q3 hu hc
  go_enter Tryz.func43, Tryz.ntmps43
  go_wp2
  go_ret2
  exact ⟨rfl, by (repeat' (first | exact Below.refl _ _ | assumption | apply bel_drewN | apply bel_drew | apply bel_alloc | (refine bel_trans ?_ (by assumption))))⟩
theorem graphConnect_bad (w : World) (b p mb : Nat) (S : List Nat) (g : G) (v c : Int) (f : Nat) (E : Int → Option (List Ed)) (h : GraphOf w b p mb S g v E) (hf : g.fault c = f) (h0 : f ≠ 0) :
    Calls Tryz.prog 38 #[.pointer (some ⟨b, 0, none⟩), .int .i64 c] w fun e w' => e = .returned (.tuple #[.slice none 0 0, .iface 107 (.int .i64 (f : Nat))]) ∧ Below w.heap.size w w' := by
  have kb0 : w.cell? ⟨b, 0, none⟩ = some (.pointer (some ⟨p, 0, none⟩)) := by simp [World.cell?, h.1]
  have H := Lib.hid h.2.1
  have Hf := Lib.hid hf
  clear h hf
  by_cases hc : 0 ≤ c ∧ c < g.n
  · obtain ⟨x, rfl⟩ := Int.eq_ofNat_of_zero_le hc.1
    have hx : x < g.n := by omega
    have hfx : g.b x = true ∧ f = 4 := by
      have := Hf.out
      rw [G.fault_in hx] at this
      split at this
      · rename_i hq; exact ⟨hq, this.symm⟩
      · exact absurd this.symm h0
    obtain ⟨hfx, rfl⟩ := hfx
    have cF := Lib.hid (gridFree_in w p g v x H.out hx)
    rw [hfx] at cF
    have Hfx := Lib.hid hfx
    clear hfx
    go_enter Tryz.func38, Tryz.ntmps38
    go_wp2_with fail
    (with_reducible refine cF.out.mono ?_)
    rintro e w1 ⟨rfl, hb1⟩
    go_wp2
    go_ret2
    exact ⟨rfl, by (repeat' (first | exact Below.refl _ _ | assumption | apply bel_drewN | apply bel_drew | apply bel_alloc | (refine bel_trans ?_ (by assumption))))⟩
  · have hfx : f = 1 := by
      rw [← Hf.out]; exact G.fault_out (by omega)
    subst hfx
    have cF := Lib.hid (gridFree_out w p g v c H.out (by omega))
    go_enter Tryz.func38, Tryz.ntmps38
    go_wp2_with fail
    (with_reducible refine cF.out.mono ?_)
    rintro e w1 ⟨rfl, hb1⟩
    go_wp2
    go_ret2
    exact ⟨rfl, by (repeat' (first | exact Below.refl _ _ | assumption | apply bel_drewN | apply bel_drew | apply bel_alloc | (refine bel_trans ?_ (by assumption))))⟩
set_option maxRecDepth 100000 in
set_option maxHeartbeats 3200000 in
theorem graphConnect (w : World) (b p mb : Nat) (S : List Nat) (g : G) (v : Int) (x : Nat) (E : Int → Option (List Ed)) (h : GraphOf w b p mb S g v E) (hE : ∀ z : Int, E z ≠ none ↔ ∃ c : Nat, z = c ∧ g.Corner c) (hx : x < g.n) (hfx : g.b x = false) :
    Calls Tryz.prog 38 #[.pointer (some ⟨b, 0, none⟩), .int .i64 (x : Nat)] w (RetE2 w (eUp g x true (cornersI g).length)) := by
  have hok := h.2.1.1
  have hNn := G.n_le hok
  have kb0 : w.cell? ⟨b, 0, none⟩ = some (.pointer (some ⟨p, 0, none⟩)) := by simp [World.cell?, h.1]
  have cF := Lib.hid (gridFree_in w p g v x h.2.1 hx)
  rw [hfx] at cF
  have H := Lib.hid h
  have HE := Lib.hid hE
  have Hok := Lib.hid hok
  have Hfx := Lib.hid hfx
  obtain ⟨n, hn⟩ : ∃ n, (cornersI g).length = n := ⟨_, rfl⟩
  have hn256 : n ≤ 256 := by rw [← hn]; exact corners_le hok
  have Hn := Lib.hid hn
  rw [hn]
  clear h hE hok hfx hn
  go_enter Tryz.func38, Tryz.ntmps38
  go_wp2_with fail
  (with_reducible refine cF.out.mono ?_)
  rintro e w1 ⟨rfl, hb1⟩
  have H1 := Lib.hid (H.out.below hb1)
  have cN := Lib.hid (graphNodesC w1 b p mb S g v E H1.out HE.out)
  have kb0 := bel_cell hb1 kb0
  clear cF
  go_wp2_with fail
  (with_reducible refine cN.out.mono ?_)
  rintro e W ⟨A, m, rfl, _, hI, _, hbW⟩
  rw [Hn.out] at hI ⊢
  have HW := bel_trans hb1 hbW
  have H2 := Lib.hid (H1.out.below hbW)
  have HI := Lib.hid hI
  have kb0 := bel_cell hbW kb0
  have hbl : b < W.heap.size := World.block_lt_of_cell? _ _ kb0
  have Hkb := Lib.hid kb0
  clear cN hI kb0
  go_wp2_with fail
  go_loopw [8, 31] (fun lv kv wr => ∃ i : Nat, kv = .int .i64 i ∧ i ≤ n ∧ OwnE wr W.heap.size lv (eUp g x true i) ∧ Below W.heap.size W wr) (fun _ kv _ => n - (intOf kv).toNat)
  case atStart => exact ⟨0, rfl, by omega, OwnE.nil _ _, Below.refl _ _⟩
  case round =>
    obtain ⟨i, rfl, hi, hO, hB⟩ := hrel
    have HO := Lib.hid hO
    have kb0 := bel_cell hB Hkb.out
    clear hO
    by_cases hlt : i < n
    · have hIr := HI.out.below hB
      obtain ⟨ad, hA⟩ := hIr.addr (by omega)
      rw [hA] at hIr
      have hix := fun wx => idx_run (m := m) hA hlt wx
      have hE := hIr.cell (Below.refl _ _) hlt
      rw [(cf_at (by rw [Hn.out]; exact hlt)).1] at hE
      obtain ⟨y, hy⟩ : ∃ y, cf g i = y := ⟨_, rfl⟩
      have hyc : g.Corner y := by rw [← hy]; exact (cf_at (by rw [Hn.out]; exact hlt)).2
      rw [hy] at hE
      have Hy := Lib.hid hy
      obtain ⟨hyn, hyf⟩ := corner_free Hok.out hyc
      obtain ⟨t, ht⟩ := boolQ (g.Direct x y)
      have Ht := Lib.hid ht
      have HGr := Lib.hid (H2.out.2.1.below hB H2.out.2.1.lt)
      have cD := Lib.hid (reachDirect_ok wr p g v x y t HGr.out hx hyn Hfx.out hyf ht)
      have hle := eUp_len g x true i
      have Hyf := Lib.hid hyf
      have Hyc := Lib.hid hyc
      clear hIr hA hy ht hyf hyc
      go_wp2_with fail
      (with_reducible refine cD.out.mono ?_)
      rintro e w2 ⟨rfl, hb2⟩
      have hB2 := bel_trans hB hb2
      have kb0 := bel_cell hb2 kb0
      have hO2 := HO.out.kept (T := []) (.of_below hb2) (fun _ _ => by simp)
      have HO2 := Lib.hid hO2
      clear cD hO2 HO hE
      cases t with
      | false =>
        have hno : ¬ g.Direct x y := fun hh => by have := Ht.out.2 hh; cases this
        have hF := HO2.out
        rw [← eUp_no (g := g) (ca := x) (k := i) (self := true) (.inl (by rw [Hy.out]; exact hno))] at hF
        have hF := Lib.hid hF
        clear hno HO2 Ht
        go_wp2
        first
          | exact ⟨⟨i + 1, by go_num, by omega, hF.out, hB2⟩, by simp [intOf]; omega⟩
          | (go_roundw; (case rel => exact ⟨i + 1, by go_num, by omega, hF.out, hB2⟩); (case measure => simp [intOf]; omega))
      | true =>
        have hyes : g.Direct x y := Ht.out.1 rfl
        obtain ⟨⟨os, od⟩, hox⟩ : ∃ z, g.oct x y = z := ⟨_, rfl⟩
        have cO := Lib.hid (gOctile w2 p g v x y ⟨os, od⟩ (HGr.out.below hb2 HGr.out.lt) hx hyn hox)
        have hlist := eUp_yes (g := g) (ca := x) (k := i) (self := true) (by rw [Hy.out]; exact hyes) (.inl rfl)
        rw [Hy.out, hox] at hlist
        have Hlist := Lib.hid hlist
        clear hyes hox hlist Ht
        go_wp2_with fail
        (with_reducible refine cO.out.mono ?_)
        rintro e w3 ⟨rfl, hb3⟩
        have hO3 := Lib.hid (HO2.out.kept (T := []) (.of_below hb3) (fun _ _ => by simp))
        have hB3 := bel_trans hB2 hb3
        clear cO HO2
        go_wp2_with (at_builtin; (refine wpList_append_E _ rfl _ _ rfl W.heap.size _ _ ⟨(y : Nat), ⟨os, od⟩, -1⟩ rfl (hO3.out.kept (T := []) (.of_below (bel_alloc (Below.refl _ _))) (fun _ _ => by simp)) ⟨w3.heap.size, 0, none⟩ rfl (fun j u hu => by rw [Addr.add_lit, Nat.zero_add]; exact new_edge (alloc_at w3 _ rfl) j u hu) (by omega) (by have := hB3.size; simp; omega) ?_); intro v' w9 hown9 hgrow)
        have hF := hown9
        rw [← Hlist.out] at hF
        have hB9 : Below W.heap.size W w9 := (bel_alloc hB3).grown hgrow (by have := hB3.size; simp; omega) (fun k hk => (World.ownsRow.lt hO3.out k hk).1)
        have hF := Lib.hid hF
        clear hown9 hgrow
        go_wp2
        first
          | exact ⟨⟨i + 1, by go_num, by omega, hF.out, hB9⟩, by simp [intOf]; omega⟩
          | (go_roundw; (case rel => exact ⟨i + 1, by go_num, by omega, hF.out, hB9⟩); (case measure => simp [intOf]; omega))
    · obtain rfl : i = n := by omega
      have hfin : RetE2 w (eUp g x true i) (.returned (.tuple #[u8, .nilIface])) wr := ⟨_, rfl, HO.out.mono HW.size, bel_trans HW hB⟩
      have hfin := Lib.hid hfin
      clear HO
      go_wp2
      go_ret2
      exact hfin.out
end Go.Proofs.YtjejkadaafmdcaaGreat
