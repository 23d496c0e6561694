/- Lemmas of this claim: Rays, REdges, RGraph, RConn, Conn, Lv1, AsGraph, Links. -/
import Derived.Test.YtjejkadaafmdcaaGreatKSearchSays18
import Derived.Test.YtjejkadaafmdcaaGreatKSearchSays23
import Derived.Deep.DeepCutAuto
import Derived.Test.YtjejkadaafmdcaaGreatKSearchSays14
set_option linter.unusedVariables false
set_option linter.unusedSimpArgs false
/- Rows of what all cells cost from one each. -/
namespace Go.Proofs.YtjejkadaafmdcaaGreat
open Go.RowKit Go.Sort FR Go.Lib
theorem ray_info2 : (Tryz.prog.info? 113).map (fun i => (i.zero.map fun z => z.cells.size, i.size, i.bytes)) = some (some 769, 769, 4360) := by kernel_rfl
theorem ray_infos : ∃ i z, Tryz.prog.info? 113 = some i ∧ i.zero = some z ∧ i.size = 769 ∧ i.bytes = 4360 ∧ z.cells.size = 769 := by
  obtain ⟨i, hi, h⟩ := Option.map_eq_some_iff.1 ray_info2
  simp only [Prod.mk.injEq] at h
  obtain ⟨h1, h2, h3⟩ := h
  obtain ⟨z, hz, h4⟩ := Option.map_eq_some_iff.1 h1
  exact ⟨i, z, hi, hz, h2, h3, h4⟩
def rayL (Zs : List (Array Value)) : List Value := Zs.flatMap (·.toList)
/-- A slice of rays in a row of its own. -/
def OwnR (w : World) (B : Nat) (v : Value) (Zs : List (Array Value)) : Prop := w.ownsRow B 113 769 v Zs.length (rayL Zs) ∧ ∀ Z ∈ Zs, Z.size = 769
theorem OwnR.nil (w : World) (B : Nat) : OwnR w B (.slice none 0 0) [] := ⟨⟨rfl, .inl ⟨rfl, rfl⟩⟩, by simp⟩
theorem rayL_append (L M : List (Array Value)) : rayL (L ++ M) = rayL L ++ rayL M := by simp [rayL]
theorem rayL_get : ∀ (L : List (Array Value)) (_ : ∀ Z ∈ L, Z.size = 769) (i : Nat) (Z : Array Value), L[i]? = some Z → ∀ j v, Z.toList[j]? = some v → (rayL L)[i * 769 + j]? = some v
  | [], _, i, Z, h => by simp at h
  | X :: L, hs, 0, Z, h => by
    simp at h; subst h
    intro j v hv
    have e : rayL (X :: L) = X.toList ++ rayL L := by simp [rayL]
    have hj := (List.getElem?_eq_some_iff.1 hv).1
    rw [e, List.getElem?_append_left (by omega)]
    simpa using hv
  | X :: L, hs, i + 1, Z, h => by
    simp at h
    intro j v hv
    have e : rayL (X :: L) = X.toList ++ rayL L := by simp [rayL]
    have hx := hs X (by simp)
    rw [e, List.getElem?_append_right (by rw [Array.length_toList]; omega), Array.length_toList, hx]
    have := rayL_get L (fun Y hY => hs Y (by simp [hY])) i Z h j v hv
    rw [show (i + 1) * 769 + j - 769 = i * 769 + j by omega]
    exact this
/-- a slice that reads as these rays -/
def RaysAt (w : World) (A : Option Addr) (Zs : List (Array Value)) : Prop := 0 < Zs.length → ∃ g, A = some ⟨g, 0, none⟩ ∧ g < w.heap.size ∧ ∀ i Z, Zs[i]? = some Z → w.rangeAt g (i * 769) Z.toList
theorem OwnR.rays {w : World} {B : Nat} {v : Value} {Zs : List (Array Value)} (h : OwnR w B v Zs) : ∃ A cap, v = .slice A Zs.length cap ∧ RaysAt w A Zs ∧ ∀ ad, A = some ad → B ≤ ad.block ∧ ad.block < w.heap.size := by
  obtain ⟨h, hs⟩ := h
  rcases h.2 with ⟨rfl, h0⟩ | ⟨g, cap, cur, rfl, hB, hg, _, _, _, htake⟩
  · exact ⟨none, 0, by rw [h0], (fun h => by omega), fun ad e => by cases e⟩
  · refine ⟨_, cap, rfl, fun _ => ⟨g, rfl, (Array.getElem?_eq_some_iff.1 hg).1, fun i Z hZ j v hv => ?_⟩, fun ad e => ?_⟩
    · have := rayL_get Zs hs i Z hZ j v hv
      rw [← htake, List.getElem?_take] at this
      split at this
      · rw [Array.getElem?_toList] at this
        simp [World.cell?, hg, this]
      · cases this
    · injection e with e
      subst e
      exact ⟨hB, (Array.getElem?_eq_some_iff.1 hg).1⟩
theorem RaysAt.below {w w' : World} {A : Option Addr} {Zs : List (Array Value)} (h : RaysAt w A Zs) (hb : Below w.heap.size w w') : RaysAt w' A Zs := fun hl => by
  obtain ⟨g, h1, h2, h3⟩ := h hl
  exact ⟨g, h1, Nat.lt_of_lt_of_le h2 hb.size, fun i Z hZ => rangeAt_below (h3 i Z hZ) hb⟩
theorem idxRay {A : Option Addr} {g n m k : Nat} (h : A = some ⟨g, 0, none⟩) (hk : k < n) (wx : World) : (Instr.indexAt 111 (.slice A n m) (.int .i64 (k : Nat))).run Tryz.prog wx = .ok (.pointer (some ⟨g, k * 769, none⟩)) wx := by
  subst h
  have q : (k : Int) < (n : Int) := by omega
  go_simp
theorem fold_set : ∀ (l : List Value) (k : Nat) (cs : Array Value), k + l.length ≤ cs.size →
    ∀ i, ((l.zipIdx k).foldl (fun cs (x : Value × Nat) => cs.setIfInBounds (0 + x.2) x.1) cs)[i]? = if k ≤ i ∧ i < k + l.length then l[i - k]? else cs[i]?
  | [], k, cs, _, i => by simp; omega
  | v :: l, k, cs, h, i => by
    simp only [List.zipIdx_cons, List.foldl_cons]
    rw [fold_set l (k + 1) _ (by simp at h ⊢; omega) i]
    simp at h
    by_cases e : i = k
    · subst e
      rw [if_neg (by omega), if_pos ⟨by omega, by simp⟩]
      rw [Nat.zero_add, Array.getElem?_setIfInBounds_self_of_lt (by omega)]
      simp
    · by_cases e2 : k + 1 ≤ i ∧ i < k + 1 + l.length
      · rw [if_pos e2, if_pos ⟨by omega, by simp; omega⟩]
        obtain ⟨j, hj⟩ : ∃ j, i - k = j + 1 := ⟨i - k - 1, by omega⟩
        rw [hj, List.getElem?_cons_succ, show i - (k + 1) = j by omega]
      · rw [if_neg e2, if_neg (by simp; omega), Nat.zero_add, Array.getElem?_setIfInBounds_ne (by omega)]
theorem fold_all {Z cs : Array Value} (h : cs.size = Z.size) : Z.zipIdx.foldl (fun cs (x : Value × Nat) => cs.setIfInBounds (0 + x.2) x.1) cs = Z := by
  apply Array.ext_getElem?
  intro i
  have h1 := fold_set Z.toList 0 cs (by simp; omega) i
  have e : Z.zipIdx.foldl (fun cs (x : Value × Nat) => cs.setIfInBounds (0 + x.2) x.1) cs = (Z.toList.zipIdx 0).foldl (fun cs (x : Value × Nat) => cs.setIfInBounds (0 + x.2) x.1) cs := by
    rw [← Array.foldl_toList]
    simp
  rw [e, h1]
  by_cases hi : i < Z.size
  · rw [if_pos ⟨by omega, by simp; omega⟩]; simp
  · rw [if_neg (by simp; omega), Array.getElem?_eq_none (by omega), Array.getElem?_eq_none (by omega)]
theorem run_buildRay (w : World) (Z : Array Value) (hz : Z.size = 769) : (Instr.buildSlice 111 1 #[(0, .agg Z)]).run Tryz.prog w = .ok (.slice (some ⟨w.heap.size, 0, none⟩) 1 1) (w.alloc (.cells Z 113 (0, 0))) := by
  have hc : (Value.agg Z).cells = Z := rfl
  have hz0 : (Value.agg Tryz.zeroCells113).cells = Tryz.zeroCells113 := rfl
  have hs : Tryz.zeroCells113.size = 769 := by rw [zero_ray, ray_size]
  obtain ⟨zc, hzc⟩ : ∃ zc, (Array.range (1 * 769)).map (fun i => Tryz.zeroCells113[i % Tryz.zeroCells113.size]!) = zc := ⟨_, rfl⟩
  have hzs : zc.size = 769 := by rw [← hzc]; simp
  have hf : Instr.fill (fun i => some (i * 769, 769)) zc [(0, .agg Z)] = some Z := by
    simp only [Instr.fill, hc]
    rw [if_neg (by simp; omega)]
    congr 1
    exact fold_all (by omega)
  unfold Instr.buildSlice
  simp only [Sem.run_bind, Sem.run_pure, Result.andThen_ok, run_underlying Tryz.underlying111, Tryz.sizeOf113, Tryz.zeroValue113, hz0]
  rw [if_neg (by decide), if_neg (by decide)]
  simp only [Sem.run_bind, Sem.run_pure, Result.andThen_ok, Tryz.zeroValue113, hz0, hzc, hf]
  rfl
theorem wpList_run1 {P : Program} (w : World) {ops : Array Oper} {rest : List Oper} {o : Oper} {a : Act} {Q : Exit → Act → World → Prop} (hgd : o.guard = none) (t : TypeId) (x : Operand)
    (ho : o.op = .buildSlice t 1 #[(0, x)]) (v : Value) (hx : a.eval x = v) {v' : Value} {w' : World} (hr : (Instr.buildSlice t 1 #[(0, v)]).run P w = .ok v' w') (h : wpList P ops Q rest (a.put o.dst v') w') : wpList P ops Q (o :: rest) a w :=
  wpList_plain hgd fun _ hK => by
    unfold Oper.wp execOp
    simp only [ho, Sem.run_bind, Sem.run_pure, Result.andThen_ok, List.map_toArray, List.map_cons, List.map_nil, hx, hr]
    exact hK _ _ h
end Go.Proofs.YtjejkadaafmdcaaGreat
/- The document's edges from a cell to corners. -/
namespace Go.Proofs.YtjejkadaafmdcaaGreat
open Go.RowKit Go.Sort FR Go.Lib
theorem step_append_E {ops : Array Oper} {o : Oper} {a : Act} {w : World} {K : Act → World → Prop} {Q : Exit → Act → World → Prop} {X : Prop} (hg : o.guard = none) (s x : Operand)
    (ho : o.op = .call { callee := .builtin .append, args := #[s, x], argTypes := #[59, 59] }) (B : Nat) (v : Value) (L : List Ed) (e : Ed) (hs : a.eval s = v) (hown : OwnE w B v L) (ad : Addr) (hx : a.eval x = .slice (some ad) 1 1)
    (hc : ∀ j u, e.cells[j]? = some u → w.cell? (ad.add j) = some u) (hl : L.length ≤ 100000) (hB : B ≤ w.heap.size)
    (h : ∀ v' w', OwnE w' B v' (L ++ [e]) → w.grownBy w' v.ownBlock → (v'.ownBlock = v.ownBlock ∨ v'.ownBlock = some w.heap.size) → K (a.put o.dst v') w') : if Region.wanted o (yielded ops a.tmps) = true then Oper.wp Tryz.prog o a w K Q else X := by
  obtain ⟨i0, z0, hi, hz0, hz1, hz2, hz3⟩ := edge_parts
  obtain ⟨v', w', hr, h2, h3, h4, h5⟩ := run_append_own_at (P := Tryz.prog) w B 59 o.type 70 i0 z0 4 32 Tryz.underlying59 hi hz0 hz1 hz2 hz3 (by decide) v L.length (edL L) hown ad 1 1 e.cells rfl hc (ed_one e) (by unfold maxLen; omega) (by omega) hB
  have hw : Region.wanted o (yielded ops a.tmps) = true := by simp [Region.wanted, hg]
  rw [if_pos hw]
  unfold Oper.wp
  have hO : OwnE w' B v' (L ++ [e]) := by
    unfold OwnE
    rw [List.length_append, edL_append, edL_cons, edL_nil, List.append_nil]
    exact h2
  simp [execOp, ho, resolve, invoke, builtin, hs, hx, hr, Result.andThen]
  exact h v' w' hO h3 h5
open Classical in
/-- which of the first corners have an edge -/
noncomputable def eUp (g : G) (ca : Nat) (self : Bool) (k : Nat) : List Ed :=
  ((List.range k).filter fun i => decide (g.Direct ca (cf g i)) && (self || !(cf g i == ca))).map fun i => ⟨(cf g i : Nat), g.oct ca (cf g i), -1⟩
theorem eUp_len (g : G) (ca : Nat) (self : Bool) (k : Nat) : (eUp g ca self k).length ≤ k := by
  unfold eUp
  rw [List.length_map]
  exact Nat.le_trans (List.length_filter_le _ _) (by simp)
open Classical in
theorem eUp_yes {g : G} {ca k : Nat} {self : Bool} (hd : g.Direct ca (cf g k)) (hs : self = true ∨ cf g k ≠ ca) : eUp g ca self (k + 1) = eUp g ca self k ++ [⟨(cf g k : Nat), g.oct ca (cf g k), -1⟩] := by
  unfold eUp
  rw [List.range_succ, List.filter_append, List.map_append]
  have : (decide (g.Direct ca (cf g k)) && (self || !(cf g k == ca))) = true := by
    rcases hs with h | h <;> simp [hd, h]
  simp [this]
open Classical in
theorem eUp_no {g : G} {ca k : Nat} {self : Bool} (h : ¬ g.Direct ca (cf g k) ∨ (self = false ∧ cf g k = ca)) : eUp g ca self (k + 1) = eUp g ca self k := by
  unfold eUp
  rw [List.range_succ, List.filter_append, List.map_append]
  have : (decide (g.Direct ca (cf g k)) && (self || !(cf g k == ca))) = false := by
    rcases h with h | ⟨h1, h2⟩
    · simp [h]
    · simp [h1, h2]
  simp [this]
open Classical in
theorem mem_eUp {g : G} {ca : Nat} {self : Bool} {e : Ed} : e ∈ eUp g ca self (cornersI g).length ↔ ∃ y : Nat, g.Corner y ∧ (self = true ∨ y ≠ ca) ∧ g.Direct ca y ∧ e = ⟨y, g.oct ca y, -1⟩ := by
  unfold eUp
  rw [List.mem_map]
  constructor
  · rintro ⟨i, hi, rfl⟩
    rw [List.mem_filter, List.mem_range] at hi
    obtain ⟨h1, h2⟩ := hi
    simp only [Bool.and_eq_true, decide_eq_true_eq, Bool.or_eq_true, Bool.not_eq_true', beq_eq_false_iff_ne] at h2
    exact ⟨_, (cf_at h1).2, h2.2, h2.1, rfl⟩
  · rintro ⟨y, h1, h2, h3, rfl⟩
    obtain ⟨i, hi, rfl⟩ := cf_has h1
    refine ⟨i, ?_, rfl⟩
    rw [List.mem_filter, List.mem_range]
    refine ⟨hi, ?_⟩
    simp only [Bool.and_eq_true, decide_eq_true_eq, Bool.or_eq_true, Bool.not_eq_true', beq_eq_false_iff_ne]
    exact ⟨h3, h2⟩
open Classical in
theorem srt_eUp {g : G} {ca : Nat} {self : Bool} : (eUp g ca self (cornersI g).length).Pairwise (fun a b => a.to_ < b.to_) := by
  unfold eUp
  rw [List.pairwise_map]
  refine (List.Pairwise.filter _ (List.pairwise_lt_range.imp_of_mem ?_))
  intro i j hi hj hij
  rw [List.mem_range] at hj
  have := cf_lt hij hj
  simp only
  omega
theorem OwnE.mono {w : World} {B B' : Nat} {v : Value} {L : List Ed} (h : OwnE w B v L) (hB : B' ≤ B) : OwnE w B' v L := by
  refine ⟨h.1, ?_⟩
  rcases h.2 with hn | ⟨g, cap, cur, rfl, hb, rest⟩
  · exact .inl hn
  · exact .inr ⟨g, cap, cur, rfl, Nat.le_trans hB hb, rest⟩
/-- what edges hands back -/
def RetE (w : World) (L : List Ed) (e : Ending) (w' : World) : Prop := ∃ vE, e = .returned vE ∧ OwnE w' w.heap.size vE L ∧ Below w.heap.size w w'
/-- rays of the corners -/
def RaysOf (g : G) (Zs : List (Array Value)) : Prop := Zs.length = (cornersI g).length ∧ ∀ i Z, Zs[i]? = some Z → ∃ c is, Z = rayRow (cf g i) c is ∧ FloodIs g (cf g i) c is
set_option maxRecDepth 100000 in
set_option maxHeartbeats 6400000 in
theorem rEdges (w : World) (p : Nat) (g : G) (v : Int) (ca : Nat) (c1 : Nat → C) (i1 : Nat → Bool) (Z1 : Array Value) (AR A : Option Addr) (n mR m : Nat) (Zs : List (Array Value)) (self : Bool) (h : RGridAt w p g v) (hca : ca < g.n)
    (hz1 : rayRow ca c1 i1 = Z1) (h1 : FloodIs g ca c1 i1) (hI : Ints w A n (fun k => (cornersI g).getD k 0)) (hn : (cornersI g).length = n) (hR : RaysAt w AR Zs) (hRo : RaysOf g Zs) :
    Calls Tryz.prog 62 #[.pointer (some ⟨p, 0, none⟩), .agg Z1, .slice AR n mR, .slice A n m, .bool self] w (RetE w (eUp g ca self n)) := by
  have hNn := G.n_le h.1
  have hn256 : n ≤ 256 := by rw [← hn]; exact corners_le h.1
  have zs1 : Z1.size = 769 := by rw [← hz1, ray_size]
  have zo1 : Z1.all (·.oneCell') = true := by rw [← hz1]; exact ray_one _ _ _
  have Hz1 := Lib.hid hz1
  have H1 := Lib.hid h1
  have Hn := Lib.hid hn
  have HI := Lib.hid hI
  have HR := Lib.hid hR
  have HRo := Lib.hid hRo
  have HG := Lib.hid h
  have hpl := h.lt
  clear hz1 h1 hn hI hR hRo h
  go_enter Tryz.func62, Tryz.ntmps62
  go_upto_region 2 with (fail)
  refine wp_name ?_
  intro W hW
  have HW : Below w.heap.size w W := by rw [hW]; (repeat' (first | exact Below.refl _ _ | assumption | apply bel_drewN | apply bel_drew | apply bel_alloc | (refine bel_trans ?_ (by assumption))))
  have hA : W.heap[w.heap.size]? = some (.cells Z1 113 (0, 0)) := by rw [hW]; exact alloc_at _ _ rfl
  obtain ⟨b6, hb6⟩ : ∃ z, w.heap.size = z := ⟨_, rfl⟩
  have Hb6 := Lib.hid hb6
  rw [hb6] at hA ⊢
  clear hW hb6
  have cA := Lib.hid (fun w' hb => ray_cell (w' := w') hA Hz1.out hb)
  have g1 := Lib.hid (range_all hA)
  have hb6l : b6 < W.heap.size := (Array.getElem?_eq_some_iff.1 hA).1
  clear hA
  go_wp2_with fail
  go_loopw [11, 12] (fun lv kv wr => ∃ i : Nat, kv = .int .i64 i ∧ i ≤ n ∧ OwnE wr W.heap.size lv (eUp g ca self i) ∧ Below W.heap.size W wr) (fun _ kv _ => n - (intOf kv).toNat)
  case atStart => exact ⟨0, rfl, by omega, OwnE.nil _ _, Below.refl _ _⟩
  case round =>
    obtain ⟨i, rfl, hi, hO, hB⟩ := hrel
    have HO := Lib.hid hO
    clear hO
    by_cases hlt : i < n
    · have hIr := (HI.out.below HW).below hB
      have HIr := Lib.hid hIr
      obtain ⟨ad, hA⟩ := hIr.addr (by omega)
      rw [hA] at hIr
      have hix := fun wx => idx_run (m := m) hA hlt wx
      have hE := hIr.cell (Below.refl _ _) hlt
      rw [(cf_at (by rw [Hn.out]; exact hlt)).1] at hE
      obtain ⟨y, hy⟩ : ∃ y, cf g i = y := ⟨_, rfl⟩
      have hyc : g.Corner y := by rw [← hy]; exact (cf_at (by rw [Hn.out]; exact hlt)).2
      rw [hy] at hE
      have Hy := Lib.hid hy
      have hadW : ad.block < W.heap.size := by
        obtain ⟨ad', e', hl', _⟩ := HI.out (by omega)
        rw [hA] at e'
        injection e' with e'
        rw [e']
        exact Nat.lt_of_lt_of_le hl' HW.size
      have a0 := (cA.out wr hB).1
      clear hIr hA hy
      have hskip : self = false → y = ca → eUp g ca self (i + 1) = eUp g ca self i := fun h1 h2 => eUp_no (.inr ⟨h1, by rw [Hy.out]; exact h2⟩)
      have Hskip := Lib.hid hskip
      have hle := eUp_len g ca self i
      clear hskip
      go_upto_region 5 with (fail)
      by_cases hyca : y = ca ∧ self = false
      · obtain ⟨rfl, rfl⟩ := hyca
        have hd1 : ((y : Int) == (y : Int)) = true := by simp
        go_quiet (fail)
        have hF := HO.out.kept (w' := wr.drewN nq) (T := []) (.of_below (bel_drewN (Below.refl _ _))) (fun _ _ => by simp)
        rw [← Hskip.out rfl rfl] at hF
        have hF := Lib.hid hF
        clear hE hix a0 HO hd1
        go_wp2
        first
          | exact ⟨⟨i + 1, by go_num, by omega, hF.out, bel_drewN hB⟩, by simp [intOf]; omega⟩
          | (go_roundw; (case rel => exact ⟨i + 1, by go_num, by omega, hF.out, bel_drewN hB⟩); (case measure => simp [intOf]; omega))
      · have hpick : self = true ∨ y ≠ ca := by
          by_cases h1 : y = ca
          · left
            cases hs : self with
            | true => rfl
            | false => exact absurd ⟨h1, hs⟩ hyca
          · exact .inr h1
        have Hpick := Lib.hid hpick
        go_cut [30] (fun s wx => s = .bool false ∧ Below wr.heap.size wr wx)
        case first =>
          by_cases h1 : y = ca
          · have hs : self = true := by
              rcases Hpick.out with q | q
              · exact q
              · exact absurd h1 q
            subst h1
            subst hs
            have hd1 : ((y : Int) == (y : Int)) = true := by simp
            clear hyca hpick
            go_quiet (fail)
            go_wp2
            go_meet
            case rel => exact ⟨rfl, bel_drewN (Below.refl _ _)⟩
          · have hd1 : ((y : Int) == (ca : Int)) = false := by simp; omega
            clear hyca hpick
            go_quiet (fail)
            go_wp2
            go_meet
            case rel => exact ⟨rfl, bel_drewN (Below.refl _ _)⟩
        case rest =>
        obtain ⟨rfl, hbc⟩ := hcut
        have hBc := bel_trans hB hbc
        have hOc := Lib.hid (HO.out.kept (T := []) (.of_below hbc) (fun _ _ => by simp))
        have hE := bel_cell hbc hE
        have a0 := bel_cell hbc a0
        have hRr := ((HR.out.below HW).below hBc)
        obtain ⟨gr, hAR, _, hrr⟩ := hRr (by rw [HRo.out.1, Hn.out]; omega)
        have hzl : i < Zs.length := by rw [HRo.out.1, Hn.out]; exact hlt
        obtain ⟨Z2, hZ2⟩ : ∃ Z, Zs[i]? = some Z := ⟨Zs[i]'hzl, List.getElem?_eq_getElem _⟩
        have g2 := hrr i Z2 hZ2
        obtain ⟨c2, i2, hz2, hF2⟩ := HRo.out.2 i Z2 hZ2
        rw [Hy.out] at hz2 hF2
        have hixr := fun wx => idxRay (n := n) (m := mR) hAR hlt wx
        obtain ⟨t, ht⟩ := boolQ (g.Direct ca y)
        have Ht := Lib.hid ht
        have cD := Lib.hid (fun w' (hb : Below wc.heap.size wc w') => rDirectRays w' p g v ca y c1 c2 i1 i2 Z1 Z2 A n m t ((((HG.out.below HW hpl).below hBc (Nat.lt_of_lt_of_le hpl HW.size)).below hb (Nat.lt_of_lt_of_le hpl (Nat.le_trans HW.size hBc.size)))) hca hyc.1 Hz1.out hz2.symm H1.out hF2 (((HI.out.below HW).below hBc).below hb) Hn.out ht)
        have zs2 : Z2.size = 769 := by rw [hz2, ray_size]
        have s1 : (Tryz.prog.info? 113).map (·.size) = some Z1.toList.length := by rw [Array.length_toList, zs1]; exact ray_info
        have s2 : (Tryz.prog.info? 113).map (·.size) = some Z2.toList.length := by rw [Array.length_toList, zs2]; exact ray_info
        have u1 := Tryz.underlying113
        have e1 : Z1.toList.toArray = Z1 := Array.toArray_toList ..
        have e2 : Z2.toList.toArray = Z2 := Array.toArray_toList ..
        have gA := rangeAt_below g1.out hBc
        clear hyca hpick hbc hAR hrr hzl hZ2 hz2 hF2 ht hRr HO zs2
        go_upto_region 6 with (fail)
        refine wp_region_noPanic ?_
        refine wp_region_held_drew (S := fun w' => w'.rangeAt b6 0 Z1.toList ∧ w'.rangeAt gr (i * 769) Z2.toList) (by kernel_rfl) ⟨gA, g2⟩ (fun hHeld => ?_)
        refine' wpAnyH_take (i := 1) (oi := { dst := some 32, op := .load 113 (.tmp 6), type := 113, pos := "parts.go:563", after := #[], guard := none }) (v := _) rfl (by kernel_rfl) (by kernel_rfl) (by kernel_rfl) (fun _ _ _ h => h) (yieldsIf_load_mid (by rfl) 113 (.tmp 6) rfl b6 0 rfl Z1.toList _ (fun w h => h.1) u1 rfl s1) (by assumption) ?_
        simp only [Act.put, List.setIfInBounds_toArray, List.set_cons_zero, List.set_cons_succ]
        refine wpAnyH_take (i := 0) (oi := { dst := some 31, op := .move (.tmp 0), type := 28, pos := "parts.go:563", after := #[], guard := none }) (v := .pointer (some ⟨p, 0, none⟩)) rfl (by kernel_rfl) (by kernel_rfl) (by kernel_rfl) (fun _ _ _ h => h) (Or.inl ⟨by rfl, fun w hSw => by go_simp⟩) (by assumption) ?_
        simp only [Act.put, List.setIfInBounds_toArray, List.set_cons_zero, List.set_cons_succ]
        refine wpAnyH_take (i := 2) (oi := { dst := some 33, op := .move (.tmp 2), type := 111, pos := "parts.go:563", after := #[], guard := none }) (v := .slice AR n mR) rfl (by kernel_rfl) (by kernel_rfl) (by kernel_rfl) (fun _ _ _ h => h) (Or.inl ⟨by rfl, fun w hSw => by go_simp⟩) (by assumption) ?_
        simp only [Act.put, List.setIfInBounds_toArray, List.set_cons_zero, List.set_cons_succ]
        refine wpAnyH_take (i := 3) (oi := { dst := some 34, op := .move (.tmp 12), type := 3, pos := "parts.go:563", after := #[], guard := none }) (v := .int .i64 (i : Nat)) rfl (by kernel_rfl) (by kernel_rfl) (by kernel_rfl) (fun _ _ _ h => h) (Or.inl ⟨by rfl, fun w hSw => by go_simp⟩) (by assumption) ?_
        simp only [Act.put, List.setIfInBounds_toArray, List.set_cons_zero, List.set_cons_succ]
        refine wpAnyH_take (i := 4) (oi := { dst := some 35, op := .indexAddr 111 (.tmp 33) (.tmp 34), type := 0, pos := "parts.go:563", after := #[{ on := 2, ground := .data }, { on := 3, ground := .data }], guard := none }) (v := .pointer (some ⟨gr, i * 769, none⟩)) rfl (by kernel_rfl) (by kernel_rfl) (by kernel_rfl) (fun _ _ _ h => h) (Or.inl ⟨by rfl, fun w hSw => by go_simp⟩) (by assumption) ?_
        simp only [Act.put, List.setIfInBounds_toArray, List.set_cons_zero, List.set_cons_succ]
        refine' wpAnyH_take (i := 5) (oi := { dst := some 36, op := .load 113 (.tmp 35), type := 113, pos := "parts.go:563", after := #[{ on := 4, ground := .data }], guard := none }) (v := _) rfl (by kernel_rfl) (by kernel_rfl) (by kernel_rfl) (fun _ _ _ h => h) (yieldsIf_load_mid (by rfl) 113 (.tmp 35) rfl gr (i * 769) rfl Z2.toList _ (fun w h => h.2) u1 rfl s2) (by assumption) ?_
        simp only [Act.put, List.setIfInBounds_toArray, List.set_cons_zero, List.set_cons_succ]
        refine wpAnyH_take (i := 6) (oi := { dst := some 37, op := .move (.tmp 3), type := 22, pos := "parts.go:563", after := #[], guard := none }) (v := .slice A n m) rfl (by kernel_rfl) (by kernel_rfl) (by kernel_rfl) (fun _ _ _ h => h) (Or.inl ⟨by rfl, fun w hSw => by go_simp⟩) (by assumption) ?_
        simp only [Act.put, List.setIfInBounds_toArray, List.set_cons_zero, List.set_cons_succ]
        rw [e1, e2]
        refine wpAnyH_ready (rs := [7]) (by kernel_rfl) (by simp) ?_
        refine AllReadyH.cons (o := { dst := some 38, op := .call { callee := .value (.func 107), args := #[.tmp 31, .tmp 32, .tmp 36, .tmp 37], argTypes := #[28, 113, 113, 22] }, type := 4, pos := "parts.go:563", after := #[{ on := 0, ground := .data }, { on := 1, ground := .data }, { on := 5, ground := .data }, { on := 6, ground := .data }], guard := none }) rfl (fun K hK => ?_) .nil
        go_simp
        go_at_call 107
        (with_reducible refine (cD.out _ (bel_drew (Below.refl _ _))).mono ?_)
        rintro e wB ⟨rfl, hbB⟩
        have hbE := bel_trans (bel_drew (Below.refl wc.heap.size wc)) hbB
        dsimp only
        refine hK.out _ _ ⟨rangeAt_below gA hbE, rangeAt_below g2 hbE⟩ (fun hHeld3 => ?_)
        clear hK K
        try dsimp only
        try simp only [Act.put, List.setIfInBounds_toArray, List.set_cons_zero, List.set_cons_succ]
        refine wpAnyH_ready (rs := [8]) (by kernel_rfl) (by simp) ?_
        refine AllReadyH.cons (o := { dst := some 13, op := .assign (.tmp 38), type := 4, pos := "parts.go:563", after := #[{ on := 7, ground := .data }, { on := 7, ground := .chain }, { on := 0, ground := .phase }, { on := 1, ground := .phase }, { on := 2, ground := .phase }, { on := 3, ground := .phase }, { on := 4, ground := .phase }, { on := 5, ground := .phase }, { on := 6, ground := .phase }, { on := 7, ground := .phase }], guard := none }) rfl (fun K hK => ?_) .nil
        go_simp
        refine hK.out _ _ ⟨rangeAt_below gA hbE, rangeAt_below g2 hbE⟩ (fun hHeld4 => ?_)
        clear hK K
        try dsimp only
        try simp only [Act.put, List.setIfInBounds_toArray, List.set_cons_zero, List.set_cons_succ]
        refine wpAnyH_done (by kernel_rfl) ?_ _
        refine NoPanic.normal ?_
        have hOB := Lib.hid (hOc.out.kept (T := []) (.of_below hbE) (fun _ _ => by simp))
        have hBB := bel_trans hBc hbE
        have hE := bel_cell hbE hE
        have a0 := bel_cell hbE a0
        clear hHeld hHeld3 hHeld4 hbB hbE gA g2 cD e1 e2 s1 s2 u1 hixr hOc hBc hB
        cases t with
        | false =>
          have hno : ¬ g.Direct ca y := fun hh => by have := Ht.out.2 hh; cases this
          have hF := hOB.out
          rw [← eUp_no (g := g) (ca := ca) (k := i) (self := self) (.inl (by rw [Hy.out]; exact hno))] at hF
          have hF := Lib.hid hF
          clear hno hOB hE a0 Ht
          go_wp2
          first
            | exact ⟨⟨i + 1, by go_num, by omega, hF.out, hBB⟩, by simp [intOf]; omega⟩
            | (go_roundw; (case rel => exact ⟨i + 1, by go_num, by omega, hF.out, hBB⟩); (case measure => simp [intOf]; omega))
        | true =>
          have hyes : g.Direct ca y := Ht.out.1 rfl
          obtain ⟨⟨os, od⟩, hox⟩ : ∃ z, g.oct ca y = z := ⟨_, rfl⟩
          have cO := Lib.hid (fun w' (hb : Below wB.heap.size wB w') => rOct w' p g v ca y ⟨os, od⟩ ((((HG.out.below HW hpl).below hBB (Nat.lt_of_lt_of_le hpl HW.size)).below hb (Nat.lt_of_lt_of_le hpl (Nat.le_trans HW.size hBB.size)))) hca hyc.1 hox)
          have hlist := eUp_yes (g := g) (ca := ca) (k := i) (self := self) (by rw [Hy.out]; exact hyes) (by rw [Hy.out]; exact Hpick.out)
          rw [Hy.out, hox] at hlist
          have Hlist := Lib.hid hlist
          have hadl := World.block_lt_of_cell? _ _ hE
          have hb6w : b6 ≤ wB.heap.size := Nat.le_trans (Nat.le_of_lt hb6l) hBB.size
          have n1 := World.new_ne wB _ hE
          have n2 := World.new_ne wB _ a0
          have a0a := fun o => alloc_some (o := o) a0
          have hEa := fun o => alloc_some (o := o) hE
          clear hyes hox hlist Ht
          go_upto_region 8 with (fail)
          go_region_held3 (fun w' => w'.cell? ⟨b6, 0, none⟩ = some (.int .i64 (ca : Nat)) ∧ w'.cell? (ad.add i) = some (.int .i64 (y : Nat)))
            (first
              | (go_keep; done)
              | (go_split_ands
                 exact ⟨bel_cell hbP (by assumption), bel_cell hbP (by assumption)⟩)
              | (go_split_ands
                 exact ⟨alloc_some (by assumption), alloc_some (by assumption)⟩)
              | exact hS9
              | (go_split_ands
                 refine ⟨?_, ?_⟩ <;> (go_keep; done)))
            (first
              | (go_at_call 108
                 refine (cO.out _ (bel_drew (Below.refl _ _))).mono ?_
                 rintro e wP ⟨rfl, hbP⟩
                 obtain ⟨hcP, hfP⟩ := bcell hbP)
              | (refine step_append_E rfl _ _ rfl W.heap.size _ _ ⟨(y : Nat), ⟨os, od⟩, -1⟩ (by simp [Act.eval, Act.put]) (hOB.out.kept (T := []) (.of_below (bel_alloc (bel_trans (bel_drew (Below.refl _ _)) hbP))) (fun _ _ => by simp)) ⟨wP.heap.size, 0, none⟩ (by simp [Act.eval, Act.put]) (fun j u hu => by rw [Addr.add_lit, Nat.zero_add]; exact new_edge (alloc_at wP _ rfl) j u hu) (by omega) (by have h1 := hBB.size; have h2 := hbP.size; simp; simp at h2; omega) ?_
                 intro v' w9 hown9 hgrow hat
                 have hS9 : w9.cell? ⟨b6, 0, none⟩ = some (.int .i64 (ca : Nat)) ∧ w9.cell? (ad.add i) = some (.int .i64 (y : Nat)) :=
                   ⟨hgrow.cell (alloc_some (bel_cell (bel_trans (bel_drew (Below.refl _ _)) hbP) a0)) (fun e => by have := (World.ownsRow.lt hOB.out _ e.symm).1; simp only at this; omega),
                    hgrow.cell (alloc_some (bel_cell (bel_trans (bel_drew (Below.refl _ _)) hbP) hE)) (fun e => by have := (World.ownsRow.lt hOB.out _ e.symm).1; rw [add_block] at this; omega)⟩))
          all_goals
            have hF := hown9
            rw [← Hlist.out] at hF
            have hB9 : Below W.heap.size W w9 := (bel_alloc (bel_trans hBB (bel_trans (bel_drew (Below.refl _ _)) hbP))).grown hgrow (by have h1 := hBB.size; have h2 := hbP.size; simp; simp at h2; omega) (fun k hk => (World.ownsRow.lt hOB.out k hk).1)
            have hF := Lib.hid hF
            clear hown9 hgrow hat hS9 hcP hfP hbP
            go_wp2
            first
              | exact ⟨⟨i + 1, by go_num, by omega, hF.out, hB9⟩, by simp [intOf]; omega⟩
              | (go_roundw; (case rel => exact ⟨i + 1, by go_num, by omega, hF.out, hB9⟩); (case measure => simp [intOf]; omega))
    · obtain rfl : i = n := by omega
      have hfin : RetE w (eUp g ca self i) (.returned _) wr := ⟨_, rfl, HO.out.mono HW.size, bel_trans HW hB⟩
      have hfin := Lib.hid hfin
      clear HO
      go_wp2
      go_ret
      exact hfin.out
end Go.Proofs.YtjejkadaafmdcaaGreat
/- The document's graph: rays of all corners. -/
namespace Go.Proofs.YtjejkadaafmdcaaGreat
open Go.RowKit Go.Sort FR Go.Lib
/-- a fresh list is laid into the map -/
theorem EMap.fresh {w wI wU : World} {S : List Nat} {mb N N2 : Nat} {E : Int → Option (List Ed)} {V : Int → Option Value} {a : Int} {v' : Value} {L' : List Ed}
    (h1 : MapAt iK w mb V N) (h2 : ∀ k, E k = none ↔ V k = none) (h3 : ∀ k u L, V k = some u → E k = some L → OwnE w 0 u L) (h4 : ∀ k u q, V k = some u → u.ownBlock = some q → q ∈ S) (h5 : mb ∉ S)
    (h6 : ∀ k k' u u' q, V k = some u → V k' = some u' → u.ownBlock = some q → u'.ownBlock = some q → k = k') (h7 : ∀ s, s ∈ S → s < w.heap.size) (hb : Below w.heap.size w wI)
    (hO : OwnE wI w.heap.size v' L') (hM : MapAt iK wU mb (updK V a (some v')) N2) (hK : Kept [mb] wI wU) : EMap wU (v'.ownBlock.toList ++ S) mb (updE E a (some L')) := by
  have hml := h1.lt
  have hnew : ∀ q, v'.ownBlock = some q → w.heap.size ≤ q ∧ q < wI.heap.size := fun q hq => World.ownsRow.lt hO q hq
  refine ⟨_, N2, hM, fun k => ?_, fun k x L hx hL => ?_, fun k x q hx hq => ?_, ?_, fun k k' x x' q hx hx' hq hq' => ?_, fun s hs => ?_⟩
  · unfold updE updK
    split
    · simp
    · exact h2 k
  · unfold updE at hL
    unfold updK at hx
    split at hx
    · rename_i e
      rw [if_pos e] at hL
      injection hx with hx
      injection hL with hL
      subst hx; subst hL
      exact (hO.mono (Nat.zero_le _)).kept hK (fun q hq => by have := (hnew q hq).1; simp; omega)
    · rename_i e
      rw [if_neg e] at hL
      exact ((h3 k x L hx hL).kept (T := []) (.of_below hb) (fun _ _ => by simp)).kept hK (fun q hq => by
        have := h4 k x q hx hq
        simp
        rintro rfl
        exact h5 this)
  · unfold updK at hx
    split at hx
    · injection hx with hx
      subst hx
      exact List.mem_append_left _ (by rw [hq]; simp)
    · exact List.mem_append_right _ (h4 k x q hx hq)
  · rw [List.mem_append]
    rintro (q | q)
    · rw [Option.mem_toList] at q
      have := (hnew mb q).1
      omega
    · exact h5 q
  · unfold updK at hx hx'
    split at hx
    · injection hx with hx
      subst hx
      split at hx'
      · rename_i e1 e2; rw [e1, e2]
      · have a1 := (hnew q hq).1
        have a2 := h7 q (h4 k' x' q hx' hq')
        omega
    · split at hx'
      · injection hx' with hx'
        subst hx'
        have a1 := (hnew q hq').1
        have a2 := h7 q (h4 k x q hx hq)
        omega
      · exact h6 k k' x x' q hx hx' hq hq'
  · rcases List.mem_append.1 hs with q | q
    · rw [Option.mem_toList] at q
      exact Nat.lt_of_lt_of_le (hnew s q).2 hK.size
    · exact Nat.lt_of_lt_of_le (h7 s q) (Nat.le_trans hb.size hK.size)
/-- the lists of the first corners -/
noncomputable def EGr (g : G) (i : Nat) : Int → Option (List Ed) := fun z => if ∃ j, j < i ∧ z = (cf g j : Nat) then some (eUp g z.toNat false (cornersI g).length) else none
theorem EGr_zero (g : G) : EGr g 0 = fun _ => none := by
  funext z
  unfold EGr
  rw [if_neg]
  rintro ⟨j, h, _⟩
  omega
theorem EGr_step (g : G) (i : Nat) : updE (EGr g i) (cf g i : Nat) (some (eUp g (cf g i) false (cornersI g).length)) = EGr g (i + 1) := by
  funext z
  unfold updE EGr
  by_cases e : z = (cf g i : Nat)
  · rw [if_pos e, if_pos ⟨i, by omega, e⟩, e]; simp
  · rw [if_neg e]
    by_cases h : ∃ j, j < i ∧ z = (cf g j : Nat)
    · obtain ⟨j, h1, h2⟩ := h
      rw [if_pos ⟨j, h1, h2⟩, if_pos ⟨j, by omega, h2⟩]
    · rw [if_neg h, if_neg]
      rintro ⟨j, h1, h2⟩
      by_cases q : j = i
      · subst q; exact e h2
      · exact h ⟨j, by omega, h2⟩
theorem EGr_spec (g : G) : GSpec g (fun _ _ => True) (EGr g (cornersI g).length) := by
  refine ⟨fun z => ?_, fun c L hc => ?_⟩
  · unfold EGr
    constructor
    · intro h
      split at h
      · rename_i q
        obtain ⟨j, h1, h2⟩ := q
        exact ⟨_, h2, (cf_at h1).2⟩
      · exact absurd rfl h
    · rintro ⟨c, rfl, hc⟩
      obtain ⟨j, h1, rfl⟩ := cf_has hc
      rw [if_pos ⟨j, h1, rfl⟩]
      simp
  · unfold EGr at hc
    split at hc
    · injection hc with hc
      subst hc
      simp only [Int.toNat_natCast]
      refine ⟨?_, fun e => ?_⟩
      · intro i j a b hij ha hb
        have h := List.pairwise_iff_getElem.1 (srt_eUp (g := g) (ca := c) (self := false))
        obtain ⟨hi, rfl⟩ := List.getElem?_eq_some_iff.1 ha
        obtain ⟨hj, rfl⟩ := List.getElem?_eq_some_iff.1 hb
        exact h i j hi hj hij
      · rw [mem_eUp]
        constructor
        · rintro ⟨y, h1, h2, h3, h4⟩; exact ⟨y, h1, h2.resolve_left (by simp), trivial, h3, h4⟩
        · rintro ⟨y, h1, h2, _, h3, h4⟩; exact ⟨y, h1, .inr h2, h3, h4⟩
    · cases hc
theorem rangeAt_kept {S : List Nat} {w w' : World} {b o : Nat} {cs : List Value} (h : w.rangeAt b o cs) (hk : Kept S w w') (hb : b ∉ S) : w'.rangeAt b o cs := fun j v hv => keptc hk hb (h j v hv)
theorem RaysAt.kept {S : List Nat} {w w' : World} {A : Option Addr} {Zs : List (Array Value)} (h : RaysAt w A Zs) (hk : Kept S w w') (hn : ∀ ad, A = some ad → ad.block ∉ S) : RaysAt w' A Zs := by
  intro h0
  obtain ⟨g, e, hl, hr⟩ := h h0
  exact ⟨g, e, Nat.lt_of_lt_of_le hl hk.size, fun i Z hZ => rangeAt_kept (hr i Z hZ) hk (hn _ e)⟩
/-- the document's graph in memory -/
def RGraphOf (w : World) (b mb : Nat) (S : List Nat) (A : Option Addr) (n m : Nat) (g : G) : Prop :=
  w.heap[b]? = some (.cells #[.slice A n m, .map (some mb)] 98 (0, 0)) ∧ Ints w A n (fun k => (cornersI g).getD k 0) ∧ (cornersI g).length = n ∧ b ∉ S ∧ EMap w S mb (EGr g n)
/-- what Graph hands back -/
def RGraphD (w : World) (g : G) (e : Ending) (w' : World) : Prop :=
  ∃ b mb S A n m, e = .returned (.pointer (some ⟨b, 0, none⟩)) ∧ RGraphOf w' b mb S A n m g ∧ (∀ k ∈ b :: mb :: S, w.heap.size ≤ k) ∧ b ≠ mb ∧ Below w.heap.size w w'
/-- the first rays -/
def RaysTo (g : G) (Zs : List (Array Value)) (i : Nat) : Prop := Zs.length = i ∧ ∀ j Z, Zs[j]? = some Z → ∃ c is, Z = rayRow (cf g j) c is ∧ FloodIs g (cf g j) c is
theorem OwnR.below {w w' : World} {B : Nat} {v : Value} {Zs : List (Array Value)} (h : OwnR w B v Zs) (hb : Below w.heap.size w w') : OwnR w' B v Zs := by
  refine ⟨⟨h.1.1, ?_⟩, h.2⟩
  rcases h.1.2 with hn | ⟨g, cap, cur, rfl, hB, hg, rest⟩
  · exact .inl hn
  · exact .inr ⟨g, cap, cur, rfl, hB, (hb.block g (Array.getElem?_eq_some_iff.1 hg).1).trans hg, rest⟩
theorem RaysTo.snoc {g : G} {Zs : List (Array Value)} {i : Nat} {Z : Array Value} {c : Nat → C} {is : Nat → Bool} (h : RaysTo g Zs i) (hz : Z = rayRow (cf g i) c is) (hf : FloodIs g (cf g i) c is) : RaysTo g (Zs ++ [Z]) (i + 1) := by
  refine ⟨by rw [List.length_append, h.1]; rfl, fun j X hX => ?_⟩
  by_cases e : j < Zs.length
  · rw [List.getElem?_append_left e] at hX
    exact h.2 j X hX
  · rw [List.getElem?_append_right (by omega)] at hX
    have hj : j - Zs.length = 0 := by
      have := (List.getElem?_eq_some_iff.1 hX).1
      simp at this; omega
    rw [hj] at hX
    simp at hX
    subst hX
    have : j = i := by have := h.1; omega
    subst this
    exact ⟨c, is, hz, hf⟩
theorem OwnR.snoc {w' : World} {B : Nat} {v' : Value} {Zs : List (Array Value)} {Z : Array Value} (hs : ∀ X ∈ Zs, X.size = 769) (hz : Z.size = 769) (h : w'.ownsRow B 113 769 v' (Zs.length + 1) (rayL Zs ++ Z.toList)) : OwnR w' B v' (Zs ++ [Z]) := by
  refine ⟨?_, fun X hX => ?_⟩
  · rw [List.length_append, rayL_append]
    have : rayL [Z] = Z.toList := by simp [rayL]
    rw [this]
    exact h
  · rw [List.mem_append] at hX
    rcases hX with q | q
    · exact hs X q
    · simp at q; rw [q]; exact hz
theorem ray_all (Z : Array Value) (h : Z.all (·.oneCell') = true) : ∀ u ∈ Z.toList, u.oneCell' = true := fun u hu => (Array.all_eq_true_iff_forall_mem.1 h) u (by simpa using hu)
set_option maxRecDepth 100000 in
set_option maxHeartbeats 6400000 in
theorem rGraph (w : World) (p : Nat) (g : G) (v : Int) (h : RGridAt w p g v) :
    Calls Tryz.prog 16 #[.pointer (some ⟨p, 0, none⟩)] w (RGraphD w g) := by
  have hNn := G.n_le h.1
  have hpl := h.lt
  have hmm := @run_makeMap Tryz.prog
  have HG := Lib.hid h
  clear h
  go_enter Tryz.func16, Tryz.ntmps16
  go_wp2_with fail
  (with_reducible refine (rCorners _ p g v HG.out).mono ?_)
  rintro e w1 ⟨A, m, rfl, hI, hb1⟩
  go_upto_region 2 with (fail)
  clear hmm
  refine wp_name ?_
  intro W hW
  obtain ⟨n, hn⟩ : ∃ n, (cornersI g).length = n := ⟨_, rfl⟩
  have hn256 : n ≤ 256 := by rw [← hn]; exact corners_le HG.out.1
  rw [hn] at hI hW ⊢
  have HW : Below w1.heap.size w1 W := by rw [hW]; (repeat' (first | exact Below.refl _ _ | assumption | apply bel_drewN | apply bel_drew | apply bel_alloc | (refine bel_trans ?_ (by assumption))))
  have HBW := bel_trans hb1 HW
  obtain ⟨mb, hmb⟩ : ∃ z, w1.heap.size = z := ⟨_, rfl⟩
  have hM : MapAt iK W mb (fun _ => none) 0 := by rw [hW, ← hmb]; exact (MapAt.made w1).below (bel_alloc (Below.refl _ _))
  have hbk : W.heap[mb + 1]? = some (.cells #[.slice A n m, .map (some mb)] 98 (0, 0)) := by rw [hW, ← hmb]; exact alloc_at _ _ (by simp)
  have hwmb : w.heap.size ≤ mb := by have := hb1.size; omega
  rw [hmb]
  obtain ⟨b, hb⟩ : ∃ z, mb + 1 = z := ⟨_, rfl⟩
  rw [hb] at hbk ⊢
  have hWs : W.heap.size = b + 1 := by rw [hW]; simp; omega
  have hAmb : ∀ ad, A = some ad → 0 < n → ad.block < mb := fun ad e h0 => by
    obtain ⟨ad', e', hl, _⟩ := hI h0
    rw [e] at e'
    injection e' with e'
    rw [e', ← hmb]
    exact hl
  have HAmb := Lib.hid hAmb
  clear hAmb
  have Hn := Lib.hid hn
  have HI := Lib.hid (hI.below HW)
  have HM := Lib.hid hM
  have Hbk := Lib.hid hbk
  have HGW := Lib.hid (HG.out.below HBW hpl)
  have hpW : p < W.heap.size := Nat.lt_of_lt_of_le hpl HBW.size
  clear hn hI hM hbk hW hb1 HW hmb
  go_wp2_with fail
  go_loopw [4, 5] (fun lv kv wr => ∃ (i : Nat) (Zs : List (Array Value)), kv = .int .i64 i ∧ i ≤ n ∧ OwnR wr W.heap.size lv Zs ∧ RaysTo g Zs i ∧ Below W.heap.size W wr) (fun _ kv _ => n - (intOf kv).toNat)
  case atStart => exact ⟨0, [], rfl, by omega, OwnR.nil _ _, ⟨rfl, fun j Z hZ => by simp at hZ⟩, Below.refl _ _⟩
  case round =>
    obtain ⟨i, Zs, rfl, hi, hO, hZ, hB⟩ := hrel
    have HO := Lib.hid hO
    have HZ := Lib.hid hZ
    clear hO hZ
    have kb0 : wr.cell? ⟨b, 0, none⟩ = some (.slice A n m) := bel_cell hB (by simp [World.cell?, Hbk.out])
    by_cases hlt : i < n
    · have hIr := HI.out.below hB
      obtain ⟨ad, hA⟩ := hIr.addr (by omega)
      rw [hA] at hIr
      have hix := fun wx => idx_run (m := m) hA hlt wx
      have hE := hIr.cell (Below.refl _ _) hlt
      rw [(cf_at (by rw [Hn.out]; exact hlt)).1] at hE
      obtain ⟨y, hy⟩ : ∃ y, cf g i = y := ⟨_, rfl⟩
      have hyc : g.Corner y := by rw [← hy]; exact (cf_at (by rw [Hn.out]; exact hlt)).2
      rw [hy] at hE
      have Hy := Lib.hid hy
      have cF := Lib.hid (rFrom wr p g v y (HGW.out.below hB hpW) hyc.1)
      clear hIr hA hy
      go_wp2_with fail
      (with_reducible refine cF.out.mono ?_)
      rintro e w2 ⟨c, is, rfl, hF, hb2⟩
      have hHO := Lib.hid (HO.out.below hb2)
      obtain ⟨Z, hZ⟩ : ∃ Z, rayRow y c is = Z := ⟨_, rfl⟩
      have zs : Z.size = 769 := by rw [← hZ, ray_size]
      have zo : Z.all (·.oneCell') = true := by rw [← hZ]; exact ray_one _ _ _
      have hsn := Lib.hid (HZ.out.snoc (Z := Z) (c := c) (is := is) (by rw [Hy.out, hZ]) (by rw [Hy.out]; exact hF))
      have hB2 := bel_trans hB hb2
      rw [hZ]
      clear hZ hF hb2 cF hE hix HO kb0
      obtain ⟨i0, z0, hi0, hz0, hz1, hz2, hz3⟩ := ray_infos
      have hcl := hHO.out.1
      rw [HZ.out.1] at hcl
      have hcl := Lib.hid hcl
      have hbs := Lib.hid (run_buildRay w2 Z zs)
      have HI0 := Lib.hid (And.intro hi0 (And.intro hz0 (And.intro hz1 (And.intro hz2 hz3))))
      have Hzs := Lib.hid (And.intro zs zo)
      clear hi0 hz0 hz1 hz2 hz3 zs zo
      go_wp2_with (first
        | ((with_reducible refine wpList_run1 w2 (Eq.refl none) 111 (.tmp 30) (Eq.refl (Op.buildSlice 111 1 #[(0, .tmp 30)])) (.agg Z) (by with_unfolding_all rfl) hbs.out ?_))
        | (at_builtin
           refine wpList_append_own_at (w2.alloc (Obj.cells Z 113 (0, 0))) rfl (.tmp 21) (.tmp 31) 111 rfl W.heap.size 113 i0 z0 769 4360 Tryz.underlying111 HI0.out.1 HI0.out.2.1 HI0.out.2.2.1 HI0.out.2.2.2.1 HI0.out.2.2.2.2 (by decide) u4 i (rayL Zs) ?_ ?_ ⟨w2.heap.size, 0, none⟩ 1 1 Z.toList ?_ ?_ ?_ ?_ ?_ ?_ ?_ ?_
           · rfl
           · exact hcl.out.alloc _
           · rfl
           · rw [Array.length_toList, Hzs.out.1]
           · intro j u hu
             rw [Addr.add_lit]
             exact range_all (alloc_at w2 _ rfl) j u hu
           · exact ray_all Z Hzs.out.2
           · unfold maxLen; omega
           · omega
           · have := hB2.size; simp; omega
           intro v' w9 hown9 hgrow hnn hat))
      have hR9 : OwnR w9 W.heap.size v' (Zs ++ [Z]) := OwnR.snoc hHO.out.2 Hzs.out.1 (by rw [HZ.out.1]; exact hown9)
      have hR9 := Lib.hid hR9
      have hB9 : Below W.heap.size W w9 := (bel_alloc hB2).grown hgrow (by have := hB2.size; simp; omega) (fun k hk => (World.ownsRow.lt hcl.out k hk).1)
      clear hown9 hgrow hat hnn hcl hbs HI0 hHO
      first
        | exact ⟨⟨i + 1, _, by go_num, by omega, hR9.out, hsn.out, hB9⟩, by simp [intOf]; omega⟩
        | (go_roundw; (case rel => exact ⟨i + 1, _, by go_num, by omega, hR9.out, hsn.out, hB9⟩); (case measure => simp [intOf]; omega))
    · obtain rfl : i = n := by omega
      obtain ⟨AR, mR, rfl, hRays, hRn⟩ := HO.out.rays
      have hrs := HZ.out.1
      have hRo : RaysOf g Zs := ⟨by rw [hrs, Hn.out], HZ.out.2⟩
      obtain ⟨nz, hnz⟩ : ∃ z, Zs.length = z := ⟨_, rfl⟩
      have hnzi : nz = i := by omega
      subst hnzi
      rw [hnz]
      have HRays := Lib.hid hRays
      have HRo := Lib.hid hRo
      have HMr : Hid (EMap wr [] mb (EGr g 0)) := Lib.hid (by
        rw [EGr_zero]
        exact ⟨_, 0, HM.out.below hB, fun k => by simp, fun k u L hu => by simp at hu, fun k u q hu => by simp at hu, by simp, fun k k' u u' q hu => by simp at hu, fun s hs => by simp at hs⟩)
      have hstart : ∃ S, EMap wr S mb (EGr g 0) ∧ (∀ s ∈ S, wr.heap.size ≤ s) ∧ Kept [mb] wr wr := ⟨[], HMr.out, by simp, Kept.refl _ _⟩
      have hbr := Lib.hid ((hB.block b (by omega)).trans Hbk.out)
      have HIr := Lib.hid (HI.out.below hB)
      have HGr := Lib.hid (HGW.out.below hB hpW)
      have HBr := Lib.hid hB
      have HRn := Lib.hid hRn
      clear hRays hRo hrs hnz HMr HO HZ hB hRn
      go_wp2_with fail
      clear kb0
      obtain ⟨w2, rfl⟩ : ∃ w2 : World, w2 = wr := ⟨_, rfl⟩
      go_loopw [6] (fun kv wr => ∃ i : Nat, kv = .int .i64 i ∧ i ≤ nz ∧ ∃ S, EMap wr S mb (EGr g i) ∧ (∀ s ∈ S, w2.heap.size ≤ s) ∧ Kept [mb] w2 wr) (fun kv _ => nz - (intOf kv).toNat)
      case atStart => exact ⟨0, rfl, by omega, hstart⟩
      case round =>
        obtain ⟨i, rfl, hi, S, hE, hS, hK⟩ := hrel
        clear hstart
        have hbW : b < w2.heap.size := by have := HBr.out.size; omega
        have kb : wr.heap[b]? = some (.cells #[.slice A nz m, .map (some mb)] 98 (0, 0)) := (hK.block b hbW (by simp; omega)).trans hbr.out
        have kb0 : wr.cell? ⟨b, 0, none⟩ = some (.slice A nz m) := by simp [World.cell?, kb]
        have kb1 : wr.cell? ⟨b, 1, none⟩ = some (.map (some mb)) := by simp [World.cell?, kb]
        have Hkb := Lib.hid kb
        have HE := Lib.hid hE
        have HS := Lib.hid hS
        have HK := Lib.hid hK
        have hp2 : p < w2.heap.size := by have := HBr.out.size; omega
        have hpm : p ∉ [mb] := by simp; omega
        have HGx := Lib.hid (show RGridAt wr p g v from ⟨HGr.out.1, (HK.out.block p hp2 hpm).trans HGr.out.2⟩)
        have hpx : p < wr.heap.size := Nat.lt_of_lt_of_le hp2 HK.out.size
        have HIx := Lib.hid (HIr.out.kept0 HK.out (fun h0 ad e => by have := HAmb.out ad e h0; simp; omega))
        clear hE hS hK kb hpm
        by_cases hlt : i < nz
        · have hIr := HIx.out
          obtain ⟨ad, hA⟩ := hIr.addr (by omega)
          have hadm : ad.block < mb := HAmb.out ad hA (by omega)
          rw [hA] at hIr
          have hix := fun wx => idx_run (m := m) hA hlt wx
          have hE := hIr.cell (Below.refl _ _) hlt
          rw [(cf_at (by rw [Hn.out]; exact hlt)).1] at hE
          obtain ⟨y, hy⟩ : ∃ y, cf g i = y := ⟨_, rfl⟩
          have hyc : g.Corner y := by rw [← hy]; exact (cf_at (by rw [Hn.out]; exact hlt)).2
          rw [hy] at hE
          have Hy := Lib.hid hy
          have hzl : i < Zs.length := by rw [HRo.out.1, Hn.out]; exact hlt
          have hRr : RaysAt wr AR Zs := HRays.out.kept HK.out (fun ad e => by have := (HRn.out ad e).1; simp; omega)
          have HRx := Lib.hid hRr
          obtain ⟨gr, hAR, _, hrr⟩ := hRr (by omega)
          have hgrm : gr ≠ mb := by have := (HRn.out _ hAR).1; simp only at this; omega
          obtain ⟨Z, hZ⟩ : ∃ Z, Zs[i]? = some Z := ⟨Zs[i]'hzl, List.getElem?_eq_getElem _⟩
          have g2 := hrr i Z hZ
          obtain ⟨c2, i2, hz2, hF2⟩ := HRo.out.2 i Z hZ
          rw [Hy.out] at hz2 hF2
          have hixr := fun wx => idxRay (n := nz) (m := mR) hAR hlt wx
          have zs2 : Z.size = 769 := by rw [hz2, ray_size]
          have s1 : (Tryz.prog.info? 113).map (·.size) = some Z.toList.length := by rw [Array.length_toList, zs2]; exact ray_info
          have u1 := Tryz.underlying113
          have e1 : Z.toList.toArray = Z := Array.toArray_toList ..
          have cE := Lib.hid (fun w' (hb : Below wr.heap.size wr w') => rEdges w' p g v y c2 i2 Z AR A nz mR m Zs false (HGx.out.below hb hpx) hyc.1 hz2.symm hF2 (HIx.out.below hb) Hn.out (HRx.out.below hb) HRo.out)
          clear hIr hA hy hAR hrr hzl hZ hz2 hF2 zs2
          go_upto_region 10 with (fail)
          refine wp_region_noPanic ?_
          refine wp_region_held_drew (S := fun w' => w'.cell? ⟨b, 0, none⟩ = some (.slice A nz m) ∧ w'.cell? ⟨b, 1, none⟩ = some (.map (some mb)) ∧ w'.cell? (ad.add i) = some (.int .i64 (y : Nat)) ∧ w'.rangeAt gr (i * 769) Z.toList) (by kernel_rfl) ⟨kb0, kb1, hE, g2⟩ (fun hHeld => ?_)
          refine wpAnyH_take (i := 0) (oi := { dst := Option.some 42, op := Op.move (Operand.tmp 3), type := 49, pos := "parts.go:595", after := #[], guard := Option.none }) (v := .pointer (some ⟨b, 0, none⟩)) rfl (by kernel_rfl) (by kernel_rfl) (by kernel_rfl) (fun _ _ _ h => h) (Or.inl ⟨by rfl, fun w hSw => by obtain ⟨q0, q1, q2, -⟩ := hSw; go_simp⟩) (by assumption) ?_
          simp only [Act.put, List.setIfInBounds_toArray, List.set_cons_zero, List.set_cons_succ]
          refine wpAnyH_take (i := 1) (oi := { dst := Option.some 43, op := Op.nilCheck (Operand.tmp 42), type := 0, pos := "parts.go:595", after := #[{ on := 0, ground := Ground.data }], guard := Option.none }) (v := .pointer (some ⟨b, 0, none⟩)) rfl (by kernel_rfl) (by kernel_rfl) (by kernel_rfl) (fun _ _ _ h => h) (Or.inl ⟨by rfl, fun w hSw => by obtain ⟨q0, q1, q2, -⟩ := hSw; go_simp⟩) (by assumption) ?_
          simp only [Act.put, List.setIfInBounds_toArray, List.set_cons_zero, List.set_cons_succ]
          refine wpAnyH_take (i := 2) (oi := { dst := Option.some 44, op := Op.fieldAddr 98 (Operand.tmp 43) 1, type := 0, pos := "parts.go:595", after := #[{ on := 1, ground := Ground.data }], guard := Option.none }) (v := .pointer (some ⟨b, 1, none⟩)) rfl (by kernel_rfl) (by kernel_rfl) (by kernel_rfl) (fun _ _ _ h => h) (Or.inl ⟨by rfl, fun w hSw => by obtain ⟨q0, q1, q2, -⟩ := hSw; go_simp⟩) (by assumption) ?_
          simp only [Act.put, List.setIfInBounds_toArray, List.set_cons_zero, List.set_cons_succ]
          refine wpAnyH_take (i := 3) (oi := { dst := Option.some 45, op := Op.load 54 (Operand.tmp 44), type := 54, pos := "parts.go:595", after := #[{ on := 2, ground := Ground.data }], guard := Option.none }) (v := .map (some mb)) rfl (by kernel_rfl) (by kernel_rfl) (by kernel_rfl) (fun _ _ _ h => h) (Or.inl ⟨by rfl, fun w hSw => by obtain ⟨q0, q1, q2, -⟩ := hSw; go_simp⟩) (by assumption) ?_
          simp only [Act.put, List.setIfInBounds_toArray, List.set_cons_zero, List.set_cons_succ]
          refine wpAnyH_take (i := 4) (oi := { dst := Option.some 46, op := Op.move (Operand.tmp 3), type := 49, pos := "parts.go:595", after := #[], guard := Option.none }) (v := .pointer (some ⟨b, 0, none⟩)) rfl (by kernel_rfl) (by kernel_rfl) (by kernel_rfl) (fun _ _ _ h => h) (Or.inl ⟨by rfl, fun w hSw => by obtain ⟨q0, q1, q2, -⟩ := hSw; go_simp⟩) (by assumption) ?_
          simp only [Act.put, List.setIfInBounds_toArray, List.set_cons_zero, List.set_cons_succ]
          refine wpAnyH_take (i := 5) (oi := { dst := Option.some 47, op := Op.nilCheck (Operand.tmp 46), type := 0, pos := "parts.go:595", after := #[{ on := 4, ground := Ground.data }], guard := Option.none }) (v := .pointer (some ⟨b, 0, none⟩)) rfl (by kernel_rfl) (by kernel_rfl) (by kernel_rfl) (fun _ _ _ h => h) (Or.inl ⟨by rfl, fun w hSw => by obtain ⟨q0, q1, q2, -⟩ := hSw; go_simp⟩) (by assumption) ?_
          simp only [Act.put, List.setIfInBounds_toArray, List.set_cons_zero, List.set_cons_succ]
          refine wpAnyH_take (i := 6) (oi := { dst := Option.some 48, op := Op.fieldAddr 98 (Operand.tmp 47) 0, type := 0, pos := "parts.go:595", after := #[{ on := 5, ground := Ground.data }], guard := Option.none }) (v := .pointer (some ⟨b, 0, none⟩)) rfl (by kernel_rfl) (by kernel_rfl) (by kernel_rfl) (fun _ _ _ h => h) (Or.inl ⟨by rfl, fun w hSw => by obtain ⟨q0, q1, q2, -⟩ := hSw; go_simp⟩) (by assumption) ?_
          simp only [Act.put, List.setIfInBounds_toArray, List.set_cons_zero, List.set_cons_succ]
          refine wpAnyH_take (i := 7) (oi := { dst := Option.some 49, op := Op.load 22 (Operand.tmp 48), type := 22, pos := "parts.go:595", after := #[{ on := 6, ground := Ground.data }], guard := Option.none }) (v := .slice A nz m) rfl (by kernel_rfl) (by kernel_rfl) (by kernel_rfl) (fun _ _ _ h => h) (Or.inl ⟨by rfl, fun w hSw => by obtain ⟨q0, q1, q2, -⟩ := hSw; go_simp⟩) (by assumption) ?_
          simp only [Act.put, List.setIfInBounds_toArray, List.set_cons_zero, List.set_cons_succ]
          refine wpAnyH_take (i := 8) (oi := { dst := Option.some 50, op := Op.move (Operand.tmp 6), type := 3, pos := "parts.go:595", after := #[], guard := Option.none }) (v := .int .i64 (i : Nat)) rfl (by kernel_rfl) (by kernel_rfl) (by kernel_rfl) (fun _ _ _ h => h) (Or.inl ⟨by rfl, fun w hSw => by obtain ⟨q0, q1, q2, -⟩ := hSw; go_simp⟩) (by assumption) ?_
          simp only [Act.put, List.setIfInBounds_toArray, List.set_cons_zero, List.set_cons_succ]
          refine wpAnyH_take (i := 9) (oi := { dst := Option.some 51, op := Op.indexAddr 22 (Operand.tmp 49) (Operand.tmp 50), type := 0, pos := "parts.go:595", after := #[{ on := 7, ground := Ground.data }, { on := 8, ground := Ground.data }], guard := Option.none }) (v := .pointer (some (ad.add i))) rfl (by kernel_rfl) (by kernel_rfl) (by kernel_rfl) (fun _ _ _ h => h) (Or.inl ⟨by rfl, fun w hSw => by obtain ⟨q0, q1, q2, -⟩ := hSw; go_simp⟩) (by assumption) ?_
          simp only [Act.put, List.setIfInBounds_toArray, List.set_cons_zero, List.set_cons_succ]
          refine wpAnyH_take (i := 10) (oi := { dst := Option.some 52, op := Op.load 3 (Operand.tmp 51), type := 3, pos := "parts.go:595", after := #[{ on := 9, ground := Ground.data }], guard := Option.none }) (v := .int .i64 (y : Nat)) rfl (by kernel_rfl) (by kernel_rfl) (by kernel_rfl) (fun _ _ _ h => h) (Or.inl ⟨by rfl, fun w hSw => by obtain ⟨q0, q1, q2, -⟩ := hSw; go_simp⟩) (by assumption) ?_
          simp only [Act.put, List.setIfInBounds_toArray, List.set_cons_zero, List.set_cons_succ]
          refine wpAnyH_take (i := 11) (oi := { dst := Option.some 53, op := Op.move (Operand.tmp 0), type := 28, pos := "parts.go:595", after := #[], guard := Option.none }) (v := .pointer (some ⟨p, 0, none⟩)) rfl (by kernel_rfl) (by kernel_rfl) (by kernel_rfl) (fun _ _ _ h => h) (Or.inl ⟨by rfl, fun w hSw => by obtain ⟨q0, q1, q2, -⟩ := hSw; go_simp⟩) (by assumption) ?_
          simp only [Act.put, List.setIfInBounds_toArray, List.set_cons_zero, List.set_cons_succ]
          refine wpAnyH_take (i := 12) (oi := { dst := Option.some 54, op := Op.move (Operand.tmp 4), type := 111, pos := "parts.go:595", after := #[], guard := Option.none }) (v := .slice AR nz mR) rfl (by kernel_rfl) (by kernel_rfl) (by kernel_rfl) (fun _ _ _ h => h) (Or.inl ⟨by rfl, fun w hSw => by obtain ⟨q0, q1, q2, -⟩ := hSw; go_simp⟩) (by assumption) ?_
          simp only [Act.put, List.setIfInBounds_toArray, List.set_cons_zero, List.set_cons_succ]
          refine wpAnyH_take (i := 13) (oi := { dst := Option.some 55, op := Op.move (Operand.tmp 6), type := 3, pos := "parts.go:595", after := #[], guard := Option.none }) (v := .int .i64 (i : Nat)) rfl (by kernel_rfl) (by kernel_rfl) (by kernel_rfl) (fun _ _ _ h => h) (Or.inl ⟨by rfl, fun w hSw => by obtain ⟨q0, q1, q2, -⟩ := hSw; go_simp⟩) (by assumption) ?_
          simp only [Act.put, List.setIfInBounds_toArray, List.set_cons_zero, List.set_cons_succ]
          refine wpAnyH_take (i := 14) (oi := { dst := Option.some 56, op := Op.indexAddr 111 (Operand.tmp 54) (Operand.tmp 55), type := 0, pos := "parts.go:595", after := #[{ on := 12, ground := Ground.data }, { on := 13, ground := Ground.data }], guard := Option.none }) (v := .pointer (some ⟨gr, i * 769, none⟩)) rfl (by kernel_rfl) (by kernel_rfl) (by kernel_rfl) (fun _ _ _ h => h) (Or.inl ⟨by rfl, fun w hSw => by obtain ⟨q0, q1, q2, -⟩ := hSw; go_simp⟩) (by assumption) ?_
          simp only [Act.put, List.setIfInBounds_toArray, List.set_cons_zero, List.set_cons_succ]
          refine' wpAnyH_take (i := 15) (oi := { dst := Option.some 57, op := Op.load 113 (Operand.tmp 56), type := 113, pos := "parts.go:595", after := #[{ on := 14, ground := Ground.data }], guard := Option.none }) (v := _) rfl (by kernel_rfl) (by kernel_rfl) (by kernel_rfl) (fun _ _ _ h => h) (yieldsIf_load_mid (by rfl) 113 (.tmp 56) rfl gr (i * 769) rfl Z.toList _ (fun w h => h.2.2.2) u1 rfl s1) (by assumption) ?_
          simp only [Act.put, List.setIfInBounds_toArray, List.set_cons_zero, List.set_cons_succ]
          refine wpAnyH_take (i := 16) (oi := { dst := Option.some 58, op := Op.move (Operand.tmp 4), type := 111, pos := "parts.go:595", after := #[], guard := Option.none }) (v := .slice AR nz mR) rfl (by kernel_rfl) (by kernel_rfl) (by kernel_rfl) (fun _ _ _ h => h) (Or.inl ⟨by rfl, fun w hSw => by obtain ⟨q0, q1, q2, -⟩ := hSw; go_simp⟩) (by assumption) ?_
          simp only [Act.put, List.setIfInBounds_toArray, List.set_cons_zero, List.set_cons_succ]
          refine wpAnyH_take (i := 17) (oi := { dst := Option.some 59, op := Op.move (Operand.tmp 3), type := 49, pos := "parts.go:595", after := #[], guard := Option.none }) (v := .pointer (some ⟨b, 0, none⟩)) rfl (by kernel_rfl) (by kernel_rfl) (by kernel_rfl) (fun _ _ _ h => h) (Or.inl ⟨by rfl, fun w hSw => by obtain ⟨q0, q1, q2, -⟩ := hSw; go_simp⟩) (by assumption) ?_
          simp only [Act.put, List.setIfInBounds_toArray, List.set_cons_zero, List.set_cons_succ]
          refine wpAnyH_take (i := 18) (oi := { dst := Option.some 60, op := Op.nilCheck (Operand.tmp 59), type := 0, pos := "parts.go:595", after := #[{ on := 17, ground := Ground.data }], guard := Option.none }) (v := .pointer (some ⟨b, 0, none⟩)) rfl (by kernel_rfl) (by kernel_rfl) (by kernel_rfl) (fun _ _ _ h => h) (Or.inl ⟨by rfl, fun w hSw => by obtain ⟨q0, q1, q2, -⟩ := hSw; go_simp⟩) (by assumption) ?_
          simp only [Act.put, List.setIfInBounds_toArray, List.set_cons_zero, List.set_cons_succ]
          refine wpAnyH_take (i := 19) (oi := { dst := Option.some 61, op := Op.fieldAddr 98 (Operand.tmp 60) 0, type := 0, pos := "parts.go:595", after := #[{ on := 18, ground := Ground.data }], guard := Option.none }) (v := .pointer (some ⟨b, 0, none⟩)) rfl (by kernel_rfl) (by kernel_rfl) (by kernel_rfl) (fun _ _ _ h => h) (Or.inl ⟨by rfl, fun w hSw => by obtain ⟨q0, q1, q2, -⟩ := hSw; go_simp⟩) (by assumption) ?_
          simp only [Act.put, List.setIfInBounds_toArray, List.set_cons_zero, List.set_cons_succ]
          refine wpAnyH_take (i := 20) (oi := { dst := Option.some 62, op := Op.load 22 (Operand.tmp 61), type := 22, pos := "parts.go:595", after := #[{ on := 19, ground := Ground.data }], guard := Option.none }) (v := .slice A nz m) rfl (by kernel_rfl) (by kernel_rfl) (by kernel_rfl) (fun _ _ _ h => h) (Or.inl ⟨by rfl, fun w hSw => by obtain ⟨q0, q1, q2, -⟩ := hSw; go_simp⟩) (by assumption) ?_
          simp only [Act.put, List.setIfInBounds_toArray, List.set_cons_zero, List.set_cons_succ]
          rw [e1]
          refine wpAnyH_ready (rs := [21]) (by kernel_rfl) (by simp) ?_
          refine AllReadyH.cons (o := { dst := Option.some 63, op := Op.call { callee := Callee.value (.func 62), args := #[Operand.tmp 53, Operand.tmp 57, Operand.tmp 58, Operand.tmp 62, Operand.const (Value.bool Bool.false)], argTypes := #[28, 113, 111, 22, 4] }, type := 59, pos := "parts.go:595", after := #[{ on := 11, ground := Ground.data }, { on := 15, ground := Ground.data }, { on := 16, ground := Ground.data }, { on := 20, ground := Ground.data }], guard := Option.none }) rfl (fun K hK => ?_) .nil
          go_simp
          go_at_call 62
          (with_reducible refine (cE.out _ (bel_drew (Below.refl _ _))).mono ?_)
          rintro e wI ⟨v', rfl, hOI, hbI⟩
          have hbI := bel_trans (bel_drew (Below.refl wr.heap.size wr)) hbI
          have hmr := HE.out.lt
          obtain ⟨V, N, H1, H2, H3, H4, h5, H6, H7⟩ := HE.out
          obtain ⟨wU, hU, hMU, hKU⟩ := (H1.below hbI).store (int_fit Tryz.underlying3) Tryz.underlying54 (y : Int) v'
          have hU : (Instr.mapUpdate 54 (.map (some mb)) (.int .i64 (y : Nat)) v').run Tryz.prog wI = .ok () wU := hU
          have hfr := Lib.hid (EMap.fresh H1 H2 H3 H4 h5 H6 H7 hbI hOI hMU hKU)
          have hKU := Lib.hid hKU
          have hOI := Lib.hid hOI
          clear H1 H2 H3 H4 h5 H6 H7 hMU
          dsimp only
          refine hK.out _ _ ⟨bel_cell hbI kb0, bel_cell hbI kb1, bel_cell hbI hE, rangeAt_below g2 hbI⟩ (fun hHeld3 => ?_)
          clear hK K
          try dsimp only
          try simp only [Act.put, List.setIfInBounds_toArray, List.set_cons_zero, List.set_cons_succ]
          refine wpAnyH_ready (rs := [22]) (by kernel_rfl) (by simp) ?_
          refine AllReadyH.cons (o := { dst := Option.none, op := Op.mapUpdate 54 (Operand.tmp 45) (Operand.tmp 52) (Operand.tmp 63), type := 0, pos := "parts.go:595", after := #[{ on := 3, ground := Ground.data }, { on := 10, ground := Ground.data }, { on := 21, ground := Ground.data }, { on := 21, ground := Ground.chain }, { on := 0, ground := Ground.phase }, { on := 1, ground := Ground.phase }, { on := 2, ground := Ground.phase }, { on := 3, ground := Ground.phase }, { on := 4, ground := Ground.phase }, { on := 5, ground := Ground.phase }, { on := 6, ground := Ground.phase }, { on := 7, ground := Ground.phase }, { on := 8, ground := Ground.phase }, { on := 9, ground := Ground.phase }, { on := 10, ground := Ground.phase }, { on := 11, ground := Ground.phase }, { on := 12, ground := Ground.phase }, { on := 13, ground := Ground.phase }, { on := 14, ground := Ground.phase }, { on := 15, ground := Ground.phase }, { on := 16, ground := Ground.phase }, { on := 17, ground := Ground.phase }, { on := 18, ground := Ground.phase }, { on := 19, ground := Ground.phase }, { on := 20, ground := Ground.phase }, { on := 21, ground := Ground.phase }], guard := Option.none }) rfl (fun K hK => ?_) .nil
          go_simp
          refine hK.out _ _ ⟨keptc hKU.out (by simp; omega) (bel_cell hbI kb0), keptc hKU.out (by simp; omega) (bel_cell hbI kb1), keptc hKU.out (by rw [add_block]; simp; omega) (bel_cell hbI hE), rangeAt_kept (rangeAt_below g2 hbI) hKU.out (by simpa using hgrm)⟩ (fun hHeld4 => ?_)
          clear hK K
          try dsimp only
          try simp only [Act.put, List.setIfInBounds_toArray, List.set_cons_zero, List.set_cons_succ]
          refine wpAnyH_done (by kernel_rfl) ?_ _
          refine NoPanic.normal ?_
          have hEn := hfr.out
          rw [show updE (EGr g i) (y : Int) (some (eUp g y false nz)) = EGr g (i + 1) by rw [← Hy.out, ← Hn.out]; exact EGr_step g i] at hEn
          have hSn : ∀ s ∈ v'.ownBlock.toList ++ S, w2.heap.size ≤ s := fun s hs => by
            rcases List.mem_append.1 hs with q | q
            · rw [Option.mem_toList] at q
              exact Nat.le_trans HK.out.size (World.ownsRow.lt hOI.out s q).1
            · exact HS.out s q
          have hKn : Kept [mb] w2 wU := (HK.out.trans (Kept.of_below hbI)).trans hKU.out
          have Hn9 := Lib.hid (show ∃ S, EMap wU S mb (EGr g (i + 1)) ∧ (∀ s ∈ S, w2.heap.size ≤ s) ∧ Kept [mb] w2 wU from ⟨_, hEn, hSn, hKn⟩)
          clear hHeld hHeld3 hHeld4 hbI hU hfr hEn hSn hKn hKU hOI g2 cE e1 s1 u1 hixr hix hE kb0 kb1
          go_wp2
          first
            | exact ⟨⟨i + 1, by go_num, by omega, Hn9.out⟩, by simp [intOf]; omega⟩
            | (go_roundw; (case rel => exact ⟨i + 1, by go_num, by omega, Hn9.out⟩); (case measure => simp [intOf]; omega))
        · obtain rfl : i = nz := by omega
          have hmm : ∀ q ∈ [mb], W.heap.size ≤ q ∨ w.heap.size ≤ q := by simp; omega
          have hbw : Below w.heap.size w wr := Kept.below (bel_trans HBW HBr.out) HK.out (by have := (bel_trans HBW HBr.out).size; omega) (by simp; omega)
          have hfin : RGraphD w g (.returned (.pointer (some ⟨b, 0, none⟩))) wr := ⟨b, mb, S, A, i, m, rfl, ⟨Hkb.out, HIx.out, Hn.out, fun hh => by have := HS.out b hh; omega, HE.out⟩, by
            intro k hk
            simp only [List.mem_cons] at hk
            rcases hk with rfl | rfl | hk
            · omega
            · omega
            · have h1 := HS.out k hk; have h2 := HBr.out.size; omega, by omega, hbw⟩
          have hfin := Lib.hid hfin
          clear HE HS HK hmm hbw
          go_wp2
          go_ret
          exact hfin.out
end Go.Proofs.YtjejkadaafmdcaaGreat
/- What the document connects a free cell to. -/
namespace Go.Proofs.YtjejkadaafmdcaaGreat
open Go.RowKit Go.Sort FR Go.Lib
end Go.Proofs.YtjejkadaafmdcaaGreat
/- The product's graph: Connect, Grid, and Edges of what is no node. -/
namespace Go.Proofs.YtjejkadaafmdcaaGreat
open Go.RowKit Go.Sort FR Go.Lib
theorem wpList_append_E {ops : Array Oper} {rest : List Oper} {o : Oper} {a : Act} {Q : Exit → Act → World → Prop} (w : World) (hgd : o.guard = none) (s x : Operand)
    (ho : o.op = .call { callee := .builtin .append, args := #[s, x], argTypes := #[59, 59] })
    (B : Nat) (v : Value) (L : List Ed) (e : Ed) (hs : a.eval s = v) (hown : OwnE w B v L) (ad : Addr) (hx : a.eval x = .slice (some ad) 1 1)
    (hc : ∀ j u, e.cells[j]? = some u → w.cell? (ad.add j) = some u) (hl : L.length ≤ 100000) (hB : B ≤ w.heap.size)
    (h : ∀ v' w', OwnE w' B v' (L ++ [e]) → w.grownBy w' v.ownBlock → wpList Tryz.prog ops Q rest (a.put o.dst v') w') : wpList Tryz.prog ops Q (o :: rest) a w := by
  obtain ⟨i0, z0, hi, hz0, hz1, hz2, hz3⟩ := edge_parts
  refine wpList_append_own_at w hgd s x 59 ho B 70 i0 z0 4 32 Tryz.underlying59 hi hz0 hz1 hz2 hz3 (by decide) v L.length (edL L) hs hown ad 1 1 e.cells hx rfl hc (ed_one e) ?_ ?_ hB ?_
  · unfold maxLen; omega
  · omega
  · intro v' w' h1 h2 _ _
    refine h v' w' ?_ h2
    unfold OwnE
    rw [List.length_append, edL_append, edL_cons, edL_nil, List.append_nil]
    exact h1
/-- what Connect hands back -/
def RetE2 (w : World) (L : List Ed) (e : Ending) (w' : World) : Prop := ∃ vE, e = .returned (.tuple #[vE, .nilIface]) ∧ OwnE w' w.heap.size vE L ∧ Below w.heap.size w w'
end Go.Proofs.YtjejkadaafmdcaaGreat
/- Levels in memory; edges of a corner to those that have no level yet. -/
namespace Go.Proofs.YtjejkadaafmdcaaGreat
open Go.RowKit Go.Sort FR Go.Lib
/-- levels in memory: the map of levels reads as V, the lists as E -/
def LvOf (w : World) (b ml me : Nat) (S : List Nat) (top : Int) (V : Int → Option Value) (nl : Nat) (E : Int → Option (List Ed)) : Prop :=
  w.heap[b]? = some (.cells #[.map (some ml), .map (some me), .int .i64 top] 110 (0, 0)) ∧ MapAt iK w ml V nl ∧ EMap w S me E ∧ b ∉ S ∧ ml ∉ S ∧ b ≠ ml ∧ b ≠ me ∧ ml ≠ me
theorem LvOf.kept {w w' : World} {b ml me nl : Nat} {S T : List Nat} {top : Int} {V : Int → Option Value} {E : Int → Option (List Ed)} (h : LvOf w b ml me S top V nl E) (hk : Kept T w w') (hT : ∀ k, k ∈ b :: ml :: me :: S → k ∉ T) : LvOf w' b ml me S top V nl E := by
  obtain ⟨g1, g2, g3, g4⟩ := h
  exact ⟨(hk.block b (Array.getElem?_eq_some_iff.1 g1).1 (hT b (by simp))).trans g1, g2.kept hk (hT ml (by simp)), g3.kept hk (fun s hs => hT s (by simp [hs])) (hT me (by simp)), g4⟩
theorem LvOf.below {w w' : World} {b ml me nl : Nat} {S : List Nat} {top : Int} {V : Int → Option Value} {E : Int → Option (List Ed)} (h : LvOf w b ml me S top V nl E) (hb : Below w.heap.size w w') : LvOf w' b ml me S top V nl E := h.kept (T := []) (.of_below hb) (fun _ _ => by simp)
/-- the levels as numbers: none stands for 0 -/
def LevOf (V : Int → Option Value) (lev : Int → Int) : Prop := ∀ z, (V z).getD (.int .i64 0) = .int .i64 (lev z)
/-- edges to those that have no level yet -/
def free0 (lev : Int → Int) (L : List Ed) : List Ed := L.filter fun e => decide (lev e.to_ = 0)
theorem free0_snoc {lev : Int → Int} {L : List Ed} {i : Nat} {e : Ed} (h : L[i]? = some e) : free0 lev (L.take (i + 1)) = free0 lev (L.take i) ++ (if lev e.to_ = 0 then [e] else []) := by
  obtain ⟨hi, he⟩ := List.getElem?_eq_some_iff.1 h
  unfold free0
  rw [List.take_succ_eq_append_getElem hi, List.filter_append, he]
  by_cases q : lev e.to_ = 0 <;> simp [q]
set_option maxRecDepth 100000 in
set_option maxHeartbeats 3200000 in
theorem lvEdges (w : World) (b ml me nl : Nat) (S : List Nat) (top : Int) (V : Int → Option Value) (lev : Int → Int) (E : Int → Option (List Ed)) (c : Int) (L : List Ed) (h : LvOf w b ml me S top V nl E) (hV : LevOf V lev) (hL : E c = some L) (hl : L.length ≤ 100000) :
    Calls Tryz.prog 103 #[.pointer (some ⟨b, 0, none⟩), .int .i64 c] w (RetE w (free0 lev L)) := by
  obtain ⟨g1, g2, ⟨W3, N, q1, q2, q3, _, _, _, _⟩, _⟩ := h
  have kb0 : w.cell? ⟨b, 0, none⟩ = some (.map (some ml)) := by simp [World.cell?, g1]
  have kb1 : w.cell? ⟨b, 1, none⟩ = some (.map (some me)) := by simp [World.cell?, g1]
  obtain ⟨u, hu⟩ : ∃ u, W3 c = some u := by
    cases hV : W3 c with
    | none => rw [(q2 c).2 hV] at hL; cases hL
    | some u => exact ⟨u, rfl⟩
  obtain ⟨A, cap, rfl, hEd⟩ := (q3 c u L hu hL).eds
  have hlk : (Instr.lookup 54 (.map (some me)) (.int .i64 c) false).run Tryz.prog w = .ok (.slice A L.length cap) w := by
    have := (q1.look (int_fit Tryz.underlying3) Tryz.underlying54 (z := .slice none 0 0) (by simp [Tryz.zeroValue59]) c).2
    rw [hu] at this
    exact this
  have hlv : ∀ w', Below w.heap.size w w' → ∀ z : Int, (Instr.lookup 53 (.map (some ml)) (.int .i64 z) false).run Tryz.prog w' = .ok (.int .i64 (lev z)) w' := fun w' hb z => by
    have := ((g2.below hb).look (int_fit Tryz.underlying3) Tryz.underlying53 (z := .int .i64 0) (by simp [Tryz.zeroValue3]) z).2
    rw [hV z] at this
    exact this
  have Hlv := Lib.hid hlv
  have HEd := Lib.hid hEd
  obtain ⟨n, hn⟩ : ∃ n, L.length = n := ⟨_, rfl⟩
  rw [hn] at hlk
  have hn1 : n ≤ 100000 := by omega
  have Hn := Lib.hid hn
  clear g1 g2 q1 q2 q3 hu hV hlv hEd hn
  go_enter Tryz.func103, Tryz.ntmps103
  go_wp2_with fail
  clear hlk
  go_loopw [5, 15] (fun lv kv wr => ∃ i : Nat, kv = .int .i64 i ∧ i ≤ n ∧ OwnE wr w.heap.size lv (free0 lev (L.take i)) ∧ Below w.heap.size w wr) (fun _ kv _ => n - (intOf kv).toNat)
  case atStart => exact ⟨0, rfl, by omega, OwnE.nil _ _, Below.refl _ _⟩
  case round =>
    obtain ⟨i, rfl, hi, hO, hB⟩ := hrel
    have HO := Lib.hid hO
    have k0 := bel_cell hB kb0
    clear hO
    by_cases hlt : i < n
    · obtain ⟨e, he⟩ : ∃ e, L[i]? = some e := ⟨L[i]'(by rw [Hn.out]; exact hlt), List.getElem?_eq_getElem _⟩
      obtain ⟨gb, hA, a1, a2, a3, a4⟩ := (HEd.out.below hB).get he
      have hix := fun wx => idxE (m := cap) hA hlt wx
      have He := Lib.hid he
      obtain ⟨xt, ⟨xs, xd⟩, xm⟩ := e
      simp only at a1 a2 a3 a4
      clear hA he
      go_upto_region 5 with (fail)
      refine wp_name ?_
      intro W hW
      have HW : Below w.heap.size w W := by rw [hW]; exact bel_alloc hB
      have hbW : Below wr.heap.size wr W := by rw [hW]; exact bel_alloc (Below.refl _ _)
      obtain ⟨b7, hb7⟩ : ∃ z, wr.heap.size = z := ⟨_, rfl⟩
      have o0 : W.cell? ⟨b7, 0, none⟩ = some (.int .i64 xt) := by rw [hW, ← hb7]; go_simp
      have o1 : W.cell? ⟨b7, 1, none⟩ = some (.int .i64 xs) := by rw [hW, ← hb7]; go_simp
      have o2 : W.cell? ⟨b7, 2, none⟩ = some (.int .i64 xd) := by rw [hW, ← hb7]; go_simp
      have o3 : W.cell? ⟨b7, 3, none⟩ = some (.int .i64 xm) := by rw [hW, ← hb7]; go_simp
      have k0 := bel_cell hbW k0
      have HOW := Lib.hid (HO.out.kept (T := []) (.of_below hbW) (fun _ _ => by simp))
      obtain ⟨t, ht⟩ : ∃ t, lev xt = t := ⟨_, rfl⟩
      have hlq : ∀ n, (Instr.lookup 53 (.map (some ml)) (.int .i64 xt) false).run Tryz.prog (W.drewN n) = .ok (.int .i64 t) (W.drewN n) := fun n => by rw [← ht]; exact Hlv.out _ (bel_drewN HW) xt
      have hsn := Lib.hid (free0_snoc (lev := lev) He.out)
      have hlt' : (free0 lev (L.take i)).length ≤ 100000 := by
        unfold free0
        have h1 := List.length_filter_le (fun e : Ed => decide (lev e.to_ = 0)) (L.take i)
        have h2 : (L.take i).length ≤ n := by rw [List.length_take, Hn.out]; omega
        have := Hn.out
        omega
      have Ht := Lib.hid ht
      rw [hb7]
      clear hW hb7 hbW HO a1 a2 a3 a4 hix hB ht
      by_cases ht0 : t = 0
      · subst ht0
        have hd : ((0 : Int) == 0) = true := rfl
        have hlist := hsn.out
        rw [if_pos (show lev (Ed.mk xt ⟨xs, xd⟩ xm).to_ = 0 from Ht.out)] at hlist
        have Hlist := Lib.hid hlist
        clear hlist hsn
        go_quiet (fail)
        have o0 := bel_cell (bel_drewN (n := nq) (Below.refl W.heap.size W)) o0
        have o1 := bel_cell (bel_drewN (n := nq) (Below.refl W.heap.size W)) o1
        have o2 := bel_cell (bel_drewN (n := nq) (Below.refl W.heap.size W)) o2
        have o3 := bel_cell (bel_drewN (n := nq) (Below.refl W.heap.size W)) o3
        have HB5 : Below w.heap.size w (W.drewN nq) := bel_drewN HW
        have HO5 := Lib.hid (HOW.out.kept (w' := W.drewN nq) (T := []) (.of_below (bel_drewN (Below.refl _ _))) (fun _ _ => by simp))
        clear hlq k0 HOW HW
        generalize W.drewN nq = w5 at o0 o1 o2 o3 HB5 HO5 ⊢
        go_wp2_with (at_builtin; (refine wpList_append_E _ rfl _ _ rfl w.heap.size _ _ ⟨xt, ⟨xs, xd⟩, xm⟩ rfl (HO5.out.kept (T := []) (.of_below (bel_alloc (Below.refl _ _))) (fun _ _ => by simp)) ⟨w5.heap.size, 0, none⟩ rfl (fun j u hu => by rw [Addr.add_lit, Nat.zero_add]; exact new_edge (alloc_at w5 _ rfl) j u hu) hlt' (by have := HB5.size; simp; omega) ?_); intro v' w9 hown9 hgrow)
        have hF := hown9
        rw [← Hlist.out] at hF
        have hB9 : Below w.heap.size w w9 := (bel_alloc HB5).grown hgrow (by have := HB5.size; simp; omega) (fun k hk => (World.ownsRow.lt HO5.out k hk).1)
        have hF := Lib.hid hF
        clear hown9 hgrow
        go_wp2
        first
          | exact ⟨⟨i + 1, by go_num, by omega, hF.out, hB9⟩, by simp [intOf]; omega⟩
          | (go_roundw; (case rel => exact ⟨i + 1, by go_num, by omega, hF.out, hB9⟩); (case measure => simp [intOf]; omega))
      · have hd : (t == 0) = false := by simpa using ht0
        have hlist := hsn.out
        rw [if_neg (show ¬ lev (Ed.mk xt ⟨xs, xd⟩ xm).to_ = 0 by show ¬ lev xt = 0; rw [Ht.out]; exact ht0), List.append_nil] at hlist
        have Hlist := Lib.hid hlist
        clear hlist hsn
        go_quiet (fail)
        have HB5 : Below w.heap.size w (W.drewN nq) := bel_drewN HW
        have hF := HOW.out.kept (w' := W.drewN nq) (T := []) (.of_below (bel_drewN (Below.refl _ _))) (fun _ _ => by simp)
        rw [← Hlist.out] at hF
        have hF := Lib.hid hF
        clear hlq k0 HOW HW o0 o1 o2 o3
        go_wp2
        first
          | exact ⟨⟨i + 1, by go_num, by omega, hF.out, HB5⟩, by simp [intOf]; omega⟩
          | (go_roundw; (case rel => exact ⟨i + 1, by go_num, by omega, hF.out, HB5⟩); (case measure => simp [intOf]; omega))
    · obtain rfl : i = n := by omega
      have hF := HO.out
      rw [List.take_of_length_le (by rw [Hn.out]; exact Nat.le_refl _)] at hF
      have hfin : RetE w (free0 lev L) (.returned u5) wr := ⟨_, rfl, hF, hB⟩
      have hfin := Lib.hid hfin
      clear HO hF k0
      go_wp2
      go_ret
      exact hfin.out
end Go.Proofs.YtjejkadaafmdcaaGreat
/- asGraph: the product's graph is the document's. -/
namespace Go.Proofs.YtjejkadaafmdcaaGreat
open Go.RowKit Go.Sort FR Go.Lib
end Go.Proofs.YtjejkadaafmdcaaGreat
/- links: the closed fact of chapter 9. -/
namespace Go.Proofs.YtjejkadaafmdcaaGreat
open Go.RowKit Go.Sort FR Go.Lib
theorem g33_corner {k : Nat} : g33.Corner k ↔ k = 0 ∨ k = 2 ∨ k = 6 ∨ k = 8 := by
  constructor
  · intro h
    obtain ⟨i, hi, rfl⟩ := cf_has h
    have h2 := (cf_at hi).1
    rw [corners33] at h2 hi
    have hi : i < 4 := hi
    rcases (show i = 0 ∨ i = 1 ∨ i = 2 ∨ i = 3 by omega) with rfl | rfl | rfl | rfl
    · have : (0 : Int) = (cf g33 0 : Nat) := h2; omega
    · have : (2 : Int) = (cf g33 1 : Nat) := h2; omega
    · have : (6 : Int) = (cf g33 2 : Nat) := h2; omega
    · have : (8 : Int) = (cf g33 3 : Nat) := h2; omega
  · have hl : (cornersI g33).length = 4 := by rw [corners33]; rfl
    rintro (rfl | rfl | rfl | rfl)
    · have h := cf_at (g := g33) (i := 0) (by omega)
      rw [corners33] at h
      have e : (0 : Int) = (cf g33 0 : Nat) := h.1
      rw [show (0 : Nat) = cf g33 0 by omega]; exact h.2
    · have h := cf_at (g := g33) (i := 1) (by omega)
      rw [corners33] at h
      have e : (2 : Int) = (cf g33 1 : Nat) := h.1
      rw [show (2 : Nat) = cf g33 1 by omega]; exact h.2
    · have h := cf_at (g := g33) (i := 2) (by omega)
      rw [corners33] at h
      have e : (6 : Int) = (cf g33 2 : Nat) := h.1
      rw [show (6 : Nat) = cf g33 2 by omega]; exact h.2
    · have h := cf_at (g := g33) (i := 3) (by omega)
      rw [corners33] at h
      have e : (8 : Int) = (cf g33 3 : Nat) := h.1
      rw [show (8 : Nat) = cf g33 3 by omega]; exact h.2
theorem w01 : Walk g33.E 0 1 ⟨1, 0⟩ := Walk.single ⟨by decide +kernel, 2, by decide, by decide +kernel, by decide +kernel, rfl⟩
theorem w12 : Walk g33.E 1 2 ⟨1, 0⟩ := Walk.single ⟨by decide +kernel, 2, by decide, by decide +kernel, by decide +kernel, rfl⟩
theorem far33 {a b : Nat} {c : C} (h : Walk g33.E a b c) : (g33.X b : Int) - g33.X a ≤ c.s + c.d ∧ (g33.X a : Int) - g33.X b ≤ c.s + c.d ∧ (g33.Y b : Int) - g33.Y a ≤ c.s + c.d ∧ (g33.Y a : Int) - g33.Y b ≤ c.s + c.d :=
  let h := G.walk_far h
  ⟨h.2.2.1, h.2.2.2.1, h.2.2.2.2.1, h.2.2.2.2.2.1⟩
theorem xy33 : g33.X 0 = 0 ∧ g33.Y 0 = 0 ∧ g33.X 2 = 2 ∧ g33.Y 2 = 0 ∧ g33.X 6 = 0 ∧ g33.Y 6 = 2 ∧ g33.X 8 = 2 ∧ g33.Y 8 = 2 := by decide +kernel
theorem nomid {a b k : Nat} (h : g33.Mid a b k) (ho : g33.oct a b = ⟨2, 0⟩) (hs : 4 ≤ max ((g33.X k : Int) - g33.X a) ((g33.Y k : Int) - g33.Y a) + max ((g33.X k : Int) - g33.X b) ((g33.Y k : Int) - g33.Y b)) : False := by
  obtain ⟨p, q, h1, h2, h3⟩ := h
  have f1 := far33 h1
  have f2 := far33 h2
  rw [ho] at h3
  have e1 : p.s + q.s = 2 := congrArg C.s h3
  have e2 : p.d + q.d = 0 := congrArg C.d h3
  omega
theorem direct02 : g33.Direct 0 2 := by
  obtain ⟨x0, y0, x2, y2, x6, y6, x8, y8⟩ := xy33
  have ho : g33.oct 0 2 = ⟨2, 0⟩ := C.ext' (by decide +kernel) (by decide +kernel)
  refine ⟨?_, fun k hk h0 h2 hm => nomid hm ho ?_⟩
  · unfold G.Near
    rw [ho]
    exact Walk.trans w01 w12
  · rcases g33_corner.1 hk with rfl | rfl | rfl | rfl
    · exact absurd rfl h0
    · exact absurd rfl h2
    · rw [x6, y6, x0, y0, x2, y2]; decide
    · rw [x8, y8, x0, y0, x2, y2]; decide
theorem ndirect08 : ¬ g33.Direct 0 8 := by
  intro h
  have h1 := h.1
  unfold G.Near at h1
  have ho : g33.oct 0 8 = ⟨0, 2⟩ := C.ext' (by decide +kernel) (by decide +kernel)
  rw [ho] at h1
  rcases h1.inv' with ⟨e, _⟩ | ⟨m, d, e, h2, h3, h4⟩
  · cases e
  · obtain ⟨_, k, hk, hm, _, rfl⟩ := h2
    have hs : ∀ k, k < 8 → g33.mayC 0 k = true → (stepC k).s = 1 := by decide +kernel
    have := hs k hk hm
    have n1 := (G.walk_far h3).1
    have e1 : (0 : Int) = (stepC k).s + d.s := congrArg C.s h4
    omega
end Go.Proofs.YtjejkadaafmdcaaGreat
