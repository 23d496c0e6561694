/- spanned: labels over the edges of a graph cost what cells do. -/
import Derived.Test.YtjejkadaafmdcaaGraph6
import Derived.Test.YtjejkadaafmdcaaMathSpan
import Derived.Test.YtjejkadaafmdcaaRRay
set_option linter.unusedVariables false
set_option linter.unusedSimpArgs false
namespace Go.Proofs.Ytjejkadaafmdcaa
open Go.RowKit Go.Sort FR
def cV (c : C) : Value := .agg #[.int .i64 c.s, .int .i64 c.d]
/-- labels, as a map holds them -/
def labM (L : Nat → Option C) : Int → Option Value := fun z => if 0 ≤ z then (L z.toNat).map cV else none
theorem labM_at (L : Nat → Option C) (t : Nat) : labM L (t : Int) = (L t).map cV := by
  unfold labM; rw [if_pos (by omega)]; simp
theorem labM_upd (L : Nat → Option C) (t : Nat) (c : C) : updK (labM L) (t : Int) (some (cV c)) = labM (upd L t (some c)) := by
  funext z
  unfold updK labM upd
  by_cases e : z = (t : Int)
  · subst e; simp
  · rw [if_neg e]
    by_cases h : 0 ≤ z
    · rw [if_pos h, if_pos h, if_neg (by omega)]
    · rw [if_neg h, if_neg h]
theorem labM_none : labM (fun _ => none) = fun _ => none := by funext z; unfold labM; split <;> rfl
theorem cntS_upd {L : Nat → Option C} {N b : Nat} (hb : b < N) (c : C) : cntS (upd L b (some c)) N = if (L b).isSome then cntS L N else cntS L N + 1 := by
  cases h : L b with
  | none => rw [cntS_new hb h]; simp
  | some d =>
    simp only [Option.isSome_some, if_true]
    unfold cntS
    rw [some_upd]
    congr 1
    funext j
    unfold upd
    split
    · rename_i e; rw [e, h]; rfl
    · rfl
/-- the labels lie in the map; else nothing has changed -/
def SpM (W wr : World) (mb2 : Nat) (N : Nat) (L : Nat → Option C) : Prop := MapAt iK wr mb2 (labM L) (cntS L N) ∧ Kept [mb2] W wr
theorem SpM.below {W wr w' : World} {mb2 N : Nat} {L : Nat → Option C} (h : SpM W wr mb2 N L) (hb : Below wr.heap.size wr w') : SpM W w' mb2 N L := ⟨h.1.below hb, h.2.trans (Kept.of_below hb)⟩
theorem EdsAt.kept {w w' : World} {A : Option Addr} {L : List Ed} {T : List Nat} (h : EdsAt w A L) (hk : Kept T w w') (hT : ∀ ad, A = some ad → ad.block ∉ T) : EdsAt w' A L := fun hl => by
  obtain ⟨g, h1, h2, h3⟩ := h hl
  refine ⟨g, h1, Nat.lt_of_lt_of_le h2 hk.size, fun j v hv => ?_⟩
  exact (World.cell?_of_block (a := ⟨g, j, none⟩) (hk.block g h2 (hT _ h1))).trans (h3 j v hv)
theorem look_lab {W wr : World} {mb2 N : Nat} {L : Nat → Option C} (hM : SpM W wr mb2 N L) (x : Nat) : ∃ (cs cd : Int) (th : Bool), th = (L x).isSome ∧ (∀ d, L x = some d → d = ⟨cs, cd⟩) ∧ ∀ w', Below wr.heap.size wr w' →
    (Instr.lookup 84 (.map (some mb2)) (.int .i64 (x : Nat)) true).run Try.prog w' = .ok (.tuple #[.agg #[.int .i64 cs, .int .i64 cd], .bool th]) w' := by
  have key := fun w' hb => ((hM.1.below (w' := w') hb).look (int_fit Try.underlying3) Try.underlying84 (z := cV C.zero) (by simp [Try.zeroValue59, cV, C.zero]) (x : Int)).1
  cases hL : L x with
  | none =>
    refine ⟨0, 0, false, rfl, (fun d h => by cases h), fun w' hb => ?_⟩
    have h := key w' hb
    rw [labM_at, hL] at h
    simpa [cV, C.zero] using h
  | some c =>
    refine ⟨c.s, c.d, true, rfl, (fun d h => by injection h with h; rw [← h]), fun w' hb => ?_⟩
    have h := key w' hb
    rw [labM_at, hL] at h
    simpa [cV] using h
abbrev bfM (g : G) (L : Nat → Option C) : Nat := BF.meas g.n (BF.K g.n 0 30) L
/-- what holds of the labels: P always, Q while none has been lowered in this round -/
def SpO (W wr : World) (g : G) (mb2 fr mm : Nat) (P Q : (Nat → Option C) → Prop) (ag : Bool) : Prop :=
  ∃ L, SpM W wr mb2 g.n L ∧ BF g.GE (G.Src fr) g.n 0 30 L ∧ (∃ d, L fr = some d ∧ C.le d C.zero) ∧ bfM g L ≤ mm ∧ (ag = true → bfM g L < mm) ∧ P L ∧ (ag = false → Q L)
/-- the outer round's head -/
def SpA (W wr : World) (g : G) (mb2 fr gk : Nat) (sv : Value) : Prop :=
  ∃ ag L, sv = .bool ag ∧ SpM W wr mb2 g.n L ∧ BF g.GE (G.Src fr) g.n 0 30 L ∧ (∃ d, L fr = some d ∧ C.le d C.zero) ∧ gk = 2 * bfM g L + (if ag then 1 else 0) ∧ (ag = false → ∀ a, g.Corner a → G.Calm g L a)
/-- the first edges of a list lower nothing -/
def Rlx (L : Nat → Option C) (x : Nat) (es : List Ed) (k : Nat) : Prop := ∀ c, L x = some c → ∀ (j : Nat) (e : Ed), j < k → es[j]? = some e → ∃ (y : Nat) (d : C), e.to_ = y ∧ L y = some d ∧ C.le d (C.add c e.c)
/-- a list of edges is that of a corner -/
def EdsOf (g : G) (x : Nat) (es : List Ed) : Prop := ∀ e, e ∈ es ↔ ∃ y : Nat, g.Corner y ∧ y ≠ x ∧ True ∧ g.Direct x y ∧ e = ⟨y, g.oct x y, -1⟩
theorem rlx_calm {g : G} {L : Nat → Option C} {x : Nat} {es : List Ed} (he : EdsOf g x es) (h : Rlx L x es es.length) : G.Calm g L x := by
  intro c b e hc hge
  obtain ⟨h1, h2, h3, h4, rfl⟩ := hge
  have hm := (he ⟨b, g.oct x b, -1⟩).2 ⟨b, h2, Ne.symm h3, trivial, h4, rfl⟩
  obtain ⟨j, hj⟩ := List.getElem?_of_mem hm
  obtain ⟨y, d, q1, q2, q3⟩ := h c hc j _ (List.getElem?_eq_some_iff.1 hj).1 hj
  simp only at q1 q3
  obtain rfl : b = y := by omega
  exact ⟨d, q2, q3⟩
theorem rlx_step {L : Nat → Option C} {x k y : Nat} {es : List Ed} {e : Ed} (h : Rlx L x es k) (he : es[k]? = some e) (hy : e.to_ = y) (hle : ∀ c, L x = some c → ∃ d, L y = some d ∧ C.le d (C.add c e.c)) : Rlx L x es (k + 1) := by
  intro c hc j e' hj hej
  by_cases e1 : j = k
  · subst e1
    rw [he] at hej; injection hej with hej; subst hej
    obtain ⟨d, q1, q2⟩ := hle c hc
    exact ⟨y, d, hy, q1, q2⟩
  · exact h c hc j e' (by omega) hej
/-- what holds within a corner's edges -/
def SgI (W w5 wr : World) (g : G) (mb2 fr mm : Nat) (lx : Option C) (x i : Nat) (es : List Ed) (k : Nat) (ag : Bool) : Prop :=
  SpO W wr g mb2 fr mm (fun L' => L' x = lx) (fun L' => (∀ i', i' < i → G.Calm g L' (cf g i')) ∧ Rlx L' x es k) ag ∧ Kept [mb2] w5 wr
theorem SpO.below {W wr w' : World} {g : G} {mb2 fr mm : Nat} {P Q : (Nat → Option C) → Prop} {ag : Bool} (h : SpO W wr g mb2 fr mm P Q ag) (hb : Below wr.heap.size wr w') : SpO W w' g mb2 fr mm P Q ag := by
  obtain ⟨L, h1, h2⟩ := h
  exact ⟨L, h1.below hb, h2⟩
theorem spB {w w' : World} {b : Nat} {is : Nat → Bool} {t : Nat} (h : w.heap[b]? = some (.cells (rowOf (icell is) 256) 38 (0, 0))) (hb : w'.heap[b]? = w.heap[b]?) (ht : t < 256) : w'.cell? ⟨b, t, none⟩ = some (.bool (is t)) :=
  (World.cell?_of_block (w := w) (w' := w') (a := ⟨b, t, none⟩) hb).trans (by simp [World.cell?, h, rowOf_get _ _ _ ht, icell])
theorem spC {w w' : World} {b : Nat} {c : Nat → C} {t : Nat} (h : w.heap[b]? = some (.cells (rowOf (ccell c) 512) 81 (0, 0))) (hb : w'.heap[b]? = w.heap[b]?) (ht : t < 256) : w'.cell? ⟨b, t * 2, none⟩ = some (.int .i64 (c t).s) ∧ w'.cell? ⟨b, t * 2 + 1, none⟩ = some (.int .i64 (c t).d) := by
  have e1 : (t * 2 + 1) % 2 = 1 := by omega
  have e2 : (t * 2 + 1) / 2 = t := by omega
  exact ⟨(World.cell?_of_block (w := w) (w' := w') (a := ⟨b, t * 2, none⟩) hb).trans (by simp [World.cell?, h, rowOf_get _ _ _ (show t * 2 < 512 by omega), ccell]),
    (World.cell?_of_block (w := w) (w' := w') (a := ⟨b, t * 2 + 1, none⟩) hb).trans (by simp [World.cell?, h, rowOf_get _ _ _ (show t * 2 + 1 < 512 by omega), ccell, e1, e2])⟩
theorem SpM.put {W wr w' : World} {mb2 N : Nat} {L : Nat → Option C} (h : SpM W wr mb2 N L) {y : Nat} (hy : y < N) (c : C) (hm : MapAt iK w' mb2 (updK (labM L) (y : Int) (some (cV c))) (if (labM L (y : Int)).isSome then cntS L N else cntS L N + 1)) (hk : Kept [mb2] wr w') : SpM W w' mb2 N (upd L y (some c)) := by
  refine ⟨?_, h.2.trans hk⟩
  rw [cntS_upd hy, ← labM_upd]
  have e : (labM L (y : Int)).isSome = (L y).isSome := by rw [labM_at]; cases L y <;> rfl
  rw [← e]
  exact hm
theorem spO_low {W wr w' : World} {g : G} {mb2 fr mm : Nat} {L : Nat → Option C} {P Q : (Nat → Option C) → Prop} (hok : g.ok) (hM : SpM W wr mb2 g.n L) (hB : BF g.GE (G.Src fr) g.n 0 30 L) (hL0 : ∃ d, L fr = some d ∧ C.le d C.zero) (hm1 : bfM g L ≤ mm)
    {x y : Nat} {c e : C} (hx : L x = some c) (hge : g.GE x y e) (hlt : ∀ d, L y = some d → C.lt (C.add c e) d) (hP : P (upd L y (some (C.add c e))))
    (hm : MapAt iK w' mb2 (updK (labM L) (y : Int) (some (cV (C.add c e)))) (if (labM L (y : Int)).isSome then cntS L g.n else cntS L g.n + 1)) (hk : Kept [mb2] wr w') : SpO W w' g mb2 fr mm P Q true := by
  have hy : y < g.n := hge.2.1.1
  obtain ⟨b1, b2⟩ := hB.relax G.ge_nn hx hge (G.ge_small hok hge).1 hy hlt
  refine ⟨_, hM.put hy _ hm hk, b1, ?_, Nat.le_trans (Nat.le_of_lt b2) hm1, fun _ => Nat.lt_of_lt_of_le b2 hm1, hP, fun h => by cases h⟩
  obtain ⟨d, h1, h2⟩ := hL0
  by_cases e1 : fr = y
  · subst e1
    exact ⟨_, upd_same _ _ _, C.le_trans (C.le_of_lt (hlt d h1)) h2⟩
  · exact ⟨d, by rw [upd_ne _ _ e1]; exact h1, h2⟩
set_option maxRecDepth 100000 in
set_option maxHeartbeats 6400000 in
theorem spannedT (w : World) (b p mb : Nat) (S : List Nat) (g : G) (v vm : Int) (E : Int → Option (List Ed)) (q : Nat) (A : Option Addr) (n m fr : Nat) (hG : GraphOf w b p mb S g v E) (hS : GSpec g (fun _ _ => True) E) (hR : RGridAt w q g vm)
    (hI : Ints w A n (fun k => (cornersI g).getD k 0)) (hn : (cornersI g).length = n) (hfr : g.Corner fr) :
    Calls Try.prog 11 #[.pointer (some ⟨b, 0, none⟩), .pointer (some ⟨q, 0, none⟩), .slice A n m, .int .i64 (fr : Nat)] w fun e w' => e = .returned (.bool true) ∧ Below w.heap.size w w' := by
  have hok := hG.2.1.1
  have hNn := G.n_le hok
  have hn256 := corners_le hok
  rw [hn] at hn256
  have hAl : ∀ ad, A = some ad → 0 < n → ad.block < w.heap.size := fun ad e h0 => by
    obtain ⟨ad', e', h2, _⟩ := hI h0
    rw [e] at e'; injection e' with e'; rw [e']; exact h2
  have HG := Lib.hid hG
  have HS := Lib.hid hS
  have HI := Lib.hid hI
  have Hn := Lib.hid hn
  have Hok := Lib.hid hok
  have HAl := Lib.hid hAl
  have hfrn := hfr.1
  clear hG hS hI hn hok hAl
  go_enter Try.func11, Try.ntmps11
  go_wp2_with fail
  (with_reducible refine (rFlood _ q g vm fr hR hfrn).mono ?_)
  rintro e w1 ⟨fa, ia, rfl, hFa, hb1⟩
  obtain ⟨Z1, hZ1⟩ : ∃ Z, Z = rowOf (ccell fa) 512 := ⟨_, rfl⟩
  obtain ⟨Z2, hZ2⟩ : ∃ Z, Z = rowOf (icell ia) 256 := ⟨_, rfl⟩
  have z1 : Z1.size = 512 := by rw [hZ1, rowOf_size]
  have z2 : Z2.size = 256 := by rw [hZ2, rowOf_size]
  have o1 : Z1.all (·.oneCell') = true := by rw [hZ1]; exact Array.all_eq_true_iff_forall_mem.2 (fun v hv => row_one (f := ccell fa) (fun k => by unfold ccell; split <;> rfl) 512 v (by simpa using hv))
  have o2 : Z2.all (·.oneCell') = true := by rw [hZ2]; exact Array.all_eq_true_iff_forall_mem.2 (fun v hv => row_one (f := icell ia) (fun k => rfl) 256 v (by simpa using hv))
  rw [← hZ1, ← hZ2]
  have HZ1 := Lib.hid hZ1
  have HZ2 := Lib.hid hZ2
  clear hZ1 hZ2
  obtain ⟨W1, W2, r1, r2, hA1, hA2, hbW⟩ := two_arrays w1 Z1 Z2 z1 z2 o1 o2
  rw [HZ1.out] at hA1
  rw [HZ2.out] at hA2
  have hA1 := Lib.hid hA1
  have hA2 := Lib.hid hA2
  clear HZ1 HZ2 o1 o2
  have HW := bel_trans hb1 hbW
  have HFa := Lib.hid hFa
  go_upto_region 2 with (fail)
  obtain ⟨b9, hb9⟩ : ∃ b, w1.heap.size = b := ⟨_, rfl⟩
  rw [hb9] at hA1 hA2 ⊢
  obtain ⟨b10, hb10⟩ : ∃ b, b9 + 1 = b := ⟨_, rfl⟩
  rw [hb10] at hA2 ⊢
  obtain ⟨W3, hU, hMU, hKU⟩ := (MapAt.made (kf := iK) W2).store (int_fit Try.underlying3) Try.underlying84 (fr : Int) (cV C.zero)
  have hU : (Instr.mapUpdate 84 (.map (some W2.heap.size)) (.int .i64 (fr : Nat)) (.agg #[.int .i64 0, .int .i64 0])).run Try.prog (W2.alloc (.map #[] 0)) = .ok () W3 := hU
  have hM3 : SpM W3 W3 W2.heap.size g.n (upd (fun _ => none) fr (some C.zero)) := by
    refine ⟨?_, Kept.refl _ _⟩
    rw [cntS_upd hfrn, ← labM_upd, labM_none]
    have e : cntS (fun _ => none) g.n = 0 := by simp [cntS, cntN, sumN_const]
    simpa [e] using hMU
  have hB3 : Below W2.heap.size W2 W3 := Kept.below (bel_alloc (Below.refl _ _)) hKU (by simp) (by simp)
  have hW2l : b9 < W2.heap.size ∧ b10 < W2.heap.size := ⟨(Array.getElem?_eq_some_iff.1 hA1.out).1, (Array.getElem?_eq_some_iff.1 hA2.out).1⟩
  have hsz2 := HW.size
  have HB3 := bel_trans HW hB3
  have hA1 := Lib.hid ((hB3.block b9 hW2l.1).trans hA1.out)
  have hA2 := Lib.hid ((hB3.block b10 hW2l.2).trans hA2.out)
  have HG3 := Lib.hid (HG.out.below HB3)
  have HI3 := Lib.hid (HI.out.below HB3)
  have hGl : ∀ k, k ∈ b :: p :: mb :: S → k < w.heap.size := fun k hk => by
    obtain ⟨g1, g2, g3, _⟩ := HG.out
    rcases List.mem_cons.1 hk with rfl | hk
    · exact (Array.getElem?_eq_some_iff.1 g1).1
    rcases List.mem_cons.1 hk with rfl | hk
    · exact g2.lt
    rcases List.mem_cons.1 hk with rfl | hk
    · exact g3.lt
    obtain ⟨_, _, _, _, _, _, _, _, g7⟩ := g3
    exact g7 k hk
  have HGl := Lib.hid hGl
  have hfin0 : cntS (upd (fun _ => none) fr (some C.zero)) g.n = 1 := by
    rw [cntS_upd hfrn]
    simp [cntS, cntN, sumN_const]
  have hmm := @run_makeMap Try.prog
  clear r1 r2 hb1 hbW HW z1 z2 hMU hKU hB3 hGl hFa hR
  go_upto_region 3 with (fail)
  clear hmm hU hfin0
  obtain ⟨mb2, hmb2⟩ : ∃ z, W2.heap.size = z := ⟨_, rfl⟩
  rw [hmb2] at hM3 hW2l hsz2 ⊢
  clear hmb2
  have hA : SpA W3 W3 g mb2 fr (2 * bfM g (upd (fun _ => none) fr (some C.zero)) + 1) (.bool true) :=
    ⟨true, _, rfl, hM3, G.span_start hfrn, ⟨C.zero, upd_same _ _ _, C.le_refl _⟩, by simp, (fun h => by cases h)⟩
  obtain ⟨G0, hG0⟩ : ∃ z, 2 * bfM g (upd (fun _ => none) fr (some C.zero)) + 1 = z := ⟨_, rfl⟩
  rw [hG0] at hA
  clear hM3 hG0
  go_wp2_with fail
  go_loopg [12] G0 (fun gk sv wr => SpA W3 wr g mb2 fr gk sv)
  case atStart => exact hA
  case round =>
    obtain ⟨ag, L, rfl, hM, hBF, hL0, hgk, hst⟩ := hrel
    clear hA
    cases ag with
    | true =>
      have hgk' : gk = 2 * bfM g L + 1 := by simpa using hgk
      have hstart : SpO W3 wr g mb2 fr (bfM g L) (fun _ => True) (fun L' => ∀ i', i' < 0 → G.Calm g L' (cf g i')) false := ⟨L, hM, hBF, hL0, Nat.le_refl _, (fun h => by cases h), trivial, fun _ i' h => by omega⟩
      obtain ⟨mm, hmm⟩ : ∃ z, bfM g L = z := ⟨_, rfl⟩
      rw [hmm] at hstart hgk'
      clear hM hBF hL0 hgk hst hmm
      go_wp2_with fail
      obtain ⟨wo, rfl⟩ : ∃ wo : World, wo = wr := ⟨_, rfl⟩
      go_loopw [12, 13] (fun sv kv wr => ∃ (ag : Bool) (i : Nat), sv = .bool ag ∧ kv = .int .i64 i ∧ i ≤ n ∧ SpO W3 wr g mb2 fr mm (fun _ => True) (fun L' => ∀ i', i' < i → G.Calm g L' (cf g i')) ag) (fun _ kv _ => n - (intOf kv).toNat)
      case atStart => exact ⟨false, 0, rfl, rfl, by omega, hstart⟩
      case round =>
        obtain ⟨ag, i, rfl, rfl, hi, L, hM, hBF, hL0, hm1, hm2, _, hQ⟩ := hrel
        clear hstart
        by_cases hlt : i < n
        · have hIr := HI3.out.kept hM.2 (fun ad e => by
            have := HAl.out ad e (by omega)
            simp; omega)
          obtain ⟨ad, hA⟩ := hIr.addr (by omega)
          rw [hA] at hIr
          have hix := fun wx => idx_run (m := m) hA hlt wx
          have hE := hIr.cell (Below.refl _ _) hlt
          rw [(cf_at (by rw [Hn.out]; exact hlt)).1] at hE
          obtain ⟨x, hx⟩ : ∃ x, cf g i = x := ⟨_, rfl⟩
          have hxc : g.Corner x := by rw [← hx]; exact (cf_at (by rw [Hn.out]; exact hlt)).2
          rw [hx] at hE
          have Hx := Lib.hid hx
          have hGr : GraphOf wr b p mb S g v E := by
            obtain ⟨g1, g2, ⟨V, N, q1, q2, q3, q4, q5, q6, q7⟩, g4⟩ := HG3.out
            have hl := HGl.out
            have hk : ∀ k, k ∈ b :: p :: mb :: S → k ∉ [mb2] := fun k hk => by have := hl k hk; simp; omega
            exact ⟨(hM.2.block b (Array.getElem?_eq_some_iff.1 g1).1 (hk b (by simp))).trans g1, g2.kept hM.2 (hk p (by simp)),
              EMap.kept ⟨V, N, q1, q2, q3, q4, q5, q6, q7⟩ hM.2 (fun s hs => hk s (by simp [hs])) (hk mb (by simp)), g4⟩
          obtain ⟨es, hes, ess, esi, esl, esm⟩ := HS.out.facts Hok.out hxc
          have Hes := Lib.hid esm
          obtain ⟨cs, cd, th, hth, hcd, hlk⟩ := look_lab hM x
          have hlk := hlk wr (Below.refl _ _)
          have Hth := Lib.hid hth
          have Hcd := Lib.hid hcd
          have hin : inC cs ∧ inC cd ∨ th = false := by
            cases hL : L x with
            | none => right; rw [hth, hL]; rfl
            | some c =>
              left
              have h := hBF.small hL
              rw [hcd c hL] at h
              simp only at h
              unfold inC
              omega
          have Hin := Lib.hid hin
          have cE := Lib.hid (fun w' (hb : Below wr.heap.size wr w') => graphEdges w' b p mb S g v E (hGr.below hb) (x : Nat) es hes (by omega))
          have HM := Lib.hid hM
          have HBF := Lib.hid hBF
          have HQ := Lib.hid hQ
          have H12 := Lib.hid (And.intro hm1 hm2)
          have HL0 := Lib.hid hL0
          clear hIr hA hx hGr hes esm hth hcd hin hM hBF hQ hm1 hm2 hL0
          go_upto_region 10 with (fail)
          refine wp_name ?_
          intro Wc hWc
          have HWc : Below wr.heap.size wr Wc := by rw [hWc]; (repeat' (first | exact Below.refl _ _ | assumption | apply bel_drewN | apply bel_drew | apply bel_alloc | (refine bel_trans ?_ (by assumption))))
          have b0 : Wc.cell? ⟨wr.heap.size, 0, none⟩ = some (.int .i64 cs) := by rw [hWc]; go_simp
          have b1 : Wc.cell? ⟨wr.heap.size, 1, none⟩ = some (.int .i64 cd) := by rw [hWc]; go_simp
          have hmw : mb2 < wr.heap.size := HM.out.1.lt
          obtain ⟨bx, hbx⟩ : ∃ z, wr.heap.size = z := ⟨_, rfl⟩
          have Hbx := Lib.hid hbx
          rw [hbx] at b0 b1 hmw ⊢
          have hE := bel_cell HWc hE
          clear hWc hlk hbx
          go_wp2_with fail
          (with_reducible refine (cE.out _ HWc).mono ?_)
          rintro e w5 ⟨A5, m5, rfl, hEd, hA5, hb5⟩
          have HB5 := bel_trans HWc hb5
          have hM5 := HM.out.below HB5
          have b0 := bel_cell hb5 b0
          have b1 := bel_cell hb5 b1
          have hst : SgI W3 w5 w5 g mb2 fr mm (L x) x i es 0 ag := ⟨⟨L, hM5, HBF.out, HL0.out, H12.out.1, H12.out.2, rfl, fun h => ⟨HQ.out h, fun c hc j e hj => by omega⟩⟩, Kept.refl _ _⟩
          obtain ⟨lx, hlx⟩ : ∃ z, L x = z := ⟨_, rfl⟩
          rw [hlx] at hst
          have hTh := Hth.out
          have hCd := Hcd.out
          rw [hlx] at hTh hCd
          have HTh := Lib.hid hTh
          have HCd := Lib.hid hCd
          obtain ⟨ne, hne⟩ : ∃ n, es.length = n := ⟨_, rfl⟩
          rw [hne] at esl ⊢
          have Hne := Lib.hid hne
          have HEd := Lib.hid hEd
          have HA5 : Hid (∀ ad, A5 = some ad → ad.block ∉ [mb2]) := Lib.hid fun ad e => by
            have h1 := hA5 ad e
            have h2 := HWc.size
            have h3 := Hbx.out
            simp; omega
          have hbx5 : bx < w5.heap.size := World.block_lt_of_cell? _ _ b0
          have HB0 := Lib.hid (And.intro b0 b1)
          clear hM5 HBF HL0 H12 HQ HM hTh hCd hlx hne hEd hA5 Hth Hcd cE b0 b1 HB5 hb5 HWc hE hix
          go_wp2_with fail
          obtain ⟨wz, rfl⟩ : ∃ wz : World, wz = wr := ⟨_, rfl⟩
          go_loopw [12, 18] (fun sv kv wr => ∃ (ag : Bool) (k : Nat), sv = .bool ag ∧ kv = .int .i64 k ∧ k ≤ ne ∧ SgI W3 w5 wr g mb2 fr mm lx x i es k ag) (fun _ kv _ => ne - (intOf kv).toNat)
          case atStart => exact ⟨ag, 0, rfl, rfl, by omega, hst⟩
          case round =>
            obtain ⟨ag, k, rfl, rfl, hk, ⟨L', hM, hBF, hL0, hm1, hm2, hP, hQ⟩, hKw⟩ := hrel
            clear hst
            have hexit : (k = ne ∨ th = false) → SpO W3 wr g mb2 fr mm (fun _ => True) (fun L'' => ∀ i', i' < i + 1 → G.Calm g L'' (cf g i')) ag := by
              intro hor
              refine ⟨L', hM, hBF, hL0, hm1, hm2, trivial, fun hag i' hi' => ?_⟩
              by_cases e1 : i' < i
              · exact (hQ hag).1 i' e1
              · obtain rfl : i' = i := by omega
                rw [Hx.out]
                rcases hor with rfl | hf
                · have := (hQ hag).2
                  rw [← Hne.out] at this
                  exact rlx_calm Hes.out this
                · intro c b e hc
                  have h1 := HTh.out
                  rw [hf, ← hP, hc] at h1
                  cases h1
            have Hexit := Lib.hid hexit
            have HM := Lib.hid hM
            have HBF := Lib.hid hBF
            have HL0 := Lib.hid hL0
            have H12 := Lib.hid (And.intro hm1 hm2)
            have HP := Lib.hid hP
            have HQ := Lib.hid hQ
            have HKw := Lib.hid hKw
            clear hexit hM hBF hL0 hm1 hm2 hP hQ hKw
            by_cases hkn : k < ne
            · cases th with
              | false =>
                have hF := Lib.hid (Hexit.out (.inr rfl))
                clear Hexit
                go_wp2
                go_roundw
                case rel => first | exact ⟨ag, i + 1, rfl, by go_num, by omega, hF.out⟩ | ((repeat apply Exists.intro); exact ⟨⟨ag, i + 1, rfl, by go_num, by omega, hF.out⟩, rfl⟩)
                case measure => simp [intOf]; omega
              | true =>
                clear Hexit
                have hlx : lx = some ⟨cs, cd⟩ := by
                  have h1 := HTh.out
                  cases hl : lx with
                  | none => rw [hl] at h1; cases h1
                  | some c => rw [HCd.out c hl]
                subst hlx
                have hLx := HP.out
                have hin : inC cs ∧ inC cd := by
                  rcases Hin.out with q | q
                  · exact q
                  · cases q
                obtain ⟨ek, hek⟩ : ∃ e, es[k]? = some e := ⟨es[k]'(by rw [Hne.out]; exact hkn), List.getElem?_eq_getElem _⟩
                obtain ⟨y, hyc, hyx, _, hyd, hey⟩ := (Hes.out ek).1 (List.mem_of_getElem? hek)
                obtain ⟨⟨os, od⟩, ho⟩ : ∃ z, g.oct x y = z := ⟨_, rfl⟩
                rw [ho] at hey
                subst hey
                have hos := G.ge_small Hok.out (show g.GE x y ⟨os, od⟩ from ⟨hxc, hyc, Ne.symm hyx, hyd, ho.symm⟩)
                obtain ⟨hos1, hos2, hos3, hos4, hos5⟩ := hos
                simp only at hos2 hos3 hos4 hos5
                have Hge : Hid (g.GE x y ⟨os, od⟩) := Lib.hid ⟨hxc, hyc, Ne.symm hyx, hyd, ho.symm⟩
                have hEr := HEd.out.kept HKw.out HA5.out
                obtain ⟨gb, hA, a1, a2, a3, a4⟩ := hEr.get hek
                have hix := fun wx => idxE (m := m5) hA hkn wx
                simp only at a1 a2 a3 a4
                have hbxr := keptc HKw.out (by simp; omega : bx ∉ [mb2]) HB0.out.1
                have hbxr1 := keptc HKw.out (by simp; omega : bx ∉ [mb2]) HB0.out.2
                have Hek := Lib.hid hek
                have Ho := Lib.hid ho
                have Hos1 := Lib.hid hos1
                have HLx := Lib.hid hLx
                have Hin2 := Lib.hid hin
                have cP := Lib.hid (fun w => refPlus cs cd os od w hin.1 hin.2 (by unfold inC; omega) (by unfold inC; omega))
                clear hA hek ho hos1 hLx hin hEr
                go_upto_region 16 with (fail)
                have hwz : mb2 < wr.heap.size := HM.out.1.lt
                have lbx : bx < wr.heap.size := World.block_lt_of_cell? _ _ hbxr
                have lgb : gb < wr.heap.size := World.block_lt_of_cell? _ _ a1
                have n1 := World.new_ne wr _ hbxr
                have n2 := World.new_ne wr _ a2
                have k1a := fun o => alloc_some (o := o) hbxr
                have k2a := fun o => alloc_some (o := o) hbxr1
                have k3a := fun o => alloc_some (o := o) a2
                have k4a := fun o => alloc_some (o := o) a3
                go_cut [19] (fun s wx => ∃ D, s = .pointer (some ⟨D, 0, none⟩) ∧ wr.heap.size ≤ D ∧ wx.cell? ⟨D, 0, none⟩ = some (.int .i64 (cs + os)) ∧ wx.cell? ⟨D, 1, none⟩ = some (.int .i64 (cd + od)) ∧ Below wr.heap.size wr wx)
                case first =>
                  go_region_held3 (fun w' => w'.cell? ⟨bx, 0, none⟩ = some (.int .i64 cs) ∧ w'.cell? ⟨bx, 1, none⟩ = some (.int .i64 cd) ∧ w'.cell? ⟨gb, k * 4 + 1, none⟩ = some (.int .i64 os) ∧ w'.cell? ⟨gb, k * 4 + 2, none⟩ = some (.int .i64 od))
                    (first
                      | (go_keep; done)
                      | (go_split_ands
                         exact ⟨bel_cell hbP (by assumption), bel_cell hbP (by assumption), bel_cell hbP (by assumption), bel_cell hbP (by assumption)⟩)
                      | (go_split_ands
                         exact ⟨alloc_swap (by have := hbP.size; simp; simp at this; omega) (by assumption), alloc_swap (by have := hbP.size; simp; simp at this; omega) (by assumption), alloc_swap (by have := hbP.size; simp; simp at this; omega) (by assumption), alloc_swap (by have := hbP.size; simp; simp at this; omega) (by assumption)⟩)
                      | (go_split_ands
                         refine ⟨?_, ?_, ?_, ?_⟩ <;> (go_keep; done)))
                    (first
                      | (go_at_call 31
                         refine (cP.out _).mono ?_
                         rintro e wP ⟨rfl, hbP⟩
                         obtain ⟨hcP, hfP⟩ := bcell hbP))
                  · have HbP := Lib.hid hbP
                    clear hcP hfP hbP k1a k2a k3a k4a
                    go_wp2
                    go_meet
                    case rel => exact ⟨_, rfl, HbP.out.size, by go_simp, by go_simp, bel_alloc (bel_trans (bel_drew (Below.refl _ _)) HbP.out)⟩
                  · have HbP := Lib.hid hbP
                    have q1 : wP.cell? ⟨wr.heap.size, 0, none⟩ = some (.int .i64 0) := bel_cell hbP (by go_simp)
                    have q2 : wP.cell? ⟨wr.heap.size, 1, none⟩ = some (.int .i64 0) := bel_cell hbP (by go_simp)
                    have Q := Lib.hid (two_set (x := .int .i64 (cs + os)) (y := .int .i64 (cd + od)) q1 q2)
                    clear hcP hfP hbP q1 q2 k1a k2a k3a k4a
                    go_wp2
                    go_meet
                    case rel => exact ⟨_, rfl, Nat.le_refl _, Q.out.1, Q.out.2, ((bel_trans (bel_drew (bel_alloc (Below.refl _ _))) HbP.out).setCell (by simp) _).setCell (by simp) _⟩
                case rest =>
                  obtain ⟨D, rfl, hDw, hD0, hD1, hbc⟩ := hcut
                  have HMc := Lib.hid (HM.out.below hbc)
                  have HKc := Lib.hid (HKw.out.trans (Kept.of_below (S := [mb2]) hbc))
                  have a1 := bel_cell hbc a1
                  have lD := World.block_lt_of_cell? _ _ hD0
                  obtain ⟨ws, wd, tb, htb, hwd, hlk2⟩ := look_lab HMc.out y
                  have hlk2 := hlk2 wc (Below.refl _ _)
                  have Htb := Lib.hid htb
                  have Hwd := Lib.hid hwd
                  have hwin : inC ws ∧ inC wd ∨ tb = false := by
                    cases hL : L' y with
                    | none => right; rw [htb, hL]; rfl
                    | some c =>
                      left
                      have h := HBF.out.small hL
                      rw [hwd c hL] at h
                      simp only at h
                      unfold inC
                      omega
                  have Hwin := Lib.hid hwin
                  have hcin : inC (cs + os) ∧ inC (cd + od) := by
                    have h := HBF.out.small HLx.out
                    simp only at h
                    unfold inC
                    omega
                  have Hcin := Lib.hid hcin
                  clear hbc hbxr hbxr1 n1 n2 k1a k2a k3a k4a a2 a3 a4 cP htb hwd hwin hcin HM HKw
                  go_upto_region 18 with (fail)
                  refine wp_name ?_
                  intro Wq hWq
                  have HWq : Below wc.heap.size wc Wq := by rw [hWq]; (repeat' (first | exact Below.refl _ _ | assumption | apply bel_drewN | apply bel_drew | apply bel_alloc | (refine bel_trans ?_ (by assumption))))
                  have q0 : Wq.cell? ⟨wc.heap.size, 0, none⟩ = some (.int .i64 ws) := by rw [hWq]; go_simp
                  have q1 : Wq.cell? ⟨wc.heap.size, 1, none⟩ = some (.int .i64 wd) := by rw [hWq]; go_simp
                  have hD0 := bel_cell HWq hD0
                  have hD1 := bel_cell HWq hD1
                  have a1 := bel_cell HWq a1
                  have HMq := Lib.hid (HMc.out.below HWq)
                  have HKq := Lib.hid (HKc.out.trans (Kept.of_below (S := [mb2]) HWq))
                  obtain ⟨bq, hbq⟩ : ∃ z, wc.heap.size = z := ⟨_, rfl⟩
                  rw [hbq] at q0 q1 ⊢
                  obtain ⟨t, ht⟩ : ∃ t, (!tb || decide (C.cmp ⟨cs + os, cd + od⟩ ⟨ws, wd⟩ < 0)) = t := ⟨_, rfl⟩
                  have Ht := Lib.hid ht
                  clear hWq HWq HMc HKc hlk2 hbq ht
                  go_cut [95] (fun s wx => s = .bool t ∧ Below Wq.heap.size Wq wx)
                  case first =>
                    cases tb with
                    | false =>
                      have ht : t = true := by rw [← Ht.out]; rfl
                      subst ht
                      go_wp2
                      go_meet
                      case rel => exact ⟨rfl, by (repeat' (first | exact Below.refl _ _ | assumption | apply bel_drewN | apply bel_drew | apply bel_alloc | (refine bel_trans ?_ (by assumption))))⟩
                    | true =>
                      have hix := Hwin.out.resolve_right (fun h => by cases h)
                      have cC := refCompare (cs + os) (cd + od) ws wd
                      obtain ⟨cv, hcv⟩ : ∃ cv, C.cmp ⟨cs + os, cd + od⟩ ⟨ws, wd⟩ = cv := ⟨_, rfl⟩
                      have ht : t = decide (cv < 0) := by rw [← Ht.out, hcv]; rfl
                      rw [hcv] at cC
                      have cC := Lib.hid (fun w => cC w Hcin.out.1 Hcin.out.2 hix.1 hix.2)
                      have Ht2 := Lib.hid ht
                      clear hcv hix ht
                      go_wp2_with fail
                      (with_reducible refine (cC.out _).mono ?_)
                      rintro e w8 ⟨rfl, hb8⟩
                      go_wp2
                      go_meet
                      case rel => exact ⟨by rw [Ht2.out], hb8⟩
                  case rest =>
                    obtain ⟨rfl, hbe⟩ := hcut
                    have hM6 := HMq.out.below hbe
                    have hK6 := HKq.out.trans (Kept.of_below (S := [mb2]) hbe)
                    have hD0 := bel_cell hbe hD0
                    have hD1 := bel_cell hbe hD1
                    have a1 := bel_cell hbe a1
                    clear q0 q1 hbe
                    cases t with
                    | false =>
                      have hno : ∃ d, L' y = some d ∧ C.le d (C.add ⟨cs, cd⟩ ⟨os, od⟩) := by
                        have h := Ht.out
                        cases htb : tb with
                        | false => rw [htb] at h; cases h
                        | true =>
                          have h1 := Htb.out
                          rw [htb] at h1 h
                          cases hL : L' y with
                          | none => rw [hL] at h1; cases h1
                          | some d =>
                            refine ⟨d, rfl, ?_⟩
                            rw [Hwd.out d hL]
                            intro hlt
                            have := C.cmp_neg.2 hlt
                            simp at h
                            unfold C.add at this
                            simp only at this
                            omega
                      have hF : SgI W3 w5 wc g mb2 fr mm (some ⟨cs, cd⟩) x i es (k + 1) ag := by
                        refine ⟨⟨L', hM6, HBF.out, HL0.out, H12.out.1, H12.out.2, HLx.out, fun hag => ⟨(HQ.out hag).1, ?_⟩⟩, hK6⟩
                        refine rlx_step (HQ.out hag).2 Hek.out rfl (fun c hc => ?_)
                        rw [HLx.out] at hc
                        injection hc with hc
                        subst hc
                        exact hno
                      have hF := Lib.hid hF
                      clear hno hM6 hK6 hD0 hD1 a1
                      go_wp2
                      go_roundw
                      case rel => first | exact ⟨ag, k + 1, rfl, by go_num, by omega, hF.out⟩ | ((repeat apply Exists.intro); exact ⟨⟨ag, k + 1, rfl, by go_num, by omega, hF.out⟩, rfl⟩)
                      case measure => simp [intOf]; omega
                    | true =>
                      have hlt : ∀ d, L' y = some d → C.lt (C.add ⟨cs, cd⟩ ⟨os, od⟩) d := by
                        intro d hL
                        have h := Ht.out
                        have h1 := Htb.out
                        rw [hL] at h1
                        have e1 : tb = true := h1
                        rw [e1] at h
                        simp at h
                        rw [Hwd.out d hL]
                        exact C.cmp_neg.1 (by unfold C.add; exact h)
                      have Hlt := Lib.hid hlt
                      have HM6 := Lib.hid hM6
                      have HK6 := Lib.hid hK6
                      clear hlt hM6 hK6
                      go_upto_region 19 with (fail)
                      go_still_tail 7, (by kernel_rfl)
                      change wpList _ _ _ _ _ wc.drew
                      refine wpList_storeM rfl _ _ _ rfl (int_fit Try.underlying3) Try.underlying84 (w := wc.drew) (n := cntS L' g.n) (m := labM L') (b := mb2) HM6.out.1 rfl (y : Int) rfl (cV ⟨cs + os, cd + od⟩) rfl ?_
                      intro w9 hM9 hk9
                      have hk9 : Kept [mb2] wc w9 := ⟨hk9.os, hk9.tape, hk9.output, hk9.size, hk9.block⟩
                      have hF : SgI W3 w5 w9 g mb2 fr mm (some ⟨cs, cd⟩) x i es (k + 1) true :=
                        ⟨spO_low Hok.out HM6.out HBF.out HL0.out H12.out.1 HLx.out Hge.out Hlt.out (by rw [upd_ne _ _ (Ne.symm hyx)]; exact HLx.out) hM9 hk9, HK6.out.trans hk9⟩
                      have hF := Lib.hid hF
                      clear hM9 hk9 hD0 hD1 a1
                      go_wp2
                      go_roundw
                      case rel => first | exact ⟨true, k + 1, rfl, by go_num, by omega, hF.out⟩ | ((repeat apply Exists.intro); exact ⟨⟨true, k + 1, rfl, by go_num, by omega, hF.out⟩, rfl⟩)
                      case measure => simp [intOf]; omega
            · obtain rfl : k = ne := by omega
              have hF := Lib.hid (Hexit.out (.inl rfl))
              clear Hexit
              go_wp2
              go_roundw
              case rel => first | exact ⟨ag, i + 1, rfl, by go_num, by omega, hF.out⟩ | ((repeat apply Exists.intro); exact ⟨⟨ag, i + 1, rfl, by go_num, by omega, hF.out⟩, rfl⟩)
              case measure => simp [intOf]; omega
        · obtain rfl : i = n := by omega
          have hA : SpA W3 wr g mb2 fr (2 * bfM g L + (if ag then 1 else 0)) (.bool ag) :=
            ⟨ag, L, rfl, hM, hBF, hL0, rfl, fun hag a ha => by
              obtain ⟨j, hj, rfl⟩ := cf_has ha
              exact hQ hag j (by rw [Hn.out] at hj; exact hj)⟩
          have hA := Lib.hid hA
          have hlt2 : 2 * bfM g L + (if ag then 1 else 0) < gk := by
            rw [hgk']
            cases ag with
            | true => have := hm2 rfl; simp only [if_true]; omega
            | false => simp; omega
          have Hlt2 := Lib.hid hlt2
          obtain ⟨gk2, hgk2⟩ : ∃ z, 2 * bfM g L + (if ag then 1 else 0) = z := ⟨_, rfl⟩
          rw [hgk2] at hA Hlt2
          clear hM hBF hL0 hm1 hm2 hQ hgk2 hlt2
          go_wp2
          go_roundg gk2
          case measure => exact Hlt2.out
          case rel => exact hA.out
    | false =>
      have hend : ∀ x, g.Corner x → (∀ d, L x = some d → ia x = true ∧ fa x = d) ∧ (L x = none → ia x = false) := by
        intro x hx
        obtain ⟨e1, e2⟩ := G.span_end hBF hL0 (hst rfl) hfr hx
        refine ⟨fun d hd => ?_, fun hn => ?_⟩
        · have hD := e1 d hd
          cases hi : ia x with
          | false => exact absurd hD.1 ((HFa.out x).2 hi d)
          | true => exact ⟨rfl, Dist.unique ((HFa.out x).1 hi).1 hD⟩
        · cases hi : ia x with
          | false => rfl
          | true => exact absurd ((HFa.out x).1 hi).1.1 (e2 hn (fa x))
      have Hend := Lib.hid hend
      have hcnt : cntS L g.n ≤ n := by
        have h1 : cntS L g.n ≤ cntN (cornerB g) g.n := by
          refine G.cntN_mono _ (fun k hk h => ?_)
          refine (corner_iff' hk).2 (G.span_corner hfr hBF (t := k) ?_)
          intro h0
          rw [h0] at h
          cases h
        have h2 : cntN (cornerB g) g.n = n := by
          rw [G.cntN_filter, ← Hn.out]
          unfold cornersI upTo
          rw [List.length_map]
        omega
      have HM := Lib.hid hM
      have hB9 := Lib.hid ((hM.2.block b9 (by have := (Array.getElem?_eq_some_iff.1 hA1.out).1; exact this) (by simp; omega)).trans hA1.out)
      have hB10 := Lib.hid ((hM.2.block b10 (by have := (Array.getElem?_eq_some_iff.1 hA2.out).1; exact this) (by simp; omega)).trans hA2.out)
      have HIr := Lib.hid (HI3.out.kept hM.2 (fun ad e => by
        by_cases h0 : 0 < n
        · have := HAl.out ad e h0
          simp; omega
        · exfalso
          have hc := cf_has hfr
          obtain ⟨j, hj, _⟩ := hc
          rw [Hn.out] at hj
          omega))
      have hlen := hM.1.len Try.underlying84 3
      obtain ⟨cN, hcN⟩ : ∃ z, cntS L g.n = z := ⟨_, rfl⟩
      rw [hcN] at hlen hcnt
      have HcN := Lib.hid hcN
      have hlenH := fun w' (hb : Below wr.heap.size wr w') => (hM.1.below hb).len Try.underlying84 3
      rw [hcN] at hlenH
      have HlenH := Lib.hid hlenH
      clear hend hM hBF hL0 hgk hst hcN hlen hlenH
      go_wp2_with fail
      obtain ⟨wo, rfl⟩ : ∃ wo : World, wo = wr := ⟨_, rfl⟩
      go_loopw [22] (fun kv wr => ∃ i : Nat, kv = .int .i64 i ∧ i ≤ n ∧ Below wo.heap.size wo wr) (fun kv _ => n - (intOf kv).toNat)
      case atStart => exact ⟨0, rfl, by omega, Below.refl _ _⟩
      case round =>
        obtain ⟨i, rfl, hi, hB⟩ := hrel
        by_cases hlt : i < n
        · have hIr := HIr.out.below hB
          obtain ⟨ad, hA⟩ := hIr.addr (by omega)
          rw [hA] at hIr
          have hix := fun wx => idx_run (m := m) hA hlt wx
          have hE := hIr.cell (Below.refl _ _) hlt
          rw [(cf_at (by rw [Hn.out]; exact hlt)).1] at hE
          obtain ⟨x, hx⟩ : ∃ x, cf g i = x := ⟨_, rfl⟩
          have hxc : g.Corner x := by rw [← hx]; exact (cf_at (by rw [Hn.out]; exact hlt)).2
          rw [hx] at hE
          have hxn : x < 256 := by have := hxc.1; omega
          obtain ⟨cs, cd, th, hth, hcd, hlk⟩ := look_lab (HM.out.below hB) x
          have hlk := hlk wr (Below.refl _ _)
          have hb9 := (hB.block b9 (Array.getElem?_eq_some_iff.1 hB9.out).1)
          have hb10 := (hB.block b10 (Array.getElem?_eq_some_iff.1 hB10.out).1)
          have hi1 := spB hB10.out hb10 hxn
          obtain ⟨hc1, hc2⟩ := spC hB9.out hb9 hxn
          have hie : ia x = th := by
            rw [hth]
            cases hL : L x with
            | none => exact (Hend.out x hxc).2 hL
            | some d => exact ((Hend.out x hxc).1 d hL).1
          have hfe : th = true → (fa x).s = cs ∧ (fa x).d = cd := by
            intro h
            rw [hth] at h
            cases hL : L x with
            | none => rw [hL] at h; cases h
            | some d => rw [((Hend.out x hxc).1 d hL).2, hcd d hL]; exact ⟨rfl, rfl⟩
          rw [hie] at hi1
          obtain ⟨u1, hu1⟩ : ∃ z, (fa x).s = z := ⟨_, rfl⟩
          obtain ⟨u2, hu2⟩ : ∃ z, (fa x).d = z := ⟨_, rfl⟩
          rw [hu1] at hc1 hfe
          rw [hu2] at hc2 hfe
          have Hfe := Lib.hid hfe
          have hxq : (x : Int) < 256 := by omega
          clear hIr hA hx hth hcd hb9 hb10 hie hfe hu1 hu2
          go_upto_region 25 with (fail)
          refine wp_name ?_
          intro Wq hWq
          have HWq : Below wr.heap.size wr Wq := by rw [hWq]; (repeat' (first | exact Below.refl _ _ | assumption | apply bel_drewN | apply bel_drew | apply bel_alloc | (refine bel_trans ?_ (by assumption))))
          have q0 : Wq.cell? ⟨wr.heap.size, 0, none⟩ = some (.int .i64 cs) := by rw [hWq]; go_simp
          have q1 : Wq.cell? ⟨wr.heap.size, 1, none⟩ = some (.int .i64 cd) := by rw [hWq]; go_simp
          have hi1 := bel_cell HWq hi1
          have hc1 := bel_cell HWq hc1
          have hc2 := bel_cell HWq hc2
          have hE := bel_cell HWq hE
          have HBq := bel_trans hB HWq
          obtain ⟨bq, hbq⟩ : ∃ z, wr.heap.size = z := ⟨_, rfl⟩
          rw [hbq] at q0 q1 ⊢
          clear hWq HWq hlk hbq hB
          cases th with
          | false =>
            go_quiet (fail)
            go_wp2
            first
              | exact ⟨⟨i + 1, by go_num, by omega, bel_drewN HBq⟩, by simp [intOf]; omega⟩
              | (go_roundw; (case rel => exact ⟨i + 1, by go_num, by omega, bel_drewN HBq⟩); (case measure => simp [intOf]; omega))
          | true =>
            obtain ⟨e1, e2⟩ := Hfe.out rfl
            subst e1
            subst e2
            go_quiet (fail)
            go_wp2
            first
              | exact ⟨⟨i + 1, by go_num, by omega, bel_drewN HBq⟩, by simp [intOf]; omega⟩
              | (go_roundw; (case rel => exact ⟨i + 1, by go_num, by omega, bel_drewN HBq⟩); (case measure => simp [intOf]; omega))
        · obtain rfl : i = n := by omega
          have hlen := HlenH.out _ hB
          have HBE : Below w.heap.size w wr := Kept.below HB3 (HM.out.2.trans (Kept.of_below hB)) HB3.size (by simp; omega)
          clear hB
          go_wp2
          go_ret
          exact ⟨rfl, HBE⟩
end Go.Proofs.Ytjejkadaafmdcaa
