/- Lemmas of this claim: RTx3. -/
import Derived.Test.YtjejkadaafmdcaaDoorTxParse
import Derived.Test.YtjejkadaafmdcaaDoorBase
import Derived.Test.YtjejkadaafmdcaaDoorKTextSays7
set_option linter.unusedVariables false
set_option linter.unusedSimpArgs false
/- The document's lines of a text. -/
namespace Go.Proofs.YtjejkadaafmdcaaDoor
open Go.RowKit Go.Sort FR
/-- slice v owns its cells (from block B on), and they are the texts zs -/
def OwnT (w : World) (B : Nat) (v : Value) (zs : List (List UInt8)) : Prop := w.ownsRow B 9 1 v zs.length (zs.map fun l => Value.string (bs l))
theorem OwnT.nil (w : World) (B : Nat) : OwnT w B (.slice none 0 0) [] := ⟨rfl, .inl ⟨rfl, rfl⟩⟩
theorem OwnT.alloc {w : World} {B : Nat} {v : Value} {zs : List (List UInt8)} (h : OwnT w B v zs) (o : Obj) : OwnT (w.alloc o) B v zs := World.ownsRow.alloc h o
/-- the slice's cells are the texts -/
def Strs (w : World) (A : Option Addr) (zs : List (List UInt8)) : Prop := 0 < zs.length → ∃ ad, A = some ad ∧ ad.block < w.heap.size ∧ ∀ k z, zs[k]? = some z → w.cell? (ad.add k) = some (.string (bs z))
theorem Strs.below {w w' : World} {A : Option Addr} {zs : List (List UInt8)} (h : Strs w A zs) (hb : Below w.heap.size w w') : Strs w' A zs := fun hn => by
  obtain ⟨ad, h1, h2, h3⟩ := h hn
  exact ⟨ad, h1, Nat.lt_of_lt_of_le h2 hb.size, fun k z hz => (hb.cell (p := ad.add k) (by rw [add_block]; exact h2)).trans (h3 k z hz)⟩
theorem OwnT.strs {w : World} {B : Nat} {v : Value} {zs : List (List UInt8)} (h : OwnT w B v zs) : ∃ A m, v = .slice A zs.length m ∧ Strs w A zs := by
  rcases h.2 with ⟨rfl, hn⟩ | ⟨g, cap, cur, rfl, hg, hh, hc, hm, hs, ht⟩
  · rw [hn]; exact ⟨none, 0, rfl, fun h => absurd h (by omega)⟩
  · refine ⟨_, cap, rfl, fun _ => ⟨⟨g, 0, none⟩, rfl, (Array.getElem?_eq_some_iff.1 hh).1, fun k z hz => ?_⟩⟩
    refine World.ownsRow.cells h (g := g) rfl k _ ?_
    rw [List.getElem?_map, hz]
    rfl
theorem str_info : (Tryd.prog.info? 9).map (fun i => (i.zero, i.size, i.bytes)) = some (some (.string ⟨#[]⟩), 1, 16) := by kernel_rfl
theorem wpList_append_str {ops : Array Oper} {rest : List Oper} {o : Oper} {a : Act} {Q : Exit → Act → World → Prop} (w : World) (hgd : o.guard = none) (s x : Operand)
    (ho : o.op = .call { callee := .builtin .append, args := #[s, x], argTypes := #[72, 72] })
    (B : Nat) (v : Value) (zs : List (List UInt8)) (z : List UInt8) (hs : a.eval s = v) (hown : OwnT w B v zs) (ad : Addr) (hx : a.eval x = .slice (some ad) 1 1) (hc : w.cell? ad = some (.string (bs z)))
    (hl : zs.length < 1099511627776) (hB : B ≤ w.heap.size)
    (h : ∀ v' w', OwnT w' B v' (zs ++ [z]) → w.grownBy w' v.ownBlock → wpList Tryd.prog ops Q rest (a.put o.dst v') w') : wpList Tryd.prog ops Q (o :: rest) a w := by
  obtain ⟨i0, hi, hz0, hz1, hz2⟩ := info_parts str_info
  refine wpList_append_own w hgd s x 72 ho B 9 i0 (.string ⟨#[]⟩) 1 16 Tryd.underlying72 hi hz0 hz1 hz2 rfl (by decide) v zs.length (zs.map fun l => Value.string (bs l)) hs hown ad 1 1 [.string (bs z)] hx rfl ?_ ?_ ?_ ?_ hB ?_
  · intro j u hu
    cases j with
    | zero => simp at hu; subst hu; simpa [Addr.add] using hc
    | succ j => simp at hu
  · intro u hu; simp at hu; subst hu; rfl
  · unfold maxLen; omega
  · omega
  · intro v' w' h1 h2 _
    refine h v' w' ?_ h2
    unfold OwnT
    simpa using h1
theorem below_grownT {B : Nat} {W w w' : World} {v : Value} {zs : List (List UInt8)} (hB : Below B W w) (hs : B ≤ w.heap.size) (h : OwnT w B v zs) (hg : w.grownBy w' v.ownBlock) : Below B W w' :=
  hB.grown hg hs (fun k hk => (World.ownsRow.lt h k hk).1)
/-- the lines are handed back, and what is behind the last end -/
def RetTs (w : World) (zs : List (List UInt8)) (r : List UInt8) (e : Ending) (w' : World) : Prop := ∃ A m, e = .returned (.tuple #[.slice A zs.length m, .string (bs r)]) ∧ Strs w' A zs ∧ Below w.heap.size w w'
theorem slc_mid {l r : List UInt8} {a b : Nat} (hab : a ≤ b) (hb : b ≤ l.length) (h : (l.drop a).take (b - a) = r) (wx : World) : (Instr.slice 9 (.string (bs l)) (some (.int .i64 (a : Nat))) (some (.int .i64 (b : Nat))) none).run Tryd.prog wx = .ok (.string (bs r)) wx := by
  rw [run_slice_string wx 9 (bs l) .i64 .i64 (a : Nat) (b : Nat) Tryd.underlying9 (by omega) (by omega) (by rw [bs_size]; omega), Int.toNat_natCast, Int.toNat_natCast, ByteArray.extract_mk, h]
theorem slc_from {l r : List UInt8} {a : Nat} (ha : a ≤ l.length) (h : l.drop a = r) (wx : World) : (Instr.slice 9 (.string (bs l)) (some (.int .i64 (a : Nat))) none none).run Tryd.prog wx = .ok (.string (bs r)) wx := by
  rw [run_slice_string_from_if wx 9 (bs l) .i64 (a : Nat) Tryd.underlying9, if_pos ⟨by omega, by rw [bs_size]; omega⟩, Int.toNat_natCast, ByteArray.extract_mk, bs_size, List.take_of_length_le (by simp), h]
theorem slc_to {l r : List UInt8} {b : Nat} (hb : b ≤ l.length) (h : l.take b = r) (wx : World) : (Instr.slice 9 (.string (bs l)) none (some (.int .i64 (b : Nat))) none).run Tryd.prog wx = .ok (.string (bs r)) wx := by
  rw [run_slice_string_to_if wx 9 (bs l) .i64 (b : Nat) Tryd.underlying9, if_pos ⟨by omega, by rw [bs_size]; omega⟩, Int.toNat_natCast, ByteArray.extract_mk]
  simp [h]
/-- behind k bytes -/
def LinesR (l : List UInt8) (k fr : Nat) (L : List (List UInt8)) (r : List UInt8) : Prop := fr ≤ k ∧ lnsF ([], []) (l.take k) = (L, r) ∧ (l.drop fr).take (k - fr) = r
theorem LinesR.next {l : List UInt8} {k fr : Nat} {L : List (List UInt8)} {r : List UInt8} (h : LinesR l k fr L r) (hk : k < l.length) : lnsF ([], []) (l.take (k + 1)) = lnsS (L, r) (l.getD k 0) := by
  have e : l.take (k + 1) = l.take k ++ [l.getD k 0] := by
    rw [List.take_add_one, List.getElem?_eq_getElem hk, List.getD_eq_getElem?_getD, List.getElem?_eq_getElem hk]
    rfl
  rw [e, lnsF_more, h.2.1]
  rfl
theorem LinesR.end {l : List UInt8} {k fr : Nat} {L : List (List UInt8)} {r : List UInt8} (h : LinesR l k fr L r) (hk : k < l.length) (hc : l.getD k 0 = 10) : LinesR l (k + 1) (k + 1) (L ++ [r]) [] := by
  refine ⟨Nat.le_refl _, ?_, by simp⟩
  rw [h.next hk, hc]
  rfl
theorem LinesR.on {l : List UInt8} {k fr : Nat} {L : List (List UInt8)} {r : List UInt8} (h : LinesR l k fr L r) (hk : k < l.length) (hc : l.getD k 0 ≠ 10) : LinesR l (k + 1) fr L (r ++ [l.getD k 0]) := by
  refine ⟨by have := h.1; omega, ?_, ?_⟩
  · rw [h.next hk]; unfold lnsS; rw [if_neg hc]
  · have h1 := h.1
    have e : k + 1 - fr = (k - fr) + 1 := by omega
    rw [e, List.take_add_one, h.2.2, List.getElem?_drop, show fr + (k - fr) = k by omega, List.getElem?_eq_getElem hk, List.getD_eq_getElem?_getD, List.getElem?_eq_getElem hk]
    rfl
theorem LinesR.few {l : List UInt8} {k fr : Nat} {L : List (List UInt8)} {r : List UInt8} (h : LinesR l k fr L r) : L.length ≤ k := by
  have := lns_len (l.take k) ([], [])
  rw [h.2.1] at this
  have : (l.take k).length ≤ k := by simp; omega
  simp only [List.length_nil] at *
  omega
set_option maxRecDepth 100000 in
set_option maxHeartbeats 1000000 in
theorem rLines (l : List UInt8) (hl : l.length ≤ 1000) (w : World) :
    Calls Tryd.prog 31 #[.string (bs l)] w (RetTs w (lns l).1 (lns l).2) := by
  have hw0 := Below.refl w.heap.size w
  go_enter Tryd.func31, Tryd.ntmps31
  go_wp2_with fail
  go_loopw [4, 5, 6] (fun v f i wr => ∃ (k fr : Nat) (L : List (List UInt8)) (r : List UInt8), k ≤ l.length ∧ i = .int .i64 (k : Nat) ∧ f = .int .i64 (fr : Nat) ∧ LinesR l k fr L r ∧ OwnT wr w.heap.size v L ∧ Below w.heap.size w wr) (fun _ _ i _ => l.length - (intOf i).toNat)
  case atStart => exact ⟨0, 0, [], [], by omega, rfl, rfl, ⟨by omega, by simp [lnsF], by simp⟩, OwnT.nil _ _, hw0⟩
  case round =>
    clear hw0
    obtain ⟨k, fr, L, r, hk, rfl, rfl, hR, hown, HB⟩ := hrel
    have hfr := hR.1
    have hfew := hR.few
    have hsz := HB.size
    by_cases hlt : k < l.length
    · have q : (k : Int) < l.length := by omega
      obtain ⟨n, hn⟩ : ∃ n : Nat, (l.getD k 0).toNat = n := ⟨_, rfl⟩
      have hidx := str_idx hlt hn
      have hsl := slc_mid hfr hk hR.2.2
      replace hn := Lib.hid hn
      by_cases h10 : n = 10
      · subst h10
        have hR' := Lib.hid (hR.end hlt (UInt8.toNat_inj.1 hn.out))
        clear hR hn
        go_wp2_with (at_builtin; (refine wpList_append_str _ rfl _ _ rfl w.heap.size _ _ r rfl (hown.alloc _) ⟨wr.heap.size, 0, none⟩ rfl (cell1_new _ _ _) (by omega) (by simp; omega) ?_); intro v' w3 hown3 hgrow)
        have HB3 := below_grownT (HB.alloc (by omega) _) (by simp; omega) (hown.alloc _) hgrow
        go_wp2_with fail
        go_roundw
        case rel => exact ⟨k + 1, k + 1, L ++ [r], [], by omega, by go_num, by go_num, hR'.out, hown3, HB3⟩
        case measure => simp [intOf]; omega
      · have hR' := Lib.hid (hR.on hlt (fun e => h10 (by rw [← hn.out, e]; rfl)))
        have q10 : (n : Int) ≠ 10 := by omega
        clear hR hn
        go_wp2_with fail
        go_roundw
        case rel => exact ⟨k + 1, fr, L, _, by omega, by go_num, rfl, hR'.out, hown, HB⟩
        case measure => simp [intOf]; omega
    · obtain rfl : k = l.length := by omega
      have h1 : lns l = (L, r) := by
        have := hR.2.1
        rwa [List.take_length] at this
      have h2 : l.drop fr = r := by
        have := hR.2.2
        rwa [List.take_of_length_le (by simp)] at this
      have hsf := slc_from (by omega) h2
      replace h1 := Lib.hid h1
      clear hR h2
      obtain ⟨A, m, rfl, hS⟩ := hown.strs
      go_wp2_with fail
      refine wp_region_quiet_below (by kernel_rfl) (by kernel_rfl) ?_
      repeat (first | go_big_quiet_step (fail) | quiet_step (fail))
      refine wpQuiet_nil ?_
      intro _ hw'
      obtain ⟨⟨dq, osq⟩, hw''⟩ := hw'
      have HB1 := bel_trans HB (below_regrown wr dq osq)
      have hb2 := below_regrown wr dq osq
      subst hw''
      generalize grow (redrawn wr dq) osq = W1 at HB1 hb2 ⊢
      go_wp2_with fail
      go_ret2
      rw [h1.out]
      exact ⟨A, m, rfl, hS.below hb2, HB1⟩
end Go.Proofs.YtjejkadaafmdcaaDoor
