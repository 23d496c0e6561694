/- Lemmas of this claim: RTx6. -/
import Derived.Test.YtjejkadaafmdcaaDoorKTextSays10
import Derived.Test.YtjejkadaafmdcaaDoorRTx1
set_option linter.unusedVariables false
set_option linter.unusedSimpArgs false
/- The document's sized: the number behind a word, if it is small. -/
namespace Go.Proofs.YtjejkadaafmdcaaDoor
open Go.RowKit Go.Sort FR
theorem numOf_parts {l wd : List UInt8} {v : Int} (h : numOf wd l = some v) : wd.length < l.length ∧ l.take wd.length = wd := by
  have h1 : ¬ l.length ≤ wd.length := fun k => by
    have := headT_nil k
    rw [h] at this; cases this
  refine ⟨by omega, ?_⟩
  apply Classical.byContradiction
  intro k
  have := numOf_no (by omega) k
  rw [h] at this; cases this
theorem take_dig {t : List UInt8} {k : Nat} (hk : k ≤ t.length) (h : ∀ j, j < k → 48 ≤ (t.getD j 0).toNat ∧ (t.getD j 0).toNat ≤ 57) : digs (t.take k) = true := by
  refine digs_all fun j hj => ?_
  have hj' : j < k := by simp at hj; omega
  have := h j hj'
  rw [List.getD_eq_getElem?_getD, List.getElem?_take_of_lt hj', ← List.getD_eq_getElem?_getD]
  exact this
set_option maxRecDepth 100000 in
set_option maxHeartbeats 2000000 in
theorem rSized (l wd : List UInt8) (v : Int) (hl : l.length ≤ 1000) (hw : wd.length ≤ 100) (hv : numOf wd l = some v) (w : World) :
    Calls Tryd.prog 33 #[.string (bs l), .string (bs wd)] w fun e w' => e = .returned (.int .i64 (sizedT (l.drop wd.length))) ∧ Below w.heap.size w w' := by
  obtain ⟨hA, htk⟩ := numOf_parts hv
  clear hv
  have hw0 := Below.refl w.heap.size w
  have q : (wd.length : Int) < l.length := by omega
  have hst := slc_to (by omega) htk
  obtain ⟨t, ht⟩ : ∃ t, l.drop wd.length = t := ⟨_, rfl⟩
  have htl : t.length = l.length - wd.length := by rw [← ht, List.length_drop]
  rw [ht]
  clear htk
  obtain ⟨o, ho⟩ : ∃ o, sizedT t = o := ⟨_, rfl⟩
  rw [ho]
  by_cases h9 : 9 < t.length
  · obtain rfl : -1 = o := by rw [← ho]; unfold sizedT; rw [if_neg (fun k => by have := k.2.1; omega)]
    have q9 : (9 : Int) < l.length - wd.length := by omega
    clear ho hA ht htl h9
    go_enter Tryd.func33, Tryd.ntmps33
    go_wp2_with fail
    go_ret
    exact ⟨rfl, hw0⟩
  have q9 : ¬ ((9 : Int) < l.length - wd.length) := by omega
  have hsf := slc_from (by omega) ht
  have hlt9 : t.length ≤ 9 := by omega
  have ht0 : t ≠ [] := fun e => by rw [e] at htl; simp at htl; omega
  replace ht0 := Lib.hid ht0
  replace ho := Lib.hid ho
  clear ht htl h9 hA
  go_enter Tryd.func33, Tryd.ntmps33
  go_wp2_with fail
  go_loopw [6, 7] (fun m i wr => ∃ k : Nat, k ≤ t.length ∧ i = .int .i64 (k : Nat) ∧ m = .int .i64 (valF 0 (t.take k) : Nat) ∧ (∀ j, j < k → 48 ≤ (t.getD j 0).toNat ∧ (t.getD j 0).toNat ≤ 57) ∧ Below w.heap.size w wr) (fun _ i _ => t.length - (intOf i).toNat)
  case atStart => exact ⟨0, by omega, rfl, rfl, fun j hj => by omega, hw0⟩
  case round =>
    clear hw0 hsf hst
    obtain ⟨k, hk, rfl, rfl, hok, HB⟩ := hrel
    have hV := valF_lt (t.take k) (take_dig hk hok)
    have hV9 : valF 0 (t.take k) < 1000000000 := by
      have h1 : (t.take k).length ≤ 9 := by simp; omega
      have h2 : 10 ^ (t.take k).length ≤ 10 ^ 9 := Nat.pow_le_pow_right (by omega) h1
      omega
    clear hV
    replace hok := Lib.hid hok
    by_cases hlt : k < t.length
    · have q' : (k : Int) < t.length := by omega
      obtain ⟨n, hn⟩ : ∃ n : Nat, (t.getD k 0).toNat = n := ⟨_, rfl⟩
      have hidx := str_idx hlt hn
      have hsn : valF 0 (t.take (k + 1)) = valF 0 (t.take k) * 10 + (n - 48) := by
        have e : t.take (k + 1) = t.take k ++ [t.getD k 0] := by
          rw [List.take_add_one, List.getElem?_eq_getElem hlt, List.getD_eq_getElem?_getD, List.getElem?_eq_getElem hlt]
          rfl
        rw [e, valF_snoc, hn]
      replace hn := Lib.hid hn
      by_cases hd : 48 ≤ n ∧ n ≤ 57
      · obtain ⟨d1, d2⟩ := hd
        have p1 : ¬ ((n : Int) < 48) := by omega
        have p2 : ¬ ((57 : Int) < n) := by omega
        have hsn : ((valF 0 (t.take (k + 1)) : Nat) : Int) = 10 * ((valF 0 (t.take k) : Nat) : Int) + ((n : Int) - 48) := by omega
        replace hsn := Lib.hid hsn
        obtain ⟨V, hVe⟩ : ∃ V, valF 0 (t.take k) = V := ⟨_, rfl⟩
        rw [hVe] at hsn hV9 ⊢
        clear hVe
        go_wp2_with fail
        go_roundw
        case rel =>
          refine ⟨k + 1, by omega, by go_num, by rw [hsn.out], fun j hj => ?_, HB⟩
          rcases Nat.lt_succ_iff_lt_or_eq.1 hj with h' | rfl
          · exact hok.out j h'
          · rw [hn.out]; exact ⟨d1, d2⟩
        case measure => simp [intOf]; omega
      · obtain rfl : -1 = o := by
          rw [← ho.out]; unfold sizedT
          rw [if_neg]
          rintro ⟨_, _, k3, _⟩
          rw [digs_not hlt hn.out hd] at k3
          cases k3
        have hd : (n : Int) < 48 ∨ (¬ ((n : Int) < 48) ∧ (57 : Int) < n) := by omega
        clear hsn
        rcases hd with hd | ⟨hd, hd2⟩ <;>
        · go_wp2_with fail
          go_ret
          exact ⟨rfl, HB⟩
    · obtain rfl : k = t.length := by omega
      rw [List.take_length] at hV9 ⊢
      have hdg : digs t = true := digs_all fun j hj => hok.out j hj
      obtain ⟨V, hVe⟩ : ∃ V, valF 0 t = V := ⟨_, rfl⟩
      rw [hVe] at hV9 ⊢
      have hoo : (if Lib.decDigits V = t then (V : Int) else -1) = o := by
        rw [← ho.out]; unfold sizedT
        rw [hVe]
        by_cases e : Lib.decDigits V = t
        · rw [if_pos e, if_pos ⟨ht0.out, hlt9, hdg, e⟩]
        · rw [if_neg e, if_neg (fun k => e k.2.2.2)]
      clear hVe hdg hok
      have c1 := Lib.hid (rDecimal V (by omega) wr)
      obtain ⟨D, hD⟩ : ∃ D, Lib.decDigits V = D := ⟨_, rfl⟩
      rw [hD] at hoo c1
      clear hD
      by_cases e : D = t
      · have e0 : (D == t) = true := beq_iff_eq.2 e
        rw [if_pos e] at hoo
        subst hoo
        clear e
        go_wp2_with fail
        refine c1.out.mono ?_
        rintro e w1 ⟨rfl, hb1⟩
        go_wp2_with fail
        go_ret
        exact ⟨rfl, bel_trans HB hb1⟩
      · have e0 : (D == t) = false := beq_eq_false_iff_ne.2 e
        rw [if_neg e] at hoo
        subst hoo
        clear e
        go_wp2_with fail
        refine c1.out.mono ?_
        rintro e w1 ⟨rfl, hb1⟩
        go_wp2_with fail
        go_ret
        exact ⟨rfl, bel_trans HB hb1⟩
end Go.Proofs.YtjejkadaafmdcaaDoor
