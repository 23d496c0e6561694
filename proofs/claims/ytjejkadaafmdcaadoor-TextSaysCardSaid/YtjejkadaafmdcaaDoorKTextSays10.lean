/- Lemmas of this claim: RTx4, RTx5. -/
import Derived.Test.YtjejkadaafmdcaaDoorRTx3
import Derived.Laws.Cover1
set_option linter.unusedVariables false
set_option linter.unusedSimpArgs false
/- The document's within and headed: is a line a word and a number of 64 bits? -/
namespace Go.Proofs.YtjejkadaafmdcaaDoor
open Go.RowKit Go.Sort FR
set_option maxRecDepth 100000 in
theorem rWithin (d : List UInt8) (neg : Bool) (hl : d.length ≤ 1000) (w : World) :
    Calls Tryd.prog 51 #[.string (bs d), .bool neg] w fun e w' => e = .returned (.bool (withinT d neg)) ∧ w = w' := by
  rcases Nat.lt_trichotomy d.length 19 with h | h | h
  · have hw : withinT d neg = true := by unfold withinT; simp [h]
    have q : (d.length : Int) < 19 := by omega
    rw [hw]
    clear h hw
    cases neg <;>
    · go_enter Tryd.func51, Tryd.ntmps51
      go_wp2_with fail
      go_ret
      exact ⟨rfl, rfl⟩
  · have hw : withinT d neg = leL d (mostL neg) := by unfold withinT; simp [h]
    have q : (d.length : Int) = 19 := by omega
    replace hw := Lib.hid hw
    clear h
    cases neg <;>
    · go_enter Tryd.func51, Tryd.ntmps51
      go_wp2_with fail
      go_ret
      rw [hw.out]
      exact ⟨rfl, rfl⟩
  · have hw : withinT d neg = false := by unfold withinT; simp; omega
    have q : ¬ ((d.length : Int) < 19) := by omega
    have q2 : (d.length : Int) ≠ 19 := by omega
    rw [hw]
    clear h hw
    cases neg <;>
    · go_enter Tryd.func51, Tryd.ntmps51
      go_wp2_with fail
      go_ret
      exact ⟨rfl, rfl⟩
/-- digits, as far as k -/
theorem digs_not {d : List UInt8} {k n : Nat} (hk : k < d.length) (hn : (d.getD k 0).toNat = n) (h : ¬ (48 ≤ n ∧ n ≤ 57)) : digs d = false := by
  rw [Bool.eq_false_iff]
  intro hd
  unfold digs at hd
  rw [List.all_eq_true] at hd
  have := hd (d.getD k 0) (by rw [List.getD_eq_getElem?_getD, List.getElem?_eq_getElem hk]; exact List.getElem_mem hk)
  unfold dgt at this
  rw [hn] at this
  exact h (by simpa using this)
theorem digs_all {d : List UInt8} (h : ∀ k, k < d.length → 48 ≤ (d.getD k 0).toNat ∧ (d.getD k 0).toNat ≤ 57) : digs d = true := by
  unfold digs
  rw [List.all_eq_true]
  intro c hc
  obtain ⟨k, hk⟩ := List.getElem?_of_mem hc
  have hlt := (List.getElem?_eq_some_iff.1 hk).1
  have := h k hlt
  rw [List.getD_eq_getElem?_getD, hk] at this
  simpa [dgt] using this
theorem headT_nil {l wd : List UInt8} (h : l.length ≤ wd.length) : (numOf wd l).isSome = false := by
  unfold numOf
  split
  · rw [List.drop_eq_nil_of_le h, ← headT_iff]; rfl
  · rfl
theorem numOf_no {l wd : List UInt8} (hl : wd.length ≤ l.length) (h : l.take wd.length ≠ wd) : numOf wd l = none := by
  unfold numOf
  rw [if_neg]
  rw [← Lib.hasPrefix_of_take]
  simp [h]
theorem numOf_yes {l wd : List UInt8} (hl : wd.length ≤ l.length) (h : l.take wd.length = wd) : numOf wd l = numT (l.drop wd.length) := by
  unfold numOf
  rw [if_pos]
  rw [← Lib.hasPrefix_of_take]
  simp [h, hl]
theorem headT_long {t : List UInt8} (h : 20 < t.length) : headT t = false := by
  unfold headT
  cases t with
  | nil => simp at h
  | cons c r => simp only; rw [if_pos (by simpa using h)]
/-- without the sign -/
theorem headT_neg {r : List UInt8} (h : r.length + 1 ≤ 20) : headT (45 :: r) = (if r = [] ∨ r = [48] then false else if r.head? = some 48 ∧ 1 < r.length then false else if digs r then withinT r true else false) := by
  unfold headT
  simp only
  rw [if_neg (by omega), if_pos trivial]
theorem headT_pos {c : UInt8} {r : List UInt8} (h : r.length + 1 ≤ 20) (hc : c ≠ 45) : headT (c :: r) = (if (c :: r).head? = some 48 ∧ 1 < (c :: r).length then false else if digs (c :: r) then withinT (c :: r) false else false) := by
  unfold headT
  simp only
  rw [if_neg (by omega), if_neg hc]
  simp
theorem head48 {d : List UInt8} {n : Nat} (hn : (d.getD 0 0).toNat = n) (hd : 0 < d.length) : d.head? = some 48 ↔ n = 48 := by
  cases d with
  | nil => simp at hd
  | cons c r =>
    simp only [List.head?_cons, Option.some.injEq]
    have : c.toNat = n := hn
    constructor
    · intro h; rw [← this, h]; rfl
    · intro h; exact UInt8.toNat_inj.1 (by rw [this, h]; rfl)
end Go.Proofs.YtjejkadaafmdcaaDoor
/- The document's headed: is a line a word and a number of 64 bits? -/
namespace Go.Proofs.YtjejkadaafmdcaaDoor
open Go.RowKit Go.Sort FR
theorem str_idx0 {a : List UInt8} {n : Nat} (hx : 0 < a.length) (hn : (a.getD 0 0).toNat = n) (wx : World) : (Instr.index 9 (.string (bs a)) (.int .i64 0)).run Tryd.prog wx = .ok (.int .u8 (n : Nat)) wx := str_idx hx hn wx
theorem slc_from1 {l r : List UInt8} (ha : 1 ≤ l.length) (h : l.drop 1 = r) (wx : World) : (Instr.slice 9 (.string (bs l)) (some (.int .i64 1)) none none).run Tryd.prog wx = .ok (.string (bs r)) wx := slc_from ha h wx
set_option maxRecDepth 100000 in
set_option maxHeartbeats 2000000 in
theorem rHeaded (l wd : List UInt8) (hl : l.length ≤ 1000) (hw : wd.length ≤ 100) (w : World) :
    Calls Tryd.prog 32 #[.string (bs l), .string (bs wd)] w fun e w' => e = .returned (.bool (numOf wd l).isSome) ∧ Below w.heap.size w w' := by
  obtain ⟨o, ho⟩ : ∃ o, (numOf wd l).isSome = o := ⟨_, rfl⟩
  rw [ho]
  have hw0 := Below.refl w.heap.size w
  by_cases hA : l.length ≤ wd.length
  · obtain rfl : false = o := (headT_nil hA).symm.trans ho
    have q : (l.length : Int) ≤ wd.length := by omega
    clear ho hA
    go_enter Tryd.func32, Tryd.ntmps32
    go_wp2_with fail
    go_ret
    exact ⟨rfl, hw0⟩
  have q : ¬ ((l.length : Int) ≤ wd.length) := by omega
  obtain ⟨tk, htk⟩ : ∃ x, l.take wd.length = x := ⟨_, rfl⟩
  have hst := slc_to (by omega) htk
  by_cases hB : tk = wd
  case neg =>
    have e0b : (tk == wd) = false := beq_eq_false_iff_ne.2 hB
    obtain rfl : false = o := by rw [← ho, numOf_no (by omega) (by rw [htk]; exact hB)]; rfl
    clear ho hA hB htk
    go_enter Tryd.func32, Tryd.ntmps32
    go_wp2_with fail
    go_ret
    exact ⟨rfl, hw0⟩
  have e0b : (tk == wd) = true := beq_iff_eq.2 hB
  have ho' := numOf_yes (by omega) (htk.trans hB)
  rw [ho', ← headT_iff] at ho
  clear ho' hB htk
  obtain ⟨t, ht⟩ : ∃ t, l.drop wd.length = t := ⟨_, rfl⟩
  have htl : t.length = l.length - wd.length := by rw [← ht, List.length_drop]
  rw [ht] at ho
  by_cases h20 : 20 < t.length
  · obtain rfl : false = o := (headT_long h20).symm.trans ho
    have q20 : (20 : Int) < l.length - wd.length := by omega
    clear ho hA ht htl h20
    go_enter Tryd.func32, Tryd.ntmps32
    go_wp2_with fail
    go_ret
    exact ⟨rfl, hw0⟩
  have q20 : ¬ ((20 : Int) < l.length - wd.length) := by omega
  have hsf := slc_from (by omega) ht
  obtain ⟨n0, hn0⟩ : ∃ n : Nat, (t.getD 0 0).toNat = n := ⟨_, rfl⟩
  have hi0 := str_idx0 (by omega) hn0
  have hiw := str_idx (a := l) (x := wd.length) (n := n0) (by omega) (by rw [← hn0, ← ht, List.getD_eq_getElem?_getD, List.getD_eq_getElem?_getD, List.getElem?_drop]; rfl)
  have qs := Lib.hid hA
  clear hA
  by_cases hneg : n0 = 45
  · subst hneg
    obtain ⟨d, rfl⟩ : ∃ d, t = 45 :: d := by
      cases t with
      | nil => simp at htl; have := qs.out; omega
      | cons c r => exact ⟨r, by rw [UInt8.toNat_inj.1 (show c.toNat = (45 : UInt8).toNat from hn0)]⟩
    rw [headT_neg (by simp at h20 ⊢; omega)] at ho
    have hs1 := slc_from1 (l := 45 :: d) (by simp) rfl
    rw [List.drop_one, List.tail_cons] at hs1
    have hdl : d.length ≤ 20 := by simp at h20; omega
    clear h20 hn0 htl
    by_cases r0 : d = []
    · subst r0
      obtain rfl : false = o := by rw [← ho, if_pos (.inl rfl)]
      clear ho ht
      go_enter Tryd.func32, Tryd.ntmps32
      go_wp2_with fail
      go_ret
      exact ⟨rfl, hw0⟩
    by_cases r1 : d = [48]
    · subst r1
      obtain rfl : false = o := by rw [← ho, if_pos (.inr rfl)]
      clear ho ht
      go_enter Tryd.func32, Tryd.ntmps32
      go_wp2_with fail
      go_ret
      exact ⟨rfl, hw0⟩
    rw [if_neg (by rintro (h | h); exact r0 h; exact r1 h)] at ho
    have b0 : (d == []) = false := beq_eq_false_iff_ne.2 r0
    have b1 : (d == [48]) = false := beq_eq_false_iff_ne.2 r1
    have hd0 : 0 < d.length := List.length_pos_iff.2 r0
    clear r0 r1 ht
    obtain ⟨n1, hn1⟩ : ∃ n : Nat, (d.getD 0 0).toNat = n := ⟨_, rfl⟩
    have hd1 := str_idx0 hd0 hn1
    have hh := head48 hn1 hd0
    simp only [hh] at ho
    clear hh hn1
    by_cases e48 : n1 = 48 ∧ 1 < d.length
    · obtain rfl : false = o := by rw [← ho, if_pos e48]
      obtain ⟨rfl, e1⟩ := e48
      have q1 : (1 : Int) < d.length := by omega
      clear ho e1
      go_enter Tryd.func32, Tryd.ntmps32
      go_wp2_with fail
      go_ret
      exact ⟨rfl, hw0⟩
    rw [if_neg e48] at ho
    replace ho := Lib.hid ho
    have e48 : (n1 : Int) ≠ 48 ∨ (n1 = 48 ∧ ¬ ((1 : Int) < d.length)) := by
      by_cases h : n1 = 48
      · exact .inr ⟨h, fun k => e48 ⟨h, by omega⟩⟩
      · exact .inl (by omega)
    rcases e48 with e1 | ⟨rfl, e1⟩ <;>
    · go_enter Tryd.func32, Tryd.ntmps32
      go_wp2_with fail
      go_loopw [6] (fun i wr => ∃ k : Nat, k ≤ d.length ∧ i = .int .i64 (k : Nat) ∧ (∀ j, j < k → 48 ≤ (d.getD j 0).toNat ∧ (d.getD j 0).toNat ≤ 57) ∧ Below w.heap.size w wr) (fun i _ => d.length - (intOf i).toNat)
      case atStart => exact ⟨0, by omega, rfl, fun j hj => by omega, hw0⟩
      case round =>
        clear hw0 hi0 hd1 hsf hst
        obtain ⟨k, hk, rfl, hok, HB⟩ := hrel
        replace hok := Lib.hid hok
        by_cases hlt : k < d.length
        · have q' : (k : Int) < d.length := by omega
          obtain ⟨n, hn⟩ : ∃ n : Nat, (d.getD k 0).toNat = n := ⟨_, rfl⟩
          have hidx := str_idx hlt hn
          replace hn := Lib.hid hn
          by_cases hd : 48 ≤ n ∧ n ≤ 57
          · obtain ⟨d1, d2⟩ := hd
            have p1 : ¬ ((n : Int) < 48) := by omega
            have p2 : ¬ ((57 : Int) < n) := by omega
            go_wp2_with fail
            go_roundw
            case rel =>
              refine ⟨k + 1, by omega, by go_num, fun j hj => ?_, HB⟩
              rcases Nat.lt_succ_iff_lt_or_eq.1 hj with h' | rfl
              · exact hok.out j h'
              · rw [hn.out]; exact ⟨d1, d2⟩
            case measure => simp [intOf]; omega
          · obtain rfl : false = o := by
              rw [← ho.out, if_neg]
              rw [digs_not hlt hn.out hd]
              simp
            have hd : (n : Int) < 48 ∨ (¬ ((n : Int) < 48) ∧ (57 : Int) < n) := by omega
            rcases hd with hd | ⟨hd, hd2⟩ <;>
            · go_wp2_with fail
              go_ret
              exact ⟨rfl, HB⟩
        · obtain rfl : k = d.length := by omega
          have hod : withinT d true = o := by rw [← ho.out, if_pos (digs_all fun j hj => hok.out j hj)]
          replace hod := Lib.hid hod
          clear ho hok
          go_wp2_with fail
          refine (rWithin d true (by omega) _).mono ?_
          rintro e w1 ⟨rfl, rfl⟩
          go_wp2_with fail
          go_ret
          rw [hod.out]
          exact ⟨rfl, HB⟩
  · have qn : (n0 : Int) ≠ 45 := by omega
    obtain ⟨d, hdt⟩ : ∃ d, t = d := ⟨_, rfl⟩
    have hd0 : 0 < d.length := by rw [← hdt]; have := qs.out; omega
    have hdl : d.length ≤ 20 := by rw [← hdt]; omega
    have ho2 : (if d.head? = some 48 ∧ 1 < d.length then false else if digs d then withinT d false else false) = o := by
      rw [hdt] at ho hn0
      cases d with
      | nil => simp at hd0
      | cons c r =>
        rw [headT_pos (by simpa using hdl) (fun e => hneg (by rw [← hn0, e]; rfl))] at ho
        exact ho
    subst hdt
    replace ho := ho2
    clear ho2 hneg htl h20 ht
    have hh := head48 hn0 hd0
    simp only [hh] at ho
    clear hh hn0
    by_cases e48 : n0 = 48 ∧ 1 < t.length
    · obtain rfl : false = o := by rw [← ho, if_pos e48]
      obtain ⟨rfl, e1⟩ := e48
      have q1 : (1 : Int) < t.length := by omega
      clear ho e1
      go_enter Tryd.func32, Tryd.ntmps32
      go_wp2_with fail
      go_ret
      exact ⟨rfl, hw0⟩
    rw [if_neg e48] at ho
    replace ho := Lib.hid ho
    have e48 : (n0 : Int) ≠ 48 ∨ (n0 = 48 ∧ ¬ ((1 : Int) < t.length)) := by
      by_cases h : n0 = 48
      · exact .inr ⟨h, fun k => e48 ⟨h, by omega⟩⟩
      · exact .inl (by omega)
    rcases e48 with e1 | ⟨rfl, e1⟩ <;>
    · go_enter Tryd.func32, Tryd.ntmps32
      go_wp2_with fail
      go_loopw [6] (fun i wr => ∃ k : Nat, k ≤ t.length ∧ i = .int .i64 (k : Nat) ∧ (∀ j, j < k → 48 ≤ (t.getD j 0).toNat ∧ (t.getD j 0).toNat ≤ 57) ∧ Below w.heap.size w wr) (fun i _ => t.length - (intOf i).toNat)
      case atStart => exact ⟨0, by omega, rfl, fun j hj => by omega, hw0⟩
      case round =>
        clear hw0 hi0 hsf hst
        obtain ⟨k, hk, rfl, hok, HB⟩ := hrel
        replace hok := Lib.hid hok
        by_cases hlt : k < t.length
        · have q' : (k : Int) < t.length := by omega
          obtain ⟨n, hn⟩ : ∃ n : Nat, (t.getD k 0).toNat = n := ⟨_, rfl⟩
          have hidx := str_idx hlt hn
          replace hn := Lib.hid hn
          by_cases hd : 48 ≤ n ∧ n ≤ 57
          · obtain ⟨d1, d2⟩ := hd
            have p1 : ¬ ((n : Int) < 48) := by omega
            have p2 : ¬ ((57 : Int) < n) := by omega
            go_wp2_with fail
            go_roundw
            case rel =>
              refine ⟨k + 1, by omega, by go_num, fun j hj => ?_, HB⟩
              rcases Nat.lt_succ_iff_lt_or_eq.1 hj with h' | rfl
              · exact hok.out j h'
              · rw [hn.out]; exact ⟨d1, d2⟩
            case measure => simp [intOf]; omega
          · obtain rfl : false = o := by
              rw [← ho.out, if_neg]
              rw [digs_not hlt hn.out hd]
              simp
            have hd : (n : Int) < 48 ∨ (¬ ((n : Int) < 48) ∧ (57 : Int) < n) := by omega
            rcases hd with hd | ⟨hd, hd2⟩ <;>
            · go_wp2_with fail
              go_ret
              exact ⟨rfl, HB⟩
        · obtain rfl : k = t.length := by omega
          have hod : withinT t false = o := by rw [← ho.out, if_pos (digs_all fun j hj => hok.out j hj)]
          replace hod := Lib.hid hod
          clear ho hok
          go_wp2_with fail
          refine (rWithin t false (by omega) _).mono ?_
          rintro e w1 ⟨rfl, rfl⟩
          go_wp2_with fail
          go_ret
          rw [hod.out]
          exact ⟨rfl, HB⟩
end Go.Proofs.YtjejkadaafmdcaaDoor
