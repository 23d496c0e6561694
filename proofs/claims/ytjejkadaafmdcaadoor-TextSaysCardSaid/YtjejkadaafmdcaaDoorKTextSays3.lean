/- Lemmas of this claim: MathTxt, MathTxt2. -/
import Derived.Lib.AtoiAll
import Derived.Lib.AtoiAllCases
import Derived.Lib.ItoaNum
import Derived.Lib.IndexMore
import Derived.Lib.Strings
import GoSem.Op.String
set_option linter.unusedVariables false
set_option linter.unusedSimpArgs false
/- Texts: lines, and numbers in digits (plain). -/
namespace Go.Proofs.YtjejkadaafmdcaaDoor
open Go.Lib
theorem idx10 : ∀ l : List UInt8, (index l [10] = -1 ∧ (10 : UInt8) ∉ l) ∨ ∃ a b, l = a ++ 10 :: b ∧ (10 : UInt8) ∉ a ∧ index l [10] = (a.length : Nat)
  | [] => .inl ⟨rfl, by simp⟩
  | c :: l => by
    by_cases hc : c = 10
    · subst hc
      exact .inr ⟨[], l, rfl, by simp, by simp [index, List.isPrefixOf]⟩
    · have h0 : ([10] : List UInt8).isPrefixOf (c :: l) = false := by
        have : ¬ 10 = c := fun h => hc h.symm
        simp [List.isPrefixOf, this]
      rcases idx10 l with ⟨h1, h2⟩ | ⟨a, b, e, h2, h3⟩
      · left
        refine ⟨by unfold index; rw [h0, h1]; rfl, ?_⟩
        rw [List.mem_cons]
        rintro (h | h)
        · exact hc h.symm
        · exact h2 h
      · right
        subst e
        refine ⟨c :: a, b, rfl, ?_, ?_⟩
        · rw [List.mem_cons]
          rintro (h | h)
          · exact hc h.symm
          · exact h2 h
        · unfold index
          rw [h0, h3]
          have : ((a.length : Int) == -1) = false := by rw [beq_eq_false_iff_ne]; omega
          simp [this]
theorem cut10 (l : List UInt8) : (cut l [10] = (l, [], false) ∧ (10 : UInt8) ∉ l) ∨ ∃ a b, cut l [10] = (a, b, true) ∧ l = a ++ 10 :: b ∧ (10 : UInt8) ∉ a := by
  rcases idx10 l with ⟨h1, h2⟩ | ⟨a, b, e, h2, h3⟩
  · left
    refine ⟨?_, h2⟩
    unfold cut
    rw [h1, if_neg (by omega)]
  · right
    refine ⟨a, b, ?_, e, h2⟩
    unfold cut
    rw [h3, if_pos (by omega), e]
    simp
def lnsS (st : List (List UInt8) × List UInt8) (b : UInt8) : List (List UInt8) × List UInt8 := if b = 10 then (st.1 ++ [st.2], []) else (st.1, st.2 ++ [b])
def lnsF (st : List (List UInt8) × List UInt8) (l : List UInt8) : List (List UInt8) × List UInt8 := l.foldl lnsS st
/-- The lines of a text, each without its end; what is behind the last end. -/
def lns (l : List UInt8) : List (List UInt8) × List UInt8 := lnsF ([], []) l
theorem lnsF_app (X : List (List UInt8)) : ∀ (l : List UInt8) (Y : List (List UInt8)) (r : List UInt8), lnsF (X ++ Y, r) l = (X ++ (lnsF (Y, r) l).1, (lnsF (Y, r) l).2)
  | [], _, _ => rfl
  | b :: l, Y, r => by
    show lnsF (lnsS (X ++ Y, r) b) l = (X ++ (lnsF (lnsS (Y, r) b) l).1, (lnsF (lnsS (Y, r) b) l).2)
    unfold lnsS
    by_cases hb : b = 10
    · rw [if_pos hb, if_pos hb]
      show lnsF ((X ++ Y) ++ [r], []) l = _
      rw [List.append_assoc]
      exact lnsF_app X l _ _
    · rw [if_neg hb, if_neg hb]
      exact lnsF_app X l _ _
theorem lnsF_free : ∀ (l : List UInt8) (Y : List (List UInt8)) (r : List UInt8), (10 : UInt8) ∉ l → lnsF (Y, r) l = (Y, r ++ l)
  | [], _, _, _ => by simp [lnsF]
  | b :: l, Y, r, h => by
    have hb : b ≠ 10 := fun e => h (by simp [e])
    show lnsF (lnsS (Y, r) b) l = _
    unfold lnsS
    rw [if_neg hb, lnsF_free l Y (r ++ [b]) (fun e => h (List.mem_cons_of_mem _ e))]
    simp
theorem lnsF_more (st : List (List UInt8) × List UInt8) (a b : List UInt8) : lnsF st (a ++ b) = lnsF (lnsF st a) b := List.foldl_append ..
theorem lns_free {l : List UInt8} (h : (10 : UInt8) ∉ l) : lns l = ([], l) := lnsF_free l [] [] h
theorem lns_cons {a b : List UInt8} (h : (10 : UInt8) ∉ a) : lns (a ++ 10 :: b) = (a :: (lns b).1, (lns b).2) := by
  show lnsF ([], []) (a ++ 10 :: b) = _
  rw [lnsF_more, lnsF_free a [] [] h]
  show lnsF (([] ++ [[] ++ a] : List (List UInt8)), []) b = _
  have := lnsF_app [a] b [] []
  simpa [lns] using this
theorem lns_len : ∀ (l : List UInt8) (st : List (List UInt8) × List UInt8), (lnsF st l).1.length ≤ st.1.length + l.length
  | [], st => by simp [lnsF]
  | b :: l, st => by
    have h := lns_len l (lnsS st b)
    show (lnsF (lnsS st b) l).1.length ≤ _
    have : (lnsS st b).1.length ≤ st.1.length + 1 := by unfold lnsS; split <;> simp
    simp only [List.length_cons]
    omega
/-! Digits. -/
def dgt (c : UInt8) : Bool := decide (48 ≤ c.toNat ∧ c.toNat ≤ 57)
def digs (l : List UInt8) : Bool := l.all dgt
def valF (a : Nat) (l : List UInt8) : Nat := l.foldl (fun a c => a * 10 + (c.toNat - 48)) a
theorem valF_snoc (a : Nat) (l : List UInt8) (c : UInt8) : valF a (l ++ [c]) = valF a l * 10 + (c.toNat - 48) := by simp [valF, List.foldl_append]
theorem valF_acc : ∀ (l : List UInt8) (a : Nat), valF a l = a * 10 ^ l.length + valF 0 l
  | [], a => by simp [valF]
  | c :: l, a => by
    have e1 : valF a (c :: l) = valF (a * 10 + (c.toNat - 48)) l := rfl
    have e2 : valF 0 (c :: l) = valF (0 * 10 + (c.toNat - 48)) l := rfl
    rw [e1, e2, valF_acc l (a * 10 + _), valF_acc l (0 * 10 + _), List.length_cons, Nat.pow_succ]
    rw [Nat.add_mul, Nat.zero_mul, Nat.zero_add, Nat.mul_assoc, Nat.mul_comm 10]
    omega
theorem valF_lt : ∀ (l : List UInt8), digs l = true → valF 0 l < 10 ^ l.length
  | [], _ => by simp [valF]
  | c :: l, h => by
    have hc : dgt c = true := by simp [digs] at h; exact h.1
    have hl : digs l = true := by simp [digs] at h; simp [digs]; exact h.2
    have ih := valF_lt l hl
    have e2 : valF 0 (c :: l) = valF (0 * 10 + (c.toNat - 48)) l := rfl
    rw [e2, valF_acc]
    have hd : c.toNat - 48 ≤ 9 := by simp [dgt] at hc; omega
    have hm : (0 * 10 + (c.toNat - 48)) * 10 ^ l.length ≤ 9 * 10 ^ l.length := Nat.mul_le_mul_right _ (by omega)
    rw [List.length_cons, Nat.pow_succ]
    omega
theorem digs_snoc (l : List UInt8) (c : UInt8) : digs (l ++ [c]) = (digs l && dgt c) := by simp [digs]
theorem ofNat_toNat (n : Nat) (h : n < 10) : (UInt8.ofNat (48 + n)).toNat = 48 + n := by
  rw [UInt8.toNat_ofNat']; omega
theorem dec_rec (u : Nat) (h : 10 ≤ u) : decDigits u = decDigits (u / 10) ++ [UInt8.ofNat (48 + u % 10)] := by rw [decDigits, dif_neg (by omega)]
theorem dec_all : ∀ u : Nat, digs (decDigits u) = true ∧ valF 0 (decDigits u) = u ∧ ∃ c r, decDigits u = c :: r ∧ (0 < u → c ≠ 48) := by
  intro u
  induction u using Nat.strongRecOn with
  | ind u ih =>
    by_cases hu : u < 10
    · rw [decDigits_one hu]
      have e := ofNat_toNat u hu
      refine ⟨by simp only [digs, dgt, List.all_cons, List.all_nil, Bool.and_true, e, decide_eq_true_eq]; omega, by simp only [valF, List.foldl_cons, List.foldl_nil, e]; omega, _, [], rfl, fun h0 h => ?_⟩
      rw [h] at e
      have : (48 : UInt8).toNat = 48 := rfl
      omega
    · obtain ⟨h1, h2, c, r, h3, h4⟩ := ih (u / 10) (by omega)
      rw [dec_rec u (by omega)]
      have e := ofNat_toNat (u % 10) (by omega)
      refine ⟨by rw [digs_snoc, h1]; simp [dgt, e]; omega, by rw [valF_snoc, h2, e]; omega, c, r ++ [_], by rw [h3]; rfl, fun _ => h4 (by omega)⟩
theorem valF_ge (c : UInt8) (r : List UInt8) (h : digs (c :: r) = true) (hc : c ≠ 48) : 10 ^ r.length ≤ valF 0 (c :: r) := by
  have e2 : valF 0 (c :: r) = valF (0 * 10 + (c.toNat - 48)) r := rfl
  rw [e2, valF_acc]
  have hd : dgt c = true := by simp [digs] at h; exact h.1
  have hn : c.toNat ≠ 48 := fun e => hc (UInt8.toNat_inj.1 (by rw [e]; rfl))
  have : 1 ≤ 0 * 10 + (c.toNat - 48) := by simp [dgt] at hd; omega
  have hm := Nat.mul_le_mul_right (10 ^ r.length) this
  omega
/-- digits without a 0 ahead are what their number is written as -/
theorem dec_of : ∀ (n : Nat) (l : List UInt8), l.length = n → digs l = true → l ≠ [] → (l.head? ≠ some 48 ∨ l = [48]) → decDigits (valF 0 l) = l := by
  intro n
  induction n with
  | zero => intro l hl _ h; cases l <;> simp_all
  | succ n ih =>
    intro l hl hd _ hh
    obtain ⟨l', c, rfl⟩ : ∃ l' c, l = l' ++ [c] := by
      rcases List.eq_nil_or_concat l with rfl | ⟨l', c, rfl⟩
      · simp at hl
      · exact ⟨l', c, by simp⟩
    rw [digs_snoc] at hd
    simp only [Bool.and_eq_true] at hd
    obtain ⟨hd1, hd2⟩ := hd
    have hc : 48 ≤ c.toNat ∧ c.toNat ≤ 57 := by simpa [dgt] using hd2
    have hof : UInt8.ofNat (48 + (c.toNat - 48)) = c := by
      apply UInt8.toNat_inj.1
      rw [ofNat_toNat _ (by omega)]
      omega
    rw [valF_snoc]
    cases l' with
    | nil =>
      have : valF 0 [] = 0 := rfl
      rw [this, decDigits_one (by omega)]
      simp only [Nat.zero_mul, Nat.zero_add, hof, List.nil_append]
    | cons a r =>
      have h48 : a ≠ 48 := by
        rcases hh with h | h
        · simpa using h
        · simp at h
      have ge := valF_ge a r hd1 h48
      have p1 : 1 ≤ 10 ^ r.length := Nat.one_le_pow _ _ (by omega)
      have ihh := ih (a :: r) (by simp at hl ⊢; omega) hd1 (by simp) (.inl (by simpa using h48))
      rw [dec_rec _ (by omega)]
      have e1 : (valF 0 (a :: r) * 10 + (c.toNat - 48)) / 10 = valF 0 (a :: r) := by omega
      have e2 : (valF 0 (a :: r) * 10 + (c.toNat - 48)) % 10 = c.toNat - 48 := by omega
      rw [e1, e2, ihh, hof]
theorem dec_ne (u : Nat) : decDigits u ≠ [] := by
  obtain ⟨_, _, c, r, h, _⟩ := dec_all u
  rw [h]; simp
theorem dec_head (u : Nat) : (decDigits u).head? ≠ some 48 ∨ decDigits u = [48] := by
  by_cases h0 : u = 0
  · right; subst h0; rw [decDigits_one (by omega)]; rfl
  · left
    obtain ⟨_, _, c, r, h, h4⟩ := dec_all u
    rw [h]
    simpa using h4 (by omega)
theorem pu10_ok : ∀ (l : List UInt8) (a : Nat), digs l = true → valF a l < 18446744073709551616 → parseUint10 a l = .ok (valF a l)
  | [], a, _, _ => rfl
  | c :: l, a, h, hv => by
    have hc : 48 ≤ c.toNat ∧ c.toNat ≤ 57 := by simp [digs, dgt] at h; exact h.1
    have hl : digs l = true := by simp [digs] at h; simp [digs]; exact h.2
    have e : valF a (c :: l) = valF (a * 10 + (c.toNat - 48)) l := rfl
    rw [e] at hv ⊢
    have hb : a * 10 + (c.toNat - 48) ≤ valF (a * 10 + (c.toNat - 48)) l := by
      rw [valF_acc]
      have := Nat.mul_le_mul_left (a * 10 + (c.toNat - 48)) (Nat.one_le_pow l.length 10 (by omega))
      omega
    unfold parseUint10
    rw [if_pos hc, if_neg (by omega), if_neg (by omega)]
    exact pu10_ok l _ hl hv
/-- The number that a text is the writing of. -/
def numT (t : List UInt8) : Option Int := match atoiAll t with | .ok v => if itoa v = t then some v else none | _ => none
def Canon (t : List UInt8) (v : Int) : Prop := (∃ u : Nat, v = u ∧ t = decDigits u ∧ u < 9223372036854775808) ∨ ∃ u : Nat, 1 ≤ u ∧ u ≤ 9223372036854775808 ∧ v = -(u : Int) ∧ t = 45 :: decDigits u
theorem itoa_nn (u : Nat) : itoa (u : Int) = decDigits u := by unfold itoa; rw [if_neg (by omega)]; simp
theorem itoa_ng (u : Nat) (h : 1 ≤ u) : itoa (-(u : Int)) = 45 :: decDigits u := by unfold itoa; rw [if_pos (by omega)]; simp
theorem dgt_ne {c : UInt8} (h : dgt c = true) : c.toNat ≠ 43 ∧ c.toNat ≠ 45 := by simp [dgt] at h; omega
theorem pmag_ok (u : Nat) (h : u < 18446744073709551616) : parseMag (decDigits u) = .ok u := by
  unfold parseMag
  obtain ⟨h1, h2, _⟩ := dec_all u
  rw [if_neg (dec_ne u), pu10_ok _ _ h1 (by rw [h2]; exact h), h2]
theorem numT_iff (t : List UInt8) (v : Int) : numT t = some v ↔ Canon t v := by
  constructor
  · intro h
    unfold numT at h
    cases ha : atoiAll t with
    | range => rw [ha] at h; cases h
    | ok x =>
      rw [ha] at h
      obtain ⟨b1, b2⟩ := atoiAll_bounds ha
      simp only at h
      split at h
      · rename_i hi
        simp only [Option.some.injEq] at h
        subst h
        by_cases hx : x < 0
        · right
          refine ⟨x.natAbs, by omega, by omega, by omega, ?_⟩
          rw [← hi]; unfold itoa; rw [if_pos hx]
        · left
          refine ⟨x.toNat, by omega, ?_, by omega⟩
          rw [← hi]; unfold itoa; rw [if_neg hx]
      · cases h
    | _ => rw [ha] at h; cases h
  · rintro (⟨u, rfl, rfl, hu⟩ | ⟨u, h1, h2, rfl, rfl⟩)
    · obtain ⟨d1, d2, c, r, hcr, _⟩ := dec_all u
      have hc : dgt c = true := by rw [hcr] at d1; simp [digs] at d1; exact d1.1
      have hn := dgt_ne hc
      have ha : atoiAll (decDigits u) = .ok (u : Int) := by
        have hp := pmag_ok u (by omega)
        rw [hcr] at hp ⊢
        unfold atoiAll
        simp only [hn.1, hn.2, or_self, if_false, hp]
        rw [if_neg (by simp; omega), if_neg (by simp)]
      unfold numT
      rw [ha]
      simp only [itoa_nn, if_true]
    · have ha : atoiAll (45 :: decDigits u) = .ok (-(u : Int)) := by
        have hp := pmag_ok u (by omega)
        unfold atoiAll
        have h45 : (45 : UInt8).toNat = 45 := rfl
        simp only [h45, or_true, if_true, hp]
        rw [if_neg (by simp), if_neg (by simp; omega)]
      unfold numT
      rw [ha]
      simp only [itoa_ng u h1, if_true]
end Go.Proofs.YtjejkadaafmdcaaDoor
/- Texts: what the document takes for a number is what is written as one (plain). -/
namespace Go.Proofs.YtjejkadaafmdcaaDoor
open Go.Lib
theorem valF_cons (c : UInt8) (r : List UInt8) : valF 0 (c :: r) = (c.toNat - 48) * 10 ^ r.length + valF 0 r := by
  have e2 : valF 0 (c :: r) = valF (0 * 10 + (c.toNat - 48)) r := rfl
  rw [e2, valF_acc]
  simp
theorem digs_cons {c : UInt8} {r : List UInt8} (h : digs (c :: r) = true) : (48 ≤ c.toNat ∧ c.toNat ≤ 57) ∧ digs r = true := by
  simp only [digs, List.all_cons, Bool.and_eq_true] at h ⊢
  exact ⟨by simpa [dgt] using h.1, h.2⟩
theorem val_inj : ∀ (a b : List UInt8), digs a = true → digs b = true → a.length = b.length → valF 0 a = valF 0 b → a = b
  | [], [], _, _, _, _ => rfl
  | [], _ :: _, _, _, h, _ => by simp at h
  | _ :: _, [], _, _, h, _ => by simp at h
  | c :: a, d :: b, ha, hb, hl, hv => by
    obtain ⟨hc, ha⟩ := digs_cons ha
    obtain ⟨hd, hb⟩ := digs_cons hb
    have hl : a.length = b.length := by simpa using hl
    rw [valF_cons, valF_cons, hl] at hv
    have l1 := valF_lt a ha
    have l2 := valF_lt b hb
    rw [hl] at l1
    have e : c.toNat - 48 = d.toNat - 48 := by
      rcases Nat.lt_trichotomy (c.toNat - 48) (d.toNat - 48) with h | h | h
      · have := Nat.mul_le_mul_right (10 ^ b.length) h; rw [Nat.succ_mul] at this; omega
      · exact h
      · have := Nat.mul_le_mul_right (10 ^ b.length) h; rw [Nat.succ_mul] at this; omega
    rw [e] at hv
    have e2 : c = d := UInt8.toNat_inj.1 (by omega)
    rw [e2, val_inj a b ha hb hl (by omega)]
theorem less_val : ∀ (a b : List UInt8), digs a = true → digs b = true → a.length = b.length → (Go.Op.bytesLess a b = true ↔ valF 0 a < valF 0 b)
  | [], [], _, _, _ => by simp [Go.Op.bytesLess, valF]
  | [], _ :: _, _, _, h => by simp at h
  | _ :: _, [], _, _, h => by simp at h
  | c :: a, d :: b, ha, hb, hl => by
    obtain ⟨hc, ha⟩ := digs_cons ha
    obtain ⟨hd, hb⟩ := digs_cons hb
    have hl : a.length = b.length := by simpa using hl
    have ih := less_val a b ha hb hl
    rw [valF_cons, valF_cons, hl]
    have l1 := valF_lt a ha
    have l2 := valF_lt b hb
    rw [hl] at l1
    unfold Go.Op.bytesLess
    simp only [Bool.or_eq_true, decide_eq_true_eq, Bool.and_eq_true, beq_iff_eq, ih, UInt8.lt_iff_toNat_lt]
    constructor
    · rintro (h | ⟨h, h2⟩)
      · have := Nat.mul_le_mul_right (10 ^ b.length) (show (c.toNat - 48) + 1 ≤ d.toNat - 48 by omega); rw [Nat.succ_mul] at this; omega
      · rw [h]; omega
    · intro h
      rcases Nat.lt_trichotomy c.toNat d.toNat with h' | h' | h'
      · exact .inl h'
      · right
        rw [h'] at h
        exact ⟨UInt8.toNat_inj.1 h', by omega⟩
      · exfalso
        have := Nat.mul_le_mul_right (10 ^ b.length) (show (d.toNat - 48) + 1 ≤ c.toNat - 48 by omega); rw [Nat.succ_mul] at this; omega
def leL (a b : List UInt8) : Bool := Go.Op.bytesLess a b || a == b
theorem le_val {a b : List UInt8} (ha : digs a = true) (hb : digs b = true) (hl : a.length = b.length) : leL a b = decide (valF 0 a ≤ valF 0 b) := by
  rw [Bool.eq_iff_iff]
  unfold leL
  simp only [Bool.or_eq_true, beq_iff_eq, decide_eq_true_eq, less_val a b ha hb hl]
  constructor
  · rintro (h | h)
    · omega
    · rw [h]; omega
  · intro h
    by_cases e : valF 0 a = valF 0 b
    · exact .inr (val_inj a b ha hb hl e)
    · exact .inl (by omega)
/-- "9223372036854775807", or one more -/
def mostL (neg : Bool) : List UInt8 := [57, 50, 50, 51, 51, 55, 50, 48, 51, 54, 56, 53, 52, 55, 55, 53, 56, 48] ++ [if neg then 56 else 55]
theorem most_val (neg : Bool) : valF 0 (mostL neg) = 9223372036854775807 + (if neg then 1 else 0) ∧ digs (mostL neg) = true ∧ (mostL neg).length = 19 := by cases neg <;> decide +kernel
def withinT (d : List UInt8) (neg : Bool) : Bool := decide (d.length < 19) || (decide (d.length = 19) && leL d (mostL neg))
theorem within_val {d : List UInt8} (neg : Bool) (hd : digs d = true) (hh : d.head? ≠ some 48 ∨ d = [48]) (hn : d ≠ []) : withinT d neg = decide (valF 0 d < 9223372036854775808 + (if neg then 1 else 0)) := by
  obtain ⟨m1, m2, m3⟩ := most_val neg
  have hlt := valF_lt d hd
  rw [Bool.eq_iff_iff]
  unfold withinT
  simp only [Bool.or_eq_true, decide_eq_true_eq, Bool.and_eq_true]
  rcases Nat.lt_trichotomy d.length 19 with h | h | h
  · have : 10 ^ d.length ≤ 10 ^ 18 := Nat.pow_le_pow_right (by omega) (by omega)
    exact ⟨fun _ => by omega, fun _ => .inl h⟩
  · rw [le_val hd m2 (by omega), m1]
    simp only [decide_eq_true_eq]
    constructor
    · rintro (h' | h') <;> omega
    · intro h'; right; omega
  · have : ∃ c r, d = c :: r := by cases d with | nil => simp at hn | cons c r => exact ⟨c, r, rfl⟩
    obtain ⟨c, r, rfl⟩ := this
    have h48 : c ≠ 48 := by
      rcases hh with h1 | h1
      · simpa using h1
      · rw [h1] at h; simp at h
    have ge := valF_ge c r hd h48
    have : 10 ^ 19 ≤ 10 ^ r.length := Nat.pow_le_pow_right (by omega) (by simp at h; omega)
    constructor
    · rintro (h' | h') <;> omega
    · intro h'; split at h' <;> omega
/-- what is behind a word: a number of 64 bits? -/
def headT (t : List UInt8) : Bool :=
  match t with
  | [] => false
  | c :: r =>
    if 20 < r.length + 1 then false
    else if c = 45 then
      (if r = [] ∨ r = [48] then false else if r.head? = some 48 ∧ 1 < r.length then false else if digs r then withinT r true else false)
    else if c = 48 ∧ 1 < r.length + 1 then false else if digs (c :: r) then withinT (c :: r) false else false
theorem dec_len (u : Nat) (h : u ≤ 9223372036854775808) : (decDigits u).length ≤ 19 := by
  obtain ⟨d1, d2, c, r, hcr, h48⟩ := dec_all u
  by_cases h0 : u = 0
  · subst h0; rw [decDigits_one (by omega)]; simp
  · rw [hcr] at d1 d2 ⊢
    have ge := valF_ge c r d1 (h48 (by omega))
    rw [d2] at ge
    apply Classical.byContradiction
    intro hl
    have : 10 ^ 19 ≤ 10 ^ r.length := Nat.pow_le_pow_right (by omega) (by simp at hl; omega)
    omega
theorem headT_iff (t : List UInt8) : headT t = (numT t).isSome := by
  rw [Bool.eq_iff_iff]
  constructor
  · intro h
    have key : ∃ v, Canon t v := by
      unfold headT at h
      cases t with
      | nil => cases h
      | cons c r =>
        simp only at h
        split at h
        · cases h
        · split at h
          · rename_i hc
            subst hc
            split at h
            · cases h
            · rename_i hne
              split at h
              · cases h
              · rename_i h0
                split at h
                · rename_i hd
                  have hr0 : r ≠ [] := fun e => hne (.inl e)
                  have hh : r.head? ≠ some 48 ∨ r = [48] := by
                    by_cases e : r.head? = some 48
                    · exfalso
                      have : ¬ 1 < r.length := fun k => h0 ⟨e, k⟩
                      apply hne; right
                      cases r with
                      | nil => simp at hr0
                      | cons a s =>
                        have : s = [] := by cases s with | nil => rfl | cons _ _ => simp at this
                        subst this
                        simpa using e
                    · exact .inl e
                  rw [within_val true hd hh hr0] at h
                  simp only [if_true, decide_eq_true_eq] at h
                  have hdec := dec_of r.length r rfl hd hr0 hh
                  refine ⟨-(valF 0 r : Int), .inr ⟨valF 0 r, ?_, by omega, rfl, by rw [hdec]⟩⟩
                  apply Nat.pos_of_ne_zero
                  intro e
                  rw [e, decDigits_one (by omega)] at hdec
                  exact hne (.inr hdec.symm)
                · cases h
          · rename_i hc
            split at h
            · cases h
            · rename_i h0
              split at h
              · rename_i hd
                have hh : (c :: r).head? ≠ some 48 ∨ c :: r = [48] := by
                  by_cases e : c = 48
                  · right
                    have : ¬ 1 < r.length + 1 := fun k => h0 ⟨e, k⟩
                    have : r = [] := by cases r with | nil => rfl | cons _ _ => simp at this
                    rw [e, this]
                  · left; simpa using e
                rw [within_val false hd hh (by simp)] at h
                simp only [Bool.false_eq_true, if_false, decide_eq_true_eq] at h
                have hdec := dec_of (c :: r).length (c :: r) rfl hd (by simp) hh
                exact ⟨(valF 0 (c :: r) : Nat), .inl ⟨valF 0 (c :: r), rfl, hdec.symm, by omega⟩⟩
              · cases h
    obtain ⟨v, hv⟩ := key
    rw [(numT_iff t v).2 hv]; rfl
  · intro h
    obtain ⟨v, hv⟩ := Option.isSome_iff_exists.1 h
    rcases (numT_iff t v).1 hv with ⟨u, rfl, rfl, hu⟩ | ⟨u, h1, h2, rfl, rfl⟩
    · obtain ⟨d1, d2, c, r, hcr, h48⟩ := dec_all u
      have hl := dec_len u (by omega)
      have hhd := dec_head u
      have hw := within_val false d1 hhd (dec_ne u)
      rw [d2] at hw
      have hw : withinT (decDigits u) false = true := by rw [hw]; simp; omega
      rw [hcr] at d1 hl hhd hw ⊢
      have hn : c ≠ 45 := by
        intro e
        have := (digs_cons d1).1
        rw [e] at this
        have : (45 : UInt8).toNat = 45 := rfl
        omega
      unfold headT
      simp only
      rw [if_neg (by simp at hl; omega), if_neg hn]
      rw [if_neg (by
        rintro ⟨e, k⟩
        rcases hhd with h | h
        · exact h (by rw [e]; rfl)
        · rw [List.cons.injEq] at h; rw [h.2] at k; simp at k), if_pos d1]
      exact hw
    · obtain ⟨d1, d2, c, r, hcr, h48⟩ := dec_all u
      have hl := dec_len u h2
      have hhd := dec_head u
      have hw := within_val true d1 hhd (dec_ne u)
      rw [d2] at hw
      have hw : withinT (decDigits u) true = true := by rw [hw]; simp; omega
      have h480 : decDigits u ≠ [48] := by
        intro e
        rw [e] at d2
        have : valF 0 [48] = 0 := by decide
        omega
      unfold headT
      simp only
      rw [if_neg (by omega), if_pos trivial, if_neg (by rintro (e | e); exact dec_ne u e; exact h480 e), if_neg (by
        rintro ⟨e, _⟩
        rcases hhd with h | h
        · exact h e
        · exact h480 h), if_pos d1]
      exact hw
/-- the number behind a word; below 0: none -/
def sizedT (t : List UInt8) : Int := if t ≠ [] ∧ t.length ≤ 9 ∧ digs t = true ∧ decDigits (valF 0 t) = t then (valF 0 t : Nat) else -1
theorem sizedT_of {t : List UInt8} {v : Int} (h : numT t = some v) : sizedT t = v ∨ (sizedT t = -1 ∧ (v < 0 ∨ 16 < v)) := by
  rcases (numT_iff t v).1 h with ⟨u, rfl, rfl, hu⟩ | ⟨u, h1, h2, rfl, rfl⟩
  · obtain ⟨d1, d2, c, r, hcr, h48⟩ := dec_all u
    unfold sizedT
    by_cases hl : (decDigits u).length ≤ 9
    · left; rw [if_pos ⟨dec_ne u, hl, d1, by rw [d2]⟩, d2]
    · right
      rw [if_neg (fun k => hl k.2.1)]
      refine ⟨rfl, .inr ?_⟩
      by_cases h0 : u = 0
      · subst h0; rw [decDigits_one (by omega)] at hl; simp at hl
      · rw [hcr] at d1 d2 hl
        have ge := valF_ge c r d1 (h48 (by omega))
        rw [d2] at ge
        have : 10 ^ 9 ≤ 10 ^ r.length := Nat.pow_le_pow_right (by omega) (by simp at hl; omega)
        omega
  · right
    unfold sizedT
    rw [if_neg]
    · exact ⟨rfl, .inl (by omega)⟩
    · rintro ⟨_, _, k, _⟩
      have := (digs_cons k).1
      have : (45 : UInt8).toNat = 45 := rfl
      omega
end Go.Proofs.YtjejkadaafmdcaaDoor
