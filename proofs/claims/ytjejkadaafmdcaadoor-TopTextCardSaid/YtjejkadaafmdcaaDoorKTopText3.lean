/- Lemmas of this claim: MathTxt, MathTxt2. -/
import Derived.Lib.AtoiAll
import Derived.Lib.AtoiAllCases
import Derived.Lib.ItoaNum
import Derived.Lib.IndexMore
import Derived.Lib.Strings
import GoSem.Op.String
set_option linter.unusedVariables false
set_option linter.unusedSimpArgs false
/- Texts: lines, and numbers in digits (plain). -/
namespace Go.Proofs.YtjejkadaafmdcaaDoor
open Go.Lib
theorem idx10 : ∀ l : List UInt8, (index l [10] = -1 ∧ (10 : UInt8) ∉ l) ∨ ∃ a b, l = a ++ 10 :: b ∧ (10 : UInt8) ∉ a ∧ index l [10] = (a.length : Nat)
  | [] => .inl ⟨rfl, by simp⟩
  | c :: l => by
    by_cases hc : c = 10
    · subst hc
      exact .inr ⟨[], l, rfl, by simp, by simp [index, List.isPrefixOf]⟩
    · have h0 : ([10] : List UInt8).isPrefixOf (c :: l) = false := by
        have : ¬ 10 = c := fun h => hc h.symm
        simp [List.isPrefixOf, this]
      rcases idx10 l with ⟨h1, h2⟩ | ⟨a, b, e, h2, h3⟩
      · left
        refine ⟨by unfold index; rw [h0, h1]; rfl, ?_⟩
        rw [List.mem_cons]
        rintro (h | h)
        · exact hc h.symm
        · exact h2 h
      · right
        subst e
        refine ⟨c :: a, b, rfl, ?_, ?_⟩
        · rw [List.mem_cons]
          rintro (h | h)
          · exact hc h.symm
          · exact h2 h
        · unfold index
          rw [h0, h3]
          have : ((a.length : Int) == -1) = false := by rw [beq_eq_false_iff_ne]; omega
          simp [this]
theorem cut10 (l : List UInt8) : (cut l [10] = (l, [], false) ∧ (10 : UInt8) ∉ l) ∨ ∃ a b, cut l [10] = (a, b, true) ∧ l = a ++ 10 :: b ∧ (10 : UInt8) ∉ a := by
  rcases idx10 l with ⟨h1, h2⟩ | ⟨a, b, e, h2, h3⟩
  · left
    refine ⟨?_, h2⟩
    unfold cut
    rw [h1, if_neg (by omega)]
  · right
    refine ⟨a, b, ?_, e, h2⟩
    unfold cut
    rw [h3, if_pos (by omega), e]
    simp
def lnsS (st : List (List UInt8) × List UInt8) (b : UInt8) : List (List UInt8) × List UInt8 := if b = 10 then (st.1 ++ [st.2], []) else (st.1, st.2 ++ [b])
def lnsF (st : List (List UInt8) × List UInt8) (l : List UInt8) : List (List UInt8) × List UInt8 := l.foldl lnsS st
/-- The lines of a text, each without its end; what is behind the last end. -/
def lns (l : List UInt8) : List (List UInt8) × List UInt8 := lnsF ([], []) l
theorem lnsF_app (X : List (List UInt8)) : ∀ (l : List UInt8) (Y : List (List UInt8)) (r : List UInt8), lnsF (X ++ Y, r) l = (X ++ (lnsF (Y, r) l).1, (lnsF (Y, r) l).2)
  | [], _, _ => rfl
  | b :: l, Y, r => by
    show lnsF (lnsS (X ++ Y, r) b) l = (X ++ (lnsF (lnsS (Y, r) b) l).1, (lnsF (lnsS (Y, r) b) l).2)
    unfold lnsS
    by_cases hb : b = 10
    · rw [if_pos hb, if_pos hb]
      show lnsF ((X ++ Y) ++ [r], []) l = _
      rw [List.append_assoc]
      exact lnsF_app X l _ _
    · rw [if_neg hb, if_neg hb]
      exact lnsF_app X l _ _
theorem lnsF_free : ∀ (l : List UInt8) (Y : List (List UInt8)) (r : List UInt8), (10 : UInt8) ∉ l → lnsF (Y, r) l = (Y, r ++ l)
  | [], _, _, _ => by simp [lnsF]
  | b :: l, Y, r, h => by
    have hb : b ≠ 10 := fun e => h (by simp [e])
    show lnsF (lnsS (Y, r) b) l = _
    unfold lnsS
    rw [if_neg hb, lnsF_free l Y (r ++ [b]) (fun e => h (List.mem_cons_of_mem _ e))]
    simp
theorem lnsF_more (st : List (List UInt8) × List UInt8) (a b : List UInt8) : lnsF st (a ++ b) = lnsF (lnsF st a) b := List.foldl_append ..
theorem lns_free {l : List UInt8} (h : (10 : UInt8) ∉ l) : lns l = ([], l) := lnsF_free l [] [] h
theorem lns_cons {a b : List UInt8} (h : (10 : UInt8) ∉ a) : lns (a ++ 10 :: b) = (a :: (lns b).1, (lns b).2) := by
  show lnsF ([], []) (a ++ 10 :: b) = _
  rw [lnsF_more, lnsF_free a [] [] h]
  show lnsF (([] ++ [[] ++ a] : List (List UInt8)), []) b = _
  have := lnsF_app [a] b [] []
  simpa [lns] using this
/-! Digits. -/
def dgt (c : UInt8) : Bool := decide (48 ≤ c.toNat ∧ c.toNat ≤ 57)
def digs (l : List UInt8) : Bool := l.all dgt
def valF (a : Nat) (l : List UInt8) : Nat := l.foldl (fun a c => a * 10 + (c.toNat - 48)) a
theorem valF_snoc (a : Nat) (l : List UInt8) (c : UInt8) : valF a (l ++ [c]) = valF a l * 10 + (c.toNat - 48) := by simp [valF, List.foldl_append]
theorem valF_acc : ∀ (l : List UInt8) (a : Nat), valF a l = a * 10 ^ l.length + valF 0 l
  | [], a => by simp [valF]
  | c :: l, a => by
    have e1 : valF a (c :: l) = valF (a * 10 + (c.toNat - 48)) l := rfl
    have e2 : valF 0 (c :: l) = valF (0 * 10 + (c.toNat - 48)) l := rfl
    rw [e1, e2, valF_acc l (a * 10 + _), valF_acc l (0 * 10 + _), List.length_cons, Nat.pow_succ]
    rw [Nat.add_mul, Nat.zero_mul, Nat.zero_add, Nat.mul_assoc, Nat.mul_comm 10]
    omega
theorem digs_snoc (l : List UInt8) (c : UInt8) : digs (l ++ [c]) = (digs l && dgt c) := by simp [digs]
theorem ofNat_toNat (n : Nat) (h : n < 10) : (UInt8.ofNat (48 + n)).toNat = 48 + n := by
  rw [UInt8.toNat_ofNat']; omega
theorem dec_rec (u : Nat) (h : 10 ≤ u) : decDigits u = decDigits (u / 10) ++ [UInt8.ofNat (48 + u % 10)] := by rw [decDigits, dif_neg (by omega)]
theorem dec_all : ∀ u : Nat, digs (decDigits u) = true ∧ valF 0 (decDigits u) = u ∧ ∃ c r, decDigits u = c :: r ∧ (0 < u → c ≠ 48) := by
  intro u
  induction u using Nat.strongRecOn with
  | ind u ih =>
    by_cases hu : u < 10
    · rw [decDigits_one hu]
      have e := ofNat_toNat u hu
      refine ⟨by simp only [digs, dgt, List.all_cons, List.all_nil, Bool.and_true, e, decide_eq_true_eq]; omega, by simp only [valF, List.foldl_cons, List.foldl_nil, e]; omega, _, [], rfl, fun h0 h => ?_⟩
      rw [h] at e
      have : (48 : UInt8).toNat = 48 := rfl
      omega
    · obtain ⟨h1, h2, c, r, h3, h4⟩ := ih (u / 10) (by omega)
      rw [dec_rec u (by omega)]
      have e := ofNat_toNat (u % 10) (by omega)
      refine ⟨by rw [digs_snoc, h1]; simp [dgt, e]; omega, by rw [valF_snoc, h2, e]; omega, c, r ++ [_], by rw [h3]; rfl, fun _ => h4 (by omega)⟩
theorem valF_ge (c : UInt8) (r : List UInt8) (h : digs (c :: r) = true) (hc : c ≠ 48) : 10 ^ r.length ≤ valF 0 (c :: r) := by
  have e2 : valF 0 (c :: r) = valF (0 * 10 + (c.toNat - 48)) r := rfl
  rw [e2, valF_acc]
  have hd : dgt c = true := by simp [digs] at h; exact h.1
  have hn : c.toNat ≠ 48 := fun e => hc (UInt8.toNat_inj.1 (by rw [e]; rfl))
  have : 1 ≤ 0 * 10 + (c.toNat - 48) := by simp [dgt] at hd; omega
  have hm := Nat.mul_le_mul_right (10 ^ r.length) this
  omega
theorem dec_ne (u : Nat) : decDigits u ≠ [] := by
  obtain ⟨_, _, c, r, h, _⟩ := dec_all u
  rw [h]; simp
theorem pu10_ok : ∀ (l : List UInt8) (a : Nat), digs l = true → valF a l < 18446744073709551616 → parseUint10 a l = .ok (valF a l)
  | [], a, _, _ => rfl
  | c :: l, a, h, hv => by
    have hc : 48 ≤ c.toNat ∧ c.toNat ≤ 57 := by simp [digs, dgt] at h; exact h.1
    have hl : digs l = true := by simp [digs] at h; simp [digs]; exact h.2
    have e : valF a (c :: l) = valF (a * 10 + (c.toNat - 48)) l := rfl
    rw [e] at hv ⊢
    have hb : a * 10 + (c.toNat - 48) ≤ valF (a * 10 + (c.toNat - 48)) l := by
      rw [valF_acc]
      have := Nat.mul_le_mul_left (a * 10 + (c.toNat - 48)) (Nat.one_le_pow l.length 10 (by omega))
      omega
    unfold parseUint10
    rw [if_pos hc, if_neg (by omega), if_neg (by omega)]
    exact pu10_ok l _ hl hv
/-- The number that a text is the writing of. -/
def numT (t : List UInt8) : Option Int := match atoiAll t with | .ok v => if itoa v = t then some v else none | _ => none
def Canon (t : List UInt8) (v : Int) : Prop := (∃ u : Nat, v = u ∧ t = decDigits u ∧ u < 9223372036854775808) ∨ ∃ u : Nat, 1 ≤ u ∧ u ≤ 9223372036854775808 ∧ v = -(u : Int) ∧ t = 45 :: decDigits u
theorem itoa_nn (u : Nat) : itoa (u : Int) = decDigits u := by unfold itoa; rw [if_neg (by omega)]; simp
theorem itoa_ng (u : Nat) (h : 1 ≤ u) : itoa (-(u : Int)) = 45 :: decDigits u := by unfold itoa; rw [if_pos (by omega)]; simp
theorem dgt_ne {c : UInt8} (h : dgt c = true) : c.toNat ≠ 43 ∧ c.toNat ≠ 45 := by simp [dgt] at h; omega
theorem pmag_ok (u : Nat) (h : u < 18446744073709551616) : parseMag (decDigits u) = .ok u := by
  unfold parseMag
  obtain ⟨h1, h2, _⟩ := dec_all u
  rw [if_neg (dec_ne u), pu10_ok _ _ h1 (by rw [h2]; exact h), h2]
theorem numT_iff (t : List UInt8) (v : Int) : numT t = some v ↔ Canon t v := by
  constructor
  · intro h
    unfold numT at h
    cases ha : atoiAll t with
    | range => rw [ha] at h; cases h
    | ok x =>
      rw [ha] at h
      obtain ⟨b1, b2⟩ := atoiAll_bounds ha
      simp only at h
      split at h
      · rename_i hi
        simp only [Option.some.injEq] at h
        subst h
        by_cases hx : x < 0
        · right
          refine ⟨x.natAbs, by omega, by omega, by omega, ?_⟩
          rw [← hi]; unfold itoa; rw [if_pos hx]
        · left
          refine ⟨x.toNat, by omega, ?_, by omega⟩
          rw [← hi]; unfold itoa; rw [if_neg hx]
      · cases h
    | _ => rw [ha] at h; cases h
  · rintro (⟨u, rfl, rfl, hu⟩ | ⟨u, h1, h2, rfl, rfl⟩)
    · obtain ⟨d1, d2, c, r, hcr, _⟩ := dec_all u
      have hc : dgt c = true := by rw [hcr] at d1; simp [digs] at d1; exact d1.1
      have hn := dgt_ne hc
      have ha : atoiAll (decDigits u) = .ok (u : Int) := by
        have hp := pmag_ok u (by omega)
        rw [hcr] at hp ⊢
        unfold atoiAll
        simp only [hn.1, hn.2, or_self, if_false, hp]
        rw [if_neg (by simp; omega), if_neg (by simp)]
      unfold numT
      rw [ha]
      simp only [itoa_nn, if_true]
    · have ha : atoiAll (45 :: decDigits u) = .ok (-(u : Int)) := by
        have hp := pmag_ok u (by omega)
        unfold atoiAll
        have h45 : (45 : UInt8).toNat = 45 := rfl
        simp only [h45, or_true, if_true, hp]
        rw [if_neg (by simp), if_neg (by simp; omega)]
      unfold numT
      rw [ha]
      simp only [itoa_ng u h1, if_true]
end Go.Proofs.YtjejkadaafmdcaaDoor
/- Texts: what the document takes for a number is what is written as one (plain). -/
namespace Go.Proofs.YtjejkadaafmdcaaDoor
open Go.Lib
theorem dec_len (u : Nat) (h : u ≤ 9223372036854775808) : (decDigits u).length ≤ 19 := by
  obtain ⟨d1, d2, c, r, hcr, h48⟩ := dec_all u
  by_cases h0 : u = 0
  · subst h0; rw [decDigits_one (by omega)]; simp
  · rw [hcr] at d1 d2 ⊢
    have ge := valF_ge c r d1 (h48 (by omega))
    rw [d2] at ge
    apply Classical.byContradiction
    intro hl
    have : 10 ^ 19 ≤ 10 ^ r.length := Nat.pow_le_pow_right (by omega) (by simp at hl; omega)
    omega
end Go.Proofs.YtjejkadaafmdcaaDoor
