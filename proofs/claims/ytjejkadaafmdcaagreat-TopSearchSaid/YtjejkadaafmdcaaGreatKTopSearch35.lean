/- Lemmas of this claim: RLv1, RLv2, RLv3, RLv4, RLv5, RLv6, LvS1, LvS2. -/
import Derived.Test.YtjejkadaafmdcaaGreatKTopSearch29
import Derived.Test.YtjejkadaafmdcaaGreatKTopSearch13
import Derived.Test.YtjejkadaafmdcaaGreatKTopSearch25
set_option linter.unusedVariables false
set_option linter.unusedSimpArgs false
/- The document's levels: an edge is laid into a list; the place of an edge. -/
namespace Go.Proofs.YtjejkadaafmdcaaGreat
open Go.RowKit Go.Sort FR Go.Lib
/-- one edge more is gone over -/
def layStep (x : Ed) (s : List Ed × Bool) (e : Ed) : List Ed × Bool :=
  let s1 := if s.2 = false ∧ x.to_ ≤ e.to_ then (s.1 ++ [x], true) else s
  if e.to_ = x.to_ then s1 else (s1.1 ++ [e], s1.2)
structure LayI (x : Ed) (T M : List Ed) (laid : Bool) : Prop where
  pw : M.Pairwise fun a b => a.to_ < b.to_
  mem : ∀ e, e ∈ M ↔ (laid = true ∧ e = x) ∨ (e ∈ T ∧ e.to_ ≠ x.to_)
  yes : laid = true ↔ ∃ e ∈ T, x.to_ ≤ e.to_
theorem LayI.step {x e : Ed} {T M : List Ed} {laid : Bool} (h : LayI x T M laid) (hT : ∀ y ∈ T, y.to_ < e.to_) : LayI x (T ++ [e]) (layStep x (M, laid) e).1 (layStep x (M, laid) e).2 := by
  have app : ∀ (N : List Ed) (y : Ed), N.Pairwise (fun a b => a.to_ < b.to_) → (∀ z ∈ N, z.to_ < y.to_) → (N ++ [y]).Pairwise (fun a b => a.to_ < b.to_) := fun N y h1 h2 => by
    rw [List.pairwise_append]
    exact ⟨h1, by simp, fun a ha b hb => by simp at hb; subst hb; exact h2 a ha⟩
  unfold layStep
  cases laid with
  | true =>
    obtain ⟨e', he', hle⟩ := h.yes.1 rfl
    have hlt := hT e' he'
    have hne : ¬ e.to_ = x.to_ := by omega
    simp only [Bool.true_eq_false, false_and, if_false, if_neg hne]
    refine ⟨app _ _ h.pw fun z hz => ?_, fun z => ?_, ?_⟩
    · rcases (h.mem z).1 hz with ⟨_, rfl⟩ | ⟨q, _⟩
      · omega
      · exact hT z q
    · rw [List.mem_append, h.mem z, List.mem_append]
      simp only [List.mem_singleton, true_and]
      constructor
      · rintro ((q | ⟨q1, q2⟩) | rfl)
        · exact .inl q
        · exact .inr ⟨.inl q1, q2⟩
        · exact .inr ⟨.inr rfl, hne⟩
      · rintro (q | ⟨q1 | rfl, q2⟩)
        · exact .inl (.inl q)
        · exact .inl (.inr ⟨q1, q2⟩)
        · exact .inr rfl
    · exact ⟨fun _ => ⟨e', by simp [he'], hle⟩, fun _ => rfl⟩
  | false =>
    have hno : ∀ y ∈ T, y.to_ < x.to_ := fun y hy => by
      apply Classical.byContradiction
      intro q
      have := h.yes.2 ⟨y, hy, by omega⟩
      cases this
    have hM : ∀ z ∈ M, z.to_ < x.to_ := fun z hz => by
      rcases (h.mem z).1 hz with ⟨q, _⟩ | ⟨q, _⟩
      · cases q
      · exact hno z q
    by_cases hle : x.to_ ≤ e.to_
    · simp only [true_and, if_pos hle]
      by_cases hne : e.to_ = x.to_
      · simp only [if_pos hne]
        refine ⟨app _ _ h.pw hM, fun z => ?_, ?_⟩
        · rw [List.mem_append, h.mem z, List.mem_append]
          simp only [Bool.false_eq_true, false_and, false_or, List.mem_singleton, true_and]
          constructor
          · rintro (⟨q1, q2⟩ | q)
            · exact .inr ⟨.inl q1, q2⟩
            · exact .inl q
          · rintro (q | ⟨q1 | rfl, q2⟩)
            · exact .inr q
            · exact .inl ⟨q1, q2⟩
            · exact absurd hne q2
        · exact ⟨fun _ => ⟨e, by simp, hle⟩, fun _ => rfl⟩
      · simp only [if_neg hne]
        refine ⟨app _ _ (app _ _ h.pw hM) fun z hz => ?_, fun z => ?_, ?_⟩
        · rcases List.mem_append.1 hz with q | q
          · have := hM z q; omega
          · simp at q; subst q; omega
        · rw [List.mem_append, List.mem_append, h.mem z, List.mem_append]
          simp only [Bool.false_eq_true, false_and, false_or, List.mem_singleton, true_and]
          constructor
          · rintro ((⟨q1, q2⟩ | q) | rfl)
            · exact .inr ⟨.inl q1, q2⟩
            · exact .inl q
            · exact .inr ⟨.inr rfl, hne⟩
          · rintro (q | ⟨q1 | rfl, q2⟩)
            · exact .inl (.inr q)
            · exact .inl (.inl ⟨q1, q2⟩)
            · exact .inr rfl
        · exact ⟨fun _ => ⟨e, by simp, hle⟩, fun _ => rfl⟩
    · have hne : ¬ e.to_ = x.to_ := by omega
      simp only [true_and, if_neg hle, if_neg hne]
      refine ⟨app _ _ h.pw fun z hz => ?_, fun z => ?_, ?_⟩
      · rcases (h.mem z).1 hz with ⟨q, _⟩ | ⟨q, _⟩
        · cases q
        · exact hT z q
      · rw [List.mem_append, h.mem z, List.mem_append]
        simp only [Bool.false_eq_true, false_and, false_or, List.mem_singleton]
        constructor
        · rintro (⟨q1, q2⟩ | rfl)
          · exact ⟨.inl q1, q2⟩
          · exact ⟨.inr rfl, hne⟩
        · rintro ⟨q1 | rfl, q2⟩
          · exact .inl ⟨q1, q2⟩
          · exact .inr rfl
      · refine ⟨fun q => (nomatch q), ?_⟩
        rintro ⟨y, hy, q⟩
        rcases List.mem_append.1 hy with r | r
        · have := hno y r; omega
        · simp at r; subst r; exact absurd q hle
end Go.Proofs.YtjejkadaafmdcaaGreat
/- The document's levels: lay, edgeTo: the walks. -/
namespace Go.Proofs.YtjejkadaafmdcaaGreat
open Go.RowKit Go.Sort FR Go.Lib
end Go.Proofs.YtjejkadaafmdcaaGreat
/- The document's levels in memory; the place of an edge; a map's literal. (The laws of LvR are those of LvOf, XLv1, XLv8, XLv9, XLv13, by another name.) -/
namespace Go.Proofs.YtjejkadaafmdcaaGreat
open Go.RowKit Go.Sort FR Go.Lib
def LvR (w : World) (b ml me : Nat) (S : List Nat) (top : Int) (V : Int → Option Value) (nl : Nat) (E : Int → Option (List Ed)) : Prop :=
  w.heap[b]? = some (.cells #[.map (some ml), .map (some me), .int .i64 top] 56 (0, 0)) ∧ MapAt iK w ml V nl ∧ EMap w S me E ∧ b ∉ S ∧ ml ∉ S ∧ b ≠ ml ∧ b ≠ me ∧ ml ≠ me
theorem LvR.kept {w w' : World} {b ml me nl : Nat} {S T : List Nat} {top : Int} {V : Int → Option Value} {E : Int → Option (List Ed)} (h : LvR w b ml me S top V nl E) (hk : Kept T w w') (hT : ∀ k, k ∈ b :: ml :: me :: S → k ∉ T) : LvR w' b ml me S top V nl E := by
  obtain ⟨g1, g2, g3, g4⟩ := h
  exact ⟨(hk.block b (Array.getElem?_eq_some_iff.1 g1).1 (hT b (by simp))).trans g1, g2.kept hk (hT ml (by simp)), g3.kept hk (fun s hs => hT s (by simp [hs])) (hT me (by simp)), g4⟩
theorem LvR.below {w w' : World} {b ml me nl : Nat} {S : List Nat} {top : Int} {V : Int → Option Value} {E : Int → Option (List Ed)} (h : LvR w b ml me S top V nl E) (hb : Below w.heap.size w w') : LvR w' b ml me S top V nl E := h.kept (T := []) (.of_below hb) (fun _ _ => by simp)
theorem LvR.put {w w' : World} {b ml me nl : Nat} {Sb Sb' : List Nat} {top : Int} {V : Int → Option Value} {E E' : Int → Option (List Ed)} (h : LvR w b ml me Sb top V nl E) (hE : EMap w' Sb' me E') (hS : ∀ k ∈ Sb', k ∈ Sb ∨ w.heap.size ≤ k) (hk : Kept (me :: Sb) w w') : LvR w' b ml me Sb' top V nl E' := by
  obtain ⟨h1, h2, h3, h4, h5, h6, h7, h8⟩ := h
  have lb := (Array.getElem?_eq_some_iff.1 h1).1
  refine ⟨(hk.block b lb (by simp; exact ⟨h7, h4⟩)).trans h1, h2.kept hk (by simp; exact ⟨h8, h5⟩), hE, fun hm => ?_, fun hm => ?_, h6, h7, h8⟩
  · rcases hS _ hm with q | q
    · exact h4 q
    · omega
  · rcases hS _ hm with q | q
    · exact h5 q
    · have := h2.lt; omega
theorem LvR.lts {w : World} {b ml me nl : Nat} {Sb : List Nat} {top : Int} {V : Int → Option Value} {E : Int → Option (List Ed)} (h : LvR w b ml me Sb top V nl E) : b < w.heap.size ∧ ml < w.heap.size ∧ me < w.heap.size ∧ ∀ k ∈ Sb, k < w.heap.size := by
  obtain ⟨h1, h2, h3, _⟩ := h
  refine ⟨(Array.getElem?_eq_some_iff.1 h1).1, h2.lt, h3.lt, ?_⟩
  obtain ⟨_, _, _, _, _, _, _, _, h7⟩ := h3
  exact h7
theorem LvR.lev {w w' : World} {b ml me nl nl' : Nat} {Sb : List Nat} {top : Int} {V V' : Int → Option Value} {E : Int → Option (List Ed)} (h : LvR w b ml me Sb top V nl E) (hM : MapAt iK w' ml V' nl') (hk : Kept [ml] w w') : LvR w' b ml me Sb top V' nl' E := by
  obtain ⟨h1, h2, h3, h4, h5, h6, h7, h8⟩ := h
  exact ⟨(hk.block b (Array.getElem?_eq_some_iff.1 h1).1 (by simpa using h6)).trans h1, hM, h3.kept hk (fun s hs => by simp; rintro rfl; exact h5 hs) (by simpa using Ne.symm h8), h4, h5, h6, h7, h8⟩
theorem LvR.top {w : World} {b ml me nl : Nat} {Sb : List Nat} {top top' : Int} {V : Int → Option Value} {E : Int → Option (List Ed)} (h : LvR w b ml me Sb top V nl E) : LvR (w.setCell ⟨b, 2, none⟩ (.int .i64 top')) b ml me Sb top' V nl E := by
  obtain ⟨h1, h2, h3, h4, h5, h6, h7, h8⟩ := h
  have hk : Kept [b] w (w.setCell ⟨b, 2, none⟩ (.int .i64 top')) := (Kept.refl _ _).setCell (.inl (by simp))
  refine ⟨?_, h2.kept hk (by simpa using Ne.symm h6), h3.kept hk (fun s hs => by simp; rintro rfl; exact h4 hs) (by simpa using Ne.symm h7), h4, h5, h6, h7, h8⟩
  have := set_heap1 w b 2 _ _ (.int .i64 top') h1
  simpa using this
theorem LvR.look {w : World} {b ml me nl : Nat} {Sb : List Nat} {top : Int} {V : Int → Option Value} {E : Int → Option (List Ed)} (h : LvR w b ml me Sb top V nl E) {z : Int} {L : List Ed} (hL : E z = some L) :
    ∃ A cap, EdsAt w A L ∧ ∀ w', Below w.heap.size w w' → (Instr.lookup 54 (.map (some me)) (.int .i64 z) false).run Tryz.prog w' = .ok (.slice A L.length cap) w' := by
  obtain ⟨_, _, ⟨W3, N, q1, q2, q3, _, _, _, _⟩, _⟩ := h
  obtain ⟨u, hu⟩ : ∃ u, W3 z = some u := by
    cases hV : W3 z with
    | none => rw [(q2 z).2 hV] at hL; cases hL
    | some u => exact ⟨u, rfl⟩
  obtain ⟨A, cap, rfl, hEd⟩ := (q3 z u L hu hL).eds
  refine ⟨A, cap, hEd, fun w' hb => ?_⟩
  have := ((q1.below hb).look (int_fit Tryz.underlying3) Tryz.underlying54 (z := .slice none 0 0) (by simp [Tryz.zeroValue59]) z).2
  rw [hu] at this; exact this
section
variable {P : Program} {kt et mt : TypeId} {K : Type} [DecidableEq K] {kf : K → Value} {w : World} {b n : Nat} {m : K → Option Value}
end
/-- whoever is reached -/
def isV (L : Nat → Option C) (z : Int) : Option Value := if 0 ≤ z ∧ (L z.toNat).isSome = true then some (.bool true) else none
theorem isV_at (L : Nat → Option C) (n : Nat) : (isV L (n : Nat)).getD (.bool false) = .bool (L n).isSome := by
  cases h : (L n).isSome <;> simp [isV, h]
theorem isV_put (L : Nat → Option C) (t : Nat) (c : C) : updK (isV L) ((t : Nat) : Int) (some (.bool true)) = isV (FR.upd L t (some c)) := by
  funext z
  unfold updK isV
  by_cases e : z = (t : Nat)
  · rw [if_pos e, if_pos ⟨by omega, by rw [e]; simp [upd_same]⟩]
  · rw [if_neg e]
    by_cases h : 0 ≤ z
    · have : FR.upd L t (some c) z.toNat = L z.toNat := upd_ne _ _ (by omega)
      rw [this]
    · rw [if_neg (fun q => h q.1), if_neg (fun q => h q.1)]
end Go.Proofs.YtjejkadaafmdcaaGreat
/- The document's levels: apart: labels in two maps. -/
namespace Go.Proofs.YtjejkadaafmdcaaGreat
open Go.RowKit Go.Sort FR Go.Lib
/-- labels in two maps -/
def LabP (W w : World) (mc mi : Nat) (L : Nat → Option C) : Prop := (∃ n1, MapAt iK w mc (mapI (doneV L)) n1) ∧ (∃ n2, MapAt iK w mi (isV L) n2) ∧ Kept [mc, mi] W w
theorem LabP.below {W w w' : World} {mc mi : Nat} {L : Nat → Option C} (h : LabP W w mc mi L) (hb : Below w.heap.size w w') : LabP W w' mc mi L := by
  obtain ⟨⟨n1, h1⟩, ⟨n2, h2⟩, h3⟩ := h
  exact ⟨⟨n1, h1.below hb⟩, ⟨n2, h2.below hb⟩, h3.trans (.of_below hb)⟩
theorem LabP.lt {W w : World} {mc mi : Nat} {L : Nat → Option C} (h : LabP W w mc mi L) : mc < w.heap.size ∧ mi < w.heap.size := by
  obtain ⟨⟨n1, h1⟩, ⟨n2, h2⟩, _⟩ := h
  exact ⟨h1.lt, h2.lt⟩
theorem LabP.is {W w : World} {mc mi : Nat} {L : Nat → Option C} (h : LabP W w mc mi L) (t : Nat) : ∀ w', Below w.heap.size w w' → (Instr.lookup 123 (.map (some mi)) (.int .i64 (t : Nat)) false).run Tryz.prog w' = .ok (.bool (L t).isSome) w' := fun w' hb => by
  obtain ⟨_, ⟨n2, h2⟩, _⟩ := h
  have := ((h2.below hb).look (int_fit Tryz.underlying3) Tryz.underlying123 (boolz w') ((t : Nat) : Int)).2
  rw [isV_at] at this; exact this
theorem LabP.cost {W w : World} {mc mi : Nat} {L : Nat → Option C} (h : LabP W w mc mi L) (t : Nat) : ∃ cs cd : Int, (∀ d, L t = some d → d = ⟨cs, cd⟩) ∧ (L t = none → cs = 0 ∧ cd = 0) ∧ ∀ w', Below w.heap.size w w' →
    (Instr.lookup 122 (.map (some mc)) (.int .i64 (t : Nat)) false).run Tryz.prog w' = .ok (.agg #[.int .i64 cs, .int .i64 cd]) w' := by
  obtain ⟨⟨n1, h1⟩, _, _⟩ := h
  have key := fun w' hb => ((h1.below (w' := w') hb).look (int_fit Tryz.underlying3) Tryz.underlying122 (cost_zero w') ((t : Nat) : Int)).2
  cases hL : L t with
  | none =>
    refine ⟨0, 0, (fun d h => nomatch h), fun _ => ⟨rfl, rfl⟩, fun w' hb => ?_⟩
    have h := key w' hb
    rw [mapI_nat] at h; unfold doneV at h; rw [hL] at h
    exact h
  | some c =>
    refine ⟨c.s, c.d, (fun d h => by injection h with h; rw [← h]), (fun h => nomatch h), fun w' hb => ?_⟩
    have h := key w' hb
    rw [mapI_nat] at h; unfold doneV at h; rw [hL] at h
    exact h
/-- a label is laid: both maps -/
theorem LabP.put {W w w1 w2 : World} {mc mi n1 n2 : Nat} {L : Nat → Option C} {t : Nat} {cs cd : Int} (h : LabP W w mc mi L) (hm1 : MapAt iK w1 mc (updK (mapI (doneV L)) ((t : Nat) : Int) (some (.agg #[.int .i64 cs, .int .i64 cd]))) n1) (hk1 : Kept [mc] w w1)
    (hm2 : MapAt iK w2 mi (updK (isV L) ((t : Nat) : Int) (some (.bool true))) n2) (hk2 : Kept [mi] w1 w2) (hne : mc ≠ mi) : LabP W w2 mc mi (FR.upd L t (some ⟨cs, cd⟩)) := by
  rw [mapI_upd, show (some (Value.agg #[.int .i64 cs, .int .i64 cd]) : Option Value) = some (costV ⟨cs, cd⟩) from rfl, doneV_upd] at hm1
  rw [isV_put L t ⟨cs, cd⟩] at hm2
  exact ⟨⟨_, hm1.kept hk2 (by simpa using hne)⟩, ⟨_, hm2⟩, (h.2.2.trans (hk1.wid (by simp))).trans (hk2.wid (by simp))⟩
def oneF (fr : Nat) : Nat → C → Prop := fun s c0 => s = fr ∧ c0 = C.zero
abbrev bfA (N : Nat) (L : Nat → Option C) : Nat := BF.meas N (BF.K N 0 4000) L
/-- what holds of the labels: P always, Q while none has been lowered in this round -/
def ApO (W wr : World) (S : LS) (n fr N mc mi mm : Nat) (P Q : (Nat → Option C) → Prop) (ag : Bool) : Prop :=
  ∃ L, LabP W wr mc mi L ∧ BF (S.Lw n) (oneF fr) N 0 4000 L ∧ (∃ d, L fr = some d ∧ C.le d C.zero) ∧ bfA N L ≤ mm ∧ (ag = true → bfA N L < mm) ∧ P L ∧ (ag = false → Q L)
theorem ApO.below {W wr w' : World} {S : LS} {n fr N mc mi mm : Nat} {P Q : (Nat → Option C) → Prop} {ag : Bool} (h : ApO W wr S n fr N mc mi mm P Q ag) (hb : Below wr.heap.size wr w') : ApO W w' S n fr N mc mi mm P Q ag := by
  obtain ⟨L, h1, h2⟩ := h
  exact ⟨L, h1.below hb, h2⟩
end Go.Proofs.YtjejkadaafmdcaaGreat
/- The document's levels: apart: the walk. -/
namespace Go.Proofs.YtjejkadaafmdcaaGreat
open Go.RowKit Go.Sort FR Go.Lib
end Go.Proofs.YtjejkadaafmdcaaGreat
/- The document's round: plain. -/
namespace Go.Proofs.YtjejkadaafmdcaaGreat
open Go.RowKit Go.Sort FR Go.Lib
/-- two rows that are not one -/
def Apart (v u : Value) : Prop := ∀ q, v.ownBlock = some q → u.ownBlock ≠ some q
theorem Apart.symm {v u : Value} (h : Apart v u) : Apart u v := fun q hq hv => h q hv hq
theorem Apart.grown {w w' : World} {v v' u : Value} (h : Apart v u) (hat : v'.ownBlock = v.ownBlock ∨ v'.ownBlock = some w.heap.size) (hu : ∀ q, u.ownBlock = some q → q < w.heap.size) : Apart v' u := fun q hq hu2 => by
  rcases hat with e | e
  · exact h q (by rw [← e]; exact hq) hu2
  · rw [e] at hq; injection hq with hq
    have := hu q hu2
    omega
end Go.Proofs.YtjejkadaafmdcaaGreat
/- stairs: the closed fact of chapter 10: plain. -/
namespace Go.Proofs.YtjejkadaafmdcaaGreat
open Go.RowKit Go.Sort FR Go.Lib
end Go.Proofs.YtjejkadaafmdcaaGreat
/- stairs: the closed fact of chapter 10: the walk. -/
namespace Go.Proofs.YtjejkadaafmdcaaGreat
open Go.RowKit Go.Sort FR Go.Lib
end Go.Proofs.YtjejkadaafmdcaaGreat
