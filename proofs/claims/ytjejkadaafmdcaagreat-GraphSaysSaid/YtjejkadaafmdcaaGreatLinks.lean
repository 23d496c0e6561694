/- links: the closed fact of chapter 9. -/
import Derived.Test.YtjejkadaafmdcaaGreatAsGraph
set_option linter.unusedVariables false
set_option linter.unusedSimpArgs false
namespace Go.Proofs.YtjejkadaafmdcaaGreat
open Go.RowKit Go.Sort FR Go.Lib
theorem g33_corner {k : Nat} : g33.Corner k ↔ k = 0 ∨ k = 2 ∨ k = 6 ∨ k = 8 := by
  constructor
  · intro h
    obtain ⟨i, hi, rfl⟩ := cf_has h
    have h2 := (cf_at hi).1
    rw [corners33] at h2 hi
    have hi : i < 4 := hi
    rcases (show i = 0 ∨ i = 1 ∨ i = 2 ∨ i = 3 by omega) with rfl | rfl | rfl | rfl
    · have : (0 : Int) = (cf g33 0 : Nat) := h2; omega
    · have : (2 : Int) = (cf g33 1 : Nat) := h2; omega
    · have : (6 : Int) = (cf g33 2 : Nat) := h2; omega
    · have : (8 : Int) = (cf g33 3 : Nat) := h2; omega
  · have hl : (cornersI g33).length = 4 := by rw [corners33]; rfl
    rintro (rfl | rfl | rfl | rfl)
    · have h := cf_at (g := g33) (i := 0) (by omega)
      rw [corners33] at h
      have e : (0 : Int) = (cf g33 0 : Nat) := h.1
      rw [show (0 : Nat) = cf g33 0 by omega]; exact h.2
    · have h := cf_at (g := g33) (i := 1) (by omega)
      rw [corners33] at h
      have e : (2 : Int) = (cf g33 1 : Nat) := h.1
      rw [show (2 : Nat) = cf g33 1 by omega]; exact h.2
    · have h := cf_at (g := g33) (i := 2) (by omega)
      rw [corners33] at h
      have e : (6 : Int) = (cf g33 2 : Nat) := h.1
      rw [show (6 : Nat) = cf g33 2 by omega]; exact h.2
    · have h := cf_at (g := g33) (i := 3) (by omega)
      rw [corners33] at h
      have e : (8 : Int) = (cf g33 3 : Nat) := h.1
      rw [show (8 : Nat) = cf g33 3 by omega]; exact h.2
theorem w01 : Walk g33.E 0 1 ⟨1, 0⟩ := Walk.single ⟨by decide +kernel, 2, by decide, by decide +kernel, by decide +kernel, rfl⟩
theorem w12 : Walk g33.E 1 2 ⟨1, 0⟩ := Walk.single ⟨by decide +kernel, 2, by decide, by decide +kernel, by decide +kernel, rfl⟩
theorem w03 : Walk g33.E 0 3 ⟨1, 0⟩ := Walk.single ⟨by decide +kernel, 4, by decide, by decide +kernel, by decide +kernel, rfl⟩
theorem w36 : Walk g33.E 3 6 ⟨1, 0⟩ := Walk.single ⟨by decide +kernel, 4, by decide, by decide +kernel, by decide +kernel, rfl⟩
theorem far33 {a b : Nat} {c : C} (h : Walk g33.E a b c) : (g33.X b : Int) - g33.X a ≤ c.s + c.d ∧ (g33.X a : Int) - g33.X b ≤ c.s + c.d ∧ (g33.Y b : Int) - g33.Y a ≤ c.s + c.d ∧ (g33.Y a : Int) - g33.Y b ≤ c.s + c.d :=
  let h := G.walk_far h
  ⟨h.2.2.1, h.2.2.2.1, h.2.2.2.2.1, h.2.2.2.2.2.1⟩
theorem xy33 : g33.X 0 = 0 ∧ g33.Y 0 = 0 ∧ g33.X 2 = 2 ∧ g33.Y 2 = 0 ∧ g33.X 6 = 0 ∧ g33.Y 6 = 2 ∧ g33.X 8 = 2 ∧ g33.Y 8 = 2 := by decide +kernel
theorem nomid {a b k : Nat} (h : g33.Mid a b k) (ho : g33.oct a b = ⟨2, 0⟩) (hs : 4 ≤ max ((g33.X k : Int) - g33.X a) ((g33.Y k : Int) - g33.Y a) + max ((g33.X k : Int) - g33.X b) ((g33.Y k : Int) - g33.Y b)) : False := by
  obtain ⟨p, q, h1, h2, h3⟩ := h
  have f1 := far33 h1
  have f2 := far33 h2
  rw [ho] at h3
  have e1 : p.s + q.s = 2 := congrArg C.s h3
  have e2 : p.d + q.d = 0 := congrArg C.d h3
  omega
theorem direct02 : g33.Direct 0 2 := by
  obtain ⟨x0, y0, x2, y2, x6, y6, x8, y8⟩ := xy33
  have ho : g33.oct 0 2 = ⟨2, 0⟩ := C.ext' (by decide +kernel) (by decide +kernel)
  refine ⟨?_, fun k hk h0 h2 hm => nomid hm ho ?_⟩
  · unfold G.Near
    rw [ho]
    exact Walk.trans w01 w12
  · rcases g33_corner.1 hk with rfl | rfl | rfl | rfl
    · exact absurd rfl h0
    · exact absurd rfl h2
    · rw [x6, y6, x0, y0, x2, y2]; decide
    · rw [x8, y8, x0, y0, x2, y2]; decide
theorem direct06 : g33.Direct 0 6 := by
  obtain ⟨x0, y0, x2, y2, x6, y6, x8, y8⟩ := xy33
  have ho : g33.oct 0 6 = ⟨2, 0⟩ := C.ext' (by decide +kernel) (by decide +kernel)
  refine ⟨?_, fun k hk h0 h2 hm => nomid hm ho ?_⟩
  · unfold G.Near
    rw [ho]
    exact Walk.trans w03 w36
  · rcases g33_corner.1 hk with rfl | rfl | rfl | rfl
    · exact absurd rfl h0
    · rw [x2, y2, x0, y0, x6, y6]; decide
    · exact absurd rfl h2
    · rw [x8, y8, x0, y0, x6, y6]; decide
theorem ndirect08 : ¬ g33.Direct 0 8 := by
  intro h
  have h1 := h.1
  unfold G.Near at h1
  have ho : g33.oct 0 8 = ⟨0, 2⟩ := C.ext' (by decide +kernel) (by decide +kernel)
  rw [ho] at h1
  rcases h1.inv' with ⟨e, _⟩ | ⟨m, d, e, h2, h3, h4⟩
  · cases e
  · obtain ⟨_, k, hk, hm, _, rfl⟩ := h2
    have hs : ∀ k, k < 8 → g33.mayC 0 k = true → (stepC k).s = 1 := by decide +kernel
    have := hs k hk hm
    have n1 := (G.walk_far h3).1
    have e1 : (0 : Int) = (stepC k).s + d.s := congrArg C.s h4
    omega
theorem links_list {E : Int → Option (List Ed)} {L : List Ed} (hS : GSpec g33 (fun _ _ => True) E) (hL : E (0 : Nat) = some L) : L = [⟨2, ⟨2, 0⟩, -1⟩, ⟨6, ⟨2, 0⟩, -1⟩] := by
  obtain ⟨h1, h2⟩ := hS.2 0 L hL
  refine srt_ext (srt_pw h1) (by simp) (fun z => ?_)
  rw [h2 z]
  have o2 : g33.oct 0 2 = ⟨2, 0⟩ := C.ext' (by decide +kernel) (by decide +kernel)
  have o6 : g33.oct 0 6 = ⟨2, 0⟩ := C.ext' (by decide +kernel) (by decide +kernel)
  constructor
  · rintro ⟨y, hy, h0, _, hd, rfl⟩
    rcases g33_corner.1 hy with rfl | rfl | rfl | rfl
    · exact absurd rfl h0
    · rw [o2]; simp
    · rw [o6]; simp
    · exact absurd hd ndirect08
  · intro hz
    simp only [List.mem_cons, List.not_mem_nil, or_false] at hz
    rcases hz with rfl | rfl
    · exact ⟨2, g33_corner.2 (by simp), by decide, trivial, direct02, by rw [o2]; rfl⟩
    · exact ⟨6, g33_corner.2 (by simp), by decide, trivial, direct06, by rw [o6]; rfl⟩
theorem links_true (w : World) : Calls Tryz.prog 7 #[] w fun e w' => e = .returned (.bool true) ∧ Below w.heap.size w w' := by
  go_enter Tryz.func7, Tryz.ntmps7
  go_wp2_with fail
  (with_reducible refine (gridNew_ex 3 3 _ (by decide)).mono ?_)
  rintro e w1 ⟨p0, rfl, hp0, hG, hb1⟩
  go_wp2_with fail
  refine (gridSet_new _ p0 _ _ 4 true hG (by decide) (by decide) (by decide)).mono ?_
  rintro e w2 ⟨rfl, hG2, hk2⟩
  have HB2 := Kept.below hb1 hk2 hb1.size (by simp; omega)
  have hG2 : GridAt w2 p0 g33 (0 + 1) := hG2
  have cN := Lib.hid (graphNew w2 p0 g33 _ hG2)
  clear hG hG2 hk2 hb1
  go_wp2_with fail
  (with_reducible refine cN.out.mono ?_)
  rintro e w3 ⟨b3, p3, mb3, S3, E3, rfl, hGr, hGs, _, hb3⟩
  have HB3 := bel_trans HB2 hb3
  obtain ⟨L, hL⟩ : ∃ L, E3 (0 : Nat) = some L := by
    cases h : E3 (0 : Nat) with
    | none => exact absurd h ((hGs.1 _).2 ⟨0, rfl, g33_corner.2 (.inl rfl)⟩)
    | some L => exact ⟨L, rfl⟩
  have hLL := links_list hGs hL
  subst hLL
  have cE := Lib.hid (graphEdges w3 b3 p3 mb3 S3 g33 (0 + 1) E3 hGr 0 _ hL (by simp))
  have cD := Lib.hid (fun w' (hb : Below w3.heap.size w3 w') => graphNodes w' b3 p3 mb3 S3 g33 (0 + 1) E3 (hGr.below hb) hGs.1)
  clear hGr hGs hb3 HB2 cN hL
  go_wp2_with fail
  (refine cE.out.mono ?_)
  rintro e w4 ⟨A4, m4, rfl, hE4, _, hb4⟩
  have hE4' : EdsAt w4 A4 [⟨2, ⟨2, 0⟩, -1⟩, ⟨6, ⟨2, 0⟩, -1⟩] := hE4
  obtain ⟨gb, hA, a1, a2, a3, a4⟩ := hE4'.get (j := 0) (e := ⟨2, ⟨2, 0⟩, -1⟩) rfl
  have hix := fun wx => idxE (n := 2) (m := m4) hA (show 0 < 2 by decide) wx
  simp only [Nat.zero_mul, Nat.zero_add] at a1 a2 a3 a4 hix
  have hix : ∀ wx, (Instr.indexAt 59 (.slice A4 2 m4) (.int .i64 0)).run Tryz.prog wx = .ok (.pointer (some ⟨gb, 0, none⟩)) wx := hix
  have HB4 := bel_trans HB3 hb4
  have cN := Lib.hid (cD.out _ hb4)
  clear hE4 hE4' hA cE cD hb4 HB3
  simp only [List.length_cons, List.length_nil, Nat.zero_add, Nat.reduceAdd]
  go_wp2_with fail
  (with_reducible refine (same_ok _).mono ?_)
  rintro e w' ⟨rfl, rfl⟩
  go_wp2_with fail
  (with_reducible refine cN.out.mono ?_)
  rintro e w5 ⟨A5, m5, rfl, hI5, hb5⟩
  have HB5 := bel_trans HB4 hb5
  rw [corners33]
  simp only [List.length_cons, List.length_nil, Nat.zero_add, Nat.reduceAdd]
  clear hI5 cN hix a1 a2 a3 a4
  go_wp2
  go_ret
  exact ⟨rfl, HB5⟩
end Go.Proofs.YtjejkadaafmdcaaGreat
