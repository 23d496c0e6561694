/- SameEdges, of two equal lists; sorted lists are told by their members. -/
import Derived.Test.YtjejkadaafmdcaaGreatGraph6
set_option linter.unusedVariables false
set_option linter.unusedSimpArgs false
namespace Go.Proofs.YtjejkadaafmdcaaGreat
open Go.RowKit Go.Sort FR
set_option maxRecDepth 100000 in
set_option maxHeartbeats 800000 in
theorem sameEdges (w : World) (A A' : Option Addr) (n m m' : Nat) (L : List Ed) (h : EdsAt w A L) (h' : EdsAt w A' L) (hn : L.length = n) (hl : n ≤ 100000) :
    Calls Tryz.prog 23 #[.slice A n m, .slice A' n m'] w fun e w' => e = .returned (.bool true) ∧ Below w.heap.size w w' := by
  have H := Lib.hid h
  have H' := Lib.hid h'
  have Hn := Lib.hid hn
  clear h h' hn
  go_enter Tryz.func23, Tryz.ntmps23
  go_wp2_with fail
  go_loopw [5] (fun kv wr => ∃ k : Nat, kv = .int .i64 k ∧ k ≤ n ∧ Below w.heap.size w wr) (fun kv _ => n - (intOf kv).toNat)
  case atStart => exact ⟨0, rfl, by omega, Below.refl _ _⟩
  case round =>
    obtain ⟨k, rfl, hk, hB⟩ := hrel
    by_cases hlt : k < n
    · obtain ⟨e, he⟩ : ∃ e, L[k]? = some e := ⟨L[k]'(by rw [Hn.out]; exact hlt), List.getElem?_eq_getElem _⟩
      obtain ⟨g, hA, a1, a2, a3, a4⟩ := (H.out.below hB).get he
      obtain ⟨g', hA', b1, b2, b3, b4⟩ := (H'.out.below hB).get he
      have hix := fun wx => idxE (m := m) hA hlt wx
      have hix' := fun wx => idxE (m := m') hA' hlt wx
      obtain ⟨x, hx⟩ : ∃ x, e.to_ = x := ⟨_, rfl⟩
      obtain ⟨xs, hxs⟩ : ∃ x, e.c.s = x := ⟨_, rfl⟩
      obtain ⟨xd, hxd⟩ : ∃ x, e.c.d = x := ⟨_, rfl⟩
      obtain ⟨xm, hxm⟩ : ∃ x, e.mid = x := ⟨_, rfl⟩
      rw [hx] at a1 b1
      rw [hxs] at a2 b2
      rw [hxd] at a3 b3
      rw [hxm] at a4 b4
      clear hA hA' he hx hxs hxd hxm
      go_upto_region 6 with (fail)
      go_quiet (fail)
      go_wp2
      first
        | exact ⟨⟨k + 1, by go_num, by omega, bel_drewN hB⟩, by simp [intOf]; omega⟩
        | (go_roundw; (case rel => exact ⟨k + 1, by go_num, by omega, bel_drewN hB⟩); (case measure => simp [intOf]; omega))
    · obtain rfl : k = n := by omega
      go_wp2
      go_ret
      exact ⟨rfl, hB⟩
/-- two sorted lists with the same members are the same -/
theorem srt_ext : ∀ {L M : List Ed}, L.Pairwise (fun a b => a.to_ < b.to_) → M.Pairwise (fun a b => a.to_ < b.to_) → (∀ z, z ∈ L ↔ z ∈ M) → L = M
  | [], [], _, _, _ => rfl
  | [], y :: M, _, _, h => by have := (h y).2 (by simp); simp at this
  | x :: L, [], _, _, h => by have := (h x).1 (by simp); simp at this
  | x :: L, y :: M, hL, hM, h => by
    rw [List.pairwise_cons] at hL hM
    have hxy : x = y := by
      have a := (h x).1 (by simp)
      have b := (h y).2 (by simp)
      rcases List.mem_cons.1 a with a | a
      · exact a
      · rcases List.mem_cons.1 b with b | b
        · exact b.symm
        · have := hM.1 x a; have := hL.1 y b; omega
    subst hxy
    rw [srt_ext hL.2 hM.2 (fun z => ?_)]
    constructor
    · intro hz
      have := (h z).1 (List.mem_cons_of_mem _ hz)
      rcases List.mem_cons.1 this with e | e
      · subst e; have := hL.1 z hz; omega
      · exact e
    · intro hz
      have := (h z).2 (List.mem_cons_of_mem _ hz)
      rcases List.mem_cons.1 this with e | e
      · subst e; have := hM.1 z hz; omega
      · exact e
theorem srt_pw {L : List Ed} (h : Srt L) : L.Pairwise (fun a b => a.to_ < b.to_) := by
  rw [List.pairwise_iff_getElem]
  intro i j hi hj hij
  exact h i j _ _ hij (List.getElem?_eq_getElem hi) (List.getElem?_eq_getElem hj)
/-- one grid, one graph -/
theorem GSpec.one {g : G} {E E' : Int → Option (List Ed)} (h : GSpec g (fun _ _ => True) E) (h' : GSpec g (fun _ _ => True) E') {c : Nat} {L L' : List Ed} (hL : E c = some L) (hL' : E' c = some L') : L = L' := by
  obtain ⟨a1, a2⟩ := h.2 c L hL
  obtain ⟨b1, b2⟩ := h'.2 c L' hL'
  exact srt_ext (srt_pw a1) (srt_pw b1) (fun z => by rw [a2 z, b2 z])
end Go.Proofs.YtjejkadaafmdcaaGreat
