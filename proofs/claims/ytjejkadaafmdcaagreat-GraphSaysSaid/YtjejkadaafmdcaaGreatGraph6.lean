/- graph.Edges: a copy of a node's list. -/
import Derived.Test.YtjejkadaafmdcaaGreatGraph5
import Derived.Lib.SliceRun
set_option linter.unusedVariables false
set_option linter.unusedSimpArgs false
namespace Go.Proofs.YtjejkadaafmdcaaGreat
open Go.RowKit Go.Sort FR
def ClnD (w : World) (L : List Ed) (e : Ending) (w' : World) : Prop := ∃ A m, e = .returned (.slice A L.length m) ∧ EdsAt w' A L ∧ (∀ ad, A = some ad → w.heap.size ≤ ad.block) ∧ Below w.heap.size w w'
set_option maxRecDepth 100000 in
theorem edClone (w : World) (B : Nat) (v : Value) (L : List Ed) (h : OwnE w B v L) (hl : L.length ≤ 100000) :
    Calls Tryz.prog 64 #[v] w (ClnD w L) := by
  obtain ⟨i0, z0, hi, hz0, hz1, hz2, hz3⟩ := edge_parts
  have hq : ∀ (w : World) (a : Option Addr) (n c n' c' : Nat), (binOp .eql 59 (.slice a n c) (.slice none n' c')).run Tryz.prog w = .ok (.bool a.isNone) w := fun w a n c n' c' => Lib.run_eql_slice_nil w _ _ a n c n' c' Tryz.underlying59
  rcases h.2 with ⟨rfl, h0⟩ | ⟨g, cap, cur, rfl, _, hg, _, _, _, htake⟩
  · have : L = [] := List.eq_nil_of_length_eq_zero h0
    subst this
    go_enter Tryz.func64, Tryz.ntmps64
    go_wp2
    go_ret
    exact ⟨none, 0, rfl, fun h => by simp at h, (fun ad e => by cases e), Below.refl _ _⟩
  · have hsrc : ∀ j u, (edL L)[j]? = some u → w.cell? ((⟨g, 0, none⟩ : Addr).add j) = some u := fun j u hu => by
      rw [Addr.add_lit, Nat.zero_add]
      rw [← htake, List.getElem?_take] at hu
      split at hu
      · rw [Array.getElem?_toList] at hu
        simp [World.cell?, hg, hu]
      · cases hu
    have hgl : g < w.heap.size := (Array.getElem?_eq_some_iff.1 hg).1
    have hlen := edL_length L
    have hone := edL_one L
    obtain ⟨n, hn⟩ : ∃ n, L.length = n := ⟨_, rfl⟩
    obtain ⟨X, hX⟩ : ∃ X, edL L = X := ⟨_, rfl⟩
    rw [hn] at hl hlen ⊢
    rw [hX] at hsrc hlen hone
    have Hn := Lib.hid (And.intro hn hX)
    clear hn hX htake hg h
    go_enter Tryz.func64, Tryz.ntmps64
    go_wp2_with (at_builtin; (refine wpList_append_own _ rfl _ _ 59 rfl w.heap.size 70 i0 z0 4 32 Tryz.underlying59 hi hz0 hz1 hz2 hz3 (by decide) _ _ _ rfl (World.ownsRow_made w #[] 0 (Nat.le_refl _) (Nat.zero_le _) rfl) ⟨g, 0, none⟩ n cap X rfl hlen (fun j u hj => Lib.cell?_alloc_some _ (hsrc j u hj)) hone (by unfold maxLen; omega) (by omega) (by simp) ?_); intro v' w1 hown hgrow hnil)
    have hown2 : OwnE w1 w.heap.size v' L := by
      unfold OwnE
      rw [Hn.out.1, Hn.out.2]
      simpa using hown
    obtain ⟨A, m, rfl, hEd⟩ := hown2.eds
    have hB1 : Below w.heap.size w w1 := ((Below.refl _ w).alloc (Nat.le_refl _) _).grown hgrow (by simp) (fun k hk => (World.ownsRow.lt (World.ownsRow_made (e := 70) (size := 4) w #[] 0 (Nat.le_refl _) (Nat.zero_le _) rfl) k hk).1)
    have hfin : ClnD w L (.returned (.slice A L.length m)) w1 := ⟨A, m, rfl, hEd, fun ad e => (World.ownsRow.lt hown2 ad.block (by rw [e]; rfl)).1, hB1⟩
    have hfin := Lib.hid hfin
    clear hown hgrow hnil hown2 hEd hB1
    go_wp2
    go_ret
    exact hfin.out
/-- what Edges hands back -/
def EdsD (w : World) (L : List Ed) (e : Ending) (w' : World) : Prop := ∃ A m, e = .returned (.tuple #[.slice A L.length m, .nilIface]) ∧ EdsAt w' A L ∧ (∀ ad, A = some ad → w.heap.size ≤ ad.block) ∧ Below w.heap.size w w'
set_option maxRecDepth 100000 in
theorem graphEdges (w : World) (b p mb : Nat) (S : List Nat) (g : G) (v : Int) (E : Int → Option (List Ed)) (h : GraphOf w b p mb S g v E) (c : Int) (L : List Ed) (hc : E c = some L) (hl : L.length ≤ 100000) :
    Calls Tryz.prog 43 #[.pointer (some ⟨b, 0, none⟩), .int .i64 c] w (EdsD w L) := by
  obtain ⟨g1, _, ⟨V, N, q1, q2, q3, _, _, _, _⟩, _⟩ := h
  have kb1 : w.cell? ⟨b, 1, none⟩ = some (.map (some mb)) := by simp [World.cell?, g1]
  obtain ⟨u, hu⟩ : ∃ u, V c = some u := by
    cases hV : V c with
    | none => rw [(q2 c).2 hV] at hc; cases hc
    | some u => exact ⟨u, rfl⟩
  have hO := q3 c u L hu hc
  have hlk : (Instr.lookup 54 (.map (some mb)) (.int .i64 c) true).run Tryz.prog w = .ok (.tuple #[u, .bool true]) w := by
    have := (q1.look (int_fit Tryz.underlying3) Tryz.underlying54 (z := .slice none 0 0) (by simp [Tryz.zeroValue59]) c).1
    rw [hu] at this
    exact this
  have cC := Lib.hid (edClone w 0 u L hO hl)
  clear g1 q1 q2 q3 hu hO hc
  go_enter Tryz.func43, Tryz.ntmps43
  go_wp2_with fail
  (with_reducible refine cC.out.mono ?_)
  rintro e w1 ⟨A, m, rfl, hEd, hAn, hb1⟩
  have hfin : EdsD w L (.returned (.tuple #[.slice A L.length m, .nilIface])) w1 := ⟨A, m, rfl, hEd, hAn, hb1⟩
  have hfin := Lib.hid hfin
  clear hEd hb1 hlk cC
  go_wp2
  go_ret2
  exact hfin.out
theorem EdsAt.kept {w w' : World} {A : Option Addr} {L : List Ed} {T : List Nat} (h : EdsAt w A L) (hk : Kept T w w') (hT : ∀ ad, A = some ad → ad.block ∉ T) : EdsAt w' A L := fun hl => by
  obtain ⟨g, h1, h2, h3⟩ := h hl
  refine ⟨g, h1, Nat.lt_of_lt_of_le h2 hk.size, fun j v hv => ?_⟩
  exact (World.cell?_of_block (a := ⟨g, j, none⟩) (hk.block g h2 (hT _ h1))).trans (h3 j v hv)
theorem GraphOf.kept {w w' : World} {b p mb : Nat} {S T : List Nat} {g : G} {v : Int} {E : Int → Option (List Ed)} (h : GraphOf w b p mb S g v E) (hk : Kept T w w') (hT : ∀ k, k ∈ b :: p :: mb :: S → k ∉ T) : GraphOf w' b p mb S g v E := by
  obtain ⟨g1, g2, g3, g4⟩ := h
  exact ⟨(hk.block b (Array.getElem?_eq_some_iff.1 g1).1 (hT b (by simp))).trans g1, g2.kept hk (hT p (by simp)), g3.kept hk (fun s hs => hT s (by simp [hs])) (hT mb (by simp)), g4⟩
end Go.Proofs.YtjejkadaafmdcaaGreat
