/- A heap's row, as a row that is owned: appending to it. -/
import Derived.Test.YtkiogciokngjfaaHeap4
import Derived.Deep.AppendLies
import Derived.Deep.RegionLaw
import Derived.WalkSpells
set_option linter.unusedVariables false
set_option linter.unusedSimpArgs false
namespace Go.Proofs.Ytkiogciokngjfaa
open Go.RowKit Go.Sort FR
/-- the cells of n items in a list -/
def Lies (xs : List Value) (n : Nat) (c : Nat → It) : Prop := ∀ k, k < n → xs[k * 3]? = some (.int .i64 (c k).c.s) ∧ xs[k * 3 + 1]? = some (.int .i64 (c k).c.d) ∧ xs[k * 3 + 2]? = some (.int .i64 (c k).id)
theorem ItemsIn.owns {w : World} {b cap n : Nat} {c : Nat → It} (h : ItemsIn w b cap n c) : ∃ xs, w.ownsRow 0 159 3 (.slice (some ⟨b, 0, none⟩) n cap) n xs ∧ Lies xs n c := by
  obtain ⟨h1, h2, cur, h3, h4, h5⟩ := h
  refine ⟨cur.toList.take (n * 3), ⟨?_, .inr ⟨b, cap, cur, rfl, Nat.zero_le _, h3, h1, h2, h4, rfl⟩⟩, ?_⟩
  · rw [List.length_take, Array.length_toList, h4]; omega
  · intro k hk
    obtain ⟨a1, a2, a3⟩ := h5 k hk
    rw [List.getElem?_take, if_pos (by omega), List.getElem?_take, if_pos (by omega), List.getElem?_take, if_pos (by omega)]
    simpa using ⟨a1, a2, a3⟩
theorem ItemsIn.of_owns {w : World} {B b cap n : Nat} {xs : List Value} {c : Nat → It} (h : w.ownsRow B 159 3 (.slice (some ⟨b, 0, none⟩) n cap) n xs) (hl : Lies xs n c) : ItemsIn w b cap n c := by
  rcases h.2 with ⟨h', _⟩ | ⟨g', cap', cur, h', _, hg, hnc, hcm, hcs, htake⟩
  · simp at h'
  · simp only [Value.slice.injEq, Option.some.injEq, Addr.mk.injEq, and_true, true_and] at h'
    obtain ⟨rfl, rfl⟩ := h'
    refine ⟨hnc, hcm, cur, hg, hcs, ?_⟩
    intro k hk
    obtain ⟨a1, a2, a3⟩ := hl k hk
    rw [← htake, List.getElem?_take, if_pos (by omega)] at a1
    rw [← htake, List.getElem?_take, if_pos (by omega)] at a2
    rw [← htake, List.getElem?_take, if_pos (by omega)] at a3
    rw [Array.getElem?_toList] at a1 a2 a3
    exact ⟨a1, a2, a3⟩
theorem Lies.push {xs : List Value} {n : Nat} {c : Nat → It} (h : Lies xs n c) (hn : xs.length = n * 3) (x : It) : Lies (xs ++ [.int .i64 x.c.s, .int .i64 x.c.d, .int .i64 x.id]) (n + 1) (upd c n x) := by
  intro k hk
  by_cases e : k = n
  · subst e
    unfold upd
    rw [if_pos rfl, List.getElem?_append_right (by omega), List.getElem?_append_right (by omega), List.getElem?_append_right (by omega), hn]
    simp
  · obtain ⟨a1, a2, a3⟩ := h k (by omega)
    unfold upd
    rw [if_neg e, List.getElem?_append_left (by omega), List.getElem?_append_left (by omega), List.getElem?_append_left (by omega)]
    exact ⟨a1, a2, a3⟩
/-- a heap's row owns its cells -/
theorem RowOk.owns {w : World} {b mb n : Nat} {sl : Value} {c : Nat → It} {S : List Nat} (h : RowOk w b mb sl n c S) : ∃ xs, w.ownsRow 0 159 3 sl n xs ∧ Lies xs n c := by
  rcases h with ⟨rfl, rfl, _⟩ | ⟨rb, cap, rfl, hI, _⟩
  · exact ⟨[], ⟨rfl, .inl ⟨rfl, rfl⟩⟩, fun k hk => absurd hk (by omega)⟩
  · exact hI.owns
theorem item_info : (Try.prog.info? 159).map (fun i => (i.zero.map fun z => z.cells.size, i.size, i.bytes)) = some (some 3, 3, 24) := by kernel_rfl
end Go.Proofs.Ytkiogciokngjfaa
