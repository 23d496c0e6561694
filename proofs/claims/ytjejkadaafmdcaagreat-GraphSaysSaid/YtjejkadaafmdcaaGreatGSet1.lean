/- graph.between, slices.Contains. -/
import Derived.Test.YtjejkadaafmdcaaGreatGSp
set_option linter.unusedVariables false
set_option linter.unusedSimpArgs false
namespace Go.Proofs.YtjejkadaafmdcaaGreat
open Go.RowKit Go.Sort FR
/-- a bool that says P -/
def BoolD (w : World) (P : Prop) (e : Ending) (w' : World) : Prop := ∃ t : Bool, e = .returned (.bool t) ∧ (t = true ↔ P) ∧ Below w.heap.size w w'
theorem graphBetween (w : World) (b p : Nat) (g : G) (v : Int) (mv : Value) (x y : Nat) (X Y : Int) (hb : w.heap[b]? = some (.cells #[.pointer (some ⟨p, 0, none⟩), mv] 93 (0, 0))) (hG : GridAt w p g v) (hx : x < g.n) (hy : y < g.n) (hX : -100 ≤ X ∧ X ≤ 100) (hY : -100 ≤ Y ∧ Y ≤ 100) :
    Calls Tryz.prog 56 #[.pointer (some ⟨b, 0, none⟩), .int .i64 (x : Nat), .int .i64 (y : Nat), .int .i64 X, .int .i64 Y] w (BoolD w (g.Btw x y X Y)) := by
  have hok := hG.1
  have kb0 : w.cell? ⟨b, 0, none⟩ = some (.pointer (some ⟨p, 0, none⟩)) := by simp [World.cell?, hb]
  obtain ⟨o1, o2, o3, o4⟩ := hG.1
  have x1 := G.X_lt hok x; have x2 := G.X_lt hok y; have y1 := G.Y_lt hx; have y2 := G.Y_lt hy
  have hdef : BoolD w (g.Btw x y X Y) = BoolD w ((((g.X x : Int) - 1 ≤ X ∨ (g.X y : Int) - 1 ≤ X) ∧ (X ≤ g.X x + 1 ∨ X ≤ g.X y + 1)) ∧ (((g.Y x : Int) - 1 ≤ Y ∨ (g.Y y : Int) - 1 ≤ Y) ∧ (Y ≤ g.Y x + 1 ∨ Y ≤ g.Y y + 1))) := by
    congr 1
    unfold G.Btw
    simp only [and_assoc]
  rw [hdef]
  clear hdef
  have cP := Lib.hid (gridPlace_in w p g v x hG hx)
  have cQ := Lib.hid (fun w' (hb : Below w.heap.size w w') => gridPlace_in w' p g v y (hG.below hb hG.lt) hy)
  obtain ⟨ax, hax⟩ : ∃ z, ((g.X x : Nat) : Int) = z := ⟨_, rfl⟩
  obtain ⟨ay, hay⟩ : ∃ z, ((g.Y x : Nat) : Int) = z := ⟨_, rfl⟩
  obtain ⟨bx, hbx⟩ : ∃ z, ((g.X y : Nat) : Int) = z := ⟨_, rfl⟩
  obtain ⟨by_, hby⟩ : ∃ z, ((g.Y y : Nat) : Int) = z := ⟨_, rfl⟩
  rw [hax, hay] at cP
  rw [hbx, hby] at cQ
  rw [hax, hay, hbx, hby]
  have a1 : 0 ≤ ax ∧ ax ≤ 16 := by omega
  have a2 : 0 ≤ ay ∧ ay ≤ 16 := by omega
  have a3 : 0 ≤ bx ∧ bx ≤ 16 := by omega
  have a4 : 0 ≤ by_ ∧ by_ ≤ 16 := by omega
  clear hax hay hbx hby x1 x2 y1 y2 hG hok hb
  obtain ⟨a1, a1'⟩ := a1; obtain ⟨a2, a2'⟩ := a2; obtain ⟨a3, a3'⟩ := a3; obtain ⟨a4, a4'⟩ := a4
  obtain ⟨X1, X2⟩ := hX; obtain ⟨Y1, Y2⟩ := hY
  go_enter Tryz.func56, Tryz.ntmps56
  go_wp2_with fail
  (with_reducible refine cP.out.mono ?_)
  rintro e w1 ⟨rfl, hb1⟩
  have kb1 := bel_cell hb1 kb0
  go_wp2_with fail
  (with_reducible refine (cQ.out _ hb1).mono ?_)
  rintro e w2 ⟨rfl, hb2⟩
  have hB := bel_trans hb1 hb2
  clear cP cQ kb0 kb1 hb1 hb2
  go_wp2
  all_goals
    go_ret
    exact ⟨_, rfl, by simp; omega, hB⟩
/-- some bool -/
def SomeBool (w : World) (e : Ending) (w' : World) : Prop := ∃ t : Bool, e = .returned (.bool t) ∧ Below w.heap.size w w'
/-- some index, or -1 -/
def SomeIdx (w : World) (e : Ending) (w' : World) : Prop := ∃ t : Int, e = .returned (.int .i64 t) ∧ Below w.heap.size w w'
theorem intsIndex (w : World) (A : Option Addr) (n m : Nat) (f : Nat → Int) (x : Int) (h : Ints w A n f) (hn : n ≤ 100000) :
    Calls Tryz.prog 98 #[.slice A n m, .int .i64 x] w (SomeIdx w) := by
  have H := Lib.hid h
  clear h
  go_enter Tryz.func98, Tryz.ntmps98
  go_wp2_with fail
  go_loopw [8] (fun kv wr => ∃ k : Nat, kv = .int .i64 k ∧ k ≤ n ∧ Below w.heap.size w wr) (fun kv _ => n - (intOf kv).toNat)
  case atStart => exact ⟨0, rfl, by omega, Below.refl _ _⟩
  case round =>
    obtain ⟨k, rfl, hk, hB⟩ := hrel
    by_cases hlt : k < n
    · have hI := H.out.below hB
      obtain ⟨ad, hA⟩ := hI.addr (by omega)
      rw [hA] at hI
      have hix := fun wx => idx_run (m := m) hA hlt wx
      have hE := hI.cell (Below.refl _ _) hlt
      obtain ⟨y, hy⟩ : ∃ y, f k = y := ⟨_, rfl⟩
      rw [hy] at hE
      clear hI hA hy
      go_wp2
      · go_ret
        exact ⟨_, rfl, hB⟩
      · go_roundw
        case rel => exact ⟨k + 1, by go_num, by omega, hB⟩
        case measure => simp [intOf]; omega
    · obtain rfl : k = n := by omega
      go_wp2
      go_ret
      exact ⟨_, rfl, hB⟩
theorem intsContains (w : World) (A : Option Addr) (n m : Nat) (f : Nat → Int) (x : Int) (h : Ints w A n f) (hn : n ≤ 100000) :
    Calls Tryz.prog 57 #[.slice A n m, .int .i64 x] w (SomeBool w) := by
  have cI := Lib.hid (intsIndex w A n m f x h hn)
  clear h
  go_enter Tryz.func57, Tryz.ntmps57
  go_wp2_with fail
  (with_reducible refine cI.out.mono ?_)
  rintro e w1 ⟨t, rfl, hb1⟩
  go_wp2
  go_ret
  exact ⟨_, rfl, hb1⟩
end Go.Proofs.YtjejkadaafmdcaaGreat
