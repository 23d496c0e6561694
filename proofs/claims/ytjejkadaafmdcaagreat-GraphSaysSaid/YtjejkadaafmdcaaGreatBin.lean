/- slices.BinarySearchFunc over edges that are sorted by where they lead. -/
import Derived.Test.YtjejkadaafmdcaaGreatIns
set_option linter.unusedVariables false
set_option linter.unusedSimpArgs false
namespace Go.Proofs.YtjejkadaafmdcaaGreat
open Go.RowKit Go.Sort FR
/-- A slice that reads as these edges. -/
def EdsAt (w : World) (A : Option Addr) (L : List Ed) : Prop := 0 < L.length → ∃ g, A = some ⟨g, 0, none⟩ ∧ g < w.heap.size ∧ ∀ j v, (edL L)[j]? = some v → w.cell? ⟨g, j, none⟩ = some v
theorem OwnE.eds {w : World} {B : Nat} {v : Value} {L : List Ed} (h : OwnE w B v L) : ∃ A cap, v = .slice A L.length cap ∧ EdsAt w A L := by
  rcases h.2 with ⟨rfl, h0⟩ | ⟨g, cap, cur, rfl, _, hg, _, _, _, htake⟩
  · exact ⟨none, 0, by rw [h0], fun h => by omega⟩
  · refine ⟨_, cap, rfl, fun _ => ⟨g, rfl, (Array.getElem?_eq_some_iff.1 hg).1, fun j v hv => ?_⟩⟩
    rw [← htake, List.getElem?_take] at hv
    split at hv
    · rw [Array.getElem?_toList] at hv
      simp [World.cell?, hg, hv]
    · cases hv
theorem EdsAt.below {w w' : World} {A : Option Addr} {L : List Ed} (h : EdsAt w A L) (hb : Below w.heap.size w w') : EdsAt w' A L := fun hl => by
  obtain ⟨g, h1, h2, h3⟩ := h hl
  exact ⟨g, h1, Nat.lt_of_lt_of_le h2 hb.size, fun j v hv => bel_cell hb (h3 j v hv)⟩
theorem edL_get : ∀ (L : List Ed) (j : Nat) (e : Ed), L[j]? = some e → (edL L)[j * 4]? = some (.int .i64 e.to_) ∧ (edL L)[j * 4 + 1]? = some (.int .i64 e.c.s) ∧ (edL L)[j * 4 + 2]? = some (.int .i64 e.c.d) ∧ (edL L)[j * 4 + 3]? = some (.int .i64 e.mid)
  | [], j, e, h => by simp at h
  | x :: L, 0, e, h => by
    simp at h; subst h
    rw [edL_cons]
    simp [Ed.cells]
  | x :: L, j + 1, e, h => by
    simp at h
    have := edL_get L j e h
    rw [edL_cons]
    rw [show (j + 1) * 4 = 4 + j * 4 by omega]
    have l4 : x.cells.length = 4 := rfl
    refine ⟨?_, ?_, ?_, ?_⟩ <;> rw [List.getElem?_append_right (by omega), l4]
    · rw [show 4 + j * 4 - 4 = j * 4 by omega]; exact this.1
    · rw [show 4 + j * 4 + 1 - 4 = j * 4 + 1 by omega]; exact this.2.1
    · rw [show 4 + j * 4 + 2 - 4 = j * 4 + 2 by omega]; exact this.2.2.1
    · rw [show 4 + j * 4 + 3 - 4 = j * 4 + 3 by omega]; exact this.2.2.2
theorem EdsAt.get {w : World} {A : Option Addr} {L : List Ed} (h : EdsAt w A L) {j : Nat} {e : Ed} (he : L[j]? = some e) : ∃ g, A = some ⟨g, 0, none⟩ ∧ w.cell? ⟨g, j * 4, none⟩ = some (.int .i64 e.to_) ∧ w.cell? ⟨g, j * 4 + 1, none⟩ = some (.int .i64 e.c.s) ∧ w.cell? ⟨g, j * 4 + 2, none⟩ = some (.int .i64 e.c.d) ∧ w.cell? ⟨g, j * 4 + 3, none⟩ = some (.int .i64 e.mid) := by
  obtain ⟨g, h1, h2, h3⟩ := h (by have := (List.getElem?_eq_some_iff.1 he).1; omega)
  obtain ⟨a, b, c, d⟩ := edL_get L j e he
  exact ⟨g, h1, h3 _ _ a, h3 _ _ b, h3 _ _ c, h3 _ _ d⟩
def Srt (L : List Ed) : Prop := ∀ (i j : Nat) (a b : Ed), i < j → L[i]? = some a → L[j]? = some b → a.to_ < b.to_
/-- what the search hands back -/
def BinD (w : World) (L : List Ed) (t : Int) (r : Ending) (w' : World) : Prop := ∃ (i : Nat) (fd : Bool), r = .returned (.tuple #[.int .i64 (i : Nat), .bool fd]) ∧ i ≤ L.length ∧ (∀ j e, L[j]? = some e → (j < i ↔ e.to_ < t)) ∧ (fd = true ↔ ∃ e, L[i]? = some e ∧ e.to_ = t) ∧ Below w.heap.size w w'
theorem putCl (w : World) (e : Ed) (t : Int) (h1 : inC e.to_) (h2 : inC t) :
    Calls Tryz.prog 130 #[.agg #[.int .i64 e.to_, .int .i64 e.c.s, .int .i64 e.c.d, .int .i64 e.mid], .int .i64 t] w fun r w' => r = .returned (.int .i64 (e.to_ - t)) ∧ Below w.heap.size w w' := by
  obtain ⟨x, ⟨s, d⟩, m⟩ := e
  simp only at h1 ⊢
  unfold inC at h1 h2
  have hw : IntKind.i64.wrap (x - t) = x - t := IntWalk.i64_in _ (by omega)
  go_enter Tryz.func130, Tryz.ntmps130
  go_wp2
  go_ret
  exact ⟨rfl, by (repeat' (first | exact Below.refl _ _ | assumption | apply bel_drewN | apply bel_drew | apply bel_alloc | (refine bel_trans ?_ (by assumption))))⟩
theorem idxE {A : Option Addr} {g n m k : Nat} (h : A = some ⟨g, 0, none⟩) (hk : k < n) (wx : World) : (Instr.indexAt 59 (.slice A n m) (.int .i64 (k : Nat))).run Tryz.prog wx = .ok (.pointer (some ⟨g, k * 4, none⟩)) wx := by
  subst h
  have q : (k : Int) < (n : Int) := by omega
  go_simp
set_option maxRecDepth 100000 in
set_option maxHeartbeats 1600000 in
theorem binEdge (w : World) (A : Option Addr) (n cap : Nat) (L : List Ed) (t : Int)
    (h : EdsAt w A L) (hn : L.length = n) (hs : Srt L) (hb : ∀ e ∈ L, inC e.to_) (ht : inC t) (hl : n ≤ 100000) :
    Calls Tryz.prog 111 #[.slice A n cap, .int .i64 t, .func (.func 130) #[] #[]] w (BinD w L t) := by
  have hs := Lib.hid hs
  have hb := Lib.hid hb
  have Hn := Lib.hid hn
  have h := Lib.hid h
  clear hn
  go_enter Tryz.func111, Tryz.ntmps111
  go_wp2_with fail
  go_loopw [9, 10] (fun iv jv wr => ∃ i j : Nat, iv = .int .i64 i ∧ jv = .int .i64 j ∧ i ≤ j ∧ j ≤ n ∧ (∀ k e, L[k]? = some e → k < i → e.to_ < t) ∧ (∀ k e, L[k]? = some e → j ≤ k → t ≤ e.to_) ∧ Below w.heap.size w wr) (fun iv jv _ => (intOf jv).toNat - (intOf iv).toNat)
  case atStart => exact ⟨0, n, rfl, rfl, by omega, by omega, fun k e _ h => by omega, fun k e hk hj => by have := (List.getElem?_eq_some_iff.1 hk).1; have := Hn.out; omega, Below.refl _ _⟩
  case round =>
    obtain ⟨i, j, rfl, rfl, hij, hjn, h1, h2, HB⟩ := hrel
    have h1 := Lib.hid h1
    have h2 := Lib.hid h2
    by_cases hlt : i < j
    · have hw1 : IntKind.i64.wrap ((i : Int) + (j : Int)) = (i : Int) + (j : Int) := IntWalk.i64_in _ (by omega)
      go_upto_region 5 with (fail)
      have hmm : ((i : Int) + (j : Int)) / 2 = (((i + j) / 2 : Nat) : Int) := by omega
      have hm1 : i ≤ (i + j) / 2 := by omega
      have hm2 : (i + j) / 2 < j := by omega
      rw [hmm]
      obtain ⟨m, hm⟩ : ∃ m, (i + j) / 2 = m := ⟨_, rfl⟩
      rw [hm] at hm1 hm2 ⊢
      clear hm hmm hw1
      have hmn : m < n := by omega
      obtain ⟨e, he⟩ : ∃ e, L[m]? = some e := ⟨L[m]'(by rw [Hn.out]; exact hmn), List.getElem?_eq_getElem _⟩
      have He := Lib.hid he
      obtain ⟨g, hA, a1, a2, a3, a4⟩ := (h.out.below HB).get he
      have hix := fun wx => idxE (m := cap) hA hmn wx
      have cF := Lib.hid (putCl wr e t (hb.out e (List.mem_of_getElem? he)) ht)
      have hin : inC e.to_ := hb.out e (List.mem_of_getElem? he)
      have hk1 : e.to_ < t → ∀ k x, L[k]? = some x → k < m + 1 → x.to_ < t := fun hl k x hx hk => by
        by_cases e1 : k = m
        · subst e1; rw [hx] at he; injection he with he; rw [he]; exact hl
        · exact Int.lt_trans (hs.out k m x e (by omega) hx he) hl
      have hk2 : t ≤ e.to_ → ∀ k x, L[k]? = some x → m ≤ k → t ≤ x.to_ := fun hl k x hx hk => by
        by_cases e1 : k = m
        · subst e1; rw [hx] at he; injection he with he; rw [he]; exact hl
        · have := hs.out m k e x (by omega) he hx
          omega
      have hk1 := Lib.hid hk1
      have hk2 := Lib.hid hk2
      obtain ⟨x, hx⟩ : ∃ x, e.to_ = x := ⟨_, rfl⟩
      rw [hx] at a1 cF hin hk1 hk2
      obtain ⟨xs, hxs⟩ : ∃ x, e.c.s = x := ⟨_, rfl⟩
      obtain ⟨xd, hxd⟩ : ∃ x, e.c.d = x := ⟨_, rfl⟩
      obtain ⟨xm, hxm⟩ : ∃ x, e.mid = x := ⟨_, rfl⟩
      rw [hxs] at a2 cF
      rw [hxd] at a3 cF
      rw [hxm] at a4 cF
      clear hA he hx hxs hxd hxm
      go_wp2_with fail
      (with_reducible refine cF.out.mono ?_)
      rintro r w2 ⟨rfl, hb2⟩
      have HB2 := bel_trans HB hb2
      clear a1 a2 a3 a4 cF hix
      unfold inC at hin
      by_cases hxt : x < t
      · have hd : decide (x - t < 0) = true := by simp; omega
        have hk1 := Lib.hid (hk1.out hxt)
        have hwm : IntKind.i64.wrap ((m : Int) + 1) = ((m + 1 : Nat) : Int) := by rw [IntWalk.i64_in _ (by omega)]; omega
        clear hk2
        go_wp2
        go_roundw
        case rel => exact ⟨m + 1, j, rfl, rfl, by omega, by omega, hk1.out, h2.out, HB2⟩
        case measure => simp [intOf]; omega
      · have hd : decide (x - t < 0) = false := by simp; omega
        have hk2 := Lib.hid (hk2.out (by omega))
        clear hk1
        go_wp2
        go_roundw
        case rel => exact ⟨i, m, rfl, rfl, by omega, by omega, h1.out, hk2.out, HB2⟩
        case measure => simp [intOf]; omega
    · obtain rfl : i = j := by omega
      have hcut : ∀ k x, L[k]? = some x → (k < i ↔ x.to_ < t) := fun k x hx => by
        constructor
        · exact fun hk => h1.out k x hx hk
        · intro hl
          by_cases hk : k < i
          · exact hk
          · have := h2.out k x hx (by omega)
            omega
      have Hcut := Lib.hid hcut
      clear hcut
      clear h1 h2
      by_cases hin : i < n
      · obtain ⟨e, he⟩ : ∃ e, L[i]? = some e := ⟨L[i]'(by rw [Hn.out]; exact hin), List.getElem?_eq_getElem _⟩
        obtain ⟨g, hA, a1, a2, a3, a4⟩ := (h.out.below HB).get he
        have hix := fun wx => idxE (m := cap) hA hin wx
        have cF := Lib.hid (putCl wr e t (hb.out e (List.mem_of_getElem? he)) ht)
        have hinx : inC e.to_ := hb.out e (List.mem_of_getElem? he)
        obtain ⟨fd, hfd⟩ : ∃ fd, (e.to_ - t == 0) = fd := ⟨_, rfl⟩
        have hfin : fd = true ↔ ∃ x, L[i]? = some x ∧ x.to_ = t := by
          rw [← hfd, he]
          simp
          omega
        have Hfin := Lib.hid hfin
        clear hfin
        have Hfd := Lib.hid hfd
        obtain ⟨x, hx⟩ : ∃ x, e.to_ = x := ⟨_, rfl⟩
        rw [hx] at a1 cF Hfd
        obtain ⟨xs, hxs⟩ : ∃ x, e.c.s = x := ⟨_, rfl⟩
        obtain ⟨xd, hxd⟩ : ∃ x, e.c.d = x := ⟨_, rfl⟩
        obtain ⟨xm, hxm⟩ : ∃ x, e.mid = x := ⟨_, rfl⟩
        rw [hxs] at a2 cF
        rw [hxd] at a3 cF
        rw [hxm] at a4 cF
        have q : (i : Int) < (n : Int) := by omega
        clear hA he hx hxs hxd hxm hfd hinx
        go_wp2_with fail
        (with_reducible refine cF.out.mono ?_)
        rintro r w2 ⟨rfl, hb2⟩
        have HB2 := bel_trans HB hb2
        clear a1 a2 a3 a4 cF hix hb2
        have hret : BinD w L t (.returned (.tuple #[.int .i64 (i : Nat), .bool fd])) w2 := ⟨i, fd, rfl, by rw [Hn.out]; omega, Hcut.out, Hfin.out, HB2⟩
        rw [← Hfd.out] at hret
        have Hret := Lib.hid hret
        clear hret
        go_wp2
        go_ret2
        exact Hret.out
      · obtain rfl : i = n := by omega
        have hfin : false = true ↔ ∃ x, L[i]? = some x ∧ x.to_ = t := by
          rw [List.getElem?_eq_none (by rw [Hn.out]; omega)]
          simp
        have Hfin := Lib.hid hfin
        clear hfin
        have hret : BinD w L t (.returned (.tuple #[.int .i64 (i : Nat), .bool false])) wr := ⟨i, false, rfl, by rw [Hn.out]; omega, Hcut.out, Hfin.out, HB⟩
        have Hret := Lib.hid hret
        clear hret
        go_wp2
        go_ret2
        exact Hret.out
end Go.Proofs.YtjejkadaafmdcaaGreat
