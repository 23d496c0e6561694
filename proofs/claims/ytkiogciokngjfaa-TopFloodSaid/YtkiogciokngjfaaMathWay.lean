/- Plain mathematics: what a way over cells costs, and the way back of a flood. -/
import Derived.Test.YtkiogciokngjfaaMathFlood
set_option linter.unusedVariables false
set_option linter.unusedSimpArgs false
namespace FR
/-- what is wrong with a cell on which one is to be -/
def G.fault (g : G) (x : Int) : Nat := if x < 0 ∨ (g.n : Int) ≤ x then 1 else if g.b x.toNat = true then 4 else 0
theorem G.fault_out {g : G} {x : Int} (h : x < 0 ∨ (g.n : Int) ≤ x) : g.fault x = 1 := if_pos h
theorem G.fault_in {g : G} {c : Nat} (h : c < g.n) : g.fault (c : Nat) = if g.b c = true then 4 else 0 := by
  unfold G.fault; rw [if_neg (by omega)]; rfl
theorem G.fault_zero {g : G} {x : Int} (h : g.fault x = 0) : ∃ c : Nat, x = c ∧ c < g.n ∧ g.b c = false := by
  unfold G.fault at h
  split at h
  · cases h
  · rename_i h1
    split at h
    · cases h
    · rename_i h2
      exact ⟨x.toNat, by omega, by omega, by simpa using h2⟩
/-- which of the moves of a cell leads to another one -/
def G.widx (g : G) (a b : Nat) : Option Nat := (g.moves a).findIdx? fun d => g.to a d == b
theorem G.to_inj {g : G} {a d d' : Nat} (hd : d < 8) (hd' : d' < 8) (h : g.mayC a d = true) (h' : g.mayC a d' = true) (e : g.to a d = g.to a d') : d = d' := by
  obtain ⟨_, x1, x2⟩ := G.mayC_to h
  obtain ⟨_, y1, y2⟩ := G.mayC_to h'
  have e1 := G.edge_dir hd h rfl (x := dxN d) (y := dyN d) x1 x2
  have e2 := G.edge_dir hd' h' rfl (x := dxN d) (y := dyN d) (by rw [← e]; exact x1) (by rw [← e]; exact x2)
  rw [e1, e2]
theorem G.moves_mem {g : G} {a d : Nat} (h : d ∈ g.moves a) : d < 8 ∧ g.mayC a d = true := by
  unfold G.moves at h
  have := List.mem_filter.1 h
  exact ⟨List.mem_range.1 this.1, this.2⟩
theorem G.moves_nodup (g : G) (a : Nat) : (g.moves a).Nodup := List.Pairwise.filter _ List.nodup_range
theorem G.widx_none {g : G} {a b : Nat} (h : g.widx a b = none) : ∀ (j d : Nat), (g.moves a)[j]? = some d → g.to a d ≠ b := by
  intro j d hj
  have := List.findIdx?_eq_none_iff.1 h d (List.mem_of_getElem? hj)
  simpa using this
theorem G.widx_some {g : G} {a b i : Nat} (h : g.widx a b = some i) : ∃ d : Nat, (g.moves a)[i]? = some d ∧ g.to a d = b ∧ ∀ (j d' : Nat), (g.moves a)[j]? = some d' → (g.to a d' = b ↔ j = i) := by
  obtain ⟨hi, h1, h2⟩ := List.findIdx?_eq_some_iff_getElem.1 h
  simp at h1
  have hgi : (g.moves a)[i]? = some (g.moves a)[i] := List.getElem?_eq_getElem hi
  refine ⟨(g.moves a)[i], hgi, h1, fun j d' hj => ⟨fun e => ?_, fun e => ?_⟩⟩
  · have m1 := G.moves_mem (List.mem_of_getElem? hj)
    have m2 := G.moves_mem (List.getElem_mem hi)
    have ed := G.to_inj m1.1 m2.1 m1.2 m2.2 (e.trans h1.symm)
    rw [ed, ← hgi] at hj
    exact (List.getElem?_inj (by exact (List.getElem?_eq_some_iff.1 (hj.trans hgi)).1) (g.moves_nodup a)).1 hj
  · subst e
    rw [hgi] at hj
    injection hj with hj
    rw [← hj]; exact h1
/-- the step of number i -/
def G.wst (g : G) (a i : Nat) : C := stepC ((g.moves a).getD i 0)
theorem G.widx_E {g : G} {a b : Nat} {e : C} (h : g.E a b e) : ∃ i, g.widx a b = some i ∧ g.wst a i = e := by
  obtain ⟨ha, d, hd, hm, hb, he⟩ := h
  have hmem : d ∈ g.moves a := by unfold G.moves; exact List.mem_filter.2 ⟨List.mem_range.2 hd, hm⟩
  cases hw : g.widx a b with
  | none =>
    obtain ⟨j, hj⟩ := List.getElem?_of_mem hmem
    exact absurd hb.symm (G.widx_none hw j d hj)
  | some i =>
    obtain ⟨d', h1, h2, h3⟩ := G.widx_some hw
    have m := G.moves_mem (List.mem_of_getElem? h1)
    have ed : d' = d := G.to_inj m.1 hd m.2 hm (h2.trans hb)
    refine ⟨i, rfl, ?_⟩
    unfold G.wst
    rw [List.getD_eq_getElem?_getD, h1, he, ed]; rfl
/-- what the first cells of a way cost, or what is wrong -/
def G.wres (g : G) (f : Nat → Int) : Nat → Nat ⊕ C
  | 0 => .inr C.zero
  | i + 1 => match G.wres g f i with
    | .inl e => .inl e
    | .inr c => if g.fault (f i) ≠ 0 then .inl (g.fault (f i)) else if i = 0 then .inr c else
      match g.widx (f (i - 1)).toNat (f i).toNat with
      | none => .inl 7
      | some k => .inr (C.add c (g.wst (f (i - 1)).toNat k))
theorem G.wres_stop {g : G} {f : Nat → Int} {i n e : Nat} (h : g.wres f i = .inl e) (hn : i ≤ n) : g.wres f n = .inl e := by
  induction n with
  | zero => obtain rfl : i = 0 := by omega
            exact h
  | succ n ih =>
    by_cases q : i = n + 1
    · rw [← q]; exact h
    · have := ih (by omega)
      unfold G.wres
      rw [this]
theorem G.wres_ok {g : G} {f : Nat → Int} {i : Nat} {c : C} (h : g.wres f (i + 1) = .inr c) : ∃ a : Nat, f i = a ∧ a < g.n ∧ g.b a = false := by
  unfold G.wres at h
  cases hw : g.wres f i with
  | inl e => rw [hw] at h; simp at h
  | inr c' =>
    rw [hw] at h
    simp only at h
    split at h
    · cases h
    · rename_i h1
      exact G.fault_zero (by simpa using h1)
/-- what is handed back: the cost, and what is wrong -/
def G.wout (g : G) (f : Nat → Int) (n : Nat) : C × Nat := match g.wres f n with
  | .inl e => (C.zero, e)
  | .inr c => if n = 0 then (C.zero, 7) else (c, 0)
theorem G.wout_bad {g : G} {f : Nat → Int} {i n e : Nat} (h : g.wres f i = .inl e) (hn : i ≤ n) : g.wout f n = (C.zero, e) := by
  unfold G.wout; rw [G.wres_stop h hn]
theorem G.wout_ok {g : G} {f : Nat → Int} {n : Nat} {c : C} (h : g.wres f n = .inr c) (hn : 0 < n) : g.wout f n = (c, 0) := by
  unfold G.wout; rw [h]; simp only; rw [if_neg (by omega)]
theorem G.wres_fault {g : G} {f : Nat → Int} {i : Nat} {c : C} (h : g.wres f i = .inr c) (hf : g.fault (f i) ≠ 0) : g.wres f (i + 1) = .inl (g.fault (f i)) := by
  rw [G.wres, h]; simp only; rw [if_pos hf]
theorem G.wres_first {g : G} {f : Nat → Int} (hf : g.fault (f 0) = 0) : g.wres f 1 = .inr C.zero := by
  rw [G.wres, G.wres]; simp [hf]
theorem G.wres_none {g : G} {f : Nat → Int} {i a b : Nat} {c : C} (h : g.wres f (i + 1) = .inr c) (hf : g.fault (f (i + 1)) = 0) (ha : f i = a) (hb : f (i + 1) = b) (hw : g.widx a b = none) : g.wres f (i + 2) = .inl 7 := by
  rw [hb] at hf
  rw [G.wres, h]; simp [hf, ha, hb, hw]
theorem G.wres_some {g : G} {f : Nat → Int} {i a b k : Nat} {c : C} (h : g.wres f (i + 1) = .inr c) (hf : g.fault (f (i + 1)) = 0) (ha : f i = a) (hb : f (i + 1) = b) (hw : g.widx a b = some k) : g.wres f (i + 2) = .inr (C.add c (g.wst a k)) := by
  rw [hb] at hf
  rw [G.wres, h]; simp [hf, ha, hb, hw]
theorem G.wst_le (g : G) (a k : Nat) : 0 ≤ (g.wst a k).s ∧ (g.wst a k).s ≤ 1 ∧ 0 ≤ (g.wst a k).d ∧ (g.wst a k).d ≤ 1 := by
  unfold G.wst stepC; split <;> simp
theorem G.wres_bd {g : G} {f : Nat → Int} : ∀ {i : Nat} {c : C}, g.wres f i = .inr c → 0 ≤ c.s ∧ c.s ≤ i ∧ 0 ≤ c.d ∧ c.d ≤ i
  | 0, c, h => by
    unfold G.wres at h; injection h with h; subst h; simp [C.zero]
  | i + 1, c, h => by
    unfold G.wres at h
    cases hw : g.wres f i with
    | inl e => rw [hw] at h; simp at h
    | inr c' =>
      have ih := G.wres_bd hw
      rw [hw] at h
      simp only at h
      split at h
      · cases h
      · split at h
        · injection h with h; subst h; omega
        · split at h
          · cases h
          · rename_i k _
            injection h with h; subst h
            have := g.wst_le (f (i - 1)).toNat k
            simp only [C.add]; omega
/-- a way along edges, and what it costs up to each cell -/
theorem G.wres_way {g : G} {f : Nat → Int} {x : Nat → Nat} {c : Nat → C} {n : Nat} (h0 : c 0 = C.zero) (hx : ∀ i, i < n → f i = x i) (hfr : x 0 < g.n ∧ g.b (x 0) = false) (hg : g.ok)
    (hs : ∀ i, i + 1 < n → ∃ e, g.E (x i) (x (i + 1)) e ∧ c (i + 1) = C.add (c i) e) : ∀ i, i < n → g.wres f (i + 1) = .inr (c i)
  | 0, h => by
    rw [h0]
    refine G.wres_first ?_
    rw [hx 0 h, G.fault_in hfr.1, hfr.2]; rfl
  | i + 1, h => by
    have ih := G.wres_way h0 hx hfr hg hs i (by omega)
    obtain ⟨e, he, hc⟩ := hs i h
    obtain ⟨k, hk, hke⟩ := G.widx_E he
    rw [hc, ← hke]
    refine G.wres_some ih ?_ (hx i (by omega)) (hx (i + 1) h) hk
    rw [hx (i + 1) h, G.fault_in (G.E_lt he), (G.E_open hg he).2]; rfl
/-- the list of those come back to, from a cell on -/
def BackWay (back : Nat → Option Nat) (t : Nat) (l : List Nat) : Prop := l[0]? = some t ∧ ∀ i x y, l[i]? = some x → l[i + 1]? = some y → back x = some y
theorem BackWay.one (back : Nat → Option Nat) (t : Nat) : BackWay back t [t] := ⟨rfl, fun i x y _ h => by simp at h⟩
theorem BackWay.snoc {back : Nat → Option Nat} {t x y : Nat} {l : List Nat} (h : BackWay back t (l ++ [x])) (hb : back x = some y) : BackWay back t (l ++ [x] ++ [y]) := by
  refine ⟨?_, ?_⟩
  · rw [List.getElem?_append_left (by simp)]; exact h.1
  · intro i u v hu hv
    by_cases q : i + 1 < (l ++ [x]).length
    · rw [List.getElem?_append_left (by omega)] at hu
      rw [List.getElem?_append_left q] at hv
      exact h.2 i u v hu hv
    · have hl : i + 1 = (l ++ [x]).length := by
        have := (List.getElem?_eq_some_iff.1 hv).1
        simp at this q ⊢; omega
      rw [List.getElem?_append_left (by omega)] at hu
      rw [List.getElem?_append_right (by omega)] at hv
      have e1 : i = l.length := by simp at hl; omega
      subst e1
      simp at hu hv
      subst hu; subst hv
      exact hb
namespace FloodOk
variable {g : G} {fr : Nat} {done : Nat → Option C} {back : Nat → Option Nat}
theorem at_fr (H : FloodOk g.E fr g.n done back) : done fr = some C.zero := by
  cases h : done fr with
  | none => exact absurd (.nil fr) (H.out fr h C.zero)
  | some c => rw [(H.in_ fr c h).unique (Dist.self (fun _ _ _ => G.E_nn) fr)]
/-- one step back costs less: what is left to go back is bounded -/
theorem lower (H : FloodOk g.E fr g.n done back) {x y : Nat} (hb : back x = some y) : ∃ c d, done x = some c ∧ done y = some d ∧ rk 512 d < rk 512 c := by
  obtain ⟨c, d, e, h1, h2, h3, h4⟩ := H.b1 x y hb
  refine ⟨c, d, h1, h2, ?_⟩
  have hs := H.small _ _ h2
  refine rk_lt ?_ (mem_box ⟨hs.1, hs.2.2.1⟩ hs.2.1 hs.2.2.2)
  rw [h4]
  refine C.lt_add_step (G.E_nn h3) ?_
  obtain ⟨_, d', _, _, _, he⟩ := h3
  rw [he]; unfold stepC C.zero; split <;> simp
/-- the way back, turned round, is a way that costs what is told -/
theorem way (hg : g.ok) (H : FloodOk g.E fr g.n done back) (hfr : g.b fr = false) {t : Nat} {l : List Nat} {c : C} (ht : done t = some c) (hw : BackWay back t l) (hl : ∃ l', l = l' ++ [fr]) :
    g.wout (fun i => (l.reverse.map fun n : Nat => (n : Int)).getD i 0) l.length = (c, 0) := by
  have hd : ∀ (i x : Nat), l[i]? = some x → ∃ c, done x = some c := by
    intro i
    induction i with
    | zero => intro x hx; rw [hw.1] at hx; injection hx with hx; exact ⟨c, hx ▸ ht⟩
    | succ i ih =>
      intro x hx
      have hlt := (List.getElem?_eq_some_iff.1 hx).1
      have hy : l[i]? = some l[i] := List.getElem?_eq_getElem (by omega)
      obtain ⟨_, d, _, h1, _⟩ := H.lower (hw.2 i _ _ hy hx)
      exact ⟨d, by assumption⟩
  have hpos : 0 < l.length := (List.getElem?_eq_some_iff.1 hw.1).1
  let r := l.reverse
  have hr : ∀ i, i < l.length → r[i]? = l[l.length - 1 - i]? := fun i hi => by
    show l.reverse[i]? = _
    rw [List.getElem?_reverse hi]
  have hrl : r.length = l.length := by simp [r]
  have hx0 : r[0]? = some fr := by
    obtain ⟨l', e⟩ := hl
    rw [hr 0 hpos, e]; simp
  have hxe : r[l.length - 1]? = some t := by
    rw [hr _ (by omega), show l.length - 1 - (l.length - 1) = 0 by omega]; exact hw.1
  have gd : ∀ (i x : Nat), r[i]? = some x → r.getD i 0 = x := fun i x h => by rw [List.getD_eq_getElem?_getD, h]; rfl
  have key := G.wres_way (g := g) (f := fun i => (l.reverse.map fun n : Nat => (n : Int)).getD i 0) (x := fun i => r.getD i 0) (c := fun i => (done (r.getD i 0)).getD C.zero) (n := l.length)
    (by simp only [gd 0 fr hx0, H.at_fr]; rfl)
    (fun i hi => by
      have h1 : r[i]? = some (r.getD i 0) := by
        have : i < r.length := by omega
        rw [List.getD_eq_getElem?_getD, List.getElem?_eq_getElem this]; rfl
      show (r.map fun n : Nat => (n : Int)).getD i 0 = _
      rw [List.getD_eq_getElem?_getD, List.getElem?_map, h1]; rfl)
    (by simp only [gd 0 fr hx0]; exact ⟨H.frN, hfr⟩) hg
    (fun i hi => by
      have h1 : r[i]? = some (r.getD i 0) := by
        have : i < r.length := by omega
        rw [List.getD_eq_getElem?_getD, List.getElem?_eq_getElem this]; rfl
      have h2 : r[i+1]? = some (r.getD (i+1) 0) := by
        have : i + 1 < r.length := by omega
        rw [List.getD_eq_getElem?_getD, List.getElem?_eq_getElem this]; rfl
      generalize r.getD i 0 = a at *
      generalize r.getD (i+1) 0 = b at *
      rw [hr i (by omega)] at h1
      rw [hr (i+1) hi] at h2
      have hb := hw.2 (l.length - 1 - (i+1)) b a h2 (by rw [show l.length - 1 - (i + 1) + 1 = l.length - 1 - i by omega]; exact h1)
      obtain ⟨c1, d1, e, q1, q2, q3, q4⟩ := H.b1 b a hb
      exact ⟨e, q3, by rw [q1, q2]; exact q4⟩)
    (l.length - 1) (by omega)
  rw [show l.length - 1 + 1 = l.length by omega] at key
  simp only [gd _ t hxe, ht] at key
  exact G.wout_ok key hpos
end FloodOk
end FR
