/- Lemmas of this claim: Maps, MapPair, MapRange. -/
import Derived.Test.YtjejkadaafmdcaaGreatKTopSearch2
import Derived.MapKept
import Derived.WideKeyRuns
import Derived.Maps.RangeWalk
set_option linter.unusedVariables false
set_option linter.unusedSimpArgs false
/- Maps in memory, by a function from keys: looking up, storing, deleting. -/
namespace Go.Proofs.YtjejkadaafmdcaaGreat
open Go.RowKit Go.Sort
/-- what a key's type must grant -/
structure KeyFit (P : Program) (kt : TypeId) {K : Type} (kf : K → Value) : Prop where
  inj : ∀ a b, kf a = kf b → a = b
  check : ∀ (em : Bool) (k : K) (w : World), (Instr.checkKey em 10000 kt (kf k)).run P w = .ok () w
  find : ∀ (es : List MapEntry) (k : K) (w : World), (∀ e ∈ es, ∃ j, e.key = kf j) →
    ((Instr.findKey kt (kf k) es).run P w = .ok none w ∧ ∀ e ∈ es, e.key ≠ kf k) ∨ ∃ i e, (Instr.findKey kt (kf k) es).run P w = .ok (some (i, e.val)) w ∧ es[i]? = some e ∧ e.key = kf k
  stays : ∀ (k : K) (w : World), (Instr.keyThatStays (kf k) (kf k)).run P w = .ok (kf k) w
theorem int_fit {P : Program} {kt : TypeId} (hk : P.underlying kt = some (.int .i64)) : KeyFit P kt (fun z : Int => Value.int .i64 z) where
  inj := fun a b h => by injection h
  check := fun em k w => MapKept.run_checkKey hk (by simp [MapKept.IsKey]) em 9999
  find := fun es k w h => by
    have hK : ∀ x ∈ es, MapKept.IsKey (.int .i64) x.key := fun x hx => by
      obtain ⟨j, e⟩ := h x hx
      rw [e]; simp [MapKept.IsKey]
    rcases MapKept.findNow_spec (d := .int .i64) (k := .int .i64 k) (by simp [MapKept.IsKey]) es 0 hK with ⟨h1, h2⟩ | ⟨j, e, h1, h2, h3⟩
    · exact .inl ⟨MapKept.run_findKey hk h1, h2⟩
    · exact .inr ⟨j, e, by rw [MapKept.run_findKey hk h1]; simp, h2, h3⟩
  stays := fun k w => by simp [Instr.keyThatStays, Instr.sameBits]
/-- block b is a map of n entries that has at each key what m says -/
def MapAt {K : Type} (kf : K → Value) (w : World) (b : Nat) (m : K → Option Value) (n : Nat) : Prop :=
  ∃ es clk, w.heap[b]? = some (.map es clk) ∧ MapKept.Stamped es clk ∧ es.size = n ∧ (∀ e ∈ es.toList, ∃ k, e.key = kf k ∧ m k = some e.val) ∧ (∀ k v, m k = some v → ∃ e ∈ es.toList, e.key = kf k ∧ e.val = v)
def updK {K : Type} [DecidableEq K] (m : K → Option Value) (k : K) (v : Option Value) : K → Option Value := fun j => if j = k then v else m j
section
variable {P : Program} {kt et mt : TypeId} {K : Type} {kf : K → Value} {w : World} {b n : Nat} {m : K → Option Value}
theorem MapAt.lt (h : MapAt kf w b m n) : b < w.heap.size := by
  obtain ⟨es, clk, hb, _⟩ := h
  exact (Array.getElem?_eq_some_iff.1 hb).1
theorem MapAt.kept {S : List Nat} {w' : World} (h : MapAt kf w b m n) (hk : Kept S w w') (hb : b ∉ S) : MapAt kf w' b m n := by
  have hl := h.lt
  obtain ⟨es, clk, h1, h2⟩ := h
  exact ⟨es, clk, (hk.block b hl hb).trans h1, h2⟩
theorem MapAt.below {w' : World} (h : MapAt kf w b m n) (hb : Below w.heap.size w w') : MapAt kf w' b m n := h.kept (S := []) (.of_below hb) (by simp)
theorem MapAt.made (w : World) : MapAt kf (w.alloc (.map #[] 0)) w.heap.size (fun _ => none) 0 :=
  ⟨#[], 0, by rw [heap_alloc_new], MapKept.stamped_empty 0, rfl, by simp, by simp⟩
theorem MapAt.look (F : KeyFit P kt kf) (ht : P.underlying mt = some (.map kt et)) (h : MapAt kf w b m n) {z : Value} (hz : (zeroValue et).run P w = .ok z w) (k : K) :
    (Instr.lookup mt (.map (some b)) (kf k) true).run P w = .ok (.tuple #[(m k).getD z, .bool (m k).isSome]) w ∧ (Instr.lookup mt (.map (some b)) (kf k) false).run P w = .ok ((m k).getD z) w := by
  obtain ⟨es, clk, hb, hS, hn, h1, h2⟩ := h
  have hks : ∀ e ∈ es.toList, ∃ j, e.key = kf j := fun e he => let ⟨k, a, _⟩ := h1 e he; ⟨k, a⟩
  rcases F.find es.toList k w hks with ⟨hf, hno⟩ | ⟨i, e, hf, hi, he⟩
  · have hm : m k = none := by
      cases hmk : m k with
      | none => rfl
      | some v =>
        obtain ⟨e, he, he2, _⟩ := h2 k v hmk
        exact absurd he2 (hno e he)
    rw [hm]
    simp [Instr.lookup, run_underlying ht, MapKept.run_getObj_map hb, F.check, hf, hz, Result.andThen]
  · have hmem : e ∈ es.toList := List.mem_of_getElem? hi
    obtain ⟨k', a, a2⟩ := h1 e hmem
    obtain rfl : k = k' := F.inj _ _ (he.symm.trans a)
    rw [a2]
    simp [Instr.lookup, run_underlying ht, MapKept.run_getObj_map hb, F.check, hf, hz, Result.andThen]
theorem key_one {es : Array MapEntry} {clk : Nat} (hS : MapKept.Stamped es clk) {i j : Nat} {x y : MapEntry} (hi : es.toList[i]? = some x) (hj : es.toList[j]? = some y) (hk : x.key = y.key) : i = j := by
  have h3 := hS.2.2
  have hi' : (es.toList.map (·.key))[i]? = some x.key := by simp only [List.getElem?_map, hi, Option.map_some]
  have hj' : (es.toList.map (·.key))[j]? = some x.key := by simp only [List.getElem?_map, hj, Option.map_some, hk]
  have hil : i < (es.toList.map (·.key)).length := (List.getElem?_eq_some_iff.1 hi').1
  exact (List.getElem?_inj hil h3).1 (hi'.trans hj'.symm)
theorem MapAt.len (ht : P.underlying mt = some (.map kt et)) (h : MapAt kf w b m n) (ty : TypeId) : (Builtin.len_ #[mt] ty #[.map (some b)]).run P w = .ok (.int .i64 n) w := by
  obtain ⟨es, clk, hb, hS, hn, h1, h2⟩ := h
  subst hn
  simp [Builtin.len_, Builtin.lenOf, run_underlying ht, MapKept.run_getObj_map hb, Result.andThen]
  rfl
variable [DecidableEq K]
/-- the world in which block b is another map -/
def mapSet (w : World) (b : Nat) (es : Array MapEntry) (clk : Nat) : World := { w with heap := w.heap.setIfInBounds b (.map es clk) }
theorem mapSet_kept (w : World) (b : Nat) (es : Array MapEntry) (clk : Nat) : Kept [b] w (mapSet w b es clk) :=
  ⟨rfl, rfl, rfl, by simp [mapSet], fun k _ hn => by simp only [List.mem_singleton] at hn; simp [mapSet, Ne.symm hn]⟩
theorem mapSet_at {w : World} {b : Nat} (hb : b < w.heap.size) (es : Array MapEntry) (clk : Nat) : (mapSet w b es clk).heap[b]? = some (.map es clk) := by simp [mapSet, hb]
theorem MapAt.store (F : KeyFit P kt kf) (ht : P.underlying mt = some (.map kt et)) (h : MapAt kf w b m n) (k : K) (v : Value) :
    ∃ w', (Instr.mapUpdate mt (.map (some b)) (kf k) v).run P w = .ok () w' ∧ MapAt kf w' b (updK m k (some v)) (if (m k).isSome then n else n + 1) ∧ Kept [b] w w' := by
  have hlt := h.lt
  obtain ⟨es, clk, hb, hS, hn, h1, h2⟩ := h
  have hks : ∀ e ∈ es.toList, ∃ j, e.key = kf j := fun e he => let ⟨k, a, _⟩ := h1 e he; ⟨k, a⟩
  rcases F.find es.toList k w hks with ⟨hf, hno⟩ | ⟨i, e, hf, hi, he⟩
  · have hm : m k = none := by
      cases hmk : m k with
      | none => rfl
      | some v =>
        obtain ⟨e, he, he2, _⟩ := h2 k v hmk
        exact absurd he2 (hno e he)
    refine ⟨mapSet w b (es.push { key := kf k, val := v, born := clk }) (clk + 1), ?_, ⟨_, _, mapSet_at hlt _ _, MapKept.stamped_push hS hno, by simp [hm, hn], ?_, ?_⟩, mapSet_kept _ _ _ _⟩
    · simp [Instr.mapUpdate, run_underlying ht, MapKept.run_getObj_map hb, F.check, hf, MapKept.run_setObj_map _ hb, Result.andThen, mapSet]
    · intro x hx
      simp only [Array.toList_push, List.mem_append, List.mem_singleton] at hx
      rcases hx with hx | rfl
      · obtain ⟨j, a, a2⟩ := h1 x hx
        refine ⟨j, a, ?_⟩
        unfold updK
        rw [if_neg, a2]
        rintro rfl
        exact hno x hx a
      · exact ⟨k, rfl, by unfold updK; rw [if_pos rfl]⟩
    · intro j u hj
      simp only [Array.toList_push, List.mem_append, List.mem_singleton]
      unfold updK at hj
      by_cases e : j = k
      · subst e
        rw [if_pos rfl] at hj
        injection hj with hj
        exact ⟨_, .inr rfl, rfl, hj⟩
      · rw [if_neg e] at hj
        obtain ⟨x, hx, a, a2⟩ := h2 j u hj
        exact ⟨x, .inl hx, a, a2⟩
  · have hmem : e ∈ es.toList := List.mem_of_getElem? hi
    obtain ⟨k', a, a2⟩ := h1 e hmem
    obtain rfl : k = k' := F.inj _ _ (he.symm.trans a)
    have hi' : es[i]? = some e := by rw [← Array.getElem?_toList]; exact hi
    have hget : ∀ j, (es.modify i fun e => { e with key := kf k, val := v }).toList[j]? = if i = j then (es.toList[j]?).map (fun e => { e with key := kf k, val := v }) else es.toList[j]? := by
      intro j
      simp only [Array.getElem?_toList, Array.getElem?_modify]
    refine ⟨mapSet w b (es.modify i fun e => { e with key := kf k, val := v }) clk, ?_, ⟨_, _, mapSet_at hlt _ _, MapKept.stamped_modify hS i _ (fun _ _ => rfl) (fun x _ hx => ?_), by simp [a2, hn], ?_, ?_⟩, mapSet_kept _ _ _ _⟩
    · simp [Instr.mapUpdate, run_underlying ht, MapKept.run_getObj_map hb, F.check, hf, hi', he, F.stays, MapKept.run_setObj_map _ hb, Result.andThen, mapSet]
    · rw [hi'] at hx; injection hx with hx; subst hx; exact he.symm
    · intro x hx
      obtain ⟨j, hj⟩ := List.getElem?_of_mem hx
      rw [hget] at hj
      by_cases e1 : i = j
      · subst e1
        rw [if_pos rfl, hi] at hj
        simp at hj
        subst hj
        exact ⟨k, rfl, by unfold updK; rw [if_pos rfl]⟩
      · rw [if_neg e1] at hj
        obtain ⟨k2, c1, c2⟩ := h1 x (List.mem_of_getElem? hj)
        refine ⟨k2, c1, ?_⟩
        unfold updK
        rw [if_neg, c2]
        rintro rfl
        exact e1 (key_one hS hi hj (he.trans c1.symm))
    · intro j u hj
      unfold updK at hj
      by_cases e1 : j = k
      · subst e1
        rw [if_pos rfl] at hj
        injection hj with hj
        refine ⟨{ e with key := kf j, val := v }, List.mem_of_getElem? (i := i) ?_, rfl, hj⟩
        rw [hget, if_pos rfl, hi]; rfl
      · rw [if_neg e1] at hj
        obtain ⟨x, hx, c1, c2⟩ := h2 j u hj
        obtain ⟨l, hl⟩ := List.getElem?_of_mem hx
        refine ⟨x, List.mem_of_getElem? (i := l) ?_, c1, c2⟩
        rw [hget, if_neg, hl]
        rintro rfl
        rw [hi] at hl
        injection hl with hl
        subst hl
        exact e1 (F.inj _ _ (c1.symm.trans he))
theorem MapAt.drop (F : KeyFit P kt kf) (ht : P.underlying mt = some (.map kt et)) (h : MapAt kf w b m n) (k : K) (ty : TypeId) :
    ∃ w', (Builtin.delete_ #[mt, kt] ty #[.map (some b), kf k]).run P w = .ok (.tuple #[]) w' ∧ MapAt kf w' b (updK m k none) (if (m k).isSome then n - 1 else n) ∧ Kept [b] w w' := by
  have hlt := h.lt
  obtain ⟨es, clk, hb, hS, hn, h1, h2⟩ := h
  have hks : ∀ e ∈ es.toList, ∃ j, e.key = kf j := fun e he => let ⟨k, a, _⟩ := h1 e he; ⟨k, a⟩
  rcases F.find es.toList k w hks with ⟨hf, hno⟩ | ⟨i, e, hf, hi, he⟩
  · have hm : m k = none := by
      cases hmk : m k with
      | none => rfl
      | some v =>
        obtain ⟨e, he, he2, _⟩ := h2 k v hmk
        exact absurd he2 (hno e he)
    have hmm : updK m k none = m := by
      funext j; unfold updK; split
      · rename_i e; rw [e, hm]
      · rfl
    refine ⟨mapSet w b es clk, ?_, ⟨_, _, mapSet_at hlt _ _, hS, by simp [hm, hn], by rw [hmm]; exact h1, by rw [hmm]; exact h2⟩, mapSet_kept _ _ _ _⟩
    simp [Builtin.delete_, run_underlying ht, MapKept.run_getObj_map hb, F.check, hf, MapKept.run_setObj_map _ hb, Result.andThen, mapSet]
  · have hmem : e ∈ es.toList := List.mem_of_getElem? hi
    obtain ⟨k', a, a2⟩ := h1 e hmem
    obtain rfl : k = k' := F.inj _ _ (he.symm.trans a)
    have hil : i < es.size := by simpa using (List.getElem?_eq_some_iff.1 hi).1
    have hto : (es.eraseIdxIfInBounds i).toList = es.toList.eraseIdx i := by
      unfold Array.eraseIdxIfInBounds; rw [dif_pos hil, Array.toList_eraseIdx]
    refine ⟨mapSet w b (es.eraseIdxIfInBounds i) clk, ?_, ⟨_, _, mapSet_at hlt _ _, MapKept.stamped_erase hS i, ?_, ?_, ?_⟩, mapSet_kept _ _ _ _⟩
    · simp [Builtin.delete_, run_underlying ht, MapKept.run_getObj_map hb, F.check, hf, MapKept.run_setObj_map _ hb, Result.andThen, mapSet]
    · rw [a2, ← Array.length_toList, hto, List.length_eraseIdx, Array.length_toList, if_pos hil, hn]; rfl
    · intro x hx
      rw [hto] at hx
      obtain ⟨j, hne, hj⟩ := List.mem_eraseIdx_iff_getElem?.1 hx
      obtain ⟨k2, c1, c2⟩ := h1 x (List.mem_of_getElem? hj)
      refine ⟨k2, c1, ?_⟩
      unfold updK
      rw [if_neg, c2]
      rintro rfl
      exact hne (key_one hS hj hi (c1.trans he.symm))
    · intro j u hj
      unfold updK at hj
      by_cases e1 : j = k
      · rw [if_pos e1] at hj; cases hj
      · rw [if_neg e1] at hj
        obtain ⟨x, hx, c1, c2⟩ := h2 j u hj
        obtain ⟨l, hl⟩ := List.getElem?_of_mem hx
        refine ⟨x, ?_, c1, c2⟩
        rw [hto]
        refine List.mem_eraseIdx_iff_getElem?.2 ⟨l, ?_, hl⟩
        rintro rfl
        rw [hi] at hl
        injection hl with hl
        subst hl
        exact e1 (F.inj _ _ (c1.symm.trans he))
/-! at the operation, for the walk -/
theorem wpList_storeM {ops : Array Oper} {rest : List Oper} {o : Oper} {a : Act} {Q : Exit → Act → World → Prop} (hg : o.guard = none) (mo ko vo : Operand) (hop : o.op = Op.mapUpdate mt mo ko vo)
    (F : KeyFit P kt kf) (ht : P.underlying mt = some (.map kt et)) (h : MapAt kf w b m n) (hm : a.eval mo = .map (some b)) (k : K) (hk : a.eval ko = kf k) (v : Value) (hv : a.eval vo = v)
    (hK : ∀ w', MapAt kf w' b (updK m k (some v)) (if (m k).isSome then n else n + 1) → Kept [b] w w' → wpList P ops Q rest (a.put o.dst undef) w') : wpList P ops Q (o :: rest) a w := by
  refine wpList_plain hg fun K' hK' => ?_
  obtain ⟨w', hrun, r1, r2⟩ := h.store F ht k v
  unfold Oper.wp
  simp [execOp, hop, hm, hk, hv, hrun, Result.andThen]
  exact hK' _ _ (hK w' r1 r2)
theorem wpList_dropM {ops : Array Oper} {rest : List Oper} {o : Oper} {a : Act} {Q : Exit → Act → World → Prop} (hg : o.guard = none) (mo ko : Operand) (hop : o.op = Op.call { callee := Callee.builtin Builtin.delete, args := #[mo, ko], argTypes := #[mt, kt] })
    (F : KeyFit P kt kf) (ht : P.underlying mt = some (.map kt et)) (h : MapAt kf w b m n) (hm : a.eval mo = .map (some b)) (k : K) (hk : a.eval ko = kf k)
    (hK : ∀ w', MapAt kf w' b (updK m k none) (if (m k).isSome then n - 1 else n) → Kept [b] w w' → wpList P ops Q rest (a.put o.dst (.tuple #[])) w') : wpList P ops Q (o :: rest) a w := by
  refine wpList_plain hg fun K' hK' => ?_
  obtain ⟨w', hrun, r1, r2⟩ := h.drop F ht k o.type
  unfold Oper.wp
  simp [execOp, hop, resolve, invoke, builtin, hm, hk, hrun, Result.andThen]
  exact hK' _ _ (hK w' r1 r2)
end
end Go.Proofs.YtjejkadaafmdcaaGreat
/- Maps whose keys are pairs of numbers. -/
namespace Go.Proofs.YtjejkadaafmdcaaGreat
open Go.RowKit Go.Sort
def kP (p : Int × Int) : Value := .agg #[.int .i64 p.1, .int .i64 p.2]
theorem pair_equal (a b c d : Int) (w : World) : (Op.equal 162 (.agg #[.int .i64 a, .int .i64 b]) (.agg #[.int .i64 c, .int .i64 d])).run Tryz.prog w = .ok (a == c && b == d) w := by
  have h3 : ∀ (x y : Int) (w' : World), (Op.equalIn (9998 + 1) 3 (.int .i64 x) (.int .i64 y)).run Tryz.prog w' = .ok (x == y) w' := fun x y w' => by unfold Op.equalIn; go_simp
  show (Op.equalIn (9998 + 1 + 1) 162 (.agg #[.int .i64 a, .int .i64 b]) (.agg #[.int .i64 c, .int .i64 d])).run Tryz.prog w = .ok (a == c && b == d) w
  unfold Op.equalIn
  go_simp
  simp only [List.range', List.forIn_cons, List.forIn_nil, Nat.zero_mul, Nat.one_mul]
  cases h1 : (a == c) <;> cases h2 : (b == d) <;> go_simp
theorem pair_check (em : Bool) (a b : Int) (w : World) : (Instr.checkKey em 10000 162 (.agg #[.int .i64 a, .int .i64 b])).run Tryz.prog w = .ok () w := by
  show (Instr.checkKey em (9998 + 1 + 1) 162 (.agg #[.int .i64 a, .int .i64 b])).run Tryz.prog w = .ok () w
  have h3 : ∀ (x : Int) (w' : World), (Instr.checkKey em (9998 + 1) 3 (.int .i64 x)).run Tryz.prog w' = .ok () w' := fun x w' => by unfold Instr.checkKey; go_simp
  unfold Instr.checkKey
  go_simp
  simp only [List.range', List.forIn_cons, List.forIn_nil, Nat.zero_mul, Nat.one_mul]
  go_simp
theorem pair_stays (a b : Int) (w : World) : (Instr.keyThatStays (.agg #[.int .i64 a, .int .i64 b]) (.agg #[.int .i64 a, .int .i64 b])).run Tryz.prog w = .ok (.agg #[.int .i64 a, .int .i64 b]) w := by
  have hs : Instr.sameBits 10000 (.agg #[.int .i64 a, .int .i64 b]) (.agg #[.int .i64 a, .int .i64 b]) = true := by
    show Instr.sameBits (9998 + 1 + 1) (.agg #[.int .i64 a, .int .i64 b]) (.agg #[.int .i64 a, .int .i64 b]) = true
    simp [Instr.sameBits]
  simp [Instr.keyThatStays, hs]
theorem kP_inj (p q : Int × Int) (h : kP p = kP q) : p = q := by
  obtain ⟨a, b⟩ := p
  obtain ⟨c, d⟩ := q
  simp [kP] at h
  exact Prod.ext h.1 h.2
theorem pair_eq (p q : Int × Int) (w : World) : (Op.equal 162 (kP p) (kP q)).run Tryz.prog w = .ok (decide (p = q)) w := by
  rw [kP, kP, pair_equal]
  congr 1
  obtain ⟨a, b⟩ := p
  obtain ⟨c, d⟩ := q
  simp [Prod.ext_iff, Bool.decide_and]
  rfl
theorem pair_ask (k : Int × Int) (w : World) : ∀ (es : List MapEntry) (i : Nat), (∀ e ∈ es, ∃ j, e.key = kP j) →
    ((Instr.findAsking 162 (kP k) es i).run Tryz.prog w = .ok none w ∧ ∀ e ∈ es, e.key ≠ kP k) ∨ ∃ j e, (Instr.findAsking 162 (kP k) es i).run Tryz.prog w = .ok (some (i + j, e.val)) w ∧ es[j]? = some e ∧ e.key = kP k
  | [], i, _ => .inl ⟨by simp [Instr.findAsking], by simp⟩
  | e :: es, i, h => by
    obtain ⟨j, hj⟩ := h e (by simp)
    have heq := pair_eq k j w
    rw [← hj] at heq
    by_cases hk : k = j
    · rw [decide_eq_true hk] at heq
      exact .inr ⟨0, e, by simp [Instr.findAsking, heq], rfl, by rw [hj, hk]⟩
    · rw [decide_eq_false hk] at heq
      rcases pair_ask k w es (i + 1) (fun x hx => h x (by simp [hx])) with ⟨h1, h2⟩ | ⟨j', e', h1, h2, h3⟩
      · refine .inl ⟨by simp [Instr.findAsking, heq, h1], fun x hx => ?_⟩
        rcases List.mem_cons.1 hx with rfl | hx
        · intro e2; rw [hj] at e2; exact hk (kP_inj _ _ e2).symm
        · exact h2 x hx
      · exact .inr ⟨j' + 1, e', by simp [Instr.findAsking, heq, h1, Nat.add_assoc, Nat.add_comm 1 j'], by simpa using h2, h3⟩
theorem pair_fit : KeyFit Tryz.prog 162 kP where
  inj := kP_inj
  check := fun em k w => pair_check em k.1 k.2 w
  find := fun es k w h => by
    rw [run_findKey_eq (P := Tryz.prog) (k := 162) w (by kernel_rfl)]
    rcases pair_ask k w es 0 h with ⟨h1, h2⟩ | ⟨j, e, h1, h2, h3⟩
    · exact .inl ⟨h1, h2⟩
    · exact .inr ⟨j, e, by simpa using h1, h2, h3⟩
  stays := fun k w => pair_stays k.1 k.2 w
theorem bool_zero (w : World) : (zeroValue 4).run Tryz.prog w = .ok (.bool false) w := by kernel_rfl
/-- block b is a set of pairs -/
def SetAt (w : World) (b : Nat) (S : Int × Int → Prop) : Prop := ∃ m n, MapAt kP w b m n ∧ ∀ k, (m k = some (.bool true) ∧ S k) ∨ (m k = none ∧ ¬ S k)
theorem SetAt.lt {w : World} {b : Nat} {S : Int × Int → Prop} (h : SetAt w b S) : b < w.heap.size := by
  obtain ⟨m, n, h1, _⟩ := h; exact h1.lt
theorem SetAt.kept {T : List Nat} {w w' : World} {b : Nat} {S : Int × Int → Prop} (h : SetAt w b S) (hk : Kept T w w') (hb : b ∉ T) : SetAt w' b S := by
  obtain ⟨m, n, h1, h2⟩ := h; exact ⟨m, n, h1.kept hk hb, h2⟩
theorem SetAt.below {w w' : World} {b : Nat} {S : Int × Int → Prop} (h : SetAt w b S) (hb : Below w.heap.size w w') : SetAt w' b S := h.kept (T := []) (.of_below hb) (by simp)
theorem SetAt.iff {w : World} {b : Nat} {S S' : Int × Int → Prop} (h : SetAt w b S) (hs : ∀ k, S k ↔ S' k) : SetAt w b S' := by
  obtain ⟨m, n, h1, h2⟩ := h
  exact ⟨m, n, h1, fun k => (h2 k).imp (And.imp_right (hs k).1) (And.imp_right fun x y => x ((hs k).2 y))⟩
theorem SetAt.look {w : World} {b : Nat} {S : Int × Int → Prop} (h : SetAt w b S) (i j : Int) : ∃ t : Bool, (t = true ↔ S (i, j)) ∧ ∀ w', Below w.heap.size w w' → (Instr.lookup 178 (.map (some b)) (.agg #[.int .i64 i, .int .i64 j]) false).run Tryz.prog w' = .ok (.bool t) w' := by
  obtain ⟨m, n, h1, h2⟩ := h
  rcases h2 (i, j) with ⟨x, y⟩ | ⟨x, y⟩
  · refine ⟨true, by simp [y], fun w' hb => ?_⟩
    have := ((h1.below hb).look pair_fit Tryz.underlying178 (bool_zero w') (i, j)).2
    rw [x] at this; exact this
  · refine ⟨false, by simp [y], fun w' hb => ?_⟩
    have := ((h1.below hb).look pair_fit Tryz.underlying178 (bool_zero w') (i, j)).2
    rw [x] at this; exact this
theorem SetAt.put {w : World} {b : Nat} {S : Int × Int → Prop} (h : SetAt w b S) (i j : Int) : ∃ w', (Instr.mapUpdate 178 (.map (some b)) (.agg #[.int .i64 i, .int .i64 j]) (.bool true)).run Tryz.prog w = .ok () w' ∧ SetAt w' b (fun k => S k ∨ k = (i, j)) ∧ Kept [b] w w' := by
  obtain ⟨m, n, h1, h2⟩ := h
  obtain ⟨w', r1, r2, r3⟩ := h1.store pair_fit Tryz.underlying178 (i, j) (.bool true)
  refine ⟨w', r1, ⟨_, _, r2, fun k => ?_⟩, r3⟩
  unfold updK
  by_cases e : k = (i, j)
  · rw [if_pos e]; exact .inl ⟨rfl, .inr e⟩
  · rw [if_neg e]
    rcases h2 k with ⟨x, y⟩ | ⟨x, y⟩
    · exact .inl ⟨x, .inl y⟩
    · exact .inr ⟨x, fun z => z.elim y e⟩
end Go.Proofs.YtjejkadaafmdcaaGreat
/- Loops over maps: keys come in any order, each once; what is still to come. -/
namespace Go.Proofs.YtjejkadaafmdcaaGreat
open Go.RowKit Go.Sort
open Go.ChangeMaps (setBlock)
/-- a loop over a map is under way: block r is its iterator; of the keys those in 'left' are still to come -/
def RangeAt {K : Type} (kf : K → Value) (w : World) (b r : Nat) (m : K → Option Value) (left : K → Prop) (cnt : Nat) : Prop :=
  ∃ es clk since seen c0, w.heap[b]? = some (.map es clk) ∧ MapKept.Stamped es clk ∧ (∀ e ∈ es.toList, ∃ k, e.key = kf k ∧ m k = some e.val) ∧ (∀ k v, m k = some v → ∃ e ∈ es.toList, e.key = kf k ∧ e.val = v) ∧
    w.heap[r]? = some (.mapIter (some b) since seen c0) ∧ (∀ x ∈ es.toList, x.born < since) ∧ (leftOf es seen).size = cnt ∧ (∀ x ∈ es.toList, ∀ k, x.key = kf k → (left k ↔ seen.contains x.born = false)) ∧ (∀ k, left k → m k ≠ none) ∧ since ≤ c0 ∧ since ≤ clk
section
variable {P : Program} {kt et mt : TypeId} {K : Type} {kf : K → Value} {w : World} {b r n cnt : Nat} {m : K → Option Value} {left : K → Prop}
theorem RangeAt.map (h : RangeAt kf w b r m left cnt) : ∃ n, MapAt kf w b m n := by
  obtain ⟨es, clk, since, seen, c0, h1, h2, h3, h4, _⟩ := h
  exact ⟨_, es, clk, h1, h2, rfl, h3, h4⟩
theorem RangeAt.lt (h : RangeAt kf w b r m left cnt) : b < w.heap.size ∧ r < w.heap.size := by
  obtain ⟨es, clk, since, seen, c0, h1, h2, h3, h4, h5, _⟩ := h
  exact ⟨(Array.getElem?_eq_some_iff.1 h1).1, (Array.getElem?_eq_some_iff.1 h5).1⟩
theorem RangeAt.kept {S : List Nat} {w' : World} (h : RangeAt kf w b r m left cnt) (hk : Kept S w w') (hb : b ∉ S) (hr : r ∉ S) : RangeAt kf w' b r m left cnt := by
  obtain ⟨l1, l2⟩ := h.lt
  obtain ⟨es, clk, since, seen, c0, h1, h2, h3, h4, h5, h6⟩ := h
  exact ⟨es, clk, since, seen, c0, (hk.block b l1 hb).trans h1, h2, h3, h4, (hk.block r l2 hr).trans h5, h6⟩
theorem RangeAt.below {w' : World} (h : RangeAt kf w b r m left cnt) (hb : Below w.heap.size w w') : RangeAt kf w' b r m left cnt := h.kept (S := []) (.of_below hb) (by simp) (by simp)
theorem RangeAt.left_eq (h : RangeAt kf w b r m left cnt) : w.rangeLeft b r = cnt := by
  obtain ⟨es, clk, since, seen, c0, h1, _, _, _, h5, _, h7, _⟩ := h
  simp only [World.rangeLeft, h1, h5]
  exact h7
theorem RangeAt.iff {left' : K → Prop} (h : RangeAt kf w b r m left cnt) (hl : ∀ k, left k ↔ left' k) : RangeAt kf w b r m left' cnt := by
  obtain ⟨es, clk, since, seen, c0, h1, h2, h3, h4, h5, h6, h7, h8, h9, h10⟩ := h
  exact ⟨es, clk, since, seen, c0, h1, h2, h3, h4, h5, h6, h7, fun x hx k hk => (hl k).symm.trans (h8 x hx k hk), fun k hk => h9 k ((hl k).2 hk), h10⟩
theorem MapAt.range (inj : ∀ a b, kf a = kf b → a = b) (ht : P.underlying mt = some (.map kt et)) (h : MapAt kf w b m n) :
    ∃ o, (Instr.range mt (.map (some b))).run P w = .ok (.pointer (some ⟨w.heap.size, 0, none⟩)) (w.alloc o) ∧ RangeAt kf (w.alloc o) b w.heap.size m (fun k => m k ≠ none) n := by
  have hlt := h.lt
  obtain ⟨es, clk, hb, hS, hn, h1, h2⟩ := h
  refine ⟨_, run_range_map w mt kt et b es clk ht hb, es, clk, clk, #[], clk, ((MapKept.heap_alloc w _).2 b hlt).trans hb, hS, h1, h2, (MapKept.heap_alloc w _).1, hS.1, by subst hn; simp [leftOf], fun x hx k hk => ?_, fun k hk => hk, Nat.le_refl _, Nat.le_refl _⟩
  obtain ⟨k', e1, e2⟩ := h1 x hx
  obtain rfl := inj _ _ (hk.symm.trans e1)
  simp [e2]
/-- the step -/
theorem RangeAt.next (inj : ∀ a b, kf a = kf b → a = b) (h : RangeAt kf w b r m left cnt) (ty : TypeId) :
    (cnt = 0 ∧ (∀ k, ¬ left k) ∧ (Instr.next (.pointer (some ⟨r, 0, none⟩)) false ty).run P w = .ok (.tuple #[.bool false]) w) ∨
    ∃ k v w' cnt', m k = some v ∧ left k ∧ (Instr.next (.pointer (some ⟨r, 0, none⟩)) false ty).run P w = .ok (.tuple #[.bool true, kf k, v]) w' ∧ RangeAt kf w' b r m (fun j => left j ∧ j ≠ k) cnt' ∧ cnt' < cnt ∧ Kept [r] w w' ∧
      w'.heap.size = w.heap.size ∧ (Instr.entry (.pointer (some ⟨r, 0, none⟩))).run P w' = .ok (.tuple #[kf k, v]) w' := by
  obtain ⟨es, clk, since, seen, c0, hb, hS, h3, h4, hr, hold, rfl, hl1, hl2, hsc, hsk⟩ := h
  have hne : r ≠ b := by
    intro e
    rw [e, hb] at hr
    cases hr
  rcases run_next_at (P := P) w ty r b since c0 seen es clk hr hb hold hsc with ⟨h0, hrun⟩ | ⟨e, he, w1, hal, hrun⟩
  · refine .inl ⟨h0, fun k hk => ?_, hrun⟩
    cases hm : m k with
    | none => exact hl2 k hk hm
    | some v =>
      obtain ⟨e, he, e1, e2⟩ := h4 k v hm
      have := (hl1 e he k e1).1 hk
      rw [all_seen es seen h0 e he] at this
      cases this
  · obtain ⟨hem, hes⟩ := mem_left he
    obtain ⟨k, ek, hv⟩ := h3 e hem
    have hr1 : w1.heap[r]? = some (.mapIter (some b) since seen c0) := by rcases hal with rfl | rfl <;> exact hr
    have hb1 : w1.heap[b]? = some (.map es clk) := by rcases hal with rfl | rfl <;> exact hb
    have hset := MapKept.heap_set (o' := .mapIter (some b) since (seen.push e.born) clk) hr1
    have hb' : (setBlock w1 r (.mapIter (some b) since (seen.push e.born) clk)).heap[b]? = some (.map es clk) := (hset.2 b (fun e1 => hne e1.symm)).trans hb1
    have hst := (MapKept.stamped_iff es clk).1 hS
    rw [ek] at hrun
    have hen := run_entry_at (P := P) _ r b since seen es clk e hset.1 hb' hem hst.2.1
    rw [ek] at hen
    refine .inr ⟨k, e.val, _, _, hv, (hl1 e hem k ek).2 hes, hrun, ⟨es, clk, since, seen.push e.born, clk, hb', hS, h3, h4, hset.1, hold, rfl, fun x hx k' hk' => ?_, fun j hj => hl2 j hj.1, hsk, hsk⟩, left_shrinks es seen e he, ?_, ?_, hen⟩
    · show (left k' ∧ k' ≠ k) ↔ _
      rw [hl1 x hx k' hk', contains_push, Bool.or_eq_false_iff]
      have : x.born = e.born ↔ k' = k := by
        constructor
        · intro hbe
          obtain rfl := born_inj hst.2.1 hx hem hbe
          exact inj _ _ (hk'.symm.trans ek)
        · rintro rfl
          exact congrArg MapEntry.born (entry_eq_of_key hst.2.2 hx hem (hk'.trans ek.symm))
      constructor
      · rintro ⟨a1, a2⟩
        exact ⟨a1, by rw [beq_eq_false_iff_ne]; exact fun hh => a2 (this.1 hh)⟩
      · rintro ⟨a1, a2⟩
        exact ⟨a1, fun hh => by rw [beq_eq_false_iff_ne] at a2; exact a2 (this.2 hh)⟩
    · rcases hal with rfl | rfl <;> exact ⟨rfl, rfl, rfl, by simp [setBlock], fun i _ hi => hset.2 i (fun e1 => hi (by rw [e1]; simp))⟩
    · rcases hal with rfl | rfl <;> simp [setBlock]
theorem wpList_rangeM {ops : Array Oper} {rest : List Oper} {o : Oper} {a : Act} {Q : Exit → Act → World → Prop} (hg : o.guard = none) (mo : Operand) (hop : o.op = Op.range mt mo)
    (inj : ∀ a b, kf a = kf b → a = b) (ht : P.underlying mt = some (.map kt et)) (h : MapAt kf w b m n) (hm : a.eval mo = .map (some b))
    (hK : ∀ w', RangeAt kf w' b w.heap.size m (fun k => m k ≠ none) n → Below w.heap.size w w' → w'.heap.size = w.heap.size + 1 → wpList P ops Q rest (a.put o.dst (.pointer (some ⟨w.heap.size, 0, none⟩))) w') : wpList P ops Q (o :: rest) a w := by
  refine wpList_plain hg fun K' hK' => ?_
  obtain ⟨ob, hrun, r1⟩ := h.range inj ht
  unfold Oper.wp
  simp [execOp, hop, hm, hrun, Result.andThen]
  exact hK' _ _ (hK _ r1 ((Below.refl _ _).alloc (Nat.le_refl _) _) (by simp))
theorem wpList_nextM {ops : Array Oper} {rest : List Oper} {o : Oper} {a : Act} {Q : Exit → Act → World → Prop} (hg : o.guard = none) (it : Operand) (hop : o.op = Op.next it false)
    (inj : ∀ a b, kf a = kf b → a = b) (h : RangeAt kf w b r m left cnt) (hit : a.eval it = .pointer (some ⟨r, 0, none⟩))
    (hDone : cnt = 0 → (∀ k, ¬ left k) → wpList P ops Q rest (a.put o.dst (.tuple #[.bool false])) w)
    (hMore : ∀ (k : K) (v : Value) (w' : World) (cnt' : Nat), m k = some v → left k → RangeAt kf w' b r m (fun j => left j ∧ j ≠ k) cnt' → cnt' < cnt → Kept [r] w w' → w'.heap.size = w.heap.size →
      (Instr.entry (.pointer (some ⟨r, 0, none⟩))).run P w' = .ok (.tuple #[kf k, v]) w' → wpList P ops Q rest (a.put o.dst (.tuple #[.bool true, kf k, v])) w') : wpList P ops Q (o :: rest) a w := by
  refine wpList_plain hg fun K' hK' => ?_
  unfold Oper.wp
  rcases h.next (P := P) inj o.type with ⟨h0, hl, hrun⟩ | ⟨k, v, w', cnt', h1, h2, hrun, h3, h4, h5, h6, h7⟩
  · simp [execOp, hop, hit, hrun, Result.andThen]
    exact hK' _ _ (hDone h0 hl)
  · simp [execOp, hop, hit, hrun, Result.andThen]
    exact hK' _ _ (hMore k v w' cnt' h1 h2 h3 h4 h5 h6 h7)
end
end Go.Proofs.YtjejkadaafmdcaaGreat
