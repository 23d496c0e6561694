/- Maps in memory, by a function from keys: looking up, storing, deleting. -/
import Derived.Test.YtkiogciokngjfaaGrid3
import Derived.MapKept
set_option linter.unusedVariables false
set_option linter.unusedSimpArgs false
namespace Go.Proofs.Ytkiogciokngjfaa
open Go.RowKit Go.Sort
/-- what a key's type must grant -/
structure KeyFit (P : Program) (kt : TypeId) {K : Type} (kf : K → Value) : Prop where
  inj : ∀ a b, kf a = kf b → a = b
  check : ∀ (em : Bool) (k : K) (w : World), (Instr.checkKey em 10000 kt (kf k)).run P w = .ok () w
  find : ∀ (es : List MapEntry) (k : K) (w : World), (∀ e ∈ es, ∃ j, e.key = kf j) →
    ((Instr.findKey kt (kf k) es).run P w = .ok none w ∧ ∀ e ∈ es, e.key ≠ kf k) ∨ ∃ i e, (Instr.findKey kt (kf k) es).run P w = .ok (some (i, e.val)) w ∧ es[i]? = some e ∧ e.key = kf k
  stays : ∀ (k : K) (w : World), (Instr.keyThatStays (kf k) (kf k)).run P w = .ok (kf k) w
theorem int_fit {P : Program} {kt : TypeId} (hk : P.underlying kt = some (.int .i64)) : KeyFit P kt (fun z : Int => Value.int .i64 z) where
  inj := fun a b h => by injection h
  check := fun em k w => MapKept.run_checkKey hk (by simp [MapKept.IsKey]) em 9999
  find := fun es k w h => by
    have hK : ∀ x ∈ es, MapKept.IsKey (.int .i64) x.key := fun x hx => by
      obtain ⟨j, e⟩ := h x hx
      rw [e]; simp [MapKept.IsKey]
    rcases MapKept.findNow_spec (d := .int .i64) (k := .int .i64 k) (by simp [MapKept.IsKey]) es 0 hK with ⟨h1, h2⟩ | ⟨j, e, h1, h2, h3⟩
    · exact .inl ⟨MapKept.run_findKey hk h1, h2⟩
    · exact .inr ⟨j, e, by rw [MapKept.run_findKey hk h1]; simp, h2, h3⟩
  stays := fun k w => by simp [Instr.keyThatStays, Instr.sameBits]
/-- block b is a map of n entries that has at each key what m says -/
def MapAt {K : Type} (kf : K → Value) (w : World) (b : Nat) (m : K → Option Value) (n : Nat) : Prop :=
  ∃ es clk, w.heap[b]? = some (.map es clk) ∧ MapKept.Stamped es clk ∧ es.size = n ∧ (∀ e ∈ es.toList, ∃ k, e.key = kf k ∧ m k = some e.val) ∧ (∀ k v, m k = some v → ∃ e ∈ es.toList, e.key = kf k ∧ e.val = v)
def updK {K : Type} [DecidableEq K] (m : K → Option Value) (k : K) (v : Option Value) : K → Option Value := fun j => if j = k then v else m j
section
variable {P : Program} {kt et mt : TypeId} {K : Type} {kf : K → Value} {w : World} {b n : Nat} {m : K → Option Value}
theorem MapAt.lt (h : MapAt kf w b m n) : b < w.heap.size := by
  obtain ⟨es, clk, hb, _⟩ := h
  exact (Array.getElem?_eq_some_iff.1 hb).1
theorem MapAt.kept {S : List Nat} {w' : World} (h : MapAt kf w b m n) (hk : Kept S w w') (hb : b ∉ S) : MapAt kf w' b m n := by
  have hl := h.lt
  obtain ⟨es, clk, h1, h2⟩ := h
  exact ⟨es, clk, (hk.block b hl hb).trans h1, h2⟩
theorem MapAt.below {w' : World} (h : MapAt kf w b m n) (hb : Below w.heap.size w w') : MapAt kf w' b m n := h.kept (S := []) (.of_below hb) (by simp)
theorem MapAt.made (w : World) : MapAt kf (w.alloc (.map #[] 0)) w.heap.size (fun _ => none) 0 :=
  ⟨#[], 0, by rw [heap_alloc_new], MapKept.stamped_empty 0, rfl, by simp, by simp⟩
theorem MapAt.look (F : KeyFit P kt kf) (ht : P.underlying mt = some (.map kt et)) (h : MapAt kf w b m n) {z : Value} (hz : (zeroValue et).run P w = .ok z w) (k : K) :
    (Instr.lookup mt (.map (some b)) (kf k) true).run P w = .ok (.tuple #[(m k).getD z, .bool (m k).isSome]) w ∧ (Instr.lookup mt (.map (some b)) (kf k) false).run P w = .ok ((m k).getD z) w := by
  obtain ⟨es, clk, hb, hS, hn, h1, h2⟩ := h
  have hks : ∀ e ∈ es.toList, ∃ j, e.key = kf j := fun e he => let ⟨k, a, _⟩ := h1 e he; ⟨k, a⟩
  rcases F.find es.toList k w hks with ⟨hf, hno⟩ | ⟨i, e, hf, hi, he⟩
  · have hm : m k = none := by
      cases hmk : m k with
      | none => rfl
      | some v =>
        obtain ⟨e, he, he2, _⟩ := h2 k v hmk
        exact absurd he2 (hno e he)
    rw [hm]
    simp [Instr.lookup, run_underlying ht, MapKept.run_getObj_map hb, F.check, hf, hz, Result.andThen]
  · have hmem : e ∈ es.toList := List.mem_of_getElem? hi
    obtain ⟨k', a, a2⟩ := h1 e hmem
    obtain rfl : k = k' := F.inj _ _ (he.symm.trans a)
    rw [a2]
    simp [Instr.lookup, run_underlying ht, MapKept.run_getObj_map hb, F.check, hf, hz, Result.andThen]
theorem key_one {es : Array MapEntry} {clk : Nat} (hS : MapKept.Stamped es clk) {i j : Nat} {x y : MapEntry} (hi : es.toList[i]? = some x) (hj : es.toList[j]? = some y) (hk : x.key = y.key) : i = j := by
  have h3 := hS.2.2
  have hi' : (es.toList.map (·.key))[i]? = some x.key := by simp only [List.getElem?_map, hi, Option.map_some]
  have hj' : (es.toList.map (·.key))[j]? = some x.key := by simp only [List.getElem?_map, hj, Option.map_some, hk]
  have hil : i < (es.toList.map (·.key)).length := (List.getElem?_eq_some_iff.1 hi').1
  exact (List.getElem?_inj hil h3).1 (hi'.trans hj'.symm)
theorem MapAt.len (ht : P.underlying mt = some (.map kt et)) (h : MapAt kf w b m n) (ty : TypeId) : (Builtin.len_ #[mt] ty #[.map (some b)]).run P w = .ok (.int .i64 n) w := by
  obtain ⟨es, clk, hb, hS, hn, h1, h2⟩ := h
  subst hn
  simp [Builtin.len_, Builtin.lenOf, run_underlying ht, MapKept.run_getObj_map hb, Result.andThen]
  rfl
theorem wpList_lookM {ops : Array Oper} {rest : List Oper} {o : Oper} {a : Act} {Q : Exit → Act → World → Prop} (hg : o.guard = none) (mo ko : Operand) (hop : o.op = Op.lookup mt mo ko true)
    (F : KeyFit P kt kf) (ht : P.underlying mt = some (.map kt et)) (h : MapAt kf w b m n) {z : Value} (hz : (zeroValue et).run P w = .ok z w) (hm : a.eval mo = .map (some b)) (k : K) (hk : a.eval ko = kf k)
    (hK : wpList P ops Q rest (a.put o.dst (.tuple #[(m k).getD z, .bool (m k).isSome])) w) : wpList P ops Q (o :: rest) a w := by
  refine wpList_plain hg fun K' hK' => ?_
  have hrun := (h.look F ht hz k).1
  unfold Oper.wp
  simp [execOp, hop, hm, hk, hrun, Result.andThen]
  exact hK' _ _ hK
theorem wpList_lookM1 {ops : Array Oper} {rest : List Oper} {o : Oper} {a : Act} {Q : Exit → Act → World → Prop} (hg : o.guard = none) (mo ko : Operand) (hop : o.op = Op.lookup mt mo ko false)
    (F : KeyFit P kt kf) (ht : P.underlying mt = some (.map kt et)) (h : MapAt kf w b m n) {z : Value} (hz : (zeroValue et).run P w = .ok z w) (hm : a.eval mo = .map (some b)) (k : K) (hk : a.eval ko = kf k)
    (hK : wpList P ops Q rest (a.put o.dst ((m k).getD z)) w) : wpList P ops Q (o :: rest) a w := by
  refine wpList_plain hg fun K' hK' => ?_
  have hrun := (h.look F ht hz k).2
  unfold Oper.wp
  simp [execOp, hop, hm, hk, hrun, Result.andThen]
  exact hK' _ _ hK
theorem wpList_lenM {ops : Array Oper} {rest : List Oper} {o : Oper} {a : Act} {Q : Exit → Act → World → Prop} (hg : o.guard = none) (mo : Operand) (hop : o.op = Op.call { callee := Callee.builtin Builtin.len, args := #[mo], argTypes := #[mt] })
    (ht : P.underlying mt = some (.map kt et)) (h : MapAt kf w b m n) (hm : a.eval mo = .map (some b))
    (hK : wpList P ops Q rest (a.put o.dst (.int .i64 n)) w) : wpList P ops Q (o :: rest) a w := by
  refine wpList_plain hg fun K' hK' => ?_
  unfold Oper.wp
  simp [execOp, hop, resolve, invoke, builtin, hm, h.len ht o.type, Result.andThen]
  exact hK' _ _ hK
variable [DecidableEq K]
/-- the world in which block b is another map -/
def mapSet (w : World) (b : Nat) (es : Array MapEntry) (clk : Nat) : World := { w with heap := w.heap.setIfInBounds b (.map es clk) }
theorem mapSet_kept (w : World) (b : Nat) (es : Array MapEntry) (clk : Nat) : Kept [b] w (mapSet w b es clk) :=
  ⟨rfl, rfl, rfl, by simp [mapSet], fun k _ hn => by simp only [List.mem_singleton] at hn; simp [mapSet, Ne.symm hn]⟩
theorem mapSet_at {w : World} {b : Nat} (hb : b < w.heap.size) (es : Array MapEntry) (clk : Nat) : (mapSet w b es clk).heap[b]? = some (.map es clk) := by simp [mapSet, hb]
theorem MapAt.store (F : KeyFit P kt kf) (ht : P.underlying mt = some (.map kt et)) (h : MapAt kf w b m n) (k : K) (v : Value) :
    ∃ w', (Instr.mapUpdate mt (.map (some b)) (kf k) v).run P w = .ok () w' ∧ MapAt kf w' b (updK m k (some v)) (if (m k).isSome then n else n + 1) ∧ Kept [b] w w' := by
  have hlt := h.lt
  obtain ⟨es, clk, hb, hS, hn, h1, h2⟩ := h
  have hks : ∀ e ∈ es.toList, ∃ j, e.key = kf j := fun e he => let ⟨k, a, _⟩ := h1 e he; ⟨k, a⟩
  rcases F.find es.toList k w hks with ⟨hf, hno⟩ | ⟨i, e, hf, hi, he⟩
  · have hm : m k = none := by
      cases hmk : m k with
      | none => rfl
      | some v =>
        obtain ⟨e, he, he2, _⟩ := h2 k v hmk
        exact absurd he2 (hno e he)
    refine ⟨mapSet w b (es.push { key := kf k, val := v, born := clk }) (clk + 1), ?_, ⟨_, _, mapSet_at hlt _ _, MapKept.stamped_push hS hno, by simp [hm, hn], ?_, ?_⟩, mapSet_kept _ _ _ _⟩
    · simp [Instr.mapUpdate, run_underlying ht, MapKept.run_getObj_map hb, F.check, hf, MapKept.run_setObj_map _ hb, Result.andThen, mapSet]
    · intro x hx
      simp only [Array.toList_push, List.mem_append, List.mem_singleton] at hx
      rcases hx with hx | rfl
      · obtain ⟨j, a, a2⟩ := h1 x hx
        refine ⟨j, a, ?_⟩
        unfold updK
        rw [if_neg, a2]
        rintro rfl
        exact hno x hx a
      · exact ⟨k, rfl, by unfold updK; rw [if_pos rfl]⟩
    · intro j u hj
      simp only [Array.toList_push, List.mem_append, List.mem_singleton]
      unfold updK at hj
      by_cases e : j = k
      · subst e
        rw [if_pos rfl] at hj
        injection hj with hj
        exact ⟨_, .inr rfl, rfl, hj⟩
      · rw [if_neg e] at hj
        obtain ⟨x, hx, a, a2⟩ := h2 j u hj
        exact ⟨x, .inl hx, a, a2⟩
  · have hmem : e ∈ es.toList := List.mem_of_getElem? hi
    obtain ⟨k', a, a2⟩ := h1 e hmem
    obtain rfl : k = k' := F.inj _ _ (he.symm.trans a)
    have hi' : es[i]? = some e := by rw [← Array.getElem?_toList]; exact hi
    have hget : ∀ j, (es.modify i fun e => { e with key := kf k, val := v }).toList[j]? = if i = j then (es.toList[j]?).map (fun e => { e with key := kf k, val := v }) else es.toList[j]? := by
      intro j
      simp only [Array.getElem?_toList, Array.getElem?_modify]
    refine ⟨mapSet w b (es.modify i fun e => { e with key := kf k, val := v }) clk, ?_, ⟨_, _, mapSet_at hlt _ _, MapKept.stamped_modify hS i _ (fun _ _ => rfl) (fun x _ hx => ?_), by simp [a2, hn], ?_, ?_⟩, mapSet_kept _ _ _ _⟩
    · simp [Instr.mapUpdate, run_underlying ht, MapKept.run_getObj_map hb, F.check, hf, hi', he, F.stays, MapKept.run_setObj_map _ hb, Result.andThen, mapSet]
    · rw [hi'] at hx; injection hx with hx; subst hx; exact he.symm
    · intro x hx
      obtain ⟨j, hj⟩ := List.getElem?_of_mem hx
      rw [hget] at hj
      by_cases e1 : i = j
      · subst e1
        rw [if_pos rfl, hi] at hj
        simp at hj
        subst hj
        exact ⟨k, rfl, by unfold updK; rw [if_pos rfl]⟩
      · rw [if_neg e1] at hj
        obtain ⟨k2, c1, c2⟩ := h1 x (List.mem_of_getElem? hj)
        refine ⟨k2, c1, ?_⟩
        unfold updK
        rw [if_neg, c2]
        rintro rfl
        exact e1 (key_one hS hi hj (he.trans c1.symm))
    · intro j u hj
      unfold updK at hj
      by_cases e1 : j = k
      · subst e1
        rw [if_pos rfl] at hj
        injection hj with hj
        refine ⟨{ e with key := kf j, val := v }, List.mem_of_getElem? (i := i) ?_, rfl, hj⟩
        rw [hget, if_pos rfl, hi]; rfl
      · rw [if_neg e1] at hj
        obtain ⟨x, hx, c1, c2⟩ := h2 j u hj
        obtain ⟨l, hl⟩ := List.getElem?_of_mem hx
        refine ⟨x, List.mem_of_getElem? (i := l) ?_, c1, c2⟩
        rw [hget, if_neg, hl]
        rintro rfl
        rw [hi] at hl
        injection hl with hl
        subst hl
        exact e1 (F.inj _ _ (c1.symm.trans he))
theorem MapAt.drop (F : KeyFit P kt kf) (ht : P.underlying mt = some (.map kt et)) (h : MapAt kf w b m n) (k : K) (ty : TypeId) :
    ∃ w', (Builtin.delete_ #[mt, kt] ty #[.map (some b), kf k]).run P w = .ok (.tuple #[]) w' ∧ MapAt kf w' b (updK m k none) (if (m k).isSome then n - 1 else n) ∧ Kept [b] w w' := by
  have hlt := h.lt
  obtain ⟨es, clk, hb, hS, hn, h1, h2⟩ := h
  have hks : ∀ e ∈ es.toList, ∃ j, e.key = kf j := fun e he => let ⟨k, a, _⟩ := h1 e he; ⟨k, a⟩
  rcases F.find es.toList k w hks with ⟨hf, hno⟩ | ⟨i, e, hf, hi, he⟩
  · have hm : m k = none := by
      cases hmk : m k with
      | none => rfl
      | some v =>
        obtain ⟨e, he, he2, _⟩ := h2 k v hmk
        exact absurd he2 (hno e he)
    have hmm : updK m k none = m := by
      funext j; unfold updK; split
      · rename_i e; rw [e, hm]
      · rfl
    refine ⟨mapSet w b es clk, ?_, ⟨_, _, mapSet_at hlt _ _, hS, by simp [hm, hn], by rw [hmm]; exact h1, by rw [hmm]; exact h2⟩, mapSet_kept _ _ _ _⟩
    simp [Builtin.delete_, run_underlying ht, MapKept.run_getObj_map hb, F.check, hf, MapKept.run_setObj_map _ hb, Result.andThen, mapSet]
  · have hmem : e ∈ es.toList := List.mem_of_getElem? hi
    obtain ⟨k', a, a2⟩ := h1 e hmem
    obtain rfl : k = k' := F.inj _ _ (he.symm.trans a)
    have hil : i < es.size := by simpa using (List.getElem?_eq_some_iff.1 hi).1
    have hto : (es.eraseIdxIfInBounds i).toList = es.toList.eraseIdx i := by
      unfold Array.eraseIdxIfInBounds; rw [dif_pos hil, Array.toList_eraseIdx]
    refine ⟨mapSet w b (es.eraseIdxIfInBounds i) clk, ?_, ⟨_, _, mapSet_at hlt _ _, MapKept.stamped_erase hS i, ?_, ?_, ?_⟩, mapSet_kept _ _ _ _⟩
    · simp [Builtin.delete_, run_underlying ht, MapKept.run_getObj_map hb, F.check, hf, MapKept.run_setObj_map _ hb, Result.andThen, mapSet]
    · rw [a2, ← Array.length_toList, hto, List.length_eraseIdx, Array.length_toList, if_pos hil, hn]; rfl
    · intro x hx
      rw [hto] at hx
      obtain ⟨j, hne, hj⟩ := List.mem_eraseIdx_iff_getElem?.1 hx
      obtain ⟨k2, c1, c2⟩ := h1 x (List.mem_of_getElem? hj)
      refine ⟨k2, c1, ?_⟩
      unfold updK
      rw [if_neg, c2]
      rintro rfl
      exact hne (key_one hS hj hi (c1.trans he.symm))
    · intro j u hj
      unfold updK at hj
      by_cases e1 : j = k
      · rw [if_pos e1] at hj; cases hj
      · rw [if_neg e1] at hj
        obtain ⟨x, hx, c1, c2⟩ := h2 j u hj
        obtain ⟨l, hl⟩ := List.getElem?_of_mem hx
        refine ⟨x, ?_, c1, c2⟩
        rw [hto]
        refine List.mem_eraseIdx_iff_getElem?.2 ⟨l, ?_, hl⟩
        rintro rfl
        rw [hi] at hl
        injection hl with hl
        subst hl
        exact e1 (F.inj _ _ (c1.symm.trans he))
/-! at the operation, for the walk -/
theorem wpList_storeM {ops : Array Oper} {rest : List Oper} {o : Oper} {a : Act} {Q : Exit → Act → World → Prop} (hg : o.guard = none) (mo ko vo : Operand) (hop : o.op = Op.mapUpdate mt mo ko vo)
    (F : KeyFit P kt kf) (ht : P.underlying mt = some (.map kt et)) (h : MapAt kf w b m n) (hm : a.eval mo = .map (some b)) (k : K) (hk : a.eval ko = kf k) (v : Value) (hv : a.eval vo = v)
    (hK : ∀ w', MapAt kf w' b (updK m k (some v)) (if (m k).isSome then n else n + 1) → Kept [b] w w' → wpList P ops Q rest (a.put o.dst undef) w') : wpList P ops Q (o :: rest) a w := by
  refine wpList_plain hg fun K' hK' => ?_
  obtain ⟨w', hrun, r1, r2⟩ := h.store F ht k v
  unfold Oper.wp
  simp [execOp, hop, hm, hk, hv, hrun, Result.andThen]
  exact hK' _ _ (hK w' r1 r2)
theorem wpList_dropM {ops : Array Oper} {rest : List Oper} {o : Oper} {a : Act} {Q : Exit → Act → World → Prop} (hg : o.guard = none) (mo ko : Operand) (hop : o.op = Op.call { callee := Callee.builtin Builtin.delete, args := #[mo, ko], argTypes := #[mt, kt] })
    (F : KeyFit P kt kf) (ht : P.underlying mt = some (.map kt et)) (h : MapAt kf w b m n) (hm : a.eval mo = .map (some b)) (k : K) (hk : a.eval ko = kf k)
    (hK : ∀ w', MapAt kf w' b (updK m k none) (if (m k).isSome then n - 1 else n) → Kept [b] w w' → wpList P ops Q rest (a.put o.dst (.tuple #[])) w') : wpList P ops Q (o :: rest) a w := by
  refine wpList_plain hg fun K' hK' => ?_
  obtain ⟨w', hrun, r1, r2⟩ := h.drop F ht k o.type
  unfold Oper.wp
  simp [execOp, hop, resolve, invoke, builtin, hm, hk, hrun, Result.andThen]
  exact hK' _ _ (hK w' r1 r2)
end
end Go.Proofs.Ytkiogciokngjfaa
