/- Lemmas of this claim: closing tactics as terms. -/
import Derived.KernelRfl
theorem om{P:Prop}(h:P:=by omega):P:=h
theorem rS{P:Prop}(h:P:=by simp):P:=h
theorem rD{P:Prop}(h:P:=by decide):P:=h
theorem au{P:Prop}(h:P:=by assumption):P:=h
theorem so{P:Prop}(h:P:=by simp;omega):P:=h
theorem kr{P:Prop}(h:P:=by kernel_rfl):P:=h
theorem rX{α:Sort _}(a:α):∃z,a=z:=⟨a,rfl⟩
theorem rN{a b:Prop}(x:a)(y:b):a/\b:=⟨x,y⟩
abbrev Za:=@Array.getElem?_eq_some_iff
abbrev Zb:=@List.getElem?_eq_some_iff
abbrev Zc:=@List.getElem?_eq_getElem
abbrev Zd:=@List.mem_cons
abbrev Ze:=@List.mem_of_getElem?
abbrev Zf:=@Nat.lt_of_lt_of_le
abbrev Zg:=@Nat.le_trans
abbrev Zh:=@List.setIfInBounds_toArray
abbrev Zi:=@Nat.le_refl
abbrev Zj:=@Int.eq_ofNat_of_zero_le
abbrev Zk:=@List.getD_eq_getElem?_getD
abbrev Zl:=@List.mem_append
abbrev Zm:=@List.set_cons_zero
abbrev Zn:=@List.set_cons_succ
abbrev Zo:=@List.getElem?_of_mem
abbrev Zp:=@List.length_append
abbrev Zq:=@beq_eq_false_iff_ne
abbrev Zr:=@List.length_map
abbrev Zt:=@List.take_succ_eq_append_getElem
abbrev Zu:=@Classical.byContradiction
abbrev Zv:=@Option.mem_toList
abbrev Zw:=@Nat.zero_le
abbrev Zx:=@Nat.zero_add
abbrev Zy:=@List.getElem?_map
abbrev Zz:=@List.getElem?_append_right
abbrev ZA:=@List.getElem?_take
abbrev ZB:=@Array.getElem?_toList
