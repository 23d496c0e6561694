/- Lemmas of this claim: Reach5. -/
import Derived.Test.YtokhnobcincfjaaGreatDoorKNFr13
import Derived.Test.YtokhnobcincfjaaGreatDoorKNFr11
import Derived.Test.YtokhnobcincfjaaGreatDoorKNFr5
import Derived.Test.YtokhnobcincfjaaGreatDoorKNFr6
set_option linter.unusedVariables false
set_option linter.unusedSimpArgs false
set_option maxHeartbeats 800000
namespace Go.Proofs.YtokhnobcincfjaaGreatDoor
open Go.RowKit Go.Sort FR
def flt2 (g:G) (x y:Int):Nat:=if g.fault x≠0 then g.fault x else g.fault y
def nth2 (x y:Int) (k:Nat):Int:=if k=0 then x else y
theorem flt2_at {g:G} {x y:Int} {k:Nat} (h:∀j,j<k→g.fault (nth2 x y j)=0) (hk:k<2) (hf:g.fault (nth2 x y k)≠0):flt2 g x y=g.fault (nth2 x y k):=by
 unfold flt2
 rcases (show k=0∨k=1 by omega) with rfl | rfl
 ·exact if_pos hf
 ·have:=h 0 (by omega)
  rw [if_neg (fun hh=>hh this)];rfl
theorem flt2_ok {g:G} {x y:Int} (h:∀j,j<2→g.fault (nth2 x y j)=0):flt2 g x y=0:=by
 unfold flt2
 rw [if_neg (fun hh=>hh (h 0 (by omega)))]
 exact h 1 (by omega)
theorem flt2_zero {g:G} {x y:Int} (h:flt2 g x y=0):g.fault x=0∧g.fault y=0:=by
 unfold flt2 at h
 by_cases e:g.fault x=0
 ·rw [if_neg (fun hh=>hh e)] at h;exact ⟨e,h⟩
 ·rw [if_pos e] at h;exact absurd h e
theorem cell2 (w:World) (T:TypeId) (x y:Int) (k:Nat) (h:k<2):(w.alloc (.cells #[.int .i64 x,.int .i64 y] T)).cell? ⟨w.heap.size,k,none⟩=some (.int .i64 (nth2 x y k)):=by
 rcases (show k=0∨k=1 by omega) with rfl | rfl <;> go_simp <;> rfl
theorem fault_cases3 {g:G} (z:Int):((z<0∨(g.n:Int)≤z)∧g.fault z=1)∨(∃c:Nat,z=c∧c<g.n∧g.b c=true∧g.fault z=4)∨(∃c:Nat,z=c∧c<g.n∧g.b c=false∧g.fault z=0):=by
 by_cases h:z<0∨(g.n:Int)≤z
 ·exact .inl ⟨h,G.fault_out h⟩
 ·obtain ⟨c,rfl⟩:=Int.eq_ofNat_of_zero_le (show 0≤z by omega)
  have hc:c<g.n:=by omega
  have:=G.fault_in hc
  cases hb:g.b c with
  | true=>exact .inr (.inl ⟨c,rfl,hc,hb,by rw [this,hb];rfl⟩)
  | false=>exact .inr (.inr ⟨c,rfl,hc,hb,by rw [this,hb];rfl⟩)
theorem reachFree (w : World) (p : Nat) (g : G) (v x y : Int) (h : GridAt w p g v) :
    Calls Tryz.prog 137 #[.pointer (some ⟨p,0,none⟩),.int .i64 x,.int .i64 y] w fun e w'=>e=.returned (errV (flt2 g x y))∧Below w.heap.size w w':=by
 have hpl:=h.lt;have HG:=Lib.hid h;clear h;go_enter Tryz.func137,Tryz.ntmps137;go_wp2_with fail
 have hcell:=Lib.hid (fun k (hk:k<2)=>cell2 w 3 x y k hk)
 have HB0:Below w.heap.size w (w.alloc (.cells #[.int .i64 x,.int .i64 y] 3)):=bel_alloc (Below.refl _ _);obtain ⟨W,hW⟩:∃z,w.alloc (.cells #[.int .i64 x,.int .i64 y] 3)=z:=⟨_,rfl⟩
 rw [hW] at hcell HB0 ⊢
 obtain ⟨B,hB⟩:∃z,w.heap.size=z:=⟨_,rfl⟩
 have hl0:B<W.heap.size:=by rw [←hW,←hB];simp
 rw [hB] at hcell ⊢
 clear hW
 go_loopw [15] (fun kv wr=>∃k:Nat,k≤2∧kv=.int .i64 k∧(∀j,j<k→g.fault (nth2 x y j)=0)∧Below W.heap.size W wr) (fun kv _=>2-(intOf kv).toNat)
 case atStart=>exact ⟨0,by omega,rfl,fun j hj=>by omega,Below.refl _ _⟩
 case round=>
  obtain ⟨k,hk,rfl,hfa,HBk⟩:=hrel;have Hfa:=Lib.hid hfa;clear hfa;have HBw:=bel_trans HB0 HBk
  by_cases hlt:k<2
  ·have hc:=(HBk.cell (p:=⟨B,k,none⟩) hl0).trans (hcell.out k hlt)
   obtain ⟨z,hz⟩:∃z,nth2 x y k=z:=⟨_,rfl⟩;rw [hz] at hc;have Hz:=Lib.hid hz;clear hz
   rcases fault_cases3 (g:=g) z with ⟨ho,hf⟩ | ⟨c,rfl,hcn,hb,hf⟩ | ⟨c,rfl,hcn,hb,hf⟩
   ·have e:flt2 g x y=1:=by rw [flt2_at Hfa.out hlt (by rw [Hz.out,hf];decide),Hz.out,hf]
    have cF:=Lib.hid (fun w' h'=>gridFree_out w' p g v z h' ho)
    have He:=Lib.hid e;clear e hf ho;go_wp2_with fail
    (with_reducible refine (cF.out _ (HG.out.below HBw hpl)).mono ?_)
    rintro e w2 ⟨rfl,hb2⟩;have HB2:=bel_trans HBw hb2;go_wp2;go_ret
    exact ⟨by rw [He.out];rfl,HB2⟩
   ·have e:flt2 g x y=4:=by rw [flt2_at Hfa.out hlt (by rw [Hz.out,hf];decide),Hz.out,hf]
    have cF:=fun w' h'=>gridFree_in w' p g v c h' hcn
    rw [hb] at cF;have cF:=Lib.hid cF;have He:=Lib.hid e;clear e hf hb;go_wp2_with fail
    (with_reducible refine (cF.out _ (HG.out.below HBw hpl)).mono ?_)
    rintro e w2 ⟨rfl,hb2⟩;have HB2:=bel_trans HBw hb2;go_wp2;go_ret
    exact ⟨by rw [He.out];rfl,HB2⟩
   ·have cF:=fun w' h'=>gridFree_in w' p g v c h' hcn
    rw [hb] at cF;have cF:=Lib.hid cF
    have hfa:∀j,j<k+1→g.fault (nth2 x y j)=0:=fun j hj=>by
     by_cases e:j=k
     ·rw [e,Hz.out,hf]
     ·exact Hfa.out j (by omega)
    have Hfa:=Lib.hid hfa;clear hfa hf hb;go_wp2_with fail
    (with_reducible refine (cF.out _ (HG.out.below HBw hpl)).mono ?_)
    rintro e w2 ⟨rfl,hb2⟩;have HB2:=bel_trans HBk hb2;clear hc hb2 HBk HBw cF;go_wp2;go_roundw
    case rel=>first | exact ⟨k+1,by omega,by go_num,Hfa.out,HB2⟩ | ((repeat apply Exists.intro);exact ⟨⟨k+1,by omega,by go_num,Hfa.out,HB2⟩,rfl⟩)
    case measure=>simp [intOf];omega
  ·obtain rfl:k=2:=by omega
   have He:=Lib.hid (flt2_ok Hfa.out);go_wp2;go_ret
   exact ⟨by rw [He.out];rfl,HBw⟩
theorem errV_bad {k:Nat} (h:k≠0):errV k=.iface 45 (.int .i64 (k:Nat)):=if_neg h
theorem reachNear_bad (w : World) (p : Nat) (g : G) (v x y : Int) (f : Nat) (h : GridAt w p g v) (hf : flt2 g x y = f) (h0 : f ≠ 0) :
    Calls Tryz.prog 83 #[.pointer (some ⟨p,0,none⟩),.int .i64 x,.int .i64 y] w fun e w'=>e=.returned (.tuple #[.bool false,.iface 45 (.int .i64 (f:Nat))])∧Below w.heap.size w w':=by
 have cF:=reachFree w p g v x y h;rw [hf,errV_bad h0] at cF;have cF:=Lib.hid cF;clear h hf h0;go_enter Tryz.func83,Tryz.ntmps83;go_wp2_with fail
 (with_reducible refine cF.out.mono ?_)
 rintro e w1 ⟨rfl,hb1⟩;go_wp2;go_ret2;exact ⟨rfl,hb1⟩
theorem free_ok (w : World) (p : Nat) (g : G) (v : Int) (ca cb : Nat) (h : GridAt w p g v) (hca : ca < g.n) (hcb : cb < g.n) (ha : g.b ca = false) (hb : g.b cb = false) :
    Calls Tryz.prog 137 #[.pointer (some ⟨p,0,none⟩),.int .i64 (ca:Nat),.int .i64 (cb:Nat)] w fun e w'=>e=.returned .nilIface∧Below w.heap.size w w':=by
 have:=reachFree w p g v ca cb h
 have e:flt2 g ca cb=0:=by
  unfold flt2;rw [G.fault_in hca,G.fault_in hcb,ha,hb];rfl
 rw [e] at this;exact this
theorem reachNear_ok (w : World) (p : Nat) (g : G) (v : Int) (ca cb : Nat) (t : Bool) (h : GridAt w p g v) (hca : ca < g.n) (hcb : cb < g.n) (ha : g.b ca = false) (hb : g.b cb = false) (ht : t = true ↔ g.Near ca cb) :
    Calls Tryz.prog 83 #[.pointer (some ⟨p,0,none⟩),.int .i64 (ca:Nat),.int .i64 (cb:Nat)] w fun e w'=>e=.returned (.tuple #[.bool t,.nilIface])∧Below w.heap.size w w':=by
 have cF:=Lib.hid (free_ok w p g v ca cb h hca hcb ha hb);have hpl:=h.lt;have hok:=h.1
 have cN:=Lib.hid (fun w' h'=>newField w' p g v ca cb h' hca hcb)
 have H:=Lib.hid h
 have ht':t=true↔natS (g.OnA ca cb) ((g.fI ca cb:Nat),(g.fJ ca cb:Nat)):=by
  rw [ht,natS_at,G.near_on hok hcb hca]
  exact ⟨fun x=>⟨Nat.le_refl _,Nat.le_refl _,x⟩,fun x=>x.2.2⟩
 have ht:=Lib.hid ht';clear h ht';go_enter Tryz.func83,Tryz.ntmps83;go_wp2_with fail
 (with_reducible refine cF.out.mono ?_)
 rintro e w1 ⟨rfl,hb1⟩;go_wp2_with fail
 (with_reducible refine (cN.out _ (H.out.below hb1 hpl)).mono ?_)
 rintro e w2 ⟨b,mo,mk,rfl,hF,hb2⟩;have HB:=bel_trans hb1 hb2;have cR:=Lib.hid (fieldReached w2 b p mo mk g v ca cb _ _ t hF ht.out);clear hF hb1 hb2;go_wp2_with fail
 (with_reducible refine cR.out.mono ?_)
 rintro e w3 ⟨rfl,hb3⟩;have HB:=bel_trans HB hb3;go_wp2;go_ret2;exact ⟨rfl,HB⟩
end Go.Proofs.YtokhnobcincfjaaGreatDoor
