/-
  LexBaseb, LexGapb, LexGap2b, LexQuotedb, Postb, TbKeepb, Memb, Minb, LexStrb, LexSymb, TbSymb, DtModelb, DtSingleb, Appb, Putb, CdFlowb, CdOpsb, RgBb, VMapb, RgOb, CoKeysTb, Liftb, CdNeedb, FixRefb, FixTextRb, FixFormb, FixParseRb.
-/
import Derived.Test.YtfjmlfbohenmfaaGreatCoreBBM1
import Derived.Lib.Bytealg
import Derived.Laws.BitsAllLaws
import Derived.Laws.BitsLemmas
import Derived.Deep.QuietTactic
import Derived.BigQuiet
import Derived.Deep.Draws
import Derived.Lib.SmallJoins
import Derived.Test.YtfjmlfbohenmfaaGreatRows
import Derived.WalkKit
import Derived.ProofKit
import Derived.OpenShut
import Derived.Below
import Derived.ChangeSame
import Derived.Lib.Hide
import Derived.Lib.QuietBelow
import Derived.Lib.Builder
import Derived.Deep.MidRow
import Derived.Deep.RegionHeld
import Derived.Deep.RegionHeld3
import Derived.Laws.AppendOwnNone
import Derived.Deep.AppendLies
import Derived.Laws.OwnMore
import Derived.IntWalk
import Derived.Laws.Tables
import Derived.Laws.Rows
import Derived.Laws.CopyOwn
import Derived.Great.Walk
import Derived.Deep.DeepCutAuto
import Derived.RangeFuncNested
import Derived.OrdersIn
import Derived.Maps.Own
import Derived.Maps.OwnOps
import Derived.Maps.OwnSet
import Derived.Maps.Views
import Derived.Maps.Keyed
import Derived.WideKeyEntry
import Derived.Shelf.SlIter.Nil
import Derived.Shelf.SlIterI.Nil
import Derived.Shelf.SortM.Plain
import Derived.Shelf.SortM.SortNone
import Derived.Shelf.SlGeneric
import Derived.Test.YtfjmlfbohenmfaaGreatProg
import Derived.Sort.QuietTacIn
import Derived.Laws.Concat
set_option maxRecDepth 100000
set_option maxHeartbeats 32000000
namespace Go.Proofs.YtfjmlfbohenmfaaGreat
open Go.RowKit
theorem run_IndexByteString(s:ByteArray)(c:UInt8)(w:World):
  (callFunc 169 #[.string s,.int .u8 (c.toNat:Int)]).run Tryz.prog w= .ok (.value (.int .i64 (Lib.indexByte s.data.toList c))) w:=by
 have h:=Lib.run_indexByteString (P:=Tryz.prog) s (c.toNat:Int) w;rw[show((c.toNat:Int)).toNat.toUInt8=c by simp]at h;rw[run_callFunc_extern Tryz.func169 (by kernel_rfl) (by kernel_rfl) (by kernel_rfl) (e:=Extern.BytealgIndexByte.indexByte) (by kernel_rfl),h]
 rfl
theorem IndexByte_any(s:ByteArray)(c:UInt8)(w:World):
  Calls Tryz.prog 113 #[.string s,.int .u8 (c.toNat:Int)] w fun e w'=>e= .returned (.int .i64 (Lib.indexByte s.data.toList c))∧w=w':=by
 have h:=run_IndexByteString s c w;go_enter Tryz.func113,Tryz.ntmps113;go_wp2;go_ret;exact⟨rfl,rfl⟩
namespace Lx
def tl(s:ByteArray)(at_:Nat):List UInt8:=s.data.toList.drop at_
theorem tl_len(s:ByteArray)(at_:Nat):(tl s at_).length=s.size - at_:=by
 unfold tl;rw[List.length_drop,Fx.size_toList]
theorem tl_cons(s:ByteArray)(at_:Nat)(h:at_<s.size):tl s at_=s[at_] :: tl s (at_+1):=by
 unfold tl;rw[List.drop_eq_getElem_cons (by rw[Fx.size_toList];exact h)]
 rfl
theorem tl_nil(s:ByteArray)(at_:Nat)(h:s.size≤at_):tl s at_=[]:=by
 unfold tl;exact List.drop_eq_nil_of_le (by rw[Fx.size_toList];exact h)
theorem pk_in(s:ByteArray)(at_ n:Nat)(h:at_+n<s.size):pk (tl s at_) n=s[at_+n]:=by
 unfold pk tl;rw[List.getD_eq_getElem?_getD,List.getElem?_drop,List.getElem?_eq_getElem (by rw[Fx.size_toList];exact h)]
 rfl
theorem pk_out(s:ByteArray)(at_ n:Nat)(h:s.size≤at_+n):pk (tl s at_) n=0:=by
 unfold pk tl;rw[List.getD_eq_getElem?_getD,List.getElem?_drop,List.getElem?_eq_none (by rw[Fx.size_toList];exact h)]
 rfl
end Lx
namespace Lx
theorem beq_nat(c:UInt8)(k:Nat)(hk:k<256):(c==UInt8.ofNat k)=((c.toNat:Int)==(k:Int)):=by
 by_cases h:c.toNat=k
 ·have e:c=UInt8.ofNat k:=UInt8.toNat_inj.1 (by rw[h];simp;omega);rw[beq_iff_eq.2 (show(c.toNat:Int)=k by omega),e];simp
 ·have e:c≠UInt8.ofNat k:=fun e=>h (by rw[e];simp;omega)
  rw[beq_eq_false_iff_ne.2 (show(c.toNat:Int)≠k by omega)];exact beq_eq_false_iff_ne.2 e
theorem white_int(c:UInt8):white c=((((c.toNat:Int)==32||(c.toNat:Int)==9)||(c.toNat:Int)==10)||(c.toNat:Int)==13):=by
 unfold white;rw[show(c==32)=((c.toNat:Int)==32)from beq_nat c 32 (by omega),show(c==9)=((c.toNat:Int)==9)from beq_nat c 9 (by omega),show(c==10)=((c.toNat:Int)==10)from beq_nat c 10 (by omega),show(c==13)=((c.toNat:Int)==13)from beq_nat c 13 (by omega)]
theorem b2{p q:Bool}(h:p=q):Ending.returned (.bool p)= .returned (.bool q):=by rw[h]
end Lx
namespace Lx
theorem idx_in(l:List UInt8)(c:UInt8):decide (0≤Lib.indexByte l c)=l.contains c:=by
 induction l with
 |nil=>rfl
 |cons b l ih=>
  have hm:Lib.indexByte l c= -1∨0≤Lib.indexByte l c:=by
   clear ih
   induction l with
   |nil=>exact .inl rfl
   |cons b l ih=>
    unfold Lib.indexByte;split
    ·exact .inr (by omega)
    ·split
     ·exact .inl rfl
     ·rename_i h;rcases ih with ih|ih
      ·rw[ih]at h;exact absurd rfl h
      ·exact .inr (by omega)
  unfold Lib.indexByte;rw[List.contains_cons,←ih];by_cases hb:b=c
  ·subst hb;simp
  ·have e1:(b==c)=false:=by simpa using hb
   have e2:(c==b)=false:=by simpa using fun h=>hb h.symm
   rw[e1,e2];rcases hm with hm|hm
   ·rw[hm];simp
   ·have e3:(Lib.indexByte l c== -1)=false:=beq_eq_false_iff_ne.2 (by omega);rw[e3];simp;omega
theorem fig_int(c:UInt8):figure c=(decide (48≤(c.toNat:Int))&&decide ((c.toNat:Int)≤57)):=by
 unfold figure;congr 1
 ·exact decide_eq_decide.2 (by omega)
 ·exact decide_eq_decide.2 (by omega)
end Lx
namespace Lx
theorem sign_int(t:List UInt8):sign t=if((pk t 0).toNat:Int)==40 then(1,1)else if((pk t 0).toNat:Int)==41 then(2,1)else if((pk t 0).toNat:Int)==39 then(4,1)else if((pk t 0).toNat:Int)==96 then(5,1)
  else if((pk t 0).toNat:Int)==44 then(if((pk t 1).toNat:Int)==64 then(7,2)else(6,1))
  else if((pk t 0).toNat:Int)==35&&((pk t 1).toNat:Int)==40 then(3,2)else(0,0):=by
 unfold sign;have h:=fun(c:UInt8) (k:Nat) (hk:k<256)=>beq_nat c k hk
 rw[show(pk t 0==40)=(((pk t 0).toNat:Int)==40)from h _ 40 (by omega),show(pk t 0==41)=(((pk t 0).toNat:Int)==41)from h _ 41 (by omega),
  show(pk t 0==39)=(((pk t 0).toNat:Int)==39)from h _ 39 (by omega),show(pk t 0==96)=(((pk t 0).toNat:Int)==96)from h _ 96 (by omega),
  show(pk t 0==44)=(((pk t 0).toNat:Int)==44)from h _ 44 (by omega),show(pk t 1==64)=(((pk t 1).toNat:Int)==64)from h _ 64 (by omega),
  show(pk t 0==35)=(((pk t 0).toNat:Int)==35)from h _ 35 (by omega),show(pk t 1==40)=(((pk t 1).toNat:Int)==40)from h _ 40 (by omega)]
end Lx
namespace Lx
theorem hexOf_bd(c:UInt8)(x:Nat)(h:hexOf c=some x):x<16:=by
 unfold hexOf at h;split at h
 ·rename_i h1;simp[figure]at h1;injection h with h;omega
 ·split at h
  ·rename_i h1;simp at h1;injection h with h;omega
  ·cases h
end Lx
namespace Lx
theorem tl_pk(s:ByteArray)(at_:Nat)(h:at_<s.size):tl s at_=pk (tl s at_) 0 :: tl s (at_+1):=by
 rw[pk_in s at_ 0 h];exact tl_cons s at_ h
theorem pk_succ(s:ByteArray)(at_ n:Nat):pk (tl s at_) (n+1)=pk (tl s (at_+1)) n:=by
 unfold pk tl;rw[List.getD_eq_getElem?_getD,List.getD_eq_getElem?_getD,List.getElem?_drop,List.getElem?_drop];congr 2;omega
theorem head_pk(s:ByteArray)(at_:Nat)(c:UInt8)(hc:c≠0):((tl s at_).head?==some c)=(pk (tl s at_) 0==c):=by
 by_cases h:at_<s.size
 ·rw[tl_pk s at_ h];simp[pk]
 ·rw[tl_nil s at_ (by omega)];have:(pk [] 0==c)=false:=by simpa[pk]using fun e=>hc e.symm
  rw[this];rfl
end Lx
namespace Lx
theorem com_len:∀(m:Nat) (l:List UInt8) (o:Nat) (r:List UInt8),l.length≤m→com l o=some r→r.length+2≤l.length:=by
 intro m
 induction m with
 |zero=>
  intro l o r hl h;have:l=[]:=List.eq_nil_of_length_eq_zero (by omega);subst this;rw[com]at h;cases h
 |succ m ih=>
  intro l o r hl h
  cases l with
  |nil=>rw[com]at h;cases h
  |cons c l=>
   rw[com]at h;simp only[List.length_cons]at hl ⊢;split at h
   ·rename_i hh;have h2:=ih l.tail (o+1) r (by rw[List.length_tail];omega) h;rw[List.length_tail]at h2;omega
   ·split at h
    ·rename_i hh;have hne:1≤l.length:=by
      cases l with
      |nil=>simp at hh
      |cons=>simp
     split at h
     ·injection h with h;rw[←h,List.length_tail];omega
     ·have h2:=ih l.tail (o - 1) r (by rw[List.length_tail];omega) h;rw[List.length_tail]at h2;omega
    ·have h2:=ih l o r (by omega) h;omega
theorem gap_nil(f:Nat):gap f []=([],true):=by cases f <;> rfl
theorem gap_step(f:Nat)(s:ByteArray)(n:Nat)(h:n<s.size):gap (f+1) (tl s n)=
  if white (pk (tl s n) 0)then gap f (tl s (n+1))
  else if pk (tl s n) 0==59 then gap f ((tl s n).dropWhile (· !=10))
  else if pk (tl s n) 0==35&&pk (tl s n) 1==124 then
   match com (tl s n) 0 with
   |none=>(tl s n,false)
   |some r'=>gap f r'
  else(tl s n,true):=by
 have e:=tl_pk s n h;have hh:((tl s (n+1)).head?==some 124)=(pk (tl s n) 1==124):=by rw[head_pk s (n+1) 124 (by decide),←pk_succ]
 have hd:pk (tl s n) 0==59→(tl s n).dropWhile (· !=10)=(tl s (n+1)).dropWhile (· !=10):=fun h59=>by
  rw[e,List.dropWhile_cons];rw[show pk (tl s n) 0=59 by simpa using h59]
  rfl
 conv=>lhs;rw[e,gap,←e,hh]
 split
 ·rfl
 ·split
  ·rename_i h59;rw[hd h59]
  ·rfl
end Lx
namespace Lx
theorem d_cons(d:ByteArray)(h:0<d.size):d.data.toList=d[0] :: d.data.toList.drop 1:=by
 have:=tl_cons d 0 h;unfold tl at this;rw[List.drop_zero]at this;exact this
end Lx
end Go.Proofs.YtfjmlfbohenmfaaGreat
namespace Go.Proofs.YtfjmlfbohenmfaaGreat
open Go.RowKit Go.WideShapes Go.ChangeShapes
section
variable {H:Type} {enc:TypeId×Value→H} {P:Program}
end
end Go.Proofs.YtfjmlfbohenmfaaGreat
namespace Go.Proofs.YtfjmlfbohenmfaaGreat
open Go.RowKit
structure Keep(S:Nat→Prop)(w w':World):Prop where
 os:w'.os=w.os
 tape:w'.tape=w.tape
 output:w'.output=w.output
 size:w.heap.size≤w'.heap.size
 block:∀k,k<w.heap.size→¬S k→w'.heap[k]?=w.heap[k]?
theorem Keep.refl(S:Nat→Prop)(w:World):Keep S w w:=⟨rfl,rfl,rfl,Nat.le_refl _,fun _ _ _=>rfl⟩
theorem Keep.trans{S:Nat→Prop}{a b c:World}(h:Keep S a b)(k:Keep S b c):Keep S a c:=
 ⟨k.os.trans h.os,k.tape.trans h.tape,k.output.trans h.output,Nat.le_trans h.size k.size,fun i hi hne=>(k.block i (Nat.lt_of_lt_of_le hi h.size) hne).trans (h.block i hi hne)⟩
theorem Keep.setCell{S:Nat→Prop}{a w:World}(h:Keep S a w){B:Nat}(hB:S B)(j:Nat)(v:Value):Keep S a (w.setCell ⟨B,j,none⟩ v):=
 h.trans ⟨rfl,rfl,rfl,by simp[World.setCell],fun k _ hne=>Below.heap_setCell _ _ _ _ (fun e=>hne (by rw[e];exact hB))⟩
theorem Keep.below{S:Nat→Prop}{a w w':World}(h:Keep S a w)(hb:Below w.heap.size w w'):Keep S a w':=
 h.trans ⟨hb.os,hb.tape,hb.output,hb.size,fun k hk _=>hb.block k hk⟩
theorem Keep.alloc{S:Nat→Prop}{a w:World}(h:Keep S a w)(o:Obj):Keep S a (w.alloc o):=h.below ((Below.refl _ _).alloc (Nat.le_refl _) o)
theorem Keep.mono{S T:Nat→Prop}{a w:World}(h:Keep S a w)(hST:∀k,k<a.heap.size→S k→T k):Keep T a w:=⟨h.os,h.tape,h.output,h.size,fun k hk hn=>h.block k hk (fun hs=>hn (hST k hk hs))⟩
theorem Keep.to_below{S:Nat→Prop}{w w':World}{n:Nat}(h:Keep S w w')(hS:∀k,S k→n≤k)(hn:n≤w.heap.size):Below n w w':=
 ⟨h.os,h.tape,h.output,h.size,fun k hk=>h.block k (by omega) (fun hs=>by have:=hS k hs;omega)⟩
theorem Keep.cell{S:Nat→Prop}{w w':World}(h:Keep S w w'){b:Nat}(j:Nat)(hb:b<w.heap.size)(hS:¬S b):w'.cell? ⟨b,j,none⟩=w.cell? ⟨b,j,none⟩:=by
 unfold World.cell?;rw[h.block b hb hS]
theorem Keep.frozen{S:Nat→Prop}{w w':World}(h:Keep S w w'){b:Nat}(j:Nat)(hb:b<w.heap.size)(hS:¬S b):w'.frozen? ⟨b,j,none⟩=w.frozen? ⟨b,j,none⟩:=by
 unfold World.frozen?;rw[h.block b hb hS]
def Hp(w:World)(B:Nat)(cs:Array Value)(t:TypeId):Prop:=w.heap[B]?=some (.cells cs t (0,0))
theorem Hp.cell{w:World}{B:Nat}{cs:Array Value}{t:TypeId}(h:Hp w B cs t)(i:Nat){v:Value}(hv:cs[i]?=some v):w.cell? ⟨B,i,none⟩=some v:=by
 rw[Lib.cell_of_heap h];exact hv
theorem Hp.frz{w:World}{B:Nat}{cs:Array Value}{t:TypeId}(h:Hp w B cs t)(i:Nat):w.frozen? ⟨B,i,none⟩=false:=Lib.frozen_of_heap h i
theorem Hp.lt{w:World}{B:Nat}{cs:Array Value}{t:TypeId}(h:Hp w B cs t):B<w.heap.size:=(Array.getElem?_eq_some_iff.1 h).1
theorem Hp.keep{S:Nat→Prop}{w w':World}{B:Nat}{cs:Array Value}{t:TypeId}(h:Hp w B cs t)(hk:Keep S w w')(hn:¬S B):Hp w' B cs t:=(hk.block B h.lt hn).trans h
theorem Hp.below{w w':World}{B:Nat}{cs:Array Value}{t:TypeId}(h:Hp w B cs t)(hb:Below w.heap.size w w'):Hp w' B cs t:=(hb.block B h.lt).trans h
theorem Hp.set{w:World}{B:Nat}{cs:Array Value}{t:TypeId}(h:Hp w B cs t)(i:Nat)(v:Value):Hp (w.setCell ⟨B,i,none⟩ v) B (cs.setIfInBounds i v) t:=by
 show((w.heap.modify B _))[B]?=_;rw[Array.getElem?_modify,if_pos rfl,h]
 rfl
theorem Hp.new{w w1:World}{cs:Array Value}{t:TypeId}(h:w.alloc (.cells cs t)=w1):Hp w1 w.heap.size cs t:=by rw[←h];show(w.heap.push _)[w.heap.size]?=_;simp
theorem new_below{w w1:World}{o:Obj}(h:w.alloc o=w1):Below w.heap.size w w1∧w1.heap.size=w.heap.size+1:=⟨by rw[←h];exact(Below.refl _ w).alloc (Nat.le_refl _) o,by rw[←h,World.size_alloc]⟩
theorem set_keep(w:World)(B i:Nat)(v:Value):Keep (fun k=>k=B) w (w.setCell ⟨B,i,none⟩ v):=(Keep.refl (fun k=>k=B) w).setCell rfl _ _
theorem keep_of_below{S:Nat→Prop}{w w':World}(h:Below w.heap.size w w'):Keep S w w':=(Keep.refl S w).below h
theorem Keep.le{S T:Nat→Prop}{w w':World}(h:Keep S w w')(hT:∀k,S k→T k):Keep T w w':=h.mono (fun k _ e=>hT k e)
def set6(w:World)(B:Nat)(a b c d e f:Value):World:=(((((w.setCell ⟨B,0,none⟩ a).setCell ⟨B,1,none⟩ b).setCell ⟨B,2,none⟩ c).setCell ⟨B,3,none⟩ d).setCell ⟨B,4,none⟩ e).setCell ⟨B,5,none⟩ f
theorem set6_keep(w:World)(B:Nat)(a b c d e f:Value):Keep (fun k=>k=B) w (set6 w B a b c d e f):=
 ((((((Keep.refl (fun k=>k=B) w).setCell rfl 0 a).setCell rfl 1 b).setCell rfl 2 c).setCell rfl 3 d).setCell rfl 4 e).setCell rfl 5 f
def set5(w:World)(B:Nat)(a b c d e:Value):World:=((((w.setCell ⟨B,0,none⟩ a).setCell ⟨B,1,none⟩ b).setCell ⟨B,2,none⟩ c).setCell ⟨B,3,none⟩ d).setCell ⟨B,4,none⟩ e
theorem Hp.set5{w:World}{B:Nat}{u0 u1 u2 u3 u4:Value}{t:TypeId}(h:Hp w B #[u0,u1,u2,u3,u4] t)(a b c d e:Value):Hp (set5 w B a b c d e) B #[a,b,c,d,e] t:=
 ((((h.set 0 a).set 1 b).set 2 c).set 3 d).set 4 e
theorem Hp.there{w:World}{B:Nat}{cs:Array Value}{t:TypeId}(h:Hp w B cs t){n:Nat}(hn:n≤cs.size):w.there B 0 n:=fun j hj=>by
 rw[Nat.zero_add];refine⟨?_,h.frz j⟩;rw[h.cell j (Array.getElem?_eq_getElem (by omega))]
 rfl
theorem btr {a b c : World} (h : Below a.heap.size a b) (k : Below b.heap.size b c) : Below a.heap.size a c := h.trans (k.mono h.size)
theorem Hp.c4 {w : World} {B : Nat} {a b c d : Value} {t : TypeId} (h : Hp w B #[a, b, c, d] t) : w.cell? ⟨B, 0, none⟩ = some a ∧ w.cell? ⟨B, 1, none⟩ = some b ∧ w.cell? ⟨B, 2, none⟩ = some c ∧ w.cell? ⟨B, 3, none⟩ = some d := ⟨h.cell 0 rfl, h.cell 1 rfl, h.cell 2 rfl, h.cell 3 rfl⟩
theorem Hp.c6 {w : World} {B : Nat} {a b c d e f : Value} {t : TypeId} (h : Hp w B #[a, b, c, d, e, f] t) : w.cell? ⟨B, 0, none⟩ = some a ∧ w.cell? ⟨B, 1, none⟩ = some b ∧ w.cell? ⟨B, 2, none⟩ = some c ∧ w.cell? ⟨B, 3, none⟩ = some d ∧ w.cell? ⟨B, 4, none⟩ = some e ∧ w.cell? ⟨B, 5, none⟩ = some f := ⟨h.cell 0 rfl, h.cell 1 rfl, h.cell 2 rfl, h.cell 3 rfl, h.cell 4 rfl, h.cell 5 rfl⟩
theorem Hp.c11 {w : World} {B : Nat} {a b c d e f g i j k l : Value} {t : TypeId} (h : Hp w B #[a, b, c, d, e, f, g, i, j, k, l] t) : w.cell? ⟨B, 0, none⟩ = some a ∧ w.cell? ⟨B, 1, none⟩ = some b ∧ w.cell? ⟨B, 2, none⟩ = some c ∧ w.cell? ⟨B, 3, none⟩ = some d ∧ w.cell? ⟨B, 4, none⟩ = some e ∧ w.cell? ⟨B, 5, none⟩ = some f ∧ w.cell? ⟨B, 6, none⟩ = some g ∧ w.cell? ⟨B, 7, none⟩ = some i ∧ w.cell? ⟨B, 8, none⟩ = some j ∧ w.cell? ⟨B, 9, none⟩ = some k ∧ w.cell? ⟨B, 10, none⟩ = some l :=
  ⟨h.cell 0 rfl, h.cell 1 rfl, h.cell 2 rfl, h.cell 3 rfl, h.cell 4 rfl, h.cell 5 rfl, h.cell 6 rfl, h.cell 7 rfl, h.cell 8 rfl, h.cell 9 rfl, h.cell 10 rfl⟩
theorem za {α : Type _} {l : List α} {i : Nat} {x : α} : l.toArray.setIfInBounds i x = (l.set i x).toArray := List.setIfInBounds_toArray ..
theorem zb {α : Type _} {x y : α} {l : List α} : (x :: l).set 0 y = y :: l := List.set_cons_zero ..
theorem zc {α : Type _} {x y : α} {l : List α} {i : Nat} : (x :: l).set (i + 1) y = x :: l.set i y := List.set_cons_succ ..
namespace Zm
variable {P : Program} {ops : Array Oper} {Q : Exit → Act → World → Prop} {md : Region.Mode} {S : World → Prop} {fuel : Nat} {listed : Array Bool} {a : Act} {w : World}
/-- an operation is taken -/
theorem u (i : Nat) {d : Option Tmp} {op : Op} {ty : TypeId} {po : String} {af : Array Edge} {gu : Option (Nat × Bool)} (v : Value) (hi : ops[i]? = some ⟨d, op, ty, po, af, gu⟩) (hv : ∀ w, S w → (execOp a.eval ⟨d, op, ty, po, af, gu⟩).run P w = .ok (.value v) w)
    (h : wpAnyH P md ops Q S fuel (listed.setIfInBounds i true) (a.put d v) w) (hw : Region.wanted ⟨d, op, ty, po, af, gu⟩ (yielded ops a.tmps) = true := by rfl) (hs : Region.noSelect ops = true := by kernel_rfl) (hf : Region.free md ops listed i = true := by kernel_rfl) (hr : (Region.ready md ops listed).contains i = true := by kernel_rfl)
    (hQ : ∀ c a w, Q (.panic c) (a.put d v) w → Q (.panic c) a w := by exact fun _ _ _ h => h) (hS : S w := by assumption) : wpAnyH P md ops Q S (fuel + 1) listed a w := wpAnyH_take hi hs hf hr hQ (.inl ⟨hw, hv⟩) hS h
/-- an operation is left out -/
theorem s (i : Nat) {d : Option Tmp} {op : Op} {ty : TypeId} {po : String} {af : Array Edge} {gu : Option (Nat × Bool)} (hi : ops[i]? = some ⟨d, op, ty, po, af, gu⟩)
    (h : wpAnyH P md ops Q S fuel (listed.setIfInBounds i true) (a.put d undef) w) (hw : Region.wanted ⟨d, op, ty, po, af, gu⟩ (yielded ops a.tmps) = false := by rfl) (hs : Region.noSelect ops = true := by kernel_rfl) (hf : Region.free md ops listed i = true := by kernel_rfl) (hr : (Region.ready md ops listed).contains i = true := by kernel_rfl)
    (hQ : ∀ c a w, Q (.panic c) (a.put d undef) w → Q (.panic c) a w := by exact fun _ _ _ h => h) (hS : S w := by assumption) : wpAnyH P md ops Q S (fuel + 1) listed a w := wpAnyH_take hi hs hf hr hQ (.inr ⟨hw, rfl⟩) hS h
/-- one operation is ready -/
theorem r (i : Nat) {d : Option Tmp} {op : Op} {ty : TypeId} {po : String} {af : Array Edge} {gu : Option (Nat × Bool)} (ho : ops[i]? = some ⟨d, op, ty, po, af, gu⟩)
    (h : ∀ K' : Act → World → Prop, Shut (∀ a w, S w → (S w → wpAnyH P md ops Q S fuel (listed.setIfInBounds i true) a w) → K' a w) → if Region.wanted ⟨d, op, ty, po, af, gu⟩ (yielded ops a.tmps) = true then Oper.wp P ⟨d, op, ty, po, af, gu⟩ a w K' Q else K' (a.put d undef) w)
    (hr : Region.ready md ops listed = [i] := by kernel_rfl) : wpAnyH P md ops Q S (fuel + 1) listed a w := wpAnyH_ready hr (by simp) (AllReadyH.cons ho h AllReadyH.nil)
/-- two operations are ready -/
theorem q (i j : Nat) {d1 : Option Tmp} {op1 : Op} {ty1 : TypeId} {po1 : String} {af1 : Array Edge} {gu1 : Option (Nat × Bool)} {d2 : Option Tmp} {op2 : Op} {ty2 : TypeId} {po2 : String} {af2 : Array Edge} {gu2 : Option (Nat × Bool)} (ho1 : ops[i]? = some ⟨d1, op1, ty1, po1, af1, gu1⟩) (ho2 : ops[j]? = some ⟨d2, op2, ty2, po2, af2, gu2⟩)
    (h1 : ∀ K' : Act → World → Prop, Shut (∀ a w, S w → (S w → wpAnyH P md ops Q S fuel (listed.setIfInBounds i true) a w) → K' a w) → if Region.wanted ⟨d1, op1, ty1, po1, af1, gu1⟩ (yielded ops a.tmps) = true then Oper.wp P ⟨d1, op1, ty1, po1, af1, gu1⟩ a w K' Q else K' (a.put d1 undef) w)
    (h2 : ∀ K' : Act → World → Prop, Shut (∀ a w, S w → (S w → wpAnyH P md ops Q S fuel (listed.setIfInBounds j true) a w) → K' a w) → if Region.wanted ⟨d2, op2, ty2, po2, af2, gu2⟩ (yielded ops a.tmps) = true then Oper.wp P ⟨d2, op2, ty2, po2, af2, gu2⟩ a w K' Q else K' (a.put d2 undef) w)
    (hr : Region.ready md ops listed = [i, j] := by kernel_rfl) : wpAnyH P md ops Q S (fuel + 1) listed a w := wpAnyH_ready hr (by simp) (AllReadyH.cons ho1 h1 (AllReadyH.cons ho2 h2 AllReadyH.nil))
end Zm
theorem zh {p : Prop} (h : p) : Hid p := Lib.hid h
end Go.Proofs.YtfjmlfbohenmfaaGreat
namespace Go.Proofs.YtfjmlfbohenmfaaGreat
open Go.RowKit Go.Sort
namespace Lx
structure TkAt(w:World)(T:Nat)(k a z m:Int)(x:ByteArray):Prop where
 c0:w.cell? ⟨T,0,none⟩=some (.int .i64 k)
 c1:w.cell? ⟨T,1,none⟩=some (.int .i64 a)
 c2:w.cell? ⟨T,2,none⟩=some (.int .i64 z)
 c3:w.cell? ⟨T,3,none⟩=some (.int .i64 m)
 c4:w.cell? ⟨T,4,none⟩=some (.string x)
 fz:∀j,w.frozen? ⟨T,j,none⟩=false
 lt:T<w.heap.size
theorem TkAt.below{w w':World}{T:Nat}{k a z m:Int}{x:ByteArray}(h:TkAt w T k a z m x)(hb:Below w.heap.size w w'):TkAt w' T k a z m x:=
 ⟨by rw[hb.cell (p:=⟨T,0,none⟩) h.lt];exact h.c0,by rw[hb.cell (p:=⟨T,1,none⟩) h.lt];exact h.c1,by rw[hb.cell (p:=⟨T,2,none⟩) h.lt];exact h.c2,by rw[hb.cell (p:=⟨T,3,none⟩) h.lt];exact h.c3,by rw[hb.cell (p:=⟨T,4,none⟩) h.lt];exact h.c4,fun j=>by rw[hb.frozen (p:=⟨T,j,none⟩) h.lt];exact h.fz j,Nat.lt_of_lt_of_le h.lt hb.size⟩
theorem TkAt.set0{w:World}{T:Nat}{k a z m:Int}{x:ByteArray}(h:TkAt w T k a z m x)(v:Int):TkAt (w.setCell ⟨T,0,none⟩ (.int .i64 v)) T v a z m x:=
 ⟨World.cell?_setCell_same _ _ _ h.c0,by rw[World.cell?_setCell_other _ _ _ _ (by simp)];exact h.c1,by rw[World.cell?_setCell_other _ _ _ _ (by simp)];exact h.c2,by rw[World.cell?_setCell_other _ _ _ _ (by simp)];exact h.c3,by rw[World.cell?_setCell_other _ _ _ _ (by simp)];exact h.c4,fun j=>by rw[World.frozen?_setCell];exact h.fz j,by simpa[World.setCell]using h.lt⟩
theorem TkAt.set2{w:World}{T:Nat}{k a z m:Int}{x:ByteArray}(h:TkAt w T k a z m x)(v:Int):TkAt (w.setCell ⟨T,2,none⟩ (.int .i64 v)) T k a v m x:=
 ⟨by rw[World.cell?_setCell_other _ _ _ _ (by simp)];exact h.c0,by rw[World.cell?_setCell_other _ _ _ _ (by simp)];exact h.c1,World.cell?_setCell_same _ _ _ h.c2,by rw[World.cell?_setCell_other _ _ _ _ (by simp)];exact h.c3,by rw[World.cell?_setCell_other _ _ _ _ (by simp)];exact h.c4,fun j=>by rw[World.frozen?_setCell];exact h.fz j,by simpa[World.setCell]using h.lt⟩
theorem TkAt.set3{w:World}{T:Nat}{k a z m:Int}{x:ByteArray}(h:TkAt w T k a z m x)(v:Int):TkAt (w.setCell ⟨T,3,none⟩ (.int .i64 v)) T k a z v x:=
 ⟨by rw[World.cell?_setCell_other _ _ _ _ (by simp)];exact h.c0,by rw[World.cell?_setCell_other _ _ _ _ (by simp)];exact h.c1,by rw[World.cell?_setCell_other _ _ _ _ (by simp)];exact h.c2,World.cell?_setCell_same _ _ _ h.c3,by rw[World.cell?_setCell_other _ _ _ _ (by simp)];exact h.c4,fun j=>by rw[World.frozen?_setCell];exact h.fz j,by simpa[World.setCell]using h.lt⟩
theorem TkAt.set4{w:World}{T:Nat}{k a z m:Int}{x:ByteArray}(h:TkAt w T k a z m x)(v:ByteArray):TkAt (w.setCell ⟨T,4,none⟩ (.string v)) T k a z m v:=
 ⟨by rw[World.cell?_setCell_other _ _ _ _ (by simp)];exact h.c0,by rw[World.cell?_setCell_other _ _ _ _ (by simp)];exact h.c1,by rw[World.cell?_setCell_other _ _ _ _ (by simp)];exact h.c2,by rw[World.cell?_setCell_other _ _ _ _ (by simp)];exact h.c3,World.cell?_setCell_same _ _ _ h.c4,fun j=>by rw[World.frozen?_setCell];exact h.fz j,by simpa[World.setCell]using h.lt⟩
theorem tl_drop(s:ByteArray)(b j:Nat):(tl s b).drop j=tl s (b+j):=by
 unfold tl;rw[List.drop_drop]
end Lx
namespace Lx
theorem all_bytes(f g:UInt8→Bool)(h:∀n,n<256→f (UInt8.ofNat n)=g (UInt8.ofNat n))(c:UInt8):f c=g c:=by
 have:=h c.toNat c.toNat_lt;simpa using this
theorem sym_bool(s:ByteArray):symbol s.data.toList=if s.toList==[43]then true else if s.toList==[45]then true else if s.toList==[46,46,46]then true
  else if s.toList.isEmpty then false else if 32<s.size then false else if begins (s.data.toList.headD 0)then s.data.toList.all goes else false:=by
 unfold symbol;rw[ByteArray.toList_eq,←Fx.size_toList];cases (s.data.toList==[43]) <;> cases (s.data.toList==[45]) <;> cases (s.data.toList==[46,46,46]) <;> cases s.data.toList.isEmpty <;> cases begins (s.data.toList.headD 0) <;> simp
 by_cases h:32<s.size
 ·simp[show ¬s.size≤32 by omega,h]
 ·simp[show s.size≤32 by omega,h]
end Lx
theorem Sym_idx(big:ByteArray)(f:UInt8→Bool)(h:∀n,n<256→big.data.toList.contains (UInt8.ofNat n)=f (UInt8.ofNat n))(c:UInt8)(w:World):
  Calls Tryz.prog 113 #[.string big,.int .u8 (c.toNat:Int)] w fun e w'=>∃i:Int,e= .returned (.int .i64 i)∧decide (0≤i)=f c∧w=w':=by
 refine(IndexByte_any big c w).mono ?_;rintro e w' ⟨rfl,rfl⟩;exact⟨_,rfl,by rw[Lx.idx_in];exact Lx.all_bytes (fun c=>big.data.toList.contains c) f h c,rfl⟩
theorem Symbol_any(s:ByteArray)(w:World)(hs:s.size≤1000000):
  Calls Tryz.prog 90 #[.string s] w fun e w'=>e= .returned (.bool (Lx.symbol s.data.toList))∧w'=w:=by
 have HN:=zh (Lx.sym_bool s);cases f1:(s.toList==[43])
 case true=>
  have HR:Hid (Lx.symbol s.data.toList=true):=by show _=_;rw[HN.out,f1];rfl
  go_enter Tryz.func90,Tryz.ntmps90;go_wp2;go_ret;exact⟨by rw[HR.out];rfl,rfl⟩
 cases f2:(s.toList==[45])
 case true=>
  have HR:Hid (Lx.symbol s.data.toList=true):=by show _=_;rw[HN.out,f1,f2];rfl
  go_enter Tryz.func90,Tryz.ntmps90;go_wp2;go_ret;exact⟨by rw[HR.out];rfl,rfl⟩
 cases f3:(s.toList==[46,46,46])
 case true=>
  have HR:Hid (Lx.symbol s.data.toList=true):=by show _=_;rw[HN.out,f1,f2,f3];rfl
  go_enter Tryz.func90,Tryz.ntmps90;go_wp2;go_ret;exact⟨by rw[HR.out];rfl,rfl⟩
 cases f4:s.toList.isEmpty
 case true=>
  have HR:Hid (Lx.symbol s.data.toList=false):=by show _=_;rw[HN.out,f1,f2,f3,f4];rfl
  go_enter Tryz.func90,Tryz.ntmps90;go_wp2;go_ret;exact⟨by rw[HR.out];rfl,rfl⟩
 have HN2:Hid (Lx.symbol s.data.toList=if 32<s.size then false else if Lx.begins (s.data.toList.headD 0)then s.data.toList.all Lx.goes else false):=by
  show _=_;rw[HN.out,f1,f2,f3,f4];rfl
 clear HN;have hp:0<s.size:=by
  apply Classical.byContradiction
  intro h;have e:s.data.toList=[]:=List.eq_nil_of_length_eq_zero (by rw[Fx.size_toList];omega);rw[ByteArray.toList_eq,e]at f4;simp at f4
 have hp':0<(s.size:Int):=by omega
 by_cases h32:32<s.size
 ·have h32i:32<(s.size:Int):=by omega
  have HR:Hid (Lx.symbol s.data.toList=false):=HN2.out.trans (if_pos h32);go_enter Tryz.func90,Tryz.ntmps90;go_wp2;go_ret;exact⟨by rw[HR.out];rfl,rfl⟩
 have h32i:¬32<(s.size:Int):=by omega
 have hhd:s.data.toList.headD 0=s[0]:=by rw[Lx.d_cons s hp];rfl
 have HN3:Hid (Lx.symbol s.data.toList=if Lx.begins s[0]then(Lx.tl s 0).all Lx.goes else false):=by
  show _=_;rw[HN2.out,if_neg h32,hhd];rfl
 clear HN2 hhd;go_enter Tryz.func90,Tryz.ntmps90;go_wp2_with fail
 refine(Sym_idx _ Lx.begins (by decide+kernel) _ _).mono ?_;rintro e w1 ⟨i,rfl,hi,rfl⟩;cases hb:Lx.begins s[0]
 ·rw[hb]at hi;have hi':i<0:=by simpa using hi
  clear hi;have HR:Hid (Lx.symbol s.data.toList=false):=by show _=_;rw[HN3.out,hb];rfl
  go_wp2;go_ret;exact⟨by rw[HR.out];rfl,rfl⟩
 rw[hb]at hi;have hi':¬i<0:=by simp at hi;omega
 clear hi;have HN4:Hid (Lx.symbol s.data.toList=(Lx.tl s 0).all Lx.goes):=by show _=_;rw[HN3.out,hb];rfl
 clear HN3;go_wp2_with fail
 go_loopw [3,22] (fun _ v wr=>∃k:Nat,v= .int .i64 k∧k≤s.size∧Hid (Lx.symbol s.data.toList=(Lx.tl s k).all Lx.goes)∧wr=w) (fun _ v _=>s.size - (intOf v).toNat)
 case atStart=>exact⟨0,rfl,by omega,HN4,rfl⟩
 case round=>
  obtain⟨k,rfl,hk,HM,rfl⟩:=hrel;by_cases hlt:k<s.size
  case neg=>
   have hge:(s.size:Int)≤(k:Int):=by omega
   have HR:Hid (Lx.symbol s.data.toList=true):=by show _=_;rw[HM.out,Lx.tl_nil s k (by omega)];rfl
   go_wp2;go_ret;exact⟨by rw[HR.out];rfl,rfl⟩
  have hlt':(k:Int)<(s.size:Int):=by omega
  have HM2:Hid (Lx.symbol s.data.toList=(Lx.goes s[k]&&(Lx.tl s (k+1)).all Lx.goes)):=by
   show _=_;rw[HM.out,Lx.tl_cons s k hlt,List.all_cons]
  clear HM HN4;go_wp2_with fail
  refine(Sym_idx _ Lx.goes (by decide+kernel) _ _).mono ?_;rintro e w1 ⟨i2,rfl,hi2,rfl⟩;cases hg:Lx.goes s[k]
  ·rw[hg]at hi2;have hi3:i2<0:=by simpa using hi2
   clear hi2;have HR:Hid (Lx.symbol s.data.toList=false):=by show _=_;rw[HM2.out,hg];rfl
   go_wp2;go_ret;exact⟨by rw[HR.out];rfl,rfl⟩
  ·rw[hg]at hi2;have hi3:¬i2<0:=by simp at hi2;omega
   clear hi2;have HM3:Hid (Lx.symbol s.data.toList=(Lx.tl s (k+1)).all Lx.goes):=by show _=_;rw[HM2.out,hg];rfl
   clear HM2;go_wp2;go_roundw
   case rel=>exact⟨k+1,by simp,by omega,HM3,trivial⟩
   case measure=>simp[intOf];omega
end Go.Proofs.YtfjmlfbohenmfaaGreat
namespace Go.Proofs.YtfjmlfbohenmfaaGreat
open Go.RowKit
namespace Dt
inductive D where
 |mk (k n:Int) (s:ByteArray) (m:List Int) (l t:List D)
def D.k:D→Int
 | .mk k _ _ _ _ _=>k
def D.n:D→Int
 | .mk _ n _ _ _ _=>n
def D.s:D→ByteArray
 | .mk _ _ s _ _ _=>s
def D.m:D→List Int
 | .mk _ _ _ m _ _=>m
def D.l:D→List D
 | .mk _ _ _ _ l _=>l
def D.t:D→List D
 | .mk _ _ _ _ _ t=>t
def isFix(n:Int):Bool:=decide (-1152921504606846976≤n)&&decide (n≤1152921504606846975)
def mayMark(x:Int):Bool:=decide (1≤x)&&decide (x≤1048576)
def ascii(s:ByteArray):Bool:=decide (s.data.toList.length≤256)&&s.data.toList.all (fun c=>decide (c.toNat<128))
def single:D→Bool
 | .mk k n s m l t=>
  if k=1 then isFix n&&s.data.toList.isEmpty&&m.isEmpty&&l.isEmpty&&t.isEmpty
  else if k=2 then decide (0≤n∧n<2)&&s.data.toList.isEmpty&&m.isEmpty&&l.isEmpty&&t.isEmpty
  else if k=3 then decide (0≤n∧n<128)&&s.data.toList.isEmpty&&m.isEmpty&&l.isEmpty&&t.isEmpty
  else if k=4 then ascii s&&decide (n=0)&&m.isEmpty&&l.isEmpty&&t.isEmpty
  else if k=5 then Lx.symbol s.data.toList&&decide (m.length≤16)&&m.all mayMark&&decide (n=0)&&l.isEmpty&&t.isEmpty
  else if k=6∨k=8 then decide (n=0)&&s.data.toList.isEmpty&&m.isEmpty&&t.isEmpty
  else if k=7 then decide (n=0)&&s.data.toList.isEmpty&&m.isEmpty&& !l.isEmpty&&(match t with
   |[x]=>decide (x.k≠6∧x.k≠7)
   |_=>false)
  else false
mutual
def chk:D→Nat→Nat→Int×Nat
 | .mk k n s m l t,deep,p=>
  if 64<deep then(4,p)
  else if 4096≤p then(3,p)
  else if single (.mk k n s m l t)then
   (if(chks l (deep+1) (p+1)).1=0 then chks t (deep+1) (chks l (deep+1) (p+1)).2 else chks l (deep+1) (p+1))
  else(20,p)
def chks:List D→Nat→Nat→Int×Nat
 |[],_,p=>(0,p)
 |d :: r,deep,p=>if(chk d deep p).1=0 then chks r deep (chk d deep p).2 else chk d deep p
end
mutual
def Wf:D→Prop
 | .mk _k n s m l t=>(-9223372036854775808≤n∧n≤9223372036854775807)∧s.size≤140737488355328∧m.length≤140737488355328∧l.length≤140737488355328∧t.length≤140737488355328∧Wfs l∧Wfs t
def Wfs:List D→Prop
 |[]=>True
 |d :: r=>Wf d∧Wfs r
end
theorem Wfs.at:∀ {l:List D},Wfs l→∀j,(h:j<l.length)→Wf l[j]
 |[],_,j,h=>absurd h (by simp)
 |d :: r,hw,0,_=>by rw[Wfs]at hw;exact hw.1
 |d :: r,hw,j+1,h=>by
  rw[Wfs]at hw;exact Wfs.at hw.2 j (by simpa using h)
def check(d:D):Int:=(chk d 1 0).1
def IRow(F:Nat→Prop)(w:World)(v:Value)(m:List Int):Prop:=
 ∃(a:Option Addr) (c:Nat),v= .slice a m.length c∧m.length≤c∧(m≠[]→∃b o,a=some ⟨b,o,none⟩∧F b∧b<w.heap.size∧∀j,(h:j<m.length)→w.cell? ⟨b,o+j,none⟩=some (.int .i64 m[j]))
structure Six(w:World)(b o:Nat)(d:D)(vm vl vt:Value):Prop where
 c0:w.cell? ⟨b,o,none⟩=some (.int .i64 d.k)
 c1:w.cell? ⟨b,o+1,none⟩=some (.int .i64 d.n)
 c2:w.cell? ⟨b,o+2,none⟩=some (.string d.s)
 c3:w.cell? ⟨b,o+3,none⟩=some vm
 c4:w.cell? ⟨b,o+4,none⟩=some vl
 c5:w.cell? ⟨b,o+5,none⟩=some vt
mutual
def Rep(F:Nat→Prop)(w:World):D→Value→Value→Value→Prop
 | .mk _ _ _ m l t, vm, vl, vt => IRow F w vm m ∧
   (∃(a:Option Addr) (c:Nat),vl= .slice a l.length c∧l.length≤c∧(l≠[]→∃b o,a=some ⟨b,o,none⟩∧F b∧b<w.heap.size∧Reps F w l b o))∧
   (∃(a:Option Addr) (c:Nat),vt= .slice a t.length c∧t.length≤c∧(t≠[]→∃b o,a=some ⟨b,o,none⟩∧F b∧b<w.heap.size∧Reps F w t b o))
def Reps(F:Nat→Prop)(w:World):List D→Nat→Nat→Prop
 |[],_,_=>True
 |d :: r,b,o=>(∃vm vl vt,Six w b o d vm vl vt∧Rep F w d vm vl vt)∧Reps F w r b (o+6)
end
def Row(F:Nat→Prop)(w:World)(v:Value)(l:List D):Prop:=
 ∃(a:Option Addr) (c:Nat),v= .slice a l.length c∧l.length≤c∧(l≠[]→∃b o,a=some ⟨b,o,none⟩∧F b∧b<w.heap.size∧Reps F w l b o)
theorem rep_iff(F:Nat→Prop)(w:World)(d:D)(vm vl vt:Value):Rep F w d vm vl vt↔IRow F w vm d.m∧Row F w vl d.l∧Row F w vt d.t:=by
 cases d;rw[Rep];exact Iff.rfl
theorem Reps.at{F:Nat→Prop}{w:World}:∀ {l:List D} {b o:Nat},Reps F w l b o→∀j,(h:j<l.length)→∃vm vl vt,Six w b (o+j*6) l[j] vm vl vt∧Rep F w l[j] vm vl vt
 |[],_,_,_,j,h=>absurd h (by simp)
 |d :: r,b,o,hr,0,_=>by
  rw[Reps]at hr;simpa using hr.1
 |d :: r,b,o,hr,j+1,h=>by
  rw[Reps]at hr;have h2:=Reps.at hr.2 j (by simpa using h);rw[show o+(j+1)*6=o+6+j*6 by omega];simpa using h2
theorem Reps.of{F:Nat→Prop}{w:World}:∀ {l:List D} {b o:Nat},(∀j,(h:j<l.length)→∃vm vl vt,Six w b (o+j*6) l[j] vm vl vt∧Rep F w l[j] vm vl vt)→Reps F w l b o
 |[],_,_,_=>by rw[Reps];trivial
 |d :: r,b,o,h=>by
  rw[Reps];have h0:=h 0 (by simp);rw[Nat.zero_mul,Nat.add_zero]at h0;refine⟨h0,Reps.of fun j hj=> ?_⟩;have:=h (j+1) (by simpa using hj);rw[show o+(j+1)*6=o+6+j*6 by omega]at this;simpa using this
theorem IRow.keep{F S:Nat→Prop}{w w':World}{v:Value}{m:List Int}(h:IRow F w v m)(hk:Keep S w w')(hS:∀b,F b→b<w.heap.size→¬S b):IRow F w' v m:=by
 obtain⟨a,c,h1,h2,h3⟩:=h;refine⟨a,c,h1,h2,fun hn=> ?_⟩;obtain⟨b,o,h4,h5,h6,h7⟩:=h3 hn;exact⟨b,o,h4,h5,Nat.lt_of_lt_of_le h6 hk.size,fun j hj=>(hk.cell _ h6 (hS b h5 h6)).trans (h7 j hj)⟩
theorem Six.keep{S:Nat→Prop}{w w':World}{b o:Nat}{d:D}{vm vl vt:Value}(h:Six w b o d vm vl vt)(hk:Keep S w w')(hb:b<w.heap.size)(hS:¬S b):Six w' b o d vm vl vt:=
 ⟨(hk.cell _ hb hS).trans h.c0,(hk.cell _ hb hS).trans h.c1,(hk.cell _ hb hS).trans h.c2,(hk.cell _ hb hS).trans h.c3,(hk.cell _ hb hS).trans h.c4,(hk.cell _ hb hS).trans h.c5⟩
mutual
theorem Rep.keep{F S:Nat→Prop}{w w':World}(hk:Keep S w w')(hS:∀b,F b→b<w.heap.size→¬S b):∀(d:D) {vm vl vt:Value},Rep F w d vm vl vt→Rep F w' d vm vl vt
 | .mk k n s m l t,vm,vl,vt,h=>by
  rw[Rep]at h ⊢;obtain⟨h1,⟨a,c,e1,e2,e3⟩,⟨a',c',f1,f2,f3⟩⟩:=h;refine⟨h1.keep hk hS,⟨a,c,e1,e2,fun hn=> ?_⟩,⟨a',c',f1,f2,fun hn=> ?_⟩⟩
  ·obtain⟨b,o,g1,g2,g3,g4⟩:=e3 hn;exact⟨b,o,g1,g2,Nat.lt_of_lt_of_le g3 hk.size,Reps.keep hk hS l g2 g3 g4⟩
  ·obtain⟨b,o,g1,g2,g3,g4⟩:=f3 hn;exact⟨b,o,g1,g2,Nat.lt_of_lt_of_le g3 hk.size,Reps.keep hk hS t g2 g3 g4⟩
theorem Reps.keep{F S:Nat→Prop}{w w':World}(hk:Keep S w w')(hS:∀b,F b→b<w.heap.size→¬S b):∀(l:List D) {b o:Nat},F b→b<w.heap.size→Reps F w l b o→Reps F w' l b o
 |[],_,_,_,_,_=>by rw[Reps];trivial
 |d :: r,b,o,hF,hb,h=>by
  rw[Reps]at h ⊢;obtain⟨⟨vm,vl,vt,h1,h2⟩,h3⟩:=h;exact⟨⟨vm,vl,vt,h1.keep hk hb (hS b hF hb),Rep.keep hk hS d h2⟩,Reps.keep hk hS r hF hb h3⟩
end
mutual
theorem Rep.mono{F G:Nat→Prop}{w:World}(hFG:∀b,F b→b<w.heap.size→G b):∀(d:D) {vm vl vt:Value},Rep F w d vm vl vt→Rep G w d vm vl vt
 | .mk k n s m l t,vm,vl,vt,h=>by
  rw[Rep]at h ⊢;obtain⟨⟨a0,c0,i1,i2,i3⟩,⟨a,c,e1,e2,e3⟩,⟨a',c',f1,f2,f3⟩⟩:=h;refine⟨⟨a0,c0,i1,i2,fun hn=> ?_⟩,⟨a,c,e1,e2,fun hn=> ?_⟩,⟨a',c',f1,f2,fun hn=> ?_⟩⟩
  ·obtain⟨b,o,g1,g2,g3,g4⟩:=i3 hn;exact⟨b,o,g1,hFG b g2 g3,g3,g4⟩
  ·obtain⟨b,o,g1,g2,g3,g4⟩:=e3 hn;exact⟨b,o,g1,hFG b g2 g3,g3,Reps.mono hFG l g4⟩
  ·obtain⟨b,o,g1,g2,g3,g4⟩:=f3 hn;exact⟨b,o,g1,hFG b g2 g3,g3,Reps.mono hFG t g4⟩
theorem Reps.mono{F G:Nat→Prop}{w:World}(hFG:∀b,F b→b<w.heap.size→G b):∀(l:List D) {b o:Nat},Reps F w l b o→Reps G w l b o
 |[],_,_,_=>by rw[Reps];trivial
 |d :: r,b,o,h=>by
  rw[Reps]at h ⊢;obtain⟨⟨vm,vl,vt,h1,h2⟩,h3⟩:=h;exact⟨⟨vm,vl,vt,h1,Rep.mono hFG d h2⟩,Reps.mono hFG r h3⟩
end
theorem Rep.below{F:Nat→Prop}{w w':World}(hb:Below w.heap.size w w'){d:D}{vm vl vt:Value}(h:Rep F w d vm vl vt):Rep F w' d vm vl vt:=
 Rep.keep (S:=fun _=>False) ((Keep.refl _ w).below hb) (fun _ _ _ h=>h) d h
theorem Row.keep{F S:Nat→Prop}{w w':World}{v:Value}{l:List D}(h:Row F w v l)(hk:Keep S w w')(hS:∀b,F b→b<w.heap.size→¬S b):Row F w' v l:=by
 obtain⟨a,c,e1,e2,e3⟩:=h;refine⟨a,c,e1,e2,fun hn=> ?_⟩;obtain⟨b,o,g1,g2,g3,g4⟩:=e3 hn;exact⟨b,o,g1,g2,Nat.lt_of_lt_of_le g3 hk.size,Reps.keep hk hS l g2 g3 g4⟩
theorem Row.below{F:Nat→Prop}{w w':World}{v:Value}{l:List D}(h:Row F w v l)(hb:Below w.heap.size w w'):Row F w' v l:=
 h.keep (S:=fun _=>False) ((Keep.refl _ w).below hb) (fun _ _ _ h=>h)
theorem IRow.below{F:Nat→Prop}{w w':World}{v:Value}{m:List Int}(h:IRow F w v m)(hb:Below w.heap.size w w'):IRow F w' v m:=
 h.keep (S:=fun _=>False) ((Keep.refl _ w).below hb) (fun _ _ _ h=>h)
end Dt
theorem fixIn_any(n:Int)(w:World):Calls Tryz.prog 137 #[.int .i64 n] w fun e w'=>e= .returned (.bool (Dt.isFix n))∧w=w':=by
 by_cases h1: -1152921504606846976≤n
 ·by_cases h2:n≤1152921504606846975
  ·have HE:Hid (Dt.isFix n=true):=by show _=_;unfold Dt.isFix;rw[decide_eq_true h1,decide_eq_true h2];rfl
   rw[HE.out];go_enter Tryz.func137,Tryz.ntmps137;go_wp2;go_ret;exact⟨by simp_all,rfl⟩
  ·have HE:Hid (Dt.isFix n=false):=by show _=_;unfold Dt.isFix;rw[decide_eq_false h2];simp
   rw[HE.out];go_enter Tryz.func137,Tryz.ntmps137;go_wp2;go_ret;exact⟨by simp_all,rfl⟩
 ·have HE:Hid (Dt.isFix n=false):=by show _=_;unfold Dt.isFix;rw[decide_eq_false h1];rfl
  rw[HE.out];go_enter Tryz.func137,Tryz.ntmps137;go_wp2;go_ret;exact⟨by simp_all,rfl⟩
namespace Dt
def emptyB(n:Int)(s:ByteArray)(a b c:Nat):Bool:=(n==0)&&s.toList.isEmpty&&(a+b+c==0)
theorem emptyB_eq(n:Int)(s:ByteArray)(m:List Int)(l t:List D):emptyB n s m.length l.length t.length=(decide (n=0)&&s.data.toList.isEmpty&&m.isEmpty&&l.isEmpty&&t.isEmpty):=by
 unfold emptyB;rw[ByteArray.toList_eq];cases m <;> cases l <;> cases t <;> simp[Bool.beq_eq_decide_eq] <;> rfl
end Dt
theorem dEmpty_any(k n:Int)(s:ByteArray)(am al at':Option Addr)(lm cm ll cl lt ct:Nat)(w:World)(h1:lm≤140737488355328)(h2:ll≤140737488355328)(h3:lt≤140737488355328):
  Calls Tryz.prog 138 #[.agg #[.int .i64 k,.int .i64 n,.string s,.slice am lm cm,.slice al ll cl,.slice at' lt ct]] w fun e w'=>e= .returned (.bool (Dt.emptyB n s lm ll lt))∧Below w.heap.size w w':=by
 have hs3:(((lm:Int)+(ll:Int)+(lt:Int))==0)=(lm+ll+lt==0):=by
  rw[Bool.eq_iff_iff];simp;omega
 obtain⟨E,hE⟩:∃E,E=(lm+ll+lt==0):=⟨_,rfl⟩
 have HB:Hid (Dt.emptyB n s lm ll lt=((n==0)&&s.toList.isEmpty&&E)):=by show _=_;rw[hE];rfl
 rw[←hE]at hs3;rw[HB.out];clear hE;go_enter Tryz.func138,Tryz.ntmps138;go_wp2;all_goals
  go_ret;exact⟨by simp_all,(Below.refl _ _).alloc (Nat.le_refl _) _⟩
theorem dAscii_any(s:ByteArray)(w:World)(hs:s.size≤140737488355328):
  Calls Tryz.prog 139 #[.string s] w fun e w'=>e= .returned (.bool (decide (s.data.toList.length≤256)&&s.data.toList.all (fun c=>decide (c.toNat<128))))∧w=w':=by
 obtain⟨R,hR⟩:∃R,(decide (s.data.toList.length≤256)&&s.data.toList.all (fun c=>decide (c.toNat<128)))=R:=⟨_,rfl⟩
 rw[hR];have hsz:=Fx.size_toList s;by_cases h:s.size≤256
 case neg=>
  have HR:Hid (R=false):=by show _=_;rw[←hR,decide_eq_false (by omega)];rfl
  have hi:¬ ((s.size:Int)≤256):=by omega
  clear hR hsz;go_enter Tryz.func139,Tryz.ntmps139;go_wp2;go_ret;exact⟨by rw[HR.out];rfl,rfl⟩
 have hi:¬ (256<(s.size:Int)):=by omega
 have h0:R=(Lx.tl s 0).all (fun c=>decide (c.toNat<128)):=by rw[←hR,decide_eq_true (by omega)];unfold Lx.tl;simp
 have H0:=zh h0;clear hR h0 hsz;go_enter Tryz.func139,Tryz.ntmps139;go_wp2_with fail
 go_loop [9] (fun v=>∃k:Nat,v= .int .i64 k∧k≤s.size∧Hid (R=(Lx.tl s k).all (fun c=>decide (c.toNat<128)))) (fun v=>s.size - (intOf v).toNat)
 case atStart=>exact⟨0,rfl,by omega,H0⟩
 case round=>
  obtain⟨k,rfl,hk,HR⟩:=hrel;by_cases hlt:k<s.size
  case neg=>
   have hge:(s.size:Int)≤(k:Int):=by omega
   have HE:Hid (R=true):=by show _=_;rw[HR.out,Lx.tl_nil s k (by omega)];rfl
   go_wp2;go_ret;exact⟨by rw[HE.out];rfl,rfl⟩
  have hlti:(k:Int)<(s.size:Int):=by omega
  have hr:=HR.out;rw[Lx.tl_cons s k hlt,List.all_cons]at hr;by_cases hc:s[k].toNat<128
  ·rw[decide_eq_true hc,Bool.true_and]at hr;have HN:=zh hr;have hci:¬ (128≤(s[k].toNat:Int)):=by omega
   clear hr hc;go_wp2
   go_round
   case rel=>exact⟨k+1,by simp,by omega,HN⟩
   case measure=>simp[intOf];omega
  ·rw[decide_eq_false hc,Bool.false_and]at hr;have HN:=zh hr;have hci:128≤(s[k].toNat:Int):=by omega
   clear hr hc;go_wp2;go_ret;exact⟨by rw[HN.out];rfl,rfl⟩
namespace Dt
theorem bv_zero(x m:BitVec 64)(k:Nat)(hm:m.toNat=2 ^ k - 1):x&&& ~~~m=0#64↔x.toNat<2 ^ k:=by
 constructor
 ·intro h;have e:x=x&&& m:=by
   have hs:x=(x&&& m)|||(x&&& ~~~m):=by
    rw[←BitVec.and_or_distrib_left,BitVec.or_not_self,BitVec.and_allOnes]
   rw[h,BitVec.or_zero]at hs;exact hs
  have e2:=congrArg BitVec.toNat e;rw[BitVec.toNat_and,hm,Nat.and_two_pow_sub_one_eq_mod]at e2;rw[e2];exact Nat.mod_lt _ (Nat.two_pow_pos k)
 ·intro h;have e:x&&& m=x:=by
   apply BitVec.eq_of_toNat_eq
   rw[BitVec.toNat_and,hm,Nat.and_two_pow_sub_one_eq_mod,Nat.mod_eq_of_lt h]
  rw[←e,BitVec.and_assoc,BitVec.and_not_self];exact BitVec.and_zero
theorem andNot_zero(n M:Int)(k:Nat)(hk:k≤62)(hM:(BitVec.ofInt 64 M).toNat=2 ^ k - 1)(hn: -9223372036854775808≤n∧n≤9223372036854775807):bits .andNot .i64 n M=0↔0≤n∧n<2 ^ k:=by
 have e:bits .andNot .i64 n M=IntKind.i64.wrap ((BitVec.ofInt 64 n&&& ~~~BitVec.ofInt 64 M).toNat:Int):=rfl;rw[e,IntKind.wrap_i64];obtain⟨x,hx⟩:∃x,BitVec.ofInt 64 n=x:=⟨_,rfl⟩
 have hz:=bv_zero x (BitVec.ofInt 64 M) k hM;rw[hx];obtain⟨y,hy⟩:∃y,(x&&& ~~~BitVec.ofInt 64 M)=y:=⟨_,rfl⟩
 rw[hy]at hz ⊢;have hyl:=y.isLt;have hy0:y=0#64↔y.toNat=0:=⟨fun h=>by rw[h];rfl,fun h=>BitVec.eq_of_toNat_eq h⟩
 have hxn:x.toNat=(n % 2 ^ 64).toNat:=by rw[←hx,BitVec.toNat_ofInt];rfl
 have hp:2 ^ k≤2 ^ 62:=Nat.pow_le_pow_right (by omega) hk;have hpi:((2 ^ k:Nat):Int)=(2:Int) ^ k:=by simp
 rw[←hpi];rw[hy0]at hz;constructor
 ·intro h;have:=hz.1 (by omega);omega
 ·intro h;have:=hz.2 (by omega);omega
end Dt
theorem dSymbol_any(s:ByteArray)(w:World)(hs:s.size≤140737488355328):
  Calls Tryz.prog 90 #[.string s] w fun e w'=>e= .returned (.bool (Lx.symbol s.data.toList))∧w=w':=by
 by_cases h:s.size≤1000000
 ·exact(Symbol_any s w h).mono fun _ _ ⟨a,b⟩=>⟨a,b.symm⟩
 have hsz:=Fx.size_toList s;have hne:∀t:List UInt8,t.length≤3→(s.toList==t)=false:=fun t ht=>by
  rw[ByteArray.toList_eq,beq_eq_false_iff_ne];intro e;rw[e]at hsz;omega
 have hF:Hid (Lx.symbol s.data.toList=false):=by
  show _=_;unfold Lx.symbol;have e1:=hne [43] (by simp);have e2:=hne [45] (by simp);have e3:=hne [46,46,46] (by simp);rw[ByteArray.toList_eq]at e1 e2 e3;rw[e1,e2,e3,decide_eq_false (by omega)];simp
 rw[hF.out];have e1:=hne [43] (by simp);have e2:=hne [45] (by simp);have e3:=hne [46,46,46] (by simp);have e0:=hne [] (by simp);have e00:s.toList.isEmpty=false:=by
  rw[ByteArray.toList_eq]
  cases hh:s.data.toList with
  |nil=>rw[hh]at hsz;simp at hsz;omega
  |cons a b=>rfl
 have h32:(32:Int)<(s.size:Int):=by omega
 clear hF hne hsz;go_enter Tryz.func90,Tryz.ntmps90;go_wp2;go_ret;exact⟨by simp_all,rfl⟩
theorem wrong_any(x:Int)(w:World):Calls Tryz.prog 140 #[.int .i64 x] w fun e w'=>e= .returned (.bool (!Dt.mayMark x))∧w=w':=by
 by_cases h1:1≤x
 ·by_cases h2:x≤1048576
  ·have HE:Hid (Dt.mayMark x=true):=by show _=_;unfold Dt.mayMark;rw[decide_eq_true h1,decide_eq_true h2];rfl
   have h1':¬x<1:=by omega
   have h2':¬1048576<x:=by omega
   rw[HE.out];go_enter Tryz.func140,Tryz.ntmps140;go_wp2;go_ret;exact⟨by simp_all,rfl⟩
  ·have HE:Hid (Dt.mayMark x=false):=by show _=_;unfold Dt.mayMark;rw[decide_eq_false h2];simp
   have h1':¬x<1:=by omega
   have h2':1048576<x:=by omega
   rw[HE.out];go_enter Tryz.func140,Tryz.ntmps140;go_wp2;go_ret;exact⟨by simp_all,rfl⟩
 ·have HE:Hid (Dt.mayMark x=false):=by show _=_;unfold Dt.mayMark;rw[decide_eq_false h1];rfl
  have h1':x<1:=by omega
  rw[HE.out];go_enter Tryz.func140,Tryz.ntmps140;go_wp2;go_ret;exact⟨by simp_all,rfl⟩
namespace Dt
end Dt
theorem dIndexFunc_any{F:Nat→Prop}(a:Option Addr)(c:Nat)(m:List Int)(w:World)(hm:Dt.IRow F w (.slice a m.length c) m)(hl:m.length≤140737488355328):
  Calls Tryz.prog 163 #[.slice a m.length c,.func (.func 140) #[] #[]] w fun e w'=>(∃x:Int,e= .returned (.int .i64 x)∧decide (0≤x)= !m.all Dt.mayMark)∧w=w':=by
 obtain⟨_,_,he,_,hc⟩:=hm;cases he;obtain⟨R,hR⟩:∃R,R= !m.all Dt.mayMark:=⟨_,rfl⟩
 rw[←hR];have H0:Hid (R= !(m.drop 0).all Dt.mayMark):=by show _=_;rw[List.drop_zero];exact hR
 have HC:=zh hc;clear hc hR;go_enter Tryz.func163,Tryz.ntmps163;go_wp2_with fail
 go_loop [8] (fun v=>∃k:Nat,v= .int .i64 k∧k≤m.length∧Hid (R= !(m.drop k).all Dt.mayMark)) (fun v=>m.length - (intOf v).toNat)
 case atStart=>exact⟨0,rfl,by omega,H0⟩
 case round=>
  obtain⟨k,rfl,hk,HR⟩:=hrel;by_cases hlt:k<m.length
  case neg=>
   have hge:(m.length:Int)≤(k:Int):=by omega
   have HE:Hid (R=false):=by show _=_;rw[HR.out,List.drop_eq_nil_of_le (by omega)];rfl
   go_wp2;go_ret;exact⟨⟨-1,rfl,by rw[HE.out];rfl⟩,rfl⟩
  have hlti:(k:Int)<(m.length:Int):=by omega
  have hr:=HR.out;rw[List.drop_eq_getElem_cons hlt,List.all_cons]at hr;obtain⟨b,o,rfl,_,hb,hcell⟩:=HC.out (by intro h0;rw[h0]at hlt;simp at hlt);have hk0:=hcell k hlt;obtain⟨x,hx⟩:∃x,m[k]=x:=⟨_,rfl⟩
  rw[hx]at hk0 hr;have hwr:=fun w=>wrong_any x w
  cases hmx:Dt.mayMark x
  ·rw[hmx]at hr hwr;have HN:Hid (R=true):=by show _=_;rw[hr];rfl
   clear hr hcell hx hmx;go_wp2_with(go_at_call 140;refine(hwr _).mono ?_;rintro e w1 ⟨rfl,rfl⟩)
   go_ret;exact⟨⟨k,rfl,by rw[HN.out];simp⟩,rfl⟩
  ·rw[hmx,Bool.true_and]at hr;rw[hmx]at hwr;have HN:=zh hr;clear hr hcell hx hmx;go_wp2_with(go_at_call 140;refine(hwr _).mono ?_;rintro e w1 ⟨rfl,rfl⟩)
   go_round
   case rel=>exact⟨k+1,by simp,by omega,HN⟩
   case measure=>simp[intOf];omega
theorem dContainsFunc_any{F:Nat→Prop}(a:Option Addr)(c:Nat)(m:List Int)(w:World)(hm:Dt.IRow F w (.slice a m.length c) m)(hl:m.length≤140737488355328):
  Calls Tryz.prog 141 #[.slice a m.length c,.func (.func 140) #[] #[]] w fun e w'=>e= .returned (.bool (!m.all Dt.mayMark))∧w=w':=by
 have hi:=dIndexFunc_any a c m w hm hl;obtain⟨R,hR⟩:∃R,R= !m.all Dt.mayMark:=⟨_,rfl⟩
 rw[←hR]at hi ⊢;clear hR;go_enter Tryz.func141,Tryz.ntmps141;go_wp2_with fail
 refine hi.mono ?_;rintro e w1 ⟨⟨x,rfl,hx⟩,rfl⟩;go_wp2;go_ret;exact⟨by rw[←hx];rfl,rfl⟩
namespace Ap
def Src(w:World)(src:Value)(m:Nat)(news:List Value):Prop:=(src= .slice none 0 0∧m=0∧news=[])∨∃ad c,src= .slice (some ad) m c∧∀j u,news[j]?=some u→w.cell? (ad.add j)=some u
section
variable {P:Program} {w:World}
theorem run(t ty:TypeId)(base:Nat)(e:TypeId)(i:TypeInfo)(z:Value)(size bytes:Nat)(ht:P.underlying t=some (.slice e))(hi:P.info? e=some i)(hz:i.zero=some z)
  (hsize:i.size=size) (hby:i.bytes=bytes) (hzs:z.cells.size=size) (hsz:0<size)
  (v:Value) (n:Nat) (xs:List Value) (hown:w.ownsRow base e size v n xs)
  (src:Value) (m:Nat) (news:List Value) (hs:Src w src m news) (hl:news.length=m*size) (h1:∀u∈news,u.oneCell'=true)
  (h63:n+m≤maxLen) (hbytes:(n+m)*bytes≤140737488355328) (hbase:base≤w.heap.size):
  ∃v' w',(Builtin.append_ #[t,t] ty #[v,src]).run P w= .ok v' w'∧w'.ownsRow base e size v' (n+m) (xs++news)∧w.grownBy w' v.ownBlock∧(v'.ownBlock=v.ownBlock∨v'.ownBlock=some w.heap.size):=by
 rcases hs with⟨rfl,rfl,rfl⟩|⟨ad,c,rfl,hnews⟩
 ·refine⟨v,w,run_append_owned_none w base t ty e i size ht hi v n xs hown,by simpa using hown,⟨rfl,rfl,rfl,Nat.le_refl _,fun _ _ _=>rfl⟩,.inl rfl⟩
 ·obtain⟨v',w',hr,h2,h3,_,h5⟩:=run_append_own_at (P:=P) w base t ty e i z size bytes ht hi hz hsize hby hzs hsz v n xs hown ad m c news hl hnews h1 h63 hbytes hbase;exact⟨v',w',hr,h2,h3,h5⟩
theorem wp{o:Oper}{a:Act}{K:Act→World→Prop}{Q:Exit→Act→World→Prop}(s x:Operand)(t:TypeId)
  (ho:o.op= .call {callee:= .builtin .append,args:=#[s,x],argTypes:=#[t,t]})
  (base:Nat) (e:TypeId) (i:TypeInfo) (z:Value) (size bytes:Nat) (ht:P.underlying t=some (.slice e)) (hi:P.info? e=some i) (hz:i.zero=some z)
  (hsize:i.size=size) (hby:i.bytes=bytes) (hzs:z.cells.size=size) (hsz:0<size)
  (v:Value) (n:Nat) (xs:List Value) (hs:a.eval s=v) (hown:w.ownsRow base e size v n xs)
  (src:Value) (m:Nat) (news:List Value) (hx:a.eval x=src) (hsrc:Src w src m news) (hl:news.length=m*size) (h1:∀u∈news,u.oneCell'=true)
  (h63:n+m≤maxLen) (hbytes:(n+m)*bytes≤140737488355328) (hbase:base≤w.heap.size)
  (h:∀v' w',w'.ownsRow base e size v' (n+m) (xs++news)→w.grownBy w' v.ownBlock→(v'.ownBlock=v.ownBlock∨v'.ownBlock=some w.heap.size)→K (a.put o.dst v') w'):o.wp P a w K Q:=by
 obtain⟨v',w',hr,h2,h3,h4⟩:=run (P:=P) t o.type base e i z size bytes ht hi hz hsize hby hzs hsz v n xs hown src m news hsrc hl h1 h63 hbytes hbase;unfold Oper.wp execOp;simp only[ho,resolve,invoke,builtin,Sem.run_bind,Sem.run_pure,Result.andThen_ok,List.map_toArray,List.map_cons,List.map_nil,hs,hx,hr];exact h v' w' h2 h3 h4
theorem list{ops:Array Oper}{rest:List Oper}{o:Oper}{a:Act}{Q:Exit→Act→World→Prop}(hgd:o.guard=none)(s x:Operand)(t:TypeId)
  (ho:o.op= .call {callee:= .builtin .append,args:=#[s,x],argTypes:=#[t,t]})
  (base:Nat) (e:TypeId) (i:TypeInfo) (z:Value) (size bytes:Nat) (ht:P.underlying t=some (.slice e)) (hi:P.info? e=some i) (hz:i.zero=some z)
  (hsize:i.size=size) (hby:i.bytes=bytes) (hzs:z.cells.size=size) (hsz:0<size)
  (v:Value) (n:Nat) (xs:List Value) (hs:a.eval s=v) (hown:w.ownsRow base e size v n xs)
  (src:Value) (m:Nat) (news:List Value) (hx:a.eval x=src) (hsrc:Src w src m news) (hl:news.length=m*size) (h1:∀u∈news,u.oneCell'=true)
  (h63:n+m≤maxLen) (hbytes:(n+m)*bytes≤140737488355328) (hbase:base≤w.heap.size)
  (h:∀v' w',w'.ownsRow base e size v' (n+m) (xs++news)→w.grownBy w' v.ownBlock→(v'.ownBlock=v.ownBlock∨v'.ownBlock=some w.heap.size)→wpList P ops Q rest (a.put o.dst v') w'):wpList P ops Q (o :: rest) a w:=
 wpList_plain hgd fun _ hK=>wp s x t ho base e i z size bytes ht hi hz hsize hby hzs hsz v n xs hs hown src m news hx hsrc hl h1 h63 hbytes hbase fun v' w' h2 h3 h4=>hK _ _ (h v' w' h2 h3 h4)
theorem step{ops:Array Oper}{o:Oper}{a:Act}{K:Act→World→Prop}{Q:Exit→Act→World→Prop}{E:Prop}(hgd:o.guard=none)(s x:Operand)(t:TypeId)
  (ho:o.op= .call {callee:= .builtin .append,args:=#[s,x],argTypes:=#[t,t]})
  (base:Nat) (e:TypeId) (i:TypeInfo) (z:Value) (size bytes:Nat) (ht:P.underlying t=some (.slice e)) (hi:P.info? e=some i) (hz:i.zero=some z)
  (hsize:i.size=size) (hby:i.bytes=bytes) (hzs:z.cells.size=size) (hsz:0<size)
  (v:Value) (n:Nat) (xs:List Value) (hs:a.eval s=v) (hown:w.ownsRow base e size v n xs)
  (src:Value) (m:Nat) (news:List Value) (hx:a.eval x=src) (hsrc:Src w src m news) (hl:news.length=m*size) (h1:∀u∈news,u.oneCell'=true)
  (h63:n+m≤maxLen) (hbytes:(n+m)*bytes≤140737488355328) (hbase:base≤w.heap.size)
  (h:∀v' w',w'.ownsRow base e size v' (n+m) (xs++news)→w.grownBy w' v.ownBlock→(v'.ownBlock=v.ownBlock∨v'.ownBlock=some w.heap.size)→K (a.put o.dst v') w'):
  if Region.wanted o (yielded ops a.tmps)=true then Oper.wp P o a w K Q else E:=by
 have hw:Region.wanted o (yielded ops a.tmps)=true:=by simp[Region.wanted,hgd]
 rw[if_pos hw];exact wp s x t ho base e i z size bytes ht hi hz hsize hby hzs hsz v n xs hs hown src m news hx hsrc hl h1 h63 hbytes hbase h
end
end Ap
namespace Pt
theorem heap_setCell(w:World)(b o k:Nat)(v:Value):(w.setCell ⟨b,o,none⟩ v).heap[k]?=if b=k then w.heap[k]?.map (fun x=>match x with| .cells c e f=> .cells (c.setIfInBounds o v) e f|x=>x)else w.heap[k]?:=by
 simp[World.setCell,Array.getElem?_modify];split <;> rfl
theorem world_ext{a b:World}(h0:a.tape=b.tape)(h1:a.drawn=b.drawn)(h2:a.os=b.os)(h3:a.output=b.output)(h4:∀k:Nat,a.heap[k]?=b.heap[k]?):a=b:=by
 obtain⟨x1,x2,x3,x4,x5⟩:=a;obtain⟨y1,y2,y3,y4,y5⟩:=b;simp only at h0 h1 h2 h3 h4;subst h0 h1 h2 h3;congr 1;exact Array.ext_getElem? fun i=>h4 i
theorem setCell_comm(w:World)(b o g p:Nat)(u v:Value)(h:b≠g):(w.setCell ⟨b,o,none⟩ u).setCell ⟨g,p,none⟩ v=(w.setCell ⟨g,p,none⟩ v).setCell ⟨b,o,none⟩ u:=by
 refine world_ext rfl rfl rfl rfl fun k=> ?_
 rw[heap_setCell,heap_setCell,heap_setCell,heap_setCell];by_cases h1:g=k
 ·by_cases h2:b=k
  ·exact absurd (h2.trans h1.symm) h
  ·simp[h1,h2]
 ·by_cases h2:b=k
  ·simp[h1,h2]
  ·simp[h1,h2]
theorem setCells_comm(b o g:Nat)(u:Value)(h:b≠g):∀(vs:List Value) (p:Nat) (w:World),(w.setCell ⟨b,o,none⟩ u).setCells g p vs=(w.setCells g p vs).setCell ⟨b,o,none⟩ u
 |[],_,_=>rfl
 |v :: r,p,w=>by
  rw[World.setCells,World.setCells,setCell_comm w b o g p u v h];exact setCells_comm b o g u h r (p+1) _
theorem keep_setCells{S:Nat→Prop}{g:Nat}(hg:S g):∀(vs:List Value) (p:Nat) {a w:World},Keep S a w→Keep S a (w.setCells g p vs)
 |[],_,_,_,h=>h
 |v :: r,p,a,w,h=>by
  rw[World.setCells];exact keep_setCells hg r (p+1) (h.setCell hg p v)
theorem own_set{w:World}{base size n g cap:Nat}{e:TypeId}{ys zs:List Value}{z v:Value}(h:w.ownsRow base e size (.slice (some ⟨g,0,none⟩) n cap) n (ys++z :: zs)):
  (w.setCell ⟨g,ys.length,none⟩ v).ownsRow base e size (.slice (some ⟨g,0,none⟩) n cap) n (ys++v :: zs):=by
 obtain⟨h0,h1⟩:=h;refine⟨by rw[←h0];simp,?_⟩;rcases h1 with⟨h1,_⟩|⟨g',cap',cur,e1,e2,e3,e4,e5,e6,e7⟩
 ·cases h1
 ·have eg:g=g':=by cases e1;rfl
  have ec:cap=cap':=by cases e1;rfl
  subst eg ec;refine .inr ⟨g,cap,cur.setIfInBounds ys.length v,rfl,e2,?_,e4,e5,by simpa using e6,?_⟩
  ·rw[heap_setCell,if_pos rfl,e3];rfl
  ·have hl:ys.length<n*size:=by rw[←h0];simp
   rw[Array.toList_setIfInBounds,List.take_set,e7];simp
theorem own_puts:∀(vs:List Value) {w:World} {base size n g cap o:Nat} {e:TypeId} {ys zs ts:List Value},zs.length=vs.length→ys.length=o→w.ownsRow base e size (.slice (some ⟨g,0,none⟩) n cap) n (ys++zs++ts)→
  (w.setCells g o vs).ownsRow base e size (.slice (some ⟨g,0,none⟩) n cap) n (ys++vs++ts)
 |[],w,base,size,n,g,cap,o,e,ys,zs,ts,hz,_,h=>by
  obtain rfl:zs=[]:=List.length_eq_zero_iff.1 hz;exact h
 |v :: r,w,base,size,n,g,cap,o,e,ys,zs,ts,hz,ho,h=>by
  match zs,hz with
  |z :: q,hz=>
   subst ho;rw[World.setCells];have h1:w.ownsRow base e size (.slice (some ⟨g,0,none⟩) n cap) n (ys++z :: (q++ts)):=by simpa using h
   have h2:=own_set (v:=v) h1;have h3:(w.setCell ⟨g,ys.length,none⟩ v).ownsRow base e size (.slice (some ⟨g,0,none⟩) n cap) n ((ys++[v])++q++ts):=by simpa using h2
   have:=own_puts r (o:=ys.length+1) (by simpa using hz) (by simp) h3;simpa using this
theorem own_put{w:World}{base size n g cap o:Nat}{e:TypeId}{xs zs:List Value}(vs:List Value)(h:w.ownsRow base e size (.slice (some ⟨g,0,none⟩) (n+1) cap) (n+1) (xs++zs))(hz:zs.length=vs.length)(ho:xs.length=o):
  (w.setCells g o vs).ownsRow base e size (.slice (some ⟨g,0,none⟩) (n+1) cap) (n+1) (xs++vs):=by
 have:=own_puts vs (ts:=[]) hz ho (by simpa using h);simpa using this
theorem own_there{w:World}{base size n g cap o m:Nat}{e:TypeId}{xs:List Value}(h:w.ownsRow base e size (.slice (some ⟨g,0,none⟩) n cap) n xs)(ho:o+m≤xs.length):w.there g o m:=by
 intro j hj;obtain⟨h0,h1⟩:=h;rcases h1 with⟨h1,_⟩|⟨g',cap',cur,e1,e2,e3,e4,e5,e6,e7⟩
 ·cases h1
 ·have eg:g=g':=by cases e1;rfl
  subst eg;have hl:o+j<cur.size:=by
   have:xs.length≤cur.size:=by rw[←e7,List.length_take];simp only[Array.length_toList];omega
   omega
  constructor
  ·unfold World.cell?;simp only[e3];simp[hl]
  ·unfold World.frozen?;simp only[e3];simp
theorem own_block{w:World}{base size n g cap:Nat}{e:TypeId}{xs:List Value}(h:w.ownsRow base e size (.slice (some ⟨g,0,none⟩) n cap) n xs):base≤g∧g<w.heap.size:=h.lt g rfl
theorem there_setCell{w:World}{b o n:Nat}(h:w.there b o n)(B j:Nat)(v:Value):(w.setCell ⟨B,j,none⟩ v).there b o n:=World.there_setCells h B j [v]
section
variable {P:Program} {w:World}
theorem run_append_none(base:Nat)(t ty e:TypeId)(i:TypeInfo)(size c:Nat)(ht:P.underlying t=some (.slice e))(hi:P.info? e=some i)(v:Value)(n:Nat)(xs:List Value)(hown:w.ownsRow base e size v n xs):
  (Builtin.append_ #[t,t] ty #[v,.slice none 0 c]).run P w= .ok v w:=by
 rcases hown.2 with⟨rfl,rfl⟩|⟨g,cap,cur,rfl,_,_,hnc,_⟩
 ·simp[Builtin.append_,run_underlying ht,sizeOf,typeInfo,hi,Builtin.lenOf,Builtin.firstCells]
 ·simp[Builtin.append_,run_underlying ht,sizeOf,typeInfo,hi,Builtin.lenOf,Builtin.firstCells,hnc,storeCells]
theorem list_none{ops:Array Oper}{rest:List Oper}{o:Oper}{a:Act}{Q:Exit→Act→World→Prop}(hgd:o.guard=none)(s x:Operand)(t:TypeId)
  (ho:o.op= .call {callee:= .builtin .append,args:=#[s,x],argTypes:=#[t,t]})
  (base:Nat) (e:TypeId) (i:TypeInfo) (size c:Nat) (ht:P.underlying t=some (.slice e)) (hi:P.info? e=some i)
  (v:Value) (n:Nat) (xs:List Value) (hs:a.eval s=v) (hown:w.ownsRow base e size v n xs) (hx:a.eval x= .slice none 0 c)
  (h:wpList P ops Q rest (a.put o.dst v) w):wpList P ops Q (o :: rest) a w:=
 wpList_plain hgd fun _ hK=>by
  have hr:=run_append_none (P:=P) (w:=w) base t o.type e i size c ht hi v n xs hown;unfold Oper.wp execOp;simp only[ho,resolve,invoke,builtin,Sem.run_bind,Sem.run_pure,Result.andThen_ok,List.map_toArray,List.map_cons,List.map_nil,hs,hx,hr];exact hK _ _ h
end
end Pt
end Go.Proofs.YtfjmlfbohenmfaaGreat
namespace Go.Proofs.YtfjmlfbohenmfaaGreat
namespace Cd
def g(ah:List Int)(j:Nat):Int:=ah.getD j (-1)
end Cd
end Go.Proofs.YtfjmlfbohenmfaaGreat
namespace Go.Proofs.YtfjmlfbohenmfaaGreat
open Go.RowKit
attribute [local go_sem] Oper.semAt_some
namespace Cd
def runBuilds(P:Program):List Oper→Act→Option Act
 |[],a=>some a
 |o :: r,a=>match o.guard,o.op with
  |none,.build t parts=>match P.built t (parts.map fun(i,x)=>(i,a.eval x)).toList with
   |some cells=>runBuilds P r (a.put o.dst (.agg cells))
   |none=>none
  |_,_=>none
theorem wpList_builds{P:Program}{ops:Array Oper}{Q:Exit→Act→World→Prop}{w:World}(r:List Oper):∀(l:List Oper) (a a':Act),runBuilds P l a=some a'→wpList P ops Q r a' w→wpList P ops Q (l++r) a w
 |[],a,a',h,k=>by cases h;exact k
 |o :: l,a,a',h,k=>by
  unfold runBuilds at h;split at h
  ·rename_i t parts hg ho;split at h
   ·rename_i cells hc;exact wpList_buildTo hg t parts ho _ rfl cells hc (wpList_builds r l _ a' h k)
   ·cases h
  ·cases h
theorem wpList_buildsTo{β:Type}{P:Program}{ops:Array Oper}{Q:Exit→Act→World→Prop}{w:World}(n:Nat){l:List Oper}{a:Act}(x:Nat)(vx:Value)(g:Act→β)(vy:β)
  (h:(runBuilds P (l.take n) a).map (fun a=>(a.eval (.tmp x),g a))=some (vx,vy))
  (k:∀a',a'.eval (.tmp x)=vx→g a'=vy→wpList P ops Q (l.drop n) a' w):wpList P ops Q l a w:=by
 cases hb:runBuilds P (l.take n) a with
 |none=>rw[hb]at h;cases h
 |some a'=>
  rw[hb]at h;simp at h;have:=wpList_builds (l.drop n) (l.take n) a a' hb (k a' h.1 h.2)
  rwa [List.take_append_drop]at this
end Cd
end Go.Proofs.YtfjmlfbohenmfaaGreat
namespace Go.Proofs.YtfjmlfbohenmfaaGreat
open Go.RowKit
namespace Rb
def BelFrom{β:Type}(B:Nat)(J:β→World→Prop):Prop:=∀s W W',J s W→B≤W.heap.size→Below B W W'→J s W'
def SeqStopsB{α:Type}(F:Fence)(n:Nat)(P:Program)(g:Nat)(lb:Array Value)(encs:α→Array Value)(Kp:World→World→Prop)(V:α→World→Prop)(S Sp:List α→Prop)(N:Nat)(w:World):Prop:=
 ∀(l:Nat) (J Jx:List α→World→Prop) (W:World),Below w.heap.size w W→w.heap.size+2≤W.heap.size→BelFrom W.heap.size J→BelFrom W.heap.size Jx→
  (∀ pre x W1, J pre W1 → V x W1 → pre.length < N → YieldAt F (n - 1) P l (encs x) W1 fun e W' =>
   (e= .returned (.bool true)∧J (pre++[x]) W'∧Kp W1 W')∨(e= .returned (.bool false)∧Jx (pre++[x]) W'∧Kp W1 W'))→
  J [] W→
  CallsIn F n P g (#[.func (.yield l) #[] #[]]++lb) W fun e W'=>(∃v,e= .returned v)∧((∃xs,S xs∧J xs W')∨(∃pre,Sp pre∧Jx pre W'))
def ownPostB{α:Type}(B:Nat)(Kp:World→World→Prop)(I:List α→World→Prop)(Ix:Code→List α→World→Prop)(xs:List α)(W:World):Exit→Act→World→Prop
 | .normal,_,W'=>KeepsFrom B W W'∧Kp W W'∧I xs W'
 | .ret,_,W'=>KeepsFrom B W W'∧Kp W W'∧Ix .ret xs W'
 | .exit id,_,W'=>KeepsFrom B W W'∧Kp W W'∧Ix (.exit id) xs W'
 | .goto t,_,W'=>KeepsFrom B W W'∧Kp W W'∧Ix (.goto t) xs W'
 | .panic _,_,_=>False
 | .outgrown,_,_=>False
variable {F:Fence} {n:Nat} {P:Program} {w:World}
theorem wpIn_rangeB{α:Type}{g:Operand}{ps:Array Tmp}{assign body:Code}{Q:Exit→Act→World→Prop}{a:Act}{w:World}
  (hro:F.round=none) (h1:1≤n) {gf:Nat} {lb:Array Value} (hg:a.eval g= .func (.func gf) #[] lb) (hFg:F.fn gf) (eg:∀args w,(callFunc gf args).run P w= .ok (.enter gf args) w)
  {encs:α→Array Value} {Kp:World→World→Prop} {V:α→World→Prop} {S Sp:List α→Prop} {N:Nat} {w0:World} (hseq:SeqStopsB F (n - 1) P gf lb encs Kp V S Sp N w0)
  (hKt:∀ {A B C:World},Kp A B→Kp B C→Kp A C) (hKb:∀(W:World) (o o':Obj),W.heap[w.heap.size+1]?=some o→o.isCells=false→Kp W (W.putObj (w.heap.size+1) o')) (hb0:Below w0.heap.size w0 w) (hps:∀x,(encs x).size=ps.size)
  (I:List α→World→Prop) (Ix:Code→List α→World→Prop) (hI:OwnFrom w.heap.size I) (hIx:∀c,OwnFrom w.heap.size (Ix c)) (hIB:BelFrom (w.heap.size+2) I) (hIxB:∀c,BelFrom (w.heap.size+2) (Ix c)) (h0:I [] w) (Ax:List α→α→Act→World→Prop) (hAx:∀pre x a',OwnFrom w.heap.size (fun(_:Unit) W=>Ax pre x a' W))
  (hassign : ∀ (l : Nat) (pre : List α) (x : α) (W : World) (K : Act → World → Prop), I pre W → V x W → (∀ a' W', KeepsFrom w.heap.size W W' → Kp W W' → Ax pre x a' W' → K a' W') →
   assign.wpIn (F.inRound l) (n - 1 - 1) P (Exit.then K (fun _ _ _=>False)) {tmps:=(ps.zip (encs x)).foldl (fun t (p,v)=>t.setIfInBounds p v) a.tmps,defers:=[]} W)
  (hbody:∀(l:Nat) (pre:List α) (x:α) (a':Act) (W:World),w.heap.size≤l→(∃r,W.heap[l]?=some (.loop r))→Ax pre x a' W→pre.length<N→body.wpIn (F.inRound l) (n - 1 - 1) P (ownPostB w.heap.size Kp I Ix (pre++[x]) W) a' W)
  (hdone:∀(D:Nat) (xs:List α) (W:World),w.heap.size≤D→S xs→I xs W→W.heap[D]?=some (.deferred (some []))→Q .normal {a with defers:= {target:= .collected D,args:=#[]} :: a.defers} W)
  (hstop:∀(D:Nat) (c:Code) (pre:List α) (W:World),w.heap.size≤D→Sp pre→Ix c pre W→W.heap[D]?=some (.deferred (some []))→c.wpIn F n P Q {a with defers:= {target:= .collected D,args:=#[]} :: a.defers} W):
  (Code.rangeFunc g ps assign body).wpIn F n P Q a w:=by
 refine wpIn_rangeFunc ?_;intro fn hfn;rw[hro];obtain⟨rec,hrec⟩:∃rec:LoopState→Option Code→Loop,rec=fun st pe=> {state:=st,pending:=pe,fn,tmps:=a.tmps,params:=ps,assign,body,defers:=w.heap.size}:=⟨_,rfl⟩
 obtain⟨U,hU⟩:∃U,(w.alloc (.deferred (some []))).alloc (.loop (rec .ready none))=U:=⟨_,rfl⟩
 have hs:U.heap.size=w.heap.size+2:=by rw[←hU];simp
 have hlr:U.heap[w.heap.size+1]?=some (.loop (rec .ready none)):=by
  have:=World.alloc_heap_new (w.alloc (.deferred (some []))) (.loop (rec .ready none));rw[World.size_alloc]at this;rw[←hU];exact this
 have hld:U.heap[w.heap.size]?=some (.deferred (some [])):=by
  rw[←hU];exact(Below.heap_alloc _ _ _ (by simp)).trans (World.alloc_heap_new w _)
 have hbw:Below w.heap.size w U:=by rw[←hU];exact((Below.refl _ w).alloc (Nat.le_refl _) _).alloc (by simp) _
 have hIU:I [] U:=by rw[←hU];exact hI.alloc _ (hI.alloc _ h0)
 refine⟨w.heap.size+1,[{target:= .collected w.heap.size,args:=#[]}],U,{target:= .fn (.func gf) lb,args:=#[.func (.yield (w.heap.size+1)) #[] #[]]},U,gf,#[.func (.yield (w.heap.size+1)) #[] #[]]++lb,U,?_,?_,?_,?_,fun _=>h1,?_⟩
 ·rw[←hU,hrec];exact run_enterLoop_outer _ _ _ _ _
 ·simp only[resolve,hg];simp[go_sem]
 ·intro f' hf';simp[Target.leads]at hf';subst hf';exact hFg
 ·simp[invoke,go_sem,eg]
 refine(hseq (w.heap.size+1) (fun pre W=>(I pre W∧W.heap[w.heap.size+1]?=some (.loop (rec .ready none)))∧W.heap[w.heap.size]?=some (.deferred (some [])))
  (fun pre W=>∃c,(Ix c pre W∧W.heap[w.heap.size+1]?=some (.loop (rec .done (some c))))∧W.heap[w.heap.size]?=some (.deferred (some []))) U ((btr hb0 hbw)) (by have:=hb0.size;omega)
  (fun s A B h hle hb=>⟨⟨hIB s A B h.1.1 (by omega) (hb.mono (by omega)),(hb.block _ (by omega)).trans h.1.2⟩,(hb.block _ (by omega)).trans h.2⟩)
  (fun s A B h hle hb => by
   obtain⟨c,⟨h2,h3⟩,h4⟩:=h;exact⟨c,⟨hIxB c s A B h2 (by omega) (hb.mono (by omega)),(hb.block _ (by omega)).trans h3⟩,(hb.block _ (by omega)).trans h4⟩)
  ?_ ⟨⟨hIU,hlr⟩,hld⟩).mono ?_
 ·rintro pre x X ⟨⟨hi,hl⟩,hd⟩ hv hlen;have hy:=run_yield (P:=P) (args:=encs x) hl (by rw[hrec];exact hps x);rw[hrec]at hy;refine⟨fn,_,assign,body,hy,roundIn_of_wpIn hfn (hassign _ pre x X _ hi hv ?_)⟩;intro a' Y hkf hkp hax;have hl2:Y.heap[w.heap.size+1]?=some (.loop (rec .ready none)):=hkf.same _ _ (by omega) hl rfl;have hd2:Y.heap[w.heap.size]?=some (.deferred (some [])):=hkf.same _ _ (Nat.le_refl _) hd rfl;have hlt2:=(Array.getElem?_eq_some_iff.1 hl2).1;refine⟨_,run_beginRound hl2 (by rw[hrec]),?_⟩;obtain⟨busy,hbusy⟩:∃b:Obj,b= .loop {rec .ready none with state:= .busy}:=⟨_,rfl⟩
  rw[←hbusy];have hl3:(Y.putObj (w.heap.size+1) busy).heap[w.heap.size+1]?=some busy:=World.putObj_heap_same hlt2;have hd3:(Y.putObj (w.heap.size+1) busy).heap[w.heap.size]?=some (.deferred (some [])):=(World.putObj_heap_other (by omega)).trans hd2;have hk3:Kp Y (Y.putObj (w.heap.size+1) busy):=hKb _ _ _ hl2 rfl;refine wpIn_mono (hbody _ pre x a' _ (by omega) ⟨_,hl3.trans (by rw[hbusy])⟩ ((hAx pre x a').putObj (s:=()) _ hax (by omega) hl2 rfl) hlen) ?_;have fin:∀(jump:Option Code) (Z:World),KeepsFrom w.heap.size (Y.putObj (w.heap.size+1) busy) Z→
    (Instr.endRound (w.heap.size+1) jump).run P Z= .ok (.bool jump.isNone) (Z.putObj (w.heap.size+1) (.loop (rec (if jump.isNone then .ready else .done) jump)))∧Z.heap[w.heap.size+1]?=some busy∧
    (Z.putObj (w.heap.size+1) (.loop (rec (if jump.isNone then .ready else .done) jump))).heap[w.heap.size+1]?=some (.loop (rec (if jump.isNone then .ready else .done) jump))∧
    (Z.putObj (w.heap.size+1) (.loop (rec (if jump.isNone then .ready else .done) jump))).heap[w.heap.size]?=some (.deferred (some [])):=fun jump Z hz=>by
   have h4:Z.heap[w.heap.size+1]?=some busy:=hz.same _ _ (by omega) hl3 (by rw[hbusy];rfl);have h5:=run_endRound (P:=P) jump (h4.trans (by rw[hbusy]));rw[hrec]at h5 ⊢;exact⟨h5,h4,World.putObj_heap_same (Array.getElem?_eq_some_iff.1 h4).1,(World.putObj_heap_other (by omega)).trans (hz.same _ _ (Nat.le_refl _) hd3 rfl)⟩
  have hbc:busy.isCells=false∧True:=by rw[hbusy];exact⟨rfl,trivial⟩
  intro e a3 Z hp
  cases e with
  |normal=>
   obtain⟨h4,h5,h6⟩:=hp;obtain⟨g1,g2,g3,g4⟩:=fin none Z h4;exact⟨_,_,g1,.inl ⟨rfl,⟨⟨hI.putObj _ h6 (by omega) g2 hbc.1,g3⟩,g4⟩,hKt hkp (hKt (hKt hk3 h5) (hKb _ _ _ g2 hbc.1))⟩⟩
  |ret=>
   obtain⟨h4,h5,h6⟩:=hp;obtain⟨g1,g2,g3,g4⟩:=fin (some .ret) Z h4;exact⟨_,_,g1,.inr ⟨rfl,⟨.ret,⟨(hIx _).putObj _ h6 (by omega) g2 hbc.1,g3⟩,g4⟩,hKt hkp (hKt (hKt hk3 h5) (hKb _ _ _ g2 hbc.1))⟩⟩
  |exit id=>
   obtain⟨h4,h5,h6⟩:=hp;obtain⟨g1,g2,g3,g4⟩:=fin (some (.exit id)) Z h4;exact⟨_,_,g1,.inr ⟨rfl,⟨.exit id,⟨(hIx _).putObj _ h6 (by omega) g2 hbc.1,g3⟩,g4⟩,hKt hkp (hKt (hKt hk3 h5) (hKb _ _ _ g2 hbc.1))⟩⟩
  |goto t=>
   obtain⟨h4,h5,h6⟩:=hp;obtain⟨g1,g2,g3,g4⟩:=fin (some (.goto t)) Z h4;exact⟨_,_,g1,.inr ⟨rfl,⟨.goto t,⟨(hIx _).putObj _ h6 (by omega) g2 hbc.1,g3⟩,g4⟩,hKt hkp (hKt (hKt hk3 h5) (hKb _ _ _ g2 hbc.1))⟩⟩
  |panic ch=>exact hp.elim
  |outgrown=>exact hp.elim
 ·rintro e X ⟨⟨v,rfl⟩,⟨xs,hS,⟨hi,hl⟩,hd⟩|⟨pre,hS,c,⟨hi,hl⟩,hd⟩⟩
  ·have h5:=run_endLoop (P:=P) hl (by rw[hrec];simp);rw[hrec]at h5;exact⟨none,_,h5,hdone _ xs _ (Nat.le_refl _) hS (hI.putObj _ hi (by omega) hl rfl) ((World.putObj_heap_other (by omega)).trans hd)⟩
  ·have h5:=run_endLoop (P:=P) hl (by rw[hrec];simp);rw[hrec]at h5;exact⟨some c,_,h5,hstop _ c pre _ (Nat.le_refl _) hS ((hIx c).putObj _ hi (by omega) hl rfl) ((World.putObj_heap_other (by omega)).trans hd)⟩
end Rb
end Go.Proofs.YtfjmlfbohenmfaaGreat
namespace Go.Proofs.YtfjmlfbohenmfaaGreat
open Go.RowKit Go.Maps Go.WideMaps Go.WideElems
namespace Vm
section
variable {H:Type} {P:Program} {w:World} {t k e:TypeId} {R:Value→Option (DataW H×List MemPlace)} {b:Nat} {es:Array MapEntry} {clock:Nat}
theorem entry_store(K:Keyed P k)(ht:P.underlying t=some (.map k e)){z:Value}(hz:∀u:World,(zeroValue e).run P u= .ok z u)(hb:w.heap[b]?=some (.map es clock))(F:Fit P k R es clock)
  {key:Value} {kl:Lit} (hkey:keyOf P k key=some kl):
  ∃(v0:Value) (st:Nat) (es1:Array MapEntry) (clock1:Nat),(Instr.mapEntry t (.map (some b)) key).run P w= .ok (.tuple #[v0,goInt st]) (ChangeMaps.setBlock w b (.map es1 clock1))∧
   ∀(w2:World) (val:Value),w2.heap[b]?=some (.map es1 clock1)→∃es' clock',(Instr.entryStore t (.map (some b)) (goInt st) val).run P w2= .ok () (ChangeMaps.setBlock w2 b (.map es' clock'))∧
    (Instr.mapUpdate t (.map (some b)) key val).run P w= .ok () (ChangeMaps.setBlock w b (.map es' clock')):=by
 obtain⟨s1,s2,_⟩:=F.stamped;rcases K.find w hkey es.toList F.keys with⟨h1,h2⟩|⟨j,e0,h1,h2,h3⟩
 ·refine⟨z,clock,es.push ⟨key,z,clock⟩,clock+1,?_,fun w2 val hw2=>⟨es.push ⟨key,val,clock⟩,clock+1,?_,?_⟩⟩
  ·simp[Instr.mapEntry,run_underlying ht,MapKept.run_getObj_map hb,K.check w false hkey,h1,hz,MapKept.run_setObj_map _ hb,Result.andThen,ChangeMaps.setBlock]
  ·have hidx:(es.push ⟨key,z,clock⟩).findIdx? (fun e=>((e.born:Nat):Int)==((clock:Nat):Int))=some es.size:=by
    rw[findIdx_arr];have:=findIdx_born (l:=(es.push ⟨key,z,clock⟩).toList) (j:=es.size) (e0:=⟨key,z,clock⟩) (by
     simp only[Array.toList_push,List.map_append,List.map_cons,List.map_nil];refine List.nodup_append.2 ⟨s2,by simp,fun a ha c hc e1=> ?_⟩;simp only[List.mem_singleton]at hc;obtain⟨x,hx,rfl⟩:=List.mem_map.1 ha;have:=s1 x hx;omega) (by simp)
    exact this
   have hmod:(es.push ⟨key,z,clock⟩).modify es.size (fun e=> {e with val:=val})=es.push ⟨key,val,clock⟩:=by
    apply Array.ext'
    rw[Array.toList_modify,Array.toList_push,Array.toList_push,←Array.length_toList,modify_last]
   simp[Instr.entryStore,MapKept.run_getObj_map hw2,asInt,asIntOf,goInt,hidx,hmod,MapKept.run_setObj_map _ hw2,Result.andThen,ChangeMaps.setBlock]
  ·simp[Instr.mapUpdate,run_underlying ht,MapKept.run_getObj_map hb,K.check w false hkey,h1,MapKept.run_setObj_map _ hb,Result.andThen,ChangeMaps.setBlock]
 ·have hj:es[j]?=some e0:=by simpa using h2
  have hsame:es.modify j (fun e=> {e with key:=key})=es:=by
   apply Array.ext'
   rw[Array.toList_modify,ChangeMaps.modify_eq_set _ _ _ _ h2];have:({e0 with key:=key}:MapEntry)=e0:=by rw[←h3]
   rw[this];exact set_self _ _ _ h2
  refine⟨e0.val,e0.born,es,clock,?_,fun w2 val hw2=>⟨es.modify j (fun e'=> {e' with key:=key,val:=val}),clock,?_,?_⟩⟩
  ·simp[Instr.mapEntry,run_underlying ht,MapKept.run_getObj_map hb,K.check w false hkey,h1,hj,h3,K.stays w hkey,hsame,MapKept.run_setObj_map _ hb,Result.andThen,ChangeMaps.setBlock]
  ·have hidx:es.findIdx? (fun e=>((e.born:Nat):Int)==((e0.born:Nat):Int))=some j:=by
    rw[findIdx_arr];exact findIdx_born s2 h2
   have hmod:es.modify j (fun e=> {e with val:=val})=es.modify j (fun e'=> {e' with key:=key,val:=val}):=by
    apply Array.ext'
    rw[Array.toList_modify,Array.toList_modify,ChangeMaps.modify_eq_set _ _ _ _ h2,ChangeMaps.modify_eq_set _ _ _ _ h2,←h3]
   simp[Instr.entryStore,MapKept.run_getObj_map hw2,asInt,asIntOf,goInt,hidx,hmod,MapKept.run_setObj_map _ hw2,Result.andThen,ChangeMaps.setBlock]
  ·simp[Instr.mapUpdate,run_underlying ht,MapKept.run_getObj_map hb,K.check w false hkey,h1,hj,h3,K.stays w hkey,MapKept.run_setObj_map _ hb,Result.andThen,ChangeMaps.setBlock]
end
structure MK(P:Program)(κ β:Type) where
 mt:TypeId
 kt:TypeId
 et:TypeId
 under:P.underlying mt=some (.map kt et)
 keyed:Keyed P kt
 kv:κ→Value
 kl:κ→Lit
 okK:κ→Prop
 keyOf_:∀k,okK k→keyOf P kt (kv k)=some (kl k)
 kl_inj:∀a b,kl a=kl b→a=b
 isKey:∀k,WideAt.IsKeyLit (kl k)
 ev:β→Value
 ed:β→DataW Unit
 ed_inj:∀a b,ed a=ed b→a=b
 z:β
 zero:∀w:World,(zeroValue et).run P w= .ok (ev z) w
 rd:Value→Option (DataW Unit×List MemPlace)
 rd_ev:∀v,rd (ev v)=some (ed v,[])
 rd_inv:∀x q,rd x=some q→∃v,x=ev v∧q=(ed v,[])
variable {P:Program} {κ β:Type}
def Mp(M:MK P κ β)(w:World)(b n:Nat)(g:κ→Option β):Prop:=
 ∃D:DataW Unit,w.ownsMap P M.kt M.rd b n D∧∀s,has D (M.kl s)=(g s).isSome∧∀v,g s=some v→∀z,D.atKey (M.kl s) z=M.ed v
variable {M:MK P κ β} {w w':World} {b n:Nat} {g:κ→Option β}
theorem Mp.made(M:MK P κ β)(w:World):Mp M (w.alloc (.map #[] 0)) w.heap.size 0 fun _=>none:=
 ⟨_,World.ownsMap_made _ _ _ _,fun _=>⟨rfl,fun _ h=>by cases h⟩⟩
theorem Mp.lt(h:Mp M w b n g):b<w.heap.size:=let ⟨_,ho,_⟩:=h;ho.lt
theorem Mp.mono(h:Mp M w b n g){m:Nat}(hm:n≤m):Mp M w b m g:=let ⟨D,ho,h2⟩:=h;⟨D,ho.mono hm,h2⟩
theorem Mp.heap(h:Mp M w b n g)(he:w'.heap[b]?=w.heap[b]?):Mp M w' b n g:=by
 obtain⟨D,⟨es,clock,h1,h2⟩,h3⟩:=h;exact⟨D,⟨es,clock,by rw[he];exact h1,h2⟩,h3⟩
theorem Mp.keep{S:Nat→Prop}(h:Mp M w b n g)(hk:Keep S w w')(hn:¬S b):Mp M w' b n g:=h.heap (hk.block b h.lt hn)
theorem Mp.below(h:Mp M w b n g)(hb:Below w.heap.size w w'):Mp M w' b n g:=h.heap (hb.block b h.lt)
theorem keep_turned(h:w.mapTurned w' b):Keep (fun k=>k=b) w w':=by
 have hg:=h.grown;exact⟨hg.os,hg.tape,hg.output,hg.size,fun k hk hn=>hg.block k hk (fun e=>hn (by cases e;rfl))⟩
theorem Mp.look(h:Mp M w b n g){s:κ}(hs:M.okK s):(Instr.lookup M.mt (.map (some b)) (M.kv s) true).run P w= .ok (.tuple #[M.ev ((g s).getD M.z),.bool (g s).isSome]) w:=by
 obtain⟨D,ho,hg⟩:=h;obtain⟨v,ps,hrun,hv⟩:=ho.look_ok M.keyed M.under (M.zero w) (M.rd_ev M.z) (M.keyOf_ s hs);rw[hrun,(hg _).1];obtain⟨y,rfl,hy⟩:=M.rd_inv _ _ hv;have hd:=congrArg Prod.fst hy;simp only at hd
 cases hgs:g s with
 |none=>
  have hh:=(hg s).1;rw[hgs]at hh;rw[atKey_of_not_has hh]at hd;rw[←M.ed_inj _ _ hd]
  rfl
 |some x=>
  rw[(hg s).2 x hgs]at hd;rw[←M.ed_inj _ _ hd]
  rfl
theorem Mp.look1(h:Mp M w b n g){s:κ}(hs:M.okK s):(Instr.lookup M.mt (.map (some b)) (M.kv s) false).run P w= .ok (M.ev ((g s).getD M.z)) w:=by
 obtain⟨D,ho,hg⟩:=h;obtain⟨v,ps,hrun,hv⟩:=ho.lookup M.keyed M.under (M.zero w) (M.rd_ev M.z) (M.keyOf_ s hs);rw[hrun];obtain⟨y,rfl,hy⟩:=M.rd_inv _ _ hv;have hd:=congrArg Prod.fst hy;simp only at hd
 cases hgs:g s with
 |none=>
  have hh:=(hg s).1;rw[hgs]at hh;rw[atKey_of_not_has hh]at hd;rw[←M.ed_inj _ _ hd]
  rfl
 |some x=>
  rw[(hg s).2 x hgs]at hd;rw[←M.ed_inj _ _ hd]
  rfl
variable [DecidableEq κ]
def upd(g:κ→Option β)(s:κ)(v:β):κ→Option β:=fun z=>if z=s then some v else g z
def cut(g:κ→Option β)(s:κ):κ→Option β:=fun z=>if z=s then none else g z
theorem put_says{D:DataW Unit}(hm:IsMap D)(hg:∀s,has D (M.kl s)=(g s).isSome∧∀v,g s=some v→∀z,D.atKey (M.kl s) z=M.ed v)(s:κ)(v:β):
  ∀x,has (D.put (M.kl s) (M.ed v)) (M.kl x)=(upd g s v x).isSome∧∀y,upd g s v x=some y→∀z,(D.put (M.kl s) (M.ed v)).atKey (M.kl x) z=M.ed y:=by
 intro x;unfold upd;by_cases e:x=s
 ·subst e;rw[if_pos rfl];exact⟨has_put_same hm (M.isKey _) _,fun y hy z=>by cases hy;exact atKey_put_same hm (M.isKey _) _ z⟩
 ·rw[if_neg e];have hne:M.kl x≠M.kl s:=fun h=>e (M.kl_inj _ _ h)
  exact⟨by rw[has_put_other hne];exact(hg x).1,fun y hy d=>by rw[atKey_put_other hne];exact(hg x).2 y hy d⟩
theorem Mp.set(h:Mp M w b n g)(hn:n<maxLen){s:κ}(hs:M.okK s)(v:β):
  ∃w',(Instr.mapUpdate M.mt (.map (some b)) (M.kv s) (M.ev v)).run P w= .ok () w'∧Mp M w' b (n+1) (upd g s v)∧Keep (fun k=>k=b) w w':=by
 obtain⟨D,ho,hg⟩:=h;obtain⟨w',hrun,ho',ht⟩:=ho.store M.keyed M.under hn (M.keyOf_ s hs) (M.rd_ev v);exact⟨w',hrun,⟨_,ho',put_says ho.isMap hg s v⟩,keep_turned ht⟩
def Waits(M:MK P κ β)(w1:World)(b n:Nat)(g:κ→Option β)(s:κ)(st:Value):Prop:=
 ∀(w2:World) (v:β),w2.heap[b]?=w1.heap[b]?→∃w3,(Instr.entryStore M.mt (.map (some b)) st (M.ev v)).run P w2= .ok () w3∧Mp M w3 b (n+1) (upd g s v)∧Keep (fun k=>k=b) w2 w3
theorem Mp.entry(h:Mp M w b n g)(hn:n<maxLen){s:κ}(hs:M.okK s):
  ∃(v0 st:Value) (w1:World),(Instr.mapEntry M.mt (.map (some b)) (M.kv s)).run P w= .ok (.tuple #[v0,st]) w1∧Keep (fun k=>k=b) w w1∧Waits M w1 b n g s st:=by
 obtain⟨D,ho,hg⟩:=h;have hob:=ho;obtain⟨es,clock,hb,F,hsz,hD⟩:=hob;obtain⟨v0,st,es1,clock1,hrun,hst⟩:=entry_store M.keyed M.under (fun u=>M.zero u) hb F (M.keyOf_ s hs);refine⟨v0,goInt st,_,hrun,keep_turned ⟨es,clock,es1,clock1,hb,rfl⟩,fun w2 v h2=> ?_⟩;have hlt:b<w.heap.size:=(Array.getElem?_eq_some_iff.1 hb).1;have h2':w2.heap[b]?=some (.map es1 clock1):=h2.trans (ChangeMaps.heap_setBlock_same hb _);obtain⟨es',clock',hr1,hr2⟩:=hst w2 (M.ev v) h2';obtain⟨w',hrun',ho',ht⟩:=ho.store M.keyed M.under hn (M.keyOf_ s hs) (M.rd_ev v);rw[hr2]at hrun';cases hrun';refine⟨_,hr1,Mp.heap (w:=ChangeMaps.setBlock w b (.map es' clock')) ⟨_,ho',put_says ho.isMap hg s v⟩ ?_,keep_turned ⟨es1,clock1,es',clock',h2',rfl⟩⟩;rw[ChangeMaps.heap_setBlock_same h2',ChangeMaps.heap_setBlock_same hb]
theorem Mp.del(h:Mp M w b n g){s:κ}(hs:M.okK s)(ty:TypeId):
  ∃w',(Builtin.delete_ #[M.mt,M.kt] ty #[.map (some b),M.kv s]).run P w= .ok (.tuple #[]) w'∧Mp M w' b n (cut g s)∧Keep (fun k=>k=b) w w':=by
 obtain⟨D,ho,hg⟩:=h;obtain⟨w',hrun,ho',ht⟩:=ho.drop M.keyed M.under (M.keyOf_ s hs) ty;refine⟨w',hrun,⟨_,ho',fun x=> ?_⟩,keep_turned ht⟩;unfold cut;by_cases e:x=s
 ·subst e;rw[if_pos rfl];exact⟨has_del_same,fun y hy=>by cases hy⟩
 ·rw[if_neg e];have hne:M.kl x≠M.kl s:=fun h=>e (M.kl_inj _ _ h)
  exact⟨by rw[has_del_other hne];exact(hg x).1,fun y hy d=>by rw[atKey_del_other hne];exact(hg x).2 y hy d⟩
end Vm
end Go.Proofs.YtfjmlfbohenmfaaGreat
namespace Go.Proofs.YtfjmlfbohenmfaaGreat
open Go Go.RowKit
namespace Rb
def SeqStopsO{α:Type}(F:Fence)(n:Nat)(P:Program)(g:Nat)(lb:Array Value)(encs:α→Array Value)(Kp:World→World→Prop)(V:(Nat→Prop)→α→World→Prop)(S Sp:List α→Prop)(N:Nat)(w:World):Prop:=
 ∀(l:Nat) (J Jx:(Nat→Prop)→List α→World→Prop) (W:World),Below w.heap.size w W→w.heap.size+2≤W.heap.size→
  (∀(O:Nat→Prop) s A B,(∀k,O k→W.heap.size≤k)→J O s A→W.heap.size≤A.heap.size→Keep O A B→J O s B)→(∀(O:Nat→Prop) s A B,(∀k,O k→W.heap.size≤k)→Jx O s A→W.heap.size≤A.heap.size→Keep O A B→Jx O s B)→
  (∀ O pre x W1, (∀ k, O k → W.heap.size ≤ k ∧ k < W1.heap.size) → J O pre W1 → V O x W1 → pre.length < N → YieldAt F (n - 1) P l (encs x) W1 fun e W' =>
   (e= .returned (.bool true)∧J O (pre++[x]) W'∧Kp W1 W')∨(e= .returned (.bool false)∧Jx O (pre++[x]) W'∧Kp W1 W'))→
  (∀(O:Nat→Prop),(∀k,O k→W.heap.size≤k)→J O [] W)→
  CallsIn F n P g (#[.func (.yield l) #[] #[]]++lb) W fun e W'=>(∃v,e= .returned v)∧((∃O xs,S xs∧J O xs W')∨(∃O pre,Sp pre∧Jx O pre W'))
variable {F:Fence} {n:Nat} {P:Program} {w:World}
theorem wpIn_rangeO{α:Type}{g:Operand}{ps:Array Tmp}{assign body:Code}{Q:Exit→Act→World→Prop}{a:Act}{w:World}
  (hro:F.round=none) (h1:1≤n) {gf:Nat} {lb:Array Value} (hg:a.eval g= .func (.func gf) #[] lb) (hFg:F.fn gf) (eg:∀args w,(callFunc gf args).run P w= .ok (.enter gf args) w)
  {encs:α→Array Value} {Kp:World→World→Prop} {V:(Nat→Prop)→α→World→Prop} {S Sp:List α→Prop} {N:Nat} {w0:World} (hseq:SeqStopsO F (n - 1) P gf lb encs Kp V S Sp N w0)
  (hKt:∀ {A B C:World},Kp A B→Kp B C→Kp A C) (hKb:∀(W:World) (o o':Obj),W.heap[w.heap.size+1]?=some o→o.isCells=false→Kp W (W.putObj (w.heap.size+1) o')) (hb0:Below w0.heap.size w0 w) (hps:∀x,(encs x).size=ps.size)
  (I:(Nat→Prop)→List α→World→Prop) (Ix:(Nat→Prop)→Code→List α→World→Prop) (hI:∀O,OwnFrom w.heap.size (I O)) (hIx:∀O c,OwnFrom w.heap.size (Ix O c)) (hIB:∀(O:Nat→Prop) s A B,(∀k,O k→w.heap.size+2≤k)→I O s A→Keep O A B→I O s B) (hIxB:∀(O:Nat→Prop) c s A B,(∀k,O k→w.heap.size+2≤k)→Ix O c s A→Keep O A B→Ix O c s B) (h0:∀O:Nat→Prop,(∀k,O k→w.heap.size+2≤k)→I O [] w) (Ax:(Nat→Prop)→List α→α→Act→World→Prop) (hAx:∀O pre x a',OwnFrom w.heap.size (fun(_:Unit) W=>Ax O pre x a' W))
  (hassign : ∀ (O : Nat → Prop) (l : Nat) (pre : List α) (x : α) (W : World) (K : Act → World → Prop), (∀ k, O k → w.heap.size + 2 ≤ k ∧ k < W.heap.size) → I O pre W → V O x W → (∀ a' W', KeepsFrom w.heap.size W W' → Kp W W' → Ax O pre x a' W' → K a' W') →
   assign.wpIn (F.inRound l) (n - 1 - 1) P (Exit.then K (fun _ _ _=>False)) {tmps:=(ps.zip (encs x)).foldl (fun t (p,v)=>t.setIfInBounds p v) a.tmps,defers:=[]} W)
  (hbody:∀(O:Nat→Prop) (l:Nat) (pre:List α) (x:α) (a':Act) (W:World),w.heap.size≤l→(∃r,W.heap[l]?=some (.loop r))→Ax O pre x a' W→pre.length<N→body.wpIn (F.inRound l) (n - 1 - 1) P (ownPostB w.heap.size Kp (I O) (Ix O) (pre++[x]) W) a' W)
  (hdone:∀(O:Nat→Prop) (D:Nat) (xs:List α) (W:World),w.heap.size≤D→S xs→I O xs W→W.heap[D]?=some (.deferred (some []))→Q .normal {a with defers:= {target:= .collected D,args:=#[]} :: a.defers} W)
  (hstop:∀(O:Nat→Prop) (D:Nat) (c:Code) (pre:List α) (W:World),w.heap.size≤D→Sp pre→Ix O c pre W→W.heap[D]?=some (.deferred (some []))→c.wpIn F n P Q {a with defers:= {target:= .collected D,args:=#[]} :: a.defers} W):
  (Code.rangeFunc g ps assign body).wpIn F n P Q a w:=by
 refine wpIn_rangeFunc ?_;intro fn hfn;rw[hro];obtain⟨rec,hrec⟩:∃rec:LoopState→Option Code→Loop,rec=fun st pe=> {state:=st,pending:=pe,fn,tmps:=a.tmps,params:=ps,assign,body,defers:=w.heap.size}:=⟨_,rfl⟩
 obtain⟨U,hU⟩:∃U,(w.alloc (.deferred (some []))).alloc (.loop (rec .ready none))=U:=⟨_,rfl⟩
 have hs:U.heap.size=w.heap.size+2:=by rw[←hU];simp
 have hlr:U.heap[w.heap.size+1]?=some (.loop (rec .ready none)):=by
  have:=World.alloc_heap_new (w.alloc (.deferred (some []))) (.loop (rec .ready none));rw[World.size_alloc]at this;rw[←hU];exact this
 have hld:U.heap[w.heap.size]?=some (.deferred (some [])):=by
  rw[←hU];exact(Below.heap_alloc _ _ _ (by simp)).trans (World.alloc_heap_new w _)
 have hbw:Below w.heap.size w U:=by rw[←hU];exact((Below.refl _ w).alloc (Nat.le_refl _) _).alloc (by simp) _
 have hIU:∀O:Nat→Prop,(∀k,O k→w.heap.size+2≤k)→I O [] U:=fun O hO=>by rw[←hU];exact(hI O).alloc _ ((hI O).alloc _ (h0 O hO))
 refine⟨w.heap.size+1,[{target:= .collected w.heap.size,args:=#[]}],U,{target:= .fn (.func gf) lb,args:=#[.func (.yield (w.heap.size+1)) #[] #[]]},U,gf,#[.func (.yield (w.heap.size+1)) #[] #[]]++lb,U,?_,?_,?_,?_,fun _=>h1,?_⟩
 ·rw[←hU,hrec];exact run_enterLoop_outer _ _ _ _ _
 ·simp only[resolve,hg];simp[go_sem]
 ·intro f' hf';simp[Target.leads]at hf';subst hf';exact hFg
 ·simp[invoke,go_sem,eg]
 refine(hseq (w.heap.size+1) (fun O pre W=>(I O pre W∧W.heap[w.heap.size+1]?=some (.loop (rec .ready none)))∧W.heap[w.heap.size]?=some (.deferred (some [])))
  (fun O pre W=>∃c,(Ix O c pre W∧W.heap[w.heap.size+1]?=some (.loop (rec .done (some c))))∧W.heap[w.heap.size]?=some (.deferred (some []))) U ((btr hb0 hbw)) (by have:=hb0.size;omega)
  (fun O s A B hO h _ hb=>⟨⟨hIB O s A B (fun k hk=>by have:=hO k hk;omega) h.1.1 hb,(hb.block _ (Array.getElem?_eq_some_iff.1 h.1.2).1 (fun e=>by have:=hO _ e;omega)).trans h.1.2⟩,(hb.block _ (Array.getElem?_eq_some_iff.1 h.2).1 (fun e=>by have:=hO _ e;omega)).trans h.2⟩)
  (fun O s A B hO h _ hb => by
   obtain⟨c,⟨h2,h3⟩,h4⟩:=h;exact⟨c,⟨hIxB O c s A B (fun k hk=>by have:=hO k hk;omega) h2 hb,(hb.block _ (Array.getElem?_eq_some_iff.1 h3).1 (fun e=>by have:=hO _ e;omega)).trans h3⟩,(hb.block _ (Array.getElem?_eq_some_iff.1 h4).1 (fun e=>by have:=hO _ e;omega)).trans h4⟩)
  ?_ (fun O hO=>⟨⟨hIU O (fun k hk=>by have:=hO k hk;omega),hlr⟩,hld⟩)).mono ?_
 ·rintro O pre x X hO ⟨⟨hi,hl⟩,hd⟩ hv hlen;have hy:=run_yield (P:=P) (args:=encs x) hl (by rw[hrec];exact hps x);rw[hrec]at hy;refine⟨fn,_,assign,body,hy,roundIn_of_wpIn hfn (hassign O _ pre x X _ (fun k hk=>by have:=hO k hk;omega) hi hv ?_)⟩;intro a' Y hkf hkp hax;have hl2:Y.heap[w.heap.size+1]?=some (.loop (rec .ready none)):=hkf.same _ _ (by omega) hl rfl;have hd2:Y.heap[w.heap.size]?=some (.deferred (some [])):=hkf.same _ _ (Nat.le_refl _) hd rfl;have hlt2:=(Array.getElem?_eq_some_iff.1 hl2).1;refine⟨_,run_beginRound hl2 (by rw[hrec]),?_⟩;obtain⟨busy,hbusy⟩:∃b:Obj,b= .loop {rec .ready none with state:= .busy}:=⟨_,rfl⟩
  rw[←hbusy];have hl3:(Y.putObj (w.heap.size+1) busy).heap[w.heap.size+1]?=some busy:=World.putObj_heap_same hlt2;have hd3:(Y.putObj (w.heap.size+1) busy).heap[w.heap.size]?=some (.deferred (some [])):=(World.putObj_heap_other (by omega)).trans hd2;have hk3:Kp Y (Y.putObj (w.heap.size+1) busy):=hKb _ _ _ hl2 rfl;refine wpIn_mono (hbody O _ pre x a' _ (by omega) ⟨_,hl3.trans (by rw[hbusy])⟩ ((hAx O pre x a').putObj (s:=()) _ hax (by omega) hl2 rfl) hlen) ?_;have fin:∀(jump:Option Code) (Z:World),KeepsFrom w.heap.size (Y.putObj (w.heap.size+1) busy) Z→
    (Instr.endRound (w.heap.size+1) jump).run P Z= .ok (.bool jump.isNone) (Z.putObj (w.heap.size+1) (.loop (rec (if jump.isNone then .ready else .done) jump)))∧Z.heap[w.heap.size+1]?=some busy∧
    (Z.putObj (w.heap.size+1) (.loop (rec (if jump.isNone then .ready else .done) jump))).heap[w.heap.size+1]?=some (.loop (rec (if jump.isNone then .ready else .done) jump))∧
    (Z.putObj (w.heap.size+1) (.loop (rec (if jump.isNone then .ready else .done) jump))).heap[w.heap.size]?=some (.deferred (some [])):=fun jump Z hz=>by
   have h4:Z.heap[w.heap.size+1]?=some busy:=hz.same _ _ (by omega) hl3 (by rw[hbusy];rfl);have h5:=run_endRound (P:=P) jump (h4.trans (by rw[hbusy]));rw[hrec]at h5 ⊢;exact⟨h5,h4,World.putObj_heap_same (Array.getElem?_eq_some_iff.1 h4).1,(World.putObj_heap_other (by omega)).trans (hz.same _ _ (Nat.le_refl _) hd3 rfl)⟩
  have hbc:busy.isCells=false∧True:=by rw[hbusy];exact⟨rfl,trivial⟩
  intro e a3 Z hp
  cases e with
  |normal=>
   obtain⟨h4,h5,h6⟩:=hp;obtain⟨g1,g2,g3,g4⟩:=fin none Z h4;exact⟨_,_,g1,.inl ⟨rfl,⟨⟨(hI O).putObj _ h6 (by omega) g2 hbc.1,g3⟩,g4⟩,hKt hkp (hKt (hKt hk3 h5) (hKb _ _ _ g2 hbc.1))⟩⟩
  |ret=>
   obtain⟨h4,h5,h6⟩:=hp;obtain⟨g1,g2,g3,g4⟩:=fin (some .ret) Z h4;exact⟨_,_,g1,.inr ⟨rfl,⟨.ret,⟨(hIx O _).putObj _ h6 (by omega) g2 hbc.1,g3⟩,g4⟩,hKt hkp (hKt (hKt hk3 h5) (hKb _ _ _ g2 hbc.1))⟩⟩
  |exit id=>
   obtain⟨h4,h5,h6⟩:=hp;obtain⟨g1,g2,g3,g4⟩:=fin (some (.exit id)) Z h4;exact⟨_,_,g1,.inr ⟨rfl,⟨.exit id,⟨(hIx O _).putObj _ h6 (by omega) g2 hbc.1,g3⟩,g4⟩,hKt hkp (hKt (hKt hk3 h5) (hKb _ _ _ g2 hbc.1))⟩⟩
  |goto t=>
   obtain⟨h4,h5,h6⟩:=hp;obtain⟨g1,g2,g3,g4⟩:=fin (some (.goto t)) Z h4;exact⟨_,_,g1,.inr ⟨rfl,⟨.goto t,⟨(hIx O _).putObj _ h6 (by omega) g2 hbc.1,g3⟩,g4⟩,hKt hkp (hKt (hKt hk3 h5) (hKb _ _ _ g2 hbc.1))⟩⟩
  |panic ch=>exact hp.elim
  |outgrown=>exact hp.elim
 ·rintro e X ⟨⟨v,rfl⟩,⟨O,xs,hS,⟨hi,hl⟩,hd⟩|⟨O,pre,hS,c,⟨hi,hl⟩,hd⟩⟩
  ·have h5:=run_endLoop (P:=P) hl (by rw[hrec];simp);rw[hrec]at h5;exact⟨none,_,h5,hdone O _ xs _ (Nat.le_refl _) hS ((hI O).putObj _ hi (by omega) hl rfl) ((World.putObj_heap_other (by omega)).trans hd)⟩
  ·have h5:=run_endLoop (P:=P) hl (by rw[hrec];simp);rw[hrec]at h5;exact⟨some c,_,h5,hstop O _ c pre _ (Nat.le_refl _) hS ((hIx O c).putObj _ hi (by omega) hl rfl) ((World.putObj_heap_other (by omega)).trans hd)⟩
end Rb
end Go.Proofs.YtfjmlfbohenmfaaGreat
namespace Go.Proofs
open Go.Shelf
def Tryz.keysS_ren:Go.Shelf.Ren:=⟨fun|7=>51|10=>76|n=>n,fun|23=>86|26=>9|3=>4|28=>93|0=>0|27=>92|33=>110|4=>4|n=>n,fun|n=>n⟩
theorem Tryz.keysS:Go.Proofs.SlLaysZ.n7 Tryz.prog Tryz.keysS_ren:= {
 mixed:=by kernel_rfl
 f7:=⟨Tryz.f51.name,by decide,Tryz.func51.trans (congrArg some (by kernel_rfl))⟩
 f10:=⟨Tryz.f76.name,by decide,Tryz.func76.trans (congrArg some (by kernel_rfl))⟩
 t0:=Tryz.underlying0
 a0:=Tryz.isAgg0
 z0:=Tryz.sizeOf0
 v0:=Tryz.zeroValue0
 t4:=Tryz.underlying4
 a4:=Tryz.isAgg4
 z4:=Tryz.sizeOf4
 v4:=Tryz.zeroValue4
 t23:=Tryz.underlying86
 a23:=Tryz.isAgg86
 z23:=Tryz.sizeOf86
 v23:=Tryz.zeroValue86
 t26:=Tryz.underlying9
 a26:=Tryz.isAgg9
 z26:=Tryz.sizeOf9
 v26:=Tryz.zeroValue9
 t27:=Tryz.underlying92
 a27:=Tryz.isAgg92
 z27:=Tryz.sizeOf92
 v27:=Tryz.zeroValue92
 t28:=Tryz.underlying93
 a28:=Tryz.isAgg93
 z28:=Tryz.sizeOf93
 v28:=Tryz.zeroValue93
 t33:=Tryz.underlying110
 a33:=Tryz.isAgg110
 z33:=Tryz.sizeOf110
 v33:=Tryz.zeroValue110}
def Tryz.sortedS_ren:Go.Shelf.Ren:=⟨fun|6=>50|8=>74|9=>75|11=>101|13=>100|12=>102|23=>126|24=>127|14=>128|15=>129|16=>130|17=>131|18=>132|19=>133|20=>134|21=>135|22=>136|25=>159|26=>154|27=>155|28=>160|29=>161|30=>162|31=>171|n=>n,fun|26=>9|28=>93|24=>42|0=>0|3=>3|37=>130|48=>167|50=>169|4=>4|40=>159|39=>158|45=>164|5=>5|9=>9|51=>184|55=>60|57=>193|58=>194|33=>110|n=>n,fun|n=>n⟩
theorem Tryz.sortedS:Go.Proofs.SlLaysZ.n6 Tryz.prog Tryz.sortedS_ren:= {
 mixed:=by kernel_rfl
 f6:=⟨Tryz.f50.name,by decide,Tryz.func50.trans (congrArg some (by kernel_rfl))⟩
 f8:=⟨Tryz.f74.name,by decide,Tryz.func74.trans (congrArg some (by kernel_rfl))⟩
 f11:=⟨Tryz.f101.name,by decide,Tryz.func101.trans (congrArg some (by kernel_rfl))⟩
 t0:=Tryz.underlying0
 a0:=Tryz.isAgg0
 z0:=Tryz.sizeOf0
 v0:=Tryz.zeroValue0
 t24:=Tryz.underlying42
 a24:=Tryz.isAgg42
 z24:=Tryz.sizeOf42
 v24:=Tryz.zeroValue42
 t26:=Tryz.underlying9
 a26:=Tryz.isAgg9
 z26:=Tryz.sizeOf9
 v26:=Tryz.zeroValue9
 t28:=Tryz.underlying93
 a28:=Tryz.isAgg93
 z28:=Tryz.sizeOf93
 v28:=Tryz.zeroValue93
 i26:=by kernel_rfl}
def Tryz.sortS_ren:Go.Shelf.Ren:=⟨fun|6=>75|8=>100|9=>102|19=>126|20=>127|21=>128|22=>129|23=>130|24=>131|25=>132|26=>133|27=>134|28=>135|29=>136|36=>159|31=>154|32=>155|37=>160|38=>161|39=>162|41=>171|n=>n,fun|27=>42|29=>9|3=>3|32=>130|26=>42|0=>0|44=>167|46=>169|4=>4|36=>159|35=>158|41=>164|5=>5|9=>9|53=>184|57=>60|63=>193|64=>194|n=>n,fun|n=>n⟩
theorem Tryz.sortS:Go.Proofs.SlLaysM.n6 Tryz.prog Tryz.sortS_ren:= {
 mixed:=by kernel_rfl
 f6:=⟨Tryz.f75.name,by decide,Tryz.func75.trans (congrArg some (by kernel_rfl))⟩
 f8:=Tryz.func100.trans (congrArg some (by kernel_rfl))
 f9:=⟨Tryz.f102.name,by decide,Tryz.func102.trans (congrArg some (by kernel_rfl))⟩
 f19:=Tryz.func126.trans (congrArg some (by kernel_rfl))
 f20:=Tryz.func127.trans (congrArg some (by kernel_rfl))
 f21:=⟨Tryz.f128.name,by decide,Tryz.func128.trans (congrArg some (by kernel_rfl))⟩
 f22:=⟨Tryz.f129.name,by decide,Tryz.func129.trans (congrArg some (by kernel_rfl))⟩
 f23:=⟨Tryz.f130.name,by decide,Tryz.func130.trans (congrArg some (by kernel_rfl))⟩
 f24:=⟨Tryz.f131.name,by decide,Tryz.func131.trans (congrArg some (by kernel_rfl))⟩
 f25:=⟨Tryz.f132.name,by decide,Tryz.func132.trans (congrArg some (by kernel_rfl))⟩
 f26:=⟨Tryz.f133.name,by decide,Tryz.func133.trans (congrArg some (by kernel_rfl))⟩
 f27:=⟨Tryz.f134.name,by decide,Tryz.func134.trans (congrArg some (by kernel_rfl))⟩
 f28:=⟨Tryz.f135.name,by decide,Tryz.func135.trans (congrArg some (by kernel_rfl))⟩
 f29:=⟨Tryz.f136.name,by decide,Tryz.func136.trans (congrArg some (by kernel_rfl))⟩
 f31:=Tryz.func154.trans (congrArg some (by kernel_rfl))
 f32:=Tryz.func155.trans (congrArg some (by kernel_rfl))
 f36:=⟨Tryz.f159.name,by decide,Tryz.func159.trans (congrArg some (by kernel_rfl))⟩
 f37:=⟨Tryz.f160.name,by decide,Tryz.func160.trans (congrArg some (by kernel_rfl))⟩
 f38:=⟨Tryz.f161.name,by decide,Tryz.func161.trans (congrArg some (by kernel_rfl))⟩
 f39:=⟨Tryz.f162.name,by decide,Tryz.func162.trans (congrArg some (by kernel_rfl))⟩
 f41:=⟨Tryz.f171.name,by decide,Tryz.func171.trans (congrArg some (by kernel_rfl))⟩
 t0:=Tryz.underlying0
 a0:=Tryz.isAgg0
 z0:=Tryz.sizeOf0
 v0:=Tryz.zeroValue0
 t3:=Tryz.underlying3
 a3:=Tryz.isAgg3
 z3:=Tryz.sizeOf3
 v3:=Tryz.zeroValue3
 t4:=Tryz.underlying4
 a4:=Tryz.isAgg4
 z4:=Tryz.sizeOf4
 v4:=Tryz.zeroValue4
 t5:=Tryz.underlying5
 a5:=Tryz.isAgg5
 z5:=Tryz.sizeOf5
 v5:=Tryz.zeroValue5
 t9:=Tryz.underlying9
 a9:=Tryz.isAgg9
 z9:=Tryz.sizeOf9
 v9:=Tryz.zeroValue9
 t26:=Tryz.underlying42
 a26:=Tryz.isAgg42
 z26:=Tryz.sizeOf42
 v26:=Tryz.zeroValue42
 t27:=Tryz.underlying42
 a27:=Tryz.isAgg42
 z27:=Tryz.sizeOf42
 v27:=Tryz.zeroValue42
 t29:=Tryz.underlying9
 a29:=Tryz.isAgg9
 z29:=Tryz.sizeOf9
 v29:=Tryz.zeroValue9
 t32:=Tryz.underlying130
 a32:=Tryz.isAgg130
 z32:=Tryz.sizeOf130
 v32:=Tryz.zeroValue130
 t35:=Tryz.underlying158
 a35:=Tryz.isAgg158
 z35:=Tryz.sizeOf158
 v35:=Tryz.zeroValue158
 t36:=Tryz.underlying159
 a36:=Tryz.isAgg159
 z36:=Tryz.sizeOf159
 v36:=Tryz.zeroValue159
 t41:=Tryz.underlying164
 a41:=Tryz.isAgg164
 z41:=Tryz.sizeOf164
 v41:=Tryz.zeroValue164
 t44:=Tryz.underlying167
 a44:=Tryz.isAgg167
 z44:=Tryz.sizeOf167
 v44:=Tryz.zeroValue167
 t46:=Tryz.underlying169
 a46:=Tryz.isAgg169
 z46:=Tryz.sizeOf169
 v46:=Tryz.zeroValue169
 t53:=Tryz.underlying184
 a53:=Tryz.isAgg184
 z53:=Tryz.sizeOf184
 v53:=Tryz.zeroValue184
 t57:=Tryz.underlying60
 a57:=Tryz.isAgg60
 z57:=Tryz.sizeOf60
 v57:=Tryz.zeroValue60
 t63:=Tryz.underlying193
 a63:=Tryz.isAgg193
 z63:=Tryz.sizeOf193
 v63:=Tryz.zeroValue193
 t64:=Tryz.underlying194
 a64:=Tryz.isAgg194
 z64:=Tryz.sizeOf194
 v64:=Tryz.zeroValue194}
def Tryz.keysI_ren:Go.Shelf.Ren:=⟨fun|7=>48|10=>73|n=>n,fun|23=>79|26=>3|3=>4|28=>84|0=>0|27=>83|33=>107|4=>4|n=>n,fun|n=>n⟩
theorem Tryz.keysI:Go.Proofs.SlLaysZI.n7 Tryz.prog Tryz.keysI_ren:= {
 mixed:=by kernel_rfl
 f7:=⟨Tryz.f48.name,by decide,Tryz.func48.trans (congrArg some (by kernel_rfl))⟩
 f10:=⟨Tryz.f73.name,by decide,Tryz.func73.trans (congrArg some (by kernel_rfl))⟩
 t0:=Tryz.underlying0
 a0:=Tryz.isAgg0
 z0:=Tryz.sizeOf0
 v0:=Tryz.zeroValue0
 t4:=Tryz.underlying4
 a4:=Tryz.isAgg4
 z4:=Tryz.sizeOf4
 v4:=Tryz.zeroValue4
 t23:=Tryz.underlying79
 a23:=Tryz.isAgg79
 z23:=Tryz.sizeOf79
 v23:=Tryz.zeroValue79
 t26:=Tryz.underlying3
 a26:=Tryz.isAgg3
 z26:=Tryz.sizeOf3
 v26:=Tryz.zeroValue3
 t27:=Tryz.underlying83
 a27:=Tryz.isAgg83
 z27:=Tryz.sizeOf83
 v27:=Tryz.zeroValue83
 t28:=Tryz.underlying84
 a28:=Tryz.isAgg84
 z28:=Tryz.sizeOf84
 v28:=Tryz.zeroValue84
 t33:=Tryz.underlying107
 a33:=Tryz.isAgg107
 z33:=Tryz.sizeOf107
 v33:=Tryz.zeroValue107}
def Tryz.sortedI_ren:Go.Shelf.Ren:=⟨fun|6=>47|8=>71|9=>72|11=>98|13=>100|12=>99|23=>126|24=>127|14=>117|15=>118|16=>119|17=>120|18=>121|19=>122|20=>123|21=>124|22=>125|25=>153|26=>154|27=>155|28=>156|29=>157|30=>158|31=>170|n=>n,fun|26=>3|28=>84|24=>22|0=>0|3=>3|37=>130|48=>167|50=>169|4=>4|40=>159|39=>158|45=>164|5=>5|9=>9|51=>184|55=>60|57=>193|58=>194|33=>107|n=>n,fun|n=>n⟩
theorem Tryz.sortedI:Go.Proofs.SlLaysZI.n6 Tryz.prog Tryz.sortedI_ren:= {
 mixed:=by kernel_rfl
 f6:=⟨Tryz.f47.name,by decide,Tryz.func47.trans (congrArg some (by kernel_rfl))⟩
 f8:=⟨Tryz.f71.name,by decide,Tryz.func71.trans (congrArg some (by kernel_rfl))⟩
 f11:=⟨Tryz.f98.name,by decide,Tryz.func98.trans (congrArg some (by kernel_rfl))⟩
 t0:=Tryz.underlying0
 a0:=Tryz.isAgg0
 z0:=Tryz.sizeOf0
 v0:=Tryz.zeroValue0
 t24:=Tryz.underlying22
 a24:=Tryz.isAgg22
 z24:=Tryz.sizeOf22
 v24:=Tryz.zeroValue22
 t26:=Tryz.underlying3
 a26:=Tryz.isAgg3
 z26:=Tryz.sizeOf3
 v26:=Tryz.zeroValue3
 t28:=Tryz.underlying84
 a28:=Tryz.isAgg84
 z28:=Tryz.sizeOf84
 v28:=Tryz.zeroValue84
 i26:=by kernel_rfl}
def Tryz.sortI_ren:Go.Shelf.Ren:=⟨fun|5=>72|8=>100|7=>99|19=>126|20=>127|10=>117|11=>118|12=>119|13=>120|14=>121|15=>122|16=>123|17=>124|18=>125|30=>153|31=>154|32=>155|33=>156|34=>157|35=>158|40=>170|n=>n,fun|23=>22|25=>3|3=>3|32=>130|22=>22|0=>0|44=>167|46=>169|4=>4|36=>159|35=>158|41=>164|5=>5|9=>9|53=>184|57=>60|63=>193|64=>194|n=>n,fun|n=>n⟩
theorem Tryz.sortI:Go.Proofs.SlLaysM.n5 Tryz.prog Tryz.sortI_ren:= {
 mixed:=by kernel_rfl
 f5:=⟨Tryz.f72.name,by decide,Tryz.func72.trans (congrArg some (by kernel_rfl))⟩
 f7:=⟨Tryz.f99.name,by decide,Tryz.func99.trans (congrArg some (by kernel_rfl))⟩
 f8:=Tryz.func100.trans (congrArg some (by kernel_rfl))
 f10:=⟨Tryz.f117.name,by decide,Tryz.func117.trans (congrArg some (by kernel_rfl))⟩
 f11:=⟨Tryz.f118.name,by decide,Tryz.func118.trans (congrArg some (by kernel_rfl))⟩
 f12:=⟨Tryz.f119.name,by decide,Tryz.func119.trans (congrArg some (by kernel_rfl))⟩
 f13:=⟨Tryz.f120.name,by decide,Tryz.func120.trans (congrArg some (by kernel_rfl))⟩
 f14:=⟨Tryz.f121.name,by decide,Tryz.func121.trans (congrArg some (by kernel_rfl))⟩
 f15:=⟨Tryz.f122.name,by decide,Tryz.func122.trans (congrArg some (by kernel_rfl))⟩
 f16:=⟨Tryz.f123.name,by decide,Tryz.func123.trans (congrArg some (by kernel_rfl))⟩
 f17:=⟨Tryz.f124.name,by decide,Tryz.func124.trans (congrArg some (by kernel_rfl))⟩
 f18:=⟨Tryz.f125.name,by decide,Tryz.func125.trans (congrArg some (by kernel_rfl))⟩
 f19:=Tryz.func126.trans (congrArg some (by kernel_rfl))
 f20:=Tryz.func127.trans (congrArg some (by kernel_rfl))
 f30:=⟨Tryz.f153.name,by decide,Tryz.func153.trans (congrArg some (by kernel_rfl))⟩
 f31:=Tryz.func154.trans (congrArg some (by kernel_rfl))
 f32:=Tryz.func155.trans (congrArg some (by kernel_rfl))
 f33:=⟨Tryz.f156.name,by decide,Tryz.func156.trans (congrArg some (by kernel_rfl))⟩
 f34:=⟨Tryz.f157.name,by decide,Tryz.func157.trans (congrArg some (by kernel_rfl))⟩
 f35:=⟨Tryz.f158.name,by decide,Tryz.func158.trans (congrArg some (by kernel_rfl))⟩
 f40:=⟨Tryz.f170.name,by decide,Tryz.func170.trans (congrArg some (by kernel_rfl))⟩
 t0:=Tryz.underlying0
 a0:=Tryz.isAgg0
 z0:=Tryz.sizeOf0
 v0:=Tryz.zeroValue0
 t3:=Tryz.underlying3
 a3:=Tryz.isAgg3
 z3:=Tryz.sizeOf3
 v3:=Tryz.zeroValue3
 t4:=Tryz.underlying4
 a4:=Tryz.isAgg4
 z4:=Tryz.sizeOf4
 v4:=Tryz.zeroValue4
 t5:=Tryz.underlying5
 a5:=Tryz.isAgg5
 z5:=Tryz.sizeOf5
 v5:=Tryz.zeroValue5
 t9:=Tryz.underlying9
 a9:=Tryz.isAgg9
 z9:=Tryz.sizeOf9
 v9:=Tryz.zeroValue9
 t22:=Tryz.underlying22
 a22:=Tryz.isAgg22
 z22:=Tryz.sizeOf22
 v22:=Tryz.zeroValue22
 t23:=Tryz.underlying22
 a23:=Tryz.isAgg22
 z23:=Tryz.sizeOf22
 v23:=Tryz.zeroValue22
 t25:=Tryz.underlying3
 a25:=Tryz.isAgg3
 z25:=Tryz.sizeOf3
 v25:=Tryz.zeroValue3
 t32:=Tryz.underlying130
 a32:=Tryz.isAgg130
 z32:=Tryz.sizeOf130
 v32:=Tryz.zeroValue130
 t35:=Tryz.underlying158
 a35:=Tryz.isAgg158
 z35:=Tryz.sizeOf158
 v35:=Tryz.zeroValue158
 t36:=Tryz.underlying159
 a36:=Tryz.isAgg159
 z36:=Tryz.sizeOf159
 v36:=Tryz.zeroValue159
 t41:=Tryz.underlying164
 a41:=Tryz.isAgg164
 z41:=Tryz.sizeOf164
 v41:=Tryz.zeroValue164
 t44:=Tryz.underlying167
 a44:=Tryz.isAgg167
 z44:=Tryz.sizeOf167
 v44:=Tryz.zeroValue167
 t46:=Tryz.underlying169
 a46:=Tryz.isAgg169
 z46:=Tryz.sizeOf169
 v46:=Tryz.zeroValue169
 t53:=Tryz.underlying184
 a53:=Tryz.isAgg184
 z53:=Tryz.sizeOf184
 v53:=Tryz.zeroValue184
 t57:=Tryz.underlying60
 a57:=Tryz.isAgg60
 z57:=Tryz.sizeOf60
 v57:=Tryz.zeroValue60
 t63:=Tryz.underlying193
 a63:=Tryz.isAgg193
 z63:=Tryz.sizeOf193
 v63:=Tryz.zeroValue193
 t64:=Tryz.underlying194
 a64:=Tryz.isAgg194
 z64:=Tryz.sizeOf194
 v64:=Tryz.zeroValue194}
end Go.Proofs
namespace Go.Proofs.YtfjmlfbohenmfaaGreat
open Go Go.RowKit
namespace Li
variable {F:Fence} {n:Nat} {P:Program} {md:Region.Mode} {ops:Array Oper}
def calm(o:Oper):Bool:=match o.op with
  | .load _ _| .store _ _ _| .buildSlice _ _ _| .indexAddr _ _ _| .fieldAddr _ _ _| .move _| .assign _| .alloc _=>true
  | .call c => match c.callee with
    | .builtin b => match b with
      | .append| .len=>true
      |_=>false
    |_=>false
  |_=>false
def Mild:Result Next→Prop
  | .ok (.value _) _| .ok .skip _| .halt _ _=>True
  |_=>False
theorem mild_up{o:Oper}{a:Act}{K:Act→World→Prop}{Q:Exit→Act→World→Prop}{r:Result Next}(hm:Mild r)(h:o.upon P a K Q r):o.uponIn F n P a K Q r:=by
  cases r with
  |ok x w'=>cases x <;> first|exact h|exact hm.elim
  |halt x w'=>cases x <;> exact h
theorem mild_v(s:Sem Value)(w:World):Mild ((do pure (.value (←s)):Sem Next).run P w):=by
  rw[Sem.run_bind];cases s.run P w <;> trivial
theorem mild_u(s:Sem Unit)(w:World):Mild ((do s;pure .skip:Sem Next).run P w):=by
  rw[Sem.run_bind];cases s.run P w <;> trivial
theorem mild_then(r:Result Value):Mild (r.andThen fun a w'=>Result.ok (Next.value a) w'):=by cases r <;> trivial
theorem calm_wp{o:Oper}{a:Act}{K:Act→World→Prop}{Q:Exit→Act→World→Prop}{w:World}(hc:calm o=true)(h:o.wp P a w K Q):o.wpIn F n P a w K Q:=by
  unfold calm at hc;unfold Oper.wp at h;unfold Oper.wpIn
  cases ho:o.op with
  |load t x=>exact⟨fun f hf=>by simp[Oper.about,ho]at hf,by rw[Oper.semAt_eq _ _ _ (fun c e=>by rw[ho]at e;cases e)];refine mild_up ?_ h;unfold execOp;rw[ho];exact mild_v _ _⟩
  |store t x y=>exact⟨fun f hf=>by simp[Oper.about,ho]at hf,by rw[Oper.semAt_eq _ _ _ (fun c e=>by rw[ho]at e;cases e)];refine mild_up ?_ h;unfold execOp;rw[ho];exact mild_u _ _⟩
  |buildSlice t l x=>exact⟨fun f hf=>by simp[Oper.about,ho]at hf,by rw[Oper.semAt_eq _ _ _ (fun c e=>by rw[ho]at e;cases e)];refine mild_up ?_ h;unfold execOp;rw[ho];exact mild_v _ _⟩
  |indexAddr t x y=>exact⟨fun f hf=>by simp[Oper.about,ho]at hf,by rw[Oper.semAt_eq _ _ _ (fun c e=>by rw[ho]at e;cases e)];refine mild_up ?_ h;unfold execOp;rw[ho];exact mild_v _ _⟩
  |fieldAddr t x y=>exact⟨fun f hf=>by simp[Oper.about,ho]at hf,by rw[Oper.semAt_eq _ _ _ (fun c e=>by rw[ho]at e;cases e)];refine mild_up ?_ h;unfold execOp;rw[ho];exact mild_v _ _⟩
  |alloc t=>exact⟨fun f hf=>by simp[Oper.about,ho]at hf,by rw[Oper.semAt_eq _ _ _ (fun c e=>by rw[ho]at e;cases e)];refine mild_up ?_ h;unfold execOp;rw[ho];exact mild_v _ _⟩
  |move x=>exact⟨fun f hf=>by simp[Oper.about,ho]at hf,by rw[Oper.semAt_eq _ _ _ (fun c e=>by rw[ho]at e;cases e)];refine mild_up ?_ h;unfold execOp;rw[ho];trivial⟩
  |assign x=>exact⟨fun f hf=>by simp[Oper.about,ho]at hf,by rw[Oper.semAt_eq _ _ _ (fun c e=>by rw[ho]at e;cases e)];refine mild_up ?_ h;unfold execOp;rw[ho];trivial⟩
  | call c =>
    rw[ho]at hc;obtain⟨callee,args,ts⟩:=c
    cases callee with
    | builtin b =>
      refine⟨fun f hf=> ?_,?_⟩
      · simp[Oper.about,ho,resolve,Target.leads]at hf
      · rw[Oper.semAt_eq _ _ _ (fun c e=>by rw[ho]at e;cases e)]
        refine mild_up ?_ h;unfold execOp;rw[ho];cases b <;> first
          |(exfalso;revert hc;simp;done)
          | (simp only [resolve, invoke, builtin, Sem.run_bind, Sem.run_pure, Result.andThen_ok]
             exact mild_then _)
    |_=>simp at hc
  |_=>rw[ho]at hc;simp at hc
theorem calm_not{o:Oper}{a:Act}{w:World}(hc:calm o=true)(f:FuncId):o.about P w a.eval≠some f:=by
  intro hf;unfold calm at hc
  cases ho:o.op with
  | call c =>
    rw[ho]at hc;obtain⟨callee,args,ts⟩:=c
    cases callee with
    |builtin b=>simp[Oper.about,ho,resolve,Target.leads]at hf
    |_=>simp at hc
  |_=>simp[Oper.about,ho]at hf
theorem lift_op{i:Nat}{a:Act}{K:Act→World→Prop}{Q:Exit→Act→World→Prop}{w:World}(hQ:¬LetsOut Q)(hc:∀o,ops[i]?=some o→calm o=true)(h:wpOp P ops Q i K a w):wpOpIn F n P ops Q i K a w:=by
  unfold wpOp at h;unfold wpOpIn;split
  · rename_i ho;simpa[ho]using h
  · rename_i o ho
    simp only[ho]at h;have hco:=hc o ho;split
    · rename_i hw
      simp only[hw,if_true]at h;exact calm_wp hco (h.resolve_right fun h=>hQ h.2)
    · rename_i hw
      simp only[hw]at h;exact⟨fun f hf=>absurd hf (calm_not hco f),h⟩
theorem lift_any{Q:Exit→Act→World→Prop}(hQ:¬LetsOut Q)(hc:∀(i:Nat) (o:Oper),ops[i]?=some o→calm o=true):∀(fuel:Nat) (listed:Array Bool) (a:Act) (w:World),wpAny P md ops Q fuel listed a w→wpAnyIn F n P md ops Q fuel listed a w
  |0,_,_,_,h=>h
  |fuel+1,_,_,_,h=>⟨h.1,fun i hi=>lift_op hQ (hc i) (wpOp_mono (fun a' w' h'=>lift_any hQ hc fuel _ a' w' h') (h.2 i hi))⟩
theorem held{S:World→Prop}{id:Nat}{Q:Exit→Act→World→Prop}{a:Act}{w:World}(hQ:¬LetsOut Q)(hm:P.follows .mixedOrders=true)(hc:ops.toList.all calm=true)(hS:S w.drew)
    (h:S w.drew→wpAnyH P .any ops Q S ops.size (Array.replicate ops.size false) a w.drew):(Code.region id ops true).wpIn F n P Q a w:=
  wpIn_region_any hm (lift_any hQ (fun i o ho=>by
    obtain⟨hi,rfl⟩:=Array.getElem?_eq_some_iff.1 ho;exact List.all_eq_true.1 hc _ (Array.getElem_mem_toList hi)) _ _ _ _ (wpAny_of_held _ _ _ _ (h hS)))
end Li
end Go.Proofs.YtfjmlfbohenmfaaGreat
namespace Go.Proofs.YtfjmlfbohenmfaaGreat
open Go.RowKit
namespace Cd
end Cd
theorem rIn_any(n:Int)(w:World):
  Calls Tryz.prog 164 #[.int .i64 n] w fun e w'=>e= .returned (.bool (Fx.isF n))∧w=w':=by
 by_cases h: -1152921504606846976≤n
 ·go_enter Tryz.func164,Tryz.ntmps164;go_wp2;go_ret;exact⟨by simp[Fx.isF,h],rfl⟩
 ·go_enter Tryz.func164,Tryz.ntmps164;go_wp2;go_ret;exact⟨by simp[Fx.isF];omega,rfl⟩
theorem got_any(n:Int)(w:World):
  Calls Tryz.prog 179 #[.int .i64 n] w fun e w'=>e= .returned (.tuple #[.int .i64 (Fx.fitsV n).1,.int .i64 (Fx.fitsV n).2])∧w=w':=by
 cases h:Fx.isF n
 ·have e1:=zh (show Fx.fitsV n=(0,10)by simp[Fx.fitsV,h]);go_enter Tryz.func179,Tryz.ntmps179;go_wp2_with(go_at_call 164;refine(rIn_any _ _).mono ?_;rintro e w' ⟨rfl,rfl⟩)
  go_ret2
  exact⟨Fx.R_mk e1.out,rfl⟩
 ·have e1:=zh (show Fx.fitsV n=(n,0)by simp[Fx.fitsV,h]);go_enter Tryz.func179,Tryz.ntmps179;go_wp2_with(go_at_call 164;refine(rIn_any _ _).mono ?_;rintro e w' ⟨rfl,rfl⟩)
  go_ret2
  exact⟨Fx.R_mk e1.out,rfl⟩
namespace Fx
end Fx
namespace Fx
end Fx
namespace Fx
theorem get_drop(s:ByteArray)(at_:Nat):(s.data.toList.drop at_).all isD=true↔∀j (h:j<s.size),at_≤j→isD s[j]=true:=by
  rw[List.all_eq_true];constructor
  · intro H j h hj
    refine H s[j] ?_;rw[List.mem_iff_getElem];refine⟨j - at_,by rw[List.length_drop,size_toList];omega,?_⟩;rw[List.getElem_drop];have e:at_+(j - at_)=j:=by omega
    simp only[e]
    rfl
  · intro H x hx
    obtain⟨i,hi,rfl⟩:=List.getElem_of_mem hx;rw[List.getElem_drop];rw[List.length_drop,size_toList]at hi;exact H (at_+i) (by omega) (by omega)
def allFrom(s:ByteArray)(at_:Nat):Bool:=(s.data.toList.drop at_).all isD
def pre(s:ByteArray)(at_ k:Nat):List UInt8:=(s.data.toList.take k).drop at_
theorem pre_snoc(s:ByteArray)(at_ k:Nat)(h:k<s.size)(ha:at_≤k):pre s at_ (k+1)=pre s at_ k++[s[k]]:=by
  unfold pre;rw[take_snoc s k h,List.drop_append_of_le_length (by rw[List.length_take,size_toList];omega)]
theorem pre_end(s:ByteArray)(at_:Nat):pre s at_ s.size=s.data.toList.drop at_:=by
  unfold pre;rw[List.take_of_length_le (by rw[size_toList];exact Nat.le_refl _)]
theorem val_mono(l m:List UInt8):val l≤val (l++m):=by
  induction m generalizing l with
  |nil=>simp
  | cons c m ih =>
    have:=ih (l++[c]);rw[val_snoc,List.append_assoc]at this;exact Nat.le_trans (by omega) this
theorem pre_le(s:ByteArray)(at_ k:Nat)(hk:k≤s.size):val (pre s at_ k)≤val (s.data.toList.drop at_):=by
  unfold pre;by_cases h:at_≤k
  · have:s.data.toList.drop at_=(s.data.toList.take k).drop at_++s.data.toList.drop k:=by
      rw[←List.drop_append_of_le_length (by rw[List.length_take,size_toList];omega),List.take_append_drop]
    rw[this];exact val_mono _ _
  · rw[List.drop_eq_nil_of_le (by rw[List.length_take];omega)]
    simp[val]
theorem val_ge(c:UInt8)(l:List UInt8)(hc:1≤c.toNat - 48)(_h:l.all isD=true):10 ^ l.length≤val (c :: l):=by
  have key:∀(l:List UInt8) (v k:Nat),10 ^ k≤v→10 ^ (k+l.length)≤l.foldl (fun v c=>10*v+(c.toNat - 48)) v:=by
    intro l
    induction l with
    |nil=>intro v k hv;simpa using hv
    | cons d l ih =>
      intro v k hv;rw[List.foldl_cons,List.length_cons,show k+(l.length+1)=(k+1)+l.length from by omega];refine ih _ _ ?_;rw[Nat.pow_succ];omega
  have:=key l (10*0+(c.toNat - 48)) 0 (by simpa using hc);rw[Nat.zero_add]at this;exact this
end Fx
theorem b2(p q:Bool)(h:p=q):Ending.returned (.bool p)= .returned (.bool q):=by rw[h]
theorem Form_plain(s:ByteArray)(w:World)(hs:s.size≤9223372036854775807)(h0:0<s.size)(hm:((s[0].toNat:Int)==45)=false)(hz:((s[0].toNat:Int)==48)=false):
    Calls Tryz.prog 178 #[.string s] w fun e w'=>e= .returned (.bool (Fx.allFrom s 0))∧w=w':=by
  have hne':0<(s.size:Int):=by omega
  have hne0:((s.size:Int)==0)=false:=beq_eq_false_iff_ne.2 (by omega);go_enter Tryz.func178,Tryz.ntmps178;go_wp2
  go_loop [4] (fun i=>∃k:Nat,0≤k∧k≤s.size∧i= .int .i64 k∧Hid (∀j (h:j<s.size),0≤j→j<k→Fx.isD s[j]=true)) (fun i=>s.size - (intOf i).toNat)
  case atStart=>exact⟨0,Nat.le_refl _,by omega,rfl,fun j _ h1 h2=>absurd h2 (by omega)⟩
  case round=>
    obtain⟨k,hak,hk,rfl,HA⟩:=hrel;by_cases hlt:k<s.size
    · cases hD:Fx.isD s[k]
      · have e1:Hid (Fx.allFrom s 0=false):=by
          show Fx.allFrom s _=false;rw[Bool.eq_false_iff];intro h;have:=(Fx.get_drop s 0).1 h k hlt hak;rw[hD]at this;cases this
        have hc:s[k].toNat<48∨57<s[k].toNat:=by simp[Fx.isD]at hD;omega
        clear hD;rcases hc with hc|hc
        · have hc':((s[k].toNat:Nat):Int)<48:=by omega
          clear hc;go_wp2;go_ret;exact⟨b2 _ _ e1.out.symm,rfl⟩
        · have hc':57<((s[k].toNat:Nat):Int):=by omega
          clear hc;go_wp2;go_ret;exact⟨b2 _ _ e1.out.symm,rfl⟩
      · have hc:48≤s[k].toNat∧s[k].toNat≤57:=by simpa[Fx.isD]using hD
        have hc1:48≤((s[k].toNat:Nat):Int):=by omega
        have hc2:((s[k].toNat:Nat):Int)≤57:=by omega
        have HA2:Hid (∀j (h:j<s.size),0≤j→j<k+1→Fx.isD s[j]=true):=fun j h h1 hj=>by
          by_cases hjk:j=k
          · subst hjk;exact hD
          · exact HA.out j h h1 (by omega)
        clear hD hc;go_wp2
        go_round
        case rel=>exact⟨k+1,by omega,by omega,by go_num,HA2⟩
        case measure=>simp[intOf];omega
    · have e1:Hid (Fx.allFrom s 0=true):=(Fx.get_drop s 0).2 (fun j h h1=>HA.out j h h1 (by omega))
      go_wp2;go_ret;exact⟨b2 _ _ e1.out.symm,rfl⟩
theorem Form_zero(s:ByteArray)(w:World)(hs:s.size≤9223372036854775807)(h0:s.size=1)(h00:0<s.size)(hz:((s[0].toNat:Int)==48)=true):
    Calls Tryz.prog 178 #[.string s] w fun e w'=>e= .returned (.bool (Fx.allFrom s 0))∧w=w':=by
  have hm:((s[0].toNat:Int)==45)=false:=by
    have:(s[0].toNat:Int)=48:=by simpa using hz
    rw[this];decide
  have h0a:s.size≤1:=by omega
  have h0b:(s.size:Int)≤1:=by omega
  clear h0;have hne':0<(s.size:Int):=by omega
  have hne0:((s.size:Int)==0)=false:=beq_eq_false_iff_ne.2 (by omega);go_enter Tryz.func178,Tryz.ntmps178;go_wp2
  go_loop [4] (fun i=>∃k:Nat,0≤k∧k≤s.size∧i= .int .i64 k∧Hid (∀j (h:j<s.size),0≤j→j<k→Fx.isD s[j]=true)) (fun i=>s.size - (intOf i).toNat)
  case atStart=>exact⟨0,Nat.le_refl _,by omega,rfl,fun j _ h1 h2=>absurd h2 (by omega)⟩
  case round=>
    obtain⟨k,hak,hk,rfl,HA⟩:=hrel;by_cases hlt:k<s.size
    · cases hD:Fx.isD s[k]
      · have e1:Hid (Fx.allFrom s 0=false):=by
          show Fx.allFrom s _=false;rw[Bool.eq_false_iff];intro h;have:=(Fx.get_drop s 0).1 h k hlt hak;rw[hD]at this;cases this
        have hc:s[k].toNat<48∨57<s[k].toNat:=by simp[Fx.isD]at hD;omega
        clear hD;rcases hc with hc|hc
        · have hc':((s[k].toNat:Nat):Int)<48:=by omega
          clear hc;go_wp2;go_ret;exact⟨b2 _ _ e1.out.symm,rfl⟩
        · have hc':57<((s[k].toNat:Nat):Int):=by omega
          clear hc;go_wp2;go_ret;exact⟨b2 _ _ e1.out.symm,rfl⟩
      · have hc:48≤s[k].toNat∧s[k].toNat≤57:=by simpa[Fx.isD]using hD
        have hc1:48≤((s[k].toNat:Nat):Int):=by omega
        have hc2:((s[k].toNat:Nat):Int)≤57:=by omega
        have HA2:Hid (∀j (h:j<s.size),0≤j→j<k+1→Fx.isD s[j]=true):=fun j h h1 hj=>by
          by_cases hjk:j=k
          · subst hjk;exact hD
          · exact HA.out j h h1 (by omega)
        clear hD hc;go_wp2
        go_round
        case rel=>exact⟨k+1,by omega,by omega,by go_num,HA2⟩
        case measure=>simp[intOf];omega
    · have e1:Hid (Fx.allFrom s 0=true):=(Fx.get_drop s 0).2 (fun j h h1=>HA.out j h h1 (by omega))
      go_wp2;go_ret;exact⟨b2 _ _ e1.out.symm,rfl⟩
theorem Form_minus(s:ByteArray)(w:World)(hs:s.size≤9223372036854775807)(h0:1<s.size)(hm:((s[0].toNat:Int)==45)=true)(hz:((s[1].toNat:Int)==48)=false):
    Calls Tryz.prog 178 #[.string s] w fun e w'=>e= .returned (.bool (Fx.allFrom s 1))∧w=w':=by
  have hne':0<(s.size:Int):=by omega
  have hne0:((s.size:Int)==1)=false:=beq_eq_false_iff_ne.2 (by omega);have hne1:1<(s.size:Int):=by omega
  go_enter Tryz.func178,Tryz.ntmps178;go_wp2
  go_loop [4] (fun i=>∃k:Nat,1≤k∧k≤s.size∧i= .int .i64 k∧Hid (∀j (h:j<s.size),1≤j→j<k→Fx.isD s[j]=true)) (fun i=>s.size - (intOf i).toNat)
  case atStart=>exact⟨1,Nat.le_refl _,by omega,rfl,fun j _ h1 h2=>absurd h2 (by omega)⟩
  case round=>
    obtain⟨k,hak,hk,rfl,HA⟩:=hrel;by_cases hlt:k<s.size
    · cases hD:Fx.isD s[k]
      · have e1:Hid (Fx.allFrom s 1=false):=by
          show Fx.allFrom s _=false;rw[Bool.eq_false_iff];intro h;have:=(Fx.get_drop s 1).1 h k hlt hak;rw[hD]at this;cases this
        have hc:s[k].toNat<48∨57<s[k].toNat:=by simp[Fx.isD]at hD;omega
        clear hD;rcases hc with hc|hc
        · have hc':((s[k].toNat:Nat):Int)<48:=by omega
          clear hc;go_wp2;go_ret;exact⟨b2 _ _ e1.out.symm,rfl⟩
        · have hc':57<((s[k].toNat:Nat):Int):=by omega
          clear hc;go_wp2;go_ret;exact⟨b2 _ _ e1.out.symm,rfl⟩
      · have hc:48≤s[k].toNat∧s[k].toNat≤57:=by simpa[Fx.isD]using hD
        have hc1:48≤((s[k].toNat:Nat):Int):=by omega
        have hc2:((s[k].toNat:Nat):Int)≤57:=by omega
        have HA2:Hid (∀j (h:j<s.size),1≤j→j<k+1→Fx.isD s[j]=true):=fun j h h1 hj=>by
          by_cases hjk:j=k
          · subst hjk;exact hD
          · exact HA.out j h h1 (by omega)
        clear hD hc;go_wp2
        go_round
        case rel=>exact⟨k+1,by omega,by omega,by go_num,HA2⟩
        case measure=>simp[intOf];omega
    · have e1:Hid (Fx.allFrom s 1=true):=(Fx.get_drop s 1).2 (fun j h h1=>HA.out j h h1 (by omega))
      go_wp2;go_ret;exact⟨b2 _ _ e1.out.symm,rfl⟩
theorem Form_empty(s:ByteArray)(w:World)(hs:s.size≤9223372036854775807)(h0:s=⟨#[]⟩):
    Calls Tryz.prog 178 #[.string s] w fun e w'=>e= .returned (.bool false)∧w=w':=by
  subst h0;go_enter Tryz.func178,Tryz.ntmps178;go_wp2;go_ret;exact⟨rfl,rfl⟩
theorem Form_lead(s:ByteArray)(w:World)(hs:s.size≤9223372036854775807)(h0:1<s.size)(h00:0<s.size)(hz:((s[0].toNat:Int)==48)=true):
    Calls Tryz.prog 178 #[.string s] w fun e w'=>e= .returned (.bool false)∧w=w':=by
  have hm:((s[0].toNat:Int)==45)=false:=by
    have:(s[0].toNat:Int)=48:=by simpa using hz
    rw[this];decide
  have hne':0<(s.size:Int):=by omega
  have hne0:((s.size:Int)==0)=false:=beq_eq_false_iff_ne.2 (by omega);have hne1:1<(s.size:Int):=by omega
  go_enter Tryz.func178,Tryz.ntmps178;go_wp2;go_ret;exact⟨rfl,rfl⟩
theorem Form_sign(s:ByteArray)(w:World)(_hs:s.size≤9223372036854775807)(h0:0<s.size)(hm:((s[0].toNat:Int)==45)=true)(h1:s.size=1):
    Calls Tryz.prog 178 #[.string s] w fun e w'=>e= .returned (.bool false)∧w=w':=by
  have hne:((s.size:Int)==1)=true:=beq_iff_eq.2 (by omega);have hne':0<(s.size:Int):=by omega
  clear h1;go_enter Tryz.func178,Tryz.ntmps178;go_wp2;go_ret;exact⟨rfl,rfl⟩
theorem Form_slead(s:ByteArray)(w:World)(hs:s.size≤9223372036854775807)(h0:1<s.size)(hm:((s[0].toNat:Int)==45)=true)(hz:((s[1].toNat:Int)==48)=true):
    Calls Tryz.prog 178 #[.string s] w fun e w'=>e= .returned (.bool false)∧w=w':=by
  have hne':0<(s.size:Int):=by omega
  have hne0:((s.size:Int)==1)=false:=beq_eq_false_iff_ne.2 (by omega);have hne1:1<(s.size:Int):=by omega
  go_enter Tryz.func178,Tryz.ntmps178;go_wp2;go_ret;exact⟨rfl,rfl⟩
theorem Fx.at_eq(s:ByteArray)(h0:0<s.size)(k:Nat)(hk:k<256):((s[0].toNat:Int)==(k:Int))=(s.data.toList.head?==some (UInt8.ofNat k)):=by
  rw[Fx.at0 s h0];by_cases h:s[0].toNat=k
  · have e:s[0]=UInt8.ofNat k:=UInt8.toNat_inj.1 (by rw[h];simp;omega)
    rw[beq_iff_eq.2 (show(s[0].toNat:Int)=k by omega),e];simp
  · have e:s[0]≠UInt8.ofNat k:=fun e=>h (by rw[e];simp;omega)
    rw[beq_eq_false_iff_ne.2 (show(s[0].toNat:Int)≠k by omega)];exact(beq_eq_false_iff_ne.2 (fun h=>e (by injection h))).symm
theorem Fx.cases(s:ByteArray)(P:Prop)
    (empty:s=⟨#[]⟩→P)
    (sign:∀h0:0<s.size,s.size=1→((s[0].toNat:Int)==45)=true→Fx.form s.data.toList=false→P)
    (slead:∀h1:1<s.size,((s[0].toNat:Int)==45)=true→((s[1].toNat:Int)==48)=true→Fx.form s.data.toList=false→P)
    (minus:∀h1:1<s.size,((s[0].toNat:Int)==45)=true→((s[1].toNat:Int)==48)=false→Fx.form s.data.toList=Fx.allFrom s 1→Fx.dig s.data.toList=s.data.toList.drop 1→Fx.neg s.data.toList=true→P)
    (lead:∀h0:0<s.size,1<s.size→((s[0].toNat:Int)==48)=true→Fx.form s.data.toList=false→P)
    (zero:∀h0:0<s.size,s.size=1→((s[0].toNat:Int)==48)=true→Fx.form s.data.toList=Fx.allFrom s 0→Fx.dig s.data.toList=s.data.toList.drop 0→Fx.neg s.data.toList=false→P)
    (plain:∀h0:0<s.size,((s[0].toNat:Int)==45)=false→((s[0].toNat:Int)==48)=false→Fx.form s.data.toList=Fx.allFrom s 0→Fx.dig s.data.toList=s.data.toList.drop 0→Fx.neg s.data.toList=false→P):P:=by
  by_cases h0:s.size=0
  · refine empty ?_
    obtain⟨⟨l⟩⟩:=s
    cases l with
    |nil=>rfl
    |cons c l=>simp[ByteArray.size]at h0
  have hp:0<s.size:=by omega
  have hl:=Fx.size_toList s;have q45:=Fx.at_eq s hp 45 (by omega);have q48:=Fx.at_eq s hp 48 (by omega);cases hm:(((s[0]'hp).toNat:Int)==45)
  · have q45':(s.data.toList.head?==some 45)=false:=q45.symm.trans hm
    have hdig:Fx.dig s.data.toList=s.data.toList:=by unfold Fx.dig;rw[if_neg (by simpa using q45')]
    have hneg:Fx.neg s.data.toList=false:=q45';have hne:s.data.toList.isEmpty=false:=by rw[List.isEmpty_eq_false_iff];intro h;rw[h]at hl;simp at hl;omega
    cases hz:(((s[0]'hp).toNat:Int)==48)
    · have q48':(s.data.toList.head?==some 48)=false:=q48.symm.trans hz
      exact plain hp hm hz (by unfold Fx.form Fx.allFrom;rw[hdig,q48',hne];simp) hdig hneg
    · have q48':(s.data.toList.head?==some 48)=true:=q48.symm.trans hz
      by_cases h1:s.size=1
      · exact zero hp h1 hz (by unfold Fx.form Fx.allFrom;rw[hdig,q48',hne,hl,h1];simp) hdig hneg
      · exact lead hp (by omega) hz (by unfold Fx.form;rw[hdig,q48',hl];simp;omega)
  · have q45':(s.data.toList.head?==some 45)=true:=q45.symm.trans hm
    have hdig:Fx.dig s.data.toList=s.data.toList.tail:=by unfold Fx.dig;rw[if_pos (by simpa using q45')]
    have hneg:Fx.neg s.data.toList=true:=q45';by_cases h1:s.size=1
    · refine sign hp h1 hm ?_
      have:s.data.toList.tail=[]:=List.eq_nil_of_length_eq_zero (by rw[List.length_tail];omega);unfold Fx.form;rw[hdig,this];rfl
    have h1':1<s.size:=by omega
    have hh:s.data.toList.tail.head?=some s[1]:=by
      rw[List.head?_eq_getElem?,List.getElem?_tail,List.getElem?_eq_getElem (by rw[hl];exact h1')]
      rfl
    have hne:s.data.toList.tail.isEmpty=false:=by rw[List.isEmpty_eq_false_iff];intro h;rw[h]at hh;cases hh
    cases hz:((s[1].toNat:Int)==48)
    · have:(some s[1]==some (48:UInt8))=false:=by
        rw[beq_eq_false_iff_ne];intro h;injection h with h;rw[h]at hz;revert hz;decide
      refine minus h1' hm hz ?_ (by rw[hdig,List.drop_one]) hneg;unfold Fx.form Fx.allFrom;rw[hdig,hh,this,hne,List.drop_one];simp
    · have h48 : s[1] = 48 := UInt8.toNat_inj.1 (by have : (s[1].toNat : Int) = 48 := by simpa using hz
                                                    have:s[1].toNat=48:=by omega
                                                    rw[this];rfl)
      refine slead h1' hm hz ?_;unfold Fx.form;rw[hdig,hh,h48,hl];simp;omega
theorem Form_any(s:ByteArray)(w:World)(hs:s.size≤9223372036854775807):
    Calls Tryz.prog 178 #[.string s] w fun e w'=>e= .returned (.bool (Fx.form s.data.toList))∧w=w':=by
  refine Fx.cases s _ (fun h=> ?_) (fun h0 h1 hm hf=> ?_) (fun h1 hm hz hf=> ?_) (fun h1 hm hz hf _ _=> ?_) (fun h0 h1 hz hf=> ?_) (fun h0 h1 hz hf _ _=> ?_) (fun h0 hm hz hf _ _=> ?_)
  · subst h;exact Form_empty _ w (by simp[ByteArray.size]) rfl
  · rw[hf];exact Form_sign s w hs h0 hm h1
  · rw[hf];exact Form_slead s w hs h1 hm hz
  · rw[hf];exact Form_minus s w hs h1 hm hz
  · rw[hf];exact Form_lead s w hs h1 h0 hz
  · rw[hf];exact Form_zero s w hs h1 h0 hz
  · rw[hf];exact Form_plain s w hs h0 hm hz
namespace Fx
theorem parse_over(s:ByteArray)(at_ k:Nat)(hf:form s.data.toList=true)(hd:dig s.data.toList=s.data.toList.drop at_)(hk:k≤s.size)(h:1152921504606846976<val (pre s at_ k)):parse s.data.toList=(0,10):=by
  have:=pre_le s at_ k hk;unfold parse;rw[if_pos hf,hd];split
  · rfl
  · unfold signedV;rw[if_pos (.inr (by omega))]
theorem parse_end(s:ByteArray)(at_:Nat)(hf:form s.data.toList=true)(hd:dig s.data.toList=s.data.toList.drop at_)(h:val (pre s at_ s.size)≤1152921504606846976):
    parse s.data.toList=fitsV (if neg s.data.toList then -(val (pre s at_ s.size):Int)else(val (pre s at_ s.size):Int)):=by
  rw[pre_end]at h ⊢;have hlen:(s.data.toList.drop at_).length≤19:=by
    apply Classical.byContradiction
    intro hc;have h3:form s.data.toList=true:=hf;unfold form at h3;rw[hd]at h3;simp only[Bool.and_eq_true,Bool.not_eq_true',List.isEmpty_eq_false_iff]at h3;obtain⟨⟨h4,h5⟩,h6⟩:=h3
    cases hl:s.data.toList.drop at_ with
    |nil=>rw[hl]at hc;simp at hc
    | cons c l =>
      rw[hl]at hc h5 h6 h;have h7:isD c=true∧l.all isD=true:=by simpa using h6
      have h8:1<s.data.toList.length:=by
        have:=congrArg List.length hl;rw[List.length_drop]at this;simp only[List.length_cons]at hc this;omega
      have h9:c≠48:=by
        intro e;subst e;rw[show((48 :: l).head?==some (48:UInt8))=true from rfl,decide_eq_true h8]at h5;cases h5
      have h10:1≤c.toNat - 48:=by
        have:=h7.1;simp[isD]at this;have:c.toNat≠48:=fun e=>h9 (UInt8.toNat_inj.1 (by rw[e];rfl))
        omega
      have h11:=val_ge c l h10 h7.2;have h12:(10:Nat) ^ 19≤10 ^ l.length:=Nat.pow_le_pow_right (by omega) (by simp at hc;omega);have h13:(10:Nat) ^ 19=10000000000000000000:=by decide
      omega
  unfold parse;rw[if_pos hf,hd,if_neg (by omega)];unfold signedV;rw[if_neg (by omega)]
end Fx
theorem rParse_minus(s:ByteArray)(w:World)(h00:0<s.size)(h20:s.size≤20)(hm:((s[0].toNat:Int)==45)=true)(hf:Fx.form s.data.toList=true)(hd:Fx.dig s.data.toList=s.data.toList.drop 1)(hn:Fx.neg s.data.toList=true)(ha:Fx.allFrom s 1=true):
    Calls Tryz.prog 177 #[.string s] w fun e w'=>e= .returned (Fx.R (Fx.parse s.data.toList))∧w=w':=by
  have HF:=zh (fun w=>Form_any s w (by omega));rw[hf]at HF;have HO:=zh (fun k=>Fx.parse_over s 1 k hf hd);have HE:=zh (Fx.parse_end s 1 hf hd);rw[hn]at HE;have HD:=zh ((Fx.get_drop s 1).1 ha);clear hf hd hn ha;have hp:0<(s.size:Int):=by omega
  go_enter Tryz.func177,Tryz.ntmps177;go_wp2_with(go_at_call 178;refine(HF.out _).mono ?_;rintro e w' ⟨rfl,rfl⟩)
  go_loop [4,5] (fun n i=>∃k v:Nat,k≤s.size∧i= .int .i64 k∧n= .int .i64 (-(v:Int))∧v≤1152921504606846976∧Hid (v=Fx.val (Fx.pre s 1 k))) (fun _ i=>s.size - (intOf i).toNat)
  case atStart=>exact⟨0,0,Nat.zero_le _,rfl,rfl,by omega,by show 0=Fx.val _;simp[Fx.pre,Fx.val]⟩
  case round=>
    obtain⟨k,v,hk,rfl,rfl,hv,HV⟩:=hrel;by_cases hlt:k<s.size
    · by_cases hk0:k=0
      · subst hk0
        have HV2:Hid (v=Fx.val (Fx.pre s 1 1)):=by
          show v=_;rw[HV.out];have:Fx.pre s 1 1=[]:=by unfold Fx.pre;rw[List.drop_eq_nil_of_le (by rw[List.length_take];omega)]
          rw[this];simp[Fx.pre,Fx.val]
        go_wp2
        go_round
        case rel=>exact⟨1,v,by omega,rfl,rfl,hv,HV2⟩
        case measure=>simp[intOf];omega
      have hka:1≤k:=by omega
      have hD:=HD.out k hlt hka;have hc:48≤s[k].toNat∧s[k].toNat≤57:=by simpa[Fx.isD]using hD
      have hs:=Fx.val_snoc (Fx.pre s 1 k) s[k];rw[←Fx.pre_snoc s 1 k hlt hka,←HV.out]at hs;have HS:=zh hs;have hc0:(((s[k].toNat:Nat):Int)==45)=false:=beq_eq_false_iff_ne.2 (by omega);have hc1:48≤((s[k].toNat:Nat):Int):=by omega
      have hc2:((s[k].toNat:Nat):Int)≤57:=by omega
      clear hs hD hc;by_cases hov:115292150460684697<v
      · have e1:=zh (HO.out (k+1) hlt (by rw[HS.out];omega))
        go_wp2
        go_ret2
        exact⟨Fx.R_mk e1.out,rfl⟩
      by_cases hov2:1152921504606846976<10*v+(s[k].toNat - 48)
      · have e1:=zh (HO.out (k+1) hlt (by rw[HS.out];omega))
        have hv2: -10*(v:Int) - (((s[k].toNat:Nat):Int) - 48)< -1152921504606846976:=by omega
        clear hov2;go_wp2
        go_ret2
        exact⟨Fx.R_mk e1.out,rfl⟩
      have hv3:10*v+(s[k].toNat - 48)≤1152921504606846976:=by omega
      have HV3:Hid (10*v+(s[k].toNat - 48)=Fx.val (Fx.pre s 1 (k+1))):=HS.out.symm;have hv2: -1152921504606846976≤ -10*(v:Int) - (((s[k].toNat:Nat):Int) - 48):=by omega
      clear hov2;go_wp2
      go_round
      case rel=>exact⟨k+1,10*v+(s[k].toNat - 48),by omega,by go_num,congrArg (Value.int .i64) (by omega),hv3,HV3⟩
      case measure=>simp[intOf];omega
    · obtain rfl:k=s.size:=by omega
      have hv':Fx.val (Fx.pre s 1 s.size)≤1152921504606846976:=by rw[←HV.out];exact hv
      have e1:=zh (HE.out hv');rw[←HV.out]at e1;have e2:Hid (Fx.parse s.data.toList=(-(v:Int),0)):=e1.out.trans (by simp only[if_true];exact Fx.fitsV_ok (Fx.isF_mk (by omega)));go_wp2
      go_ret2
      exact⟨Fx.R_mk e2.out,rfl⟩
theorem rParse_plain(s:ByteArray)(w:World)(h00:0<s.size)(h20:s.size≤20)(hm:((s[0].toNat:Int)==45)=false)(hf:Fx.form s.data.toList=true)(hd:Fx.dig s.data.toList=s.data.toList.drop 0)(hn:Fx.neg s.data.toList=false)(ha:Fx.allFrom s 0=true):
    Calls Tryz.prog 177 #[.string s] w fun e w'=>e= .returned (Fx.R (Fx.parse s.data.toList))∧w=w':=by
  have HF:=zh (fun w=>Form_any s w (by omega));rw[hf]at HF;have HO:=zh (fun k=>Fx.parse_over s 0 k hf hd);have HE:=zh (Fx.parse_end s 0 hf hd);rw[hn]at HE;have HD:=zh ((Fx.get_drop s 0).1 ha);clear hf hd hn ha;have hp:0<(s.size:Int):=by omega
  go_enter Tryz.func177,Tryz.ntmps177;go_wp2_with(go_at_call 178;refine(HF.out _).mono ?_;rintro e w' ⟨rfl,rfl⟩)
  go_loop [4,5] (fun n i=>∃k v:Nat,k≤s.size∧i= .int .i64 k∧n= .int .i64 (-(v:Int))∧v≤1152921504606846976∧Hid (v=Fx.val (Fx.pre s 0 k))) (fun _ i=>s.size - (intOf i).toNat)
  case atStart=>exact⟨0,0,Nat.zero_le _,rfl,rfl,by omega,by show 0=Fx.val _;simp[Fx.pre,Fx.val]⟩
  case round=>
    obtain⟨k,v,hk,rfl,rfl,hv,HV⟩:=hrel;by_cases hlt:k<s.size
    · have hka:0≤k:=by omega
      have hD:=HD.out k hlt hka;have hc:48≤s[k].toNat∧s[k].toNat≤57:=by simpa[Fx.isD]using hD
      have hs:=Fx.val_snoc (Fx.pre s 0 k) s[k];rw[←Fx.pre_snoc s 0 k hlt hka,←HV.out]at hs;have HS:=zh hs;have hc0:(((s[k].toNat:Nat):Int)==45)=false:=beq_eq_false_iff_ne.2 (by omega);have hc1:48≤((s[k].toNat:Nat):Int):=by omega
      have hc2:((s[k].toNat:Nat):Int)≤57:=by omega
      clear hs hD hc;by_cases hov:115292150460684697<v
      · have e1:=zh (HO.out (k+1) hlt (by rw[HS.out];omega))
        go_wp2
        go_ret2
        exact⟨Fx.R_mk e1.out,rfl⟩
      by_cases hov2:1152921504606846976<10*v+(s[k].toNat - 48)
      · have e1:=zh (HO.out (k+1) hlt (by rw[HS.out];omega))
        have hv2: -10*(v:Int) - (((s[k].toNat:Nat):Int) - 48)< -1152921504606846976:=by omega
        clear hov2;go_wp2
        go_ret2
        exact⟨Fx.R_mk e1.out,rfl⟩
      have hv3:10*v+(s[k].toNat - 48)≤1152921504606846976:=by omega
      have HV3:Hid (10*v+(s[k].toNat - 48)=Fx.val (Fx.pre s 0 (k+1))):=HS.out.symm;have hv2: -1152921504606846976≤ -10*(v:Int) - (((s[k].toNat:Nat):Int) - 48):=by omega
      clear hov2;go_wp2
      go_round
      case rel=>exact⟨k+1,10*v+(s[k].toNat - 48),by omega,by go_num,congrArg (Value.int .i64) (by omega),hv3,HV3⟩
      case measure=>simp[intOf];omega
    · obtain rfl:k=s.size:=by omega
      have hv':Fx.val (Fx.pre s 0 s.size)≤1152921504606846976:=by rw[←HV.out];exact hv
      have e1:=zh (HE.out hv');rw[←HV.out]at e1;have e2:Hid (Fx.parse s.data.toList=Fx.fitsV v):=e1.out.trans (by simp);go_wp2_with(go_at_call 179;refine(got_any _ _).mono ?_;rintro e w' ⟨rfl,rfl⟩)
      go_ret2
      exact⟨Fx.R_mk e2.out,rfl⟩
theorem rParse_form(s:ByteArray)(w:World)(hs:s.size≤9223372036854775807)(hf:Fx.form s.data.toList=false):
    Calls Tryz.prog 177 #[.string s] w fun e w'=>e= .returned (Fx.R (Fx.parse s.data.toList))∧w=w':=by
  have HF:=zh (fun w=>Form_any s w hs);rw[hf]at HF;have e1:Hid (Fx.parse s.data.toList=(0,5)):=by show _=_;unfold Fx.parse;rw[hf];rfl
  clear hf;go_enter Tryz.func177,Tryz.ntmps177;go_wp2_with(go_at_call 178;refine(HF.out _).mono ?_;rintro e w' ⟨rfl,rfl⟩)
  go_ret2
  exact⟨Fx.R_mk e1.out,rfl⟩
theorem rParse_long(s:ByteArray)(w:World)(hs:s.size≤9223372036854775807)(hf:Fx.form s.data.toList=true)(hl:20<s.size):
    Calls Tryz.prog 177 #[.string s] w fun e w'=>e= .returned (Fx.R (Fx.parse s.data.toList))∧w=w':=by
  have HF:=zh (fun w=>Form_any s w hs);rw[hf]at HF;have hdl:19<(Fx.dig s.data.toList).length:=by
    have:=Fx.size_toList s;unfold Fx.dig;split
    · rw[List.length_tail];omega
    · omega
  have e1:Hid (Fx.parse s.data.toList=(0,10)):=by show _=_;unfold Fx.parse;rw[hf,if_pos rfl,if_pos hdl]
  clear hf hdl;go_enter Tryz.func177,Tryz.ntmps177;go_wp2_with(go_at_call 178;refine(HF.out _).mono ?_;rintro e w' ⟨rfl,rfl⟩)
  go_ret2
  exact⟨Fx.R_mk e1.out,rfl⟩
theorem rParse_any(s:ByteArray)(w:World)(hs:s.size≤9223372036854775807):
    Calls Tryz.prog 177 #[.string s] w fun e w'=>e= .returned (Fx.R (Fx.parse s.data.toList))∧w=w':=by
  cases hf:Fx.form s.data.toList
  · exact rParse_form s w hs hf
  by_cases hl:20<s.size
  · exact rParse_long s w hs hf hl
  have no:Fx.form s.data.toList=false→False:=fun h=>by rw[hf]at h;cases h
  refine Fx.cases s _ (fun h=> ?_) (fun h0 h1 hm hf'=>(no hf').elim) (fun h1 hm hz hf'=>(no hf').elim) (fun h1 hm hz hf' hd hn=> ?_) (fun h0 h1 hz hf'=>(no hf').elim) (fun h0 h1 hz hf' hd hn=> ?_) (fun h0 hm hz hf' hd hn=> ?_)
  · subst h;exact(no (by decide)).elim
  · exact rParse_minus s w (by omega) (by omega) hm hf hd hn (hf'.symm.trans hf)
  · exact rParse_plain s w h0 (by omega) (by have : (s[0].toNat : Int) = 48 := by simpa using hz
                                             rw[this];decide) hf hd hn (hf'.symm.trans hf)
  · exact rParse_plain s w h0 (by omega) hm hf hd hn (hf'.symm.trans hf)
end Go.Proofs.YtfjmlfbohenmfaaGreat
