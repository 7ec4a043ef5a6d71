/-
 The walks of the small functions of the package lex; strings.IndexByte.
-/
import Derived.Test.YtfjmlfbohenmfaaGreatLexModelq
import Derived.Lib.Bytealg
import Derived.Laws.BitsAllLaws
import Derived.Laws.BitsLemmas
import Derived.Deep.QuietTactic
import Derived.BigQuiet
import Derived.Deep.Draws
namespace Go.Proofs.YtfjmlfbohenmfaaGreat
open Go.RowKit
theorem run_IndexByteString(s:ByteArray)(c:UInt8)(w:World):
  (callFunc 169 #[.string s,.int .u8 (c.toNat:Int)]).run Tryz.prog w= .ok (.value (.int .i64 (Lib.indexByte s.data.toList c))) w:=by
 have h:=Lib.run_indexByteString (P:=Tryz.prog) s (c.toNat:Int) w;rw[show((c.toNat:Int)).toNat.toUInt8=c by simp]at h;rw[run_callFunc_extern Tryz.func169 (by kernel_rfl) (by kernel_rfl) (by kernel_rfl) (e:=Extern.BytealgIndexByte.indexByte) (by kernel_rfl),h]
 rfl
set_option maxRecDepth 100000 in
theorem IndexByte_any(s:ByteArray)(c:UInt8)(w:World):
  Calls Tryz.prog 113 #[.string s,.int .u8 (c.toNat:Int)] w fun e w'=>e= .returned (.int .i64 (Lib.indexByte s.data.toList c))∧w=w':=by
 have h:=run_IndexByteString s c w;go_enter Tryz.func113,Tryz.ntmps113;go_wp2;go_ret;exact⟨rfl,rfl⟩
namespace Lx
def tl(s:ByteArray)(at_:Nat):List UInt8:=s.data.toList.drop at_
theorem tl_len(s:ByteArray)(at_:Nat):(tl s at_).length=s.size - at_:=by
 unfold tl;rw[List.length_drop,Fx.size_toList]
theorem tl_cons(s:ByteArray)(at_:Nat)(h:at_<s.size):tl s at_=s[at_] :: tl s (at_+1):=by
 unfold tl;rw[List.drop_eq_getElem_cons (by rw[Fx.size_toList];exact h)]
 rfl
theorem tl_nil(s:ByteArray)(at_:Nat)(h:s.size≤at_):tl s at_=[]:=by
 unfold tl;exact List.drop_eq_nil_of_le (by rw[Fx.size_toList];exact h)
theorem pk_in(s:ByteArray)(at_ n:Nat)(h:at_+n<s.size):pk (tl s at_) n=s[at_+n]:=by
 unfold pk tl;rw[List.getD_eq_getElem?_getD,List.getElem?_drop,List.getElem?_eq_getElem (by rw[Fx.size_toList];exact h)]
 rfl
theorem pk_out(s:ByteArray)(at_ n:Nat)(h:s.size≤at_+n):pk (tl s at_) n=0:=by
 unfold pk tl;rw[List.getD_eq_getElem?_getD,List.getElem?_drop,List.getElem?_eq_none (by rw[Fx.size_toList];exact h)]
 rfl
end Lx
namespace Lx
theorem beq_nat(c:UInt8)(k:Nat)(hk:k<256):(c==UInt8.ofNat k)=((c.toNat:Int)==(k:Int)):=by
 by_cases h:c.toNat=k
 ·have e:c=UInt8.ofNat k:=UInt8.toNat_inj.1 (by rw[h];simp;omega);rw[beq_iff_eq.2 (show(c.toNat:Int)=k by omega),e];simp
 ·have e:c≠UInt8.ofNat k:=fun e=>h (by rw[e];simp;omega)
  rw[beq_eq_false_iff_ne.2 (show(c.toNat:Int)≠k by omega)];exact beq_eq_false_iff_ne.2 e
theorem white_int(c:UInt8):white c=((((c.toNat:Int)==32||(c.toNat:Int)==9)||(c.toNat:Int)==10)||(c.toNat:Int)==13):=by
 unfold white;rw[show(c==32)=((c.toNat:Int)==32)from beq_nat c 32 (by omega),show(c==9)=((c.toNat:Int)==9)from beq_nat c 9 (by omega),show(c==10)=((c.toNat:Int)==10)from beq_nat c 10 (by omega),show(c==13)=((c.toNat:Int)==13)from beq_nat c 13 (by omega)]
theorem b2{p q:Bool}(h:p=q):Ending.returned (.bool p)= .returned (.bool q):=by rw[h]
end Lx
namespace Lx
theorem idx_in(l:List UInt8)(c:UInt8):decide (0≤Lib.indexByte l c)=l.contains c:=by
 induction l with
 |nil=>rfl
 |cons b l ih=>
  have hm:Lib.indexByte l c= -1∨0≤Lib.indexByte l c:=by
   clear ih
   induction l with
   |nil=>exact .inl rfl
   |cons b l ih=>
    unfold Lib.indexByte;split
    ·exact .inr (by omega)
    ·split
     ·exact .inl rfl
     ·rename_i h;rcases ih with ih|ih
      ·rw[ih]at h;exact absurd rfl h
      ·exact .inr (by omega)
  unfold Lib.indexByte;rw[List.contains_cons,←ih];by_cases hb:b=c
  ·subst hb;simp
  ·have e1:(b==c)=false:=by simpa using hb
   have e2:(c==b)=false:=by simpa using fun h=>hb h.symm
   rw[e1,e2];rcases hm with hm|hm
   ·rw[hm];simp
   ·have e3:(Lib.indexByte l c== -1)=false:=beq_eq_false_iff_ne.2 (by omega);rw[e3];simp;omega
theorem fig_int(c:UInt8):figure c=(decide (48≤(c.toNat:Int))&&decide ((c.toNat:Int)≤57)):=by
 unfold figure
 congr 1
 ·exact decide_eq_decide.2 (by omega)
 ·exact decide_eq_decide.2 (by omega)
end Lx
namespace Lx
theorem sign_int(t:List UInt8):sign t=if((pk t 0).toNat:Int)==40 then(1,1)else if((pk t 0).toNat:Int)==41 then(2,1)else if((pk t 0).toNat:Int)==39 then(4,1)else if((pk t 0).toNat:Int)==96 then(5,1)
  else if((pk t 0).toNat:Int)==44 then(if((pk t 1).toNat:Int)==64 then(7,2)else(6,1))
  else if((pk t 0).toNat:Int)==35&&((pk t 1).toNat:Int)==40 then(3,2)else(0,0):=by
 unfold sign;have h:=fun(c:UInt8) (k:Nat) (hk:k<256)=>beq_nat c k hk
 rw[show(pk t 0==40)=(((pk t 0).toNat:Int)==40)from h _ 40 (by omega),show(pk t 0==41)=(((pk t 0).toNat:Int)==41)from h _ 41 (by omega),
  show(pk t 0==39)=(((pk t 0).toNat:Int)==39)from h _ 39 (by omega),show(pk t 0==96)=(((pk t 0).toNat:Int)==96)from h _ 96 (by omega),
  show(pk t 0==44)=(((pk t 0).toNat:Int)==44)from h _ 44 (by omega),show(pk t 1==64)=(((pk t 1).toNat:Int)==64)from h _ 64 (by omega),
  show(pk t 0==35)=(((pk t 0).toNat:Int)==35)from h _ 35 (by omega),show(pk t 1==40)=(((pk t 1).toNat:Int)==40)from h _ 40 (by omega)]
end Lx
namespace Lx
theorem hexOf_bd(c:UInt8)(x:Nat)(h:hexOf c=some x):x<16:=by
 unfold hexOf at h;split at h
 ·rename_i h1;simp[figure]at h1;injection h with h;omega
 ·split at h
  ·rename_i h1;simp at h1;injection h with h;omega
  ·cases h
end Lx
end Go.Proofs.YtfjmlfbohenmfaaGreat
