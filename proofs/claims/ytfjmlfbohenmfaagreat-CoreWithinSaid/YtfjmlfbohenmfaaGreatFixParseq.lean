/-
 The walk of fix.Parse: the fixnum of a text.
-/
import Derived.Test.YtfjmlfbohenmfaaGreatFixTextq
import Derived.WalkSpells
import Derived.Lib.Strings
namespace Go.Proofs.YtfjmlfbohenmfaaGreat
open Go.RowKit
namespace Fx
def isD(c:UInt8):Bool:=decide (48≤c.toNat)&&decide (c.toNat≤57)
def val(l:List UInt8):Nat:=l.foldl (fun v c=>10*v+(c.toNat - 48)) 0
def dig(s:List UInt8):List UInt8:=if s.head?=some 45 then s.tail else s
def neg(s:List UInt8):Bool:=s.head?==some 45
def form(s:List UInt8):Bool:= !(dig s).isEmpty&& !((dig s).head?==some 48&&decide (1<s.length))&&(dig s).all isD
def parse(s:List UInt8):Int×Int:=
 if form s then(if 19<(dig s).length then(0,10)else signedV 0 (val (dig s)) (neg s))else(0,5)
theorem val_snoc(l:List UInt8)(c:UInt8):val (l++[c])=10*val l+(c.toNat - 48):=by simp[val]
theorem take_snoc(s:ByteArray)(k:Nat)(h:k<s.size):s.data.toList.take (k+1)=s.data.toList.take k++[s[k]]:=by
 rw[List.take_succ_eq_append_getElem (by simpa using h)];rfl
end Fx
namespace Fx
end Fx
theorem Fx.at0(s:ByteArray)(h:0<s.size):s.data.toList.head?=some s[0]:=by
 obtain⟨⟨l⟩⟩:=s
 cases l with
 |nil=>simp[ByteArray.size]at h
 |cons c l=>rfl
theorem Fx.size_toList(s:ByteArray):s.data.toList.length=s.size:=Array.length_toList
end Go.Proofs.YtfjmlfbohenmfaaGreat
