/-
 The walks of the comment and the gap of the package lex.
-/
import Derived.Test.YtfjmlfbohenmfaaGreatLexBaseq
namespace Go.Proofs.YtfjmlfbohenmfaaGreat
open Go.RowKit
namespace Lx
theorem tl_pk(s:ByteArray)(at_:Nat)(h:at_<s.size):tl s at_=pk (tl s at_) 0 :: tl s (at_+1):=by
 rw[pk_in s at_ 0 h];exact tl_cons s at_ h
theorem pk_succ(s:ByteArray)(at_ n:Nat):pk (tl s at_) (n+1)=pk (tl s (at_+1)) n:=by
 unfold pk tl;rw[List.getD_eq_getElem?_getD,List.getD_eq_getElem?_getD,List.getElem?_drop,List.getElem?_drop]
 congr 2
 omega
theorem head_pk(s:ByteArray)(at_:Nat)(c:UInt8)(hc:c≠0):((tl s at_).head?==some c)=(pk (tl s at_) 0==c):=by
 by_cases h:at_<s.size
 ·rw[tl_pk s at_ h];simp[pk]
 ·rw[tl_nil s at_ (by omega)];have:(pk [] 0==c)=false:=by simpa[pk]using fun e=>hc e.symm
  rw[this];rfl
theorem tl_tail(s:ByteArray)(at_:Nat):(tl s at_).tail=tl s (at_+1):=by
 unfold tl;rw[List.tail_drop]
end Lx
end Go.Proofs.YtfjmlfbohenmfaaGreat
