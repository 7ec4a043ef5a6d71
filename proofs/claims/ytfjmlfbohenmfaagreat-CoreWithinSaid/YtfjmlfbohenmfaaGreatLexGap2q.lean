/-
 The walk of the gap of the package lex.
-/
import Derived.Test.YtfjmlfbohenmfaaGreatLexGapq
import Derived.Test.YtfjmlfbohenmfaaGreatMinq
namespace Go.Proofs.YtfjmlfbohenmfaaGreat
open Go.RowKit
namespace Lx
theorem com_len:∀(m:Nat) (l:List UInt8) (o:Nat) (r:List UInt8),l.length≤m→com l o=some r→r.length+2≤l.length:=by
 intro m
 induction m with
 |zero=>
  intro l o r hl h;have:l=[]:=List.eq_nil_of_length_eq_zero (by omega);subst this;rw[com]at h;cases h
 |succ m ih=>
  intro l o r hl h
  cases l with
  |nil=>rw[com]at h;cases h
  |cons c l=>
   rw[com]at h;simp only[List.length_cons]at hl ⊢;split at h
   ·rename_i hh;have h2:=ih l.tail (o+1) r (by rw[List.length_tail];omega) h;rw[List.length_tail]at h2;omega
   ·split at h
    ·rename_i hh;have hne:1≤l.length:=by
      cases l with
      |nil=>simp at hh
      |cons=>simp
     split at h
     ·injection h with h;rw[←h,List.length_tail];omega
     ·have h2:=ih l.tail (o - 1) r (by rw[List.length_tail];omega) h;rw[List.length_tail]at h2;omega
    ·have h2:=ih l o r (by omega) h;omega
theorem gap_nil(f:Nat):gap f []=([],true):=by cases f <;> rfl
theorem gap_step(f:Nat)(s:ByteArray)(n:Nat)(h:n<s.size):gap (f+1) (tl s n)=
  if white (pk (tl s n) 0)then gap f (tl s (n+1))
  else if pk (tl s n) 0==59 then gap f ((tl s n).dropWhile (· !=10))
  else if pk (tl s n) 0==35&&pk (tl s n) 1==124 then
   match com (tl s n) 0 with
   |none=>(tl s n,false)
   |some r'=>gap f r'
  else(tl s n,true):=by
 have e:=tl_pk s n h;have hh:((tl s (n+1)).head?==some 124)=(pk (tl s n) 1==124):=by rw[head_pk s (n+1) 124 (by decide),←pk_succ]
 have hd:pk (tl s n) 0==59→(tl s n).dropWhile (· !=10)=(tl s (n+1)).dropWhile (· !=10):=fun h59=>by
  rw[e,List.dropWhile_cons];rw[show pk (tl s n) 0=59 by simpa using h59]
  rfl
 conv=>lhs;rw[e,gap,←e,hh]
 split
 ·rfl
 ·split
  ·rename_i h59;rw[hd h59]
  ·rfl
end Lx
end Go.Proofs.YtfjmlfbohenmfaaGreat
