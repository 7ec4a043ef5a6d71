/-
  FixWalksb, FixPlainb, FixTextb, FixParseb, LexModelb.
-/
import Derived.Test.YtfjmlfbohenmfaaGreatRows
import Derived.WalkKit
import Derived.WalkSpells
import Derived.WalkLawsBesides
import Derived.Deep.QuietTactic
import Derived.BigQuiet
import Derived.Lib.Hide
import Derived.Lib.Mul64
import Derived.Laws.Bits64b
import Derived.Laws.BytesArg
import Derived.Lib.Strings
set_option maxRecDepth 100000
set_option maxHeartbeats 32000000
namespace Go.Proofs.YtfjmlfbohenmfaaGreat
open Go.RowKit
namespace Fx
def isF(n:Int):Bool:=decide (-1152921504606846976≤n)&&decide (n≤1152921504606846975)
end Fx
namespace Fx
def fitsV(n:Int):Int×Int:=if isF n then(n,0)else(0,10)
theorem isF_mk{a:Int}(h: -1152921504606846976≤a∧a≤1152921504606846975):isF a=true:=by simpa[isF]using h
def signedV(high low:Int)(minus:Bool):Int×Int:=if high≠0∨1152921504606846976<low then(0,10)else fitsV (if minus then -low else low)
def R(p:Int×Int):Value:= .tuple #[.int .i64 p.1,.int .i64 p.2]
theorem R_mk{p:Int×Int}{a b:Int}(h:p=(a,b)):Ending.returned (.tuple #[.int .i64 a,.int .i64 b])= .returned (R p):=by rw[h];rfl
end Fx
namespace Fx
end Fx
namespace Fx
end Fx
namespace Fx
end Fx
namespace Fx
theorem fitsV_ok{n:Int}(h:isF n=true):fitsV n=(n,0):=by simp[fitsV,h]
end Fx
namespace Fx
end Fx
namespace Fx
def isD(c:UInt8):Bool:=decide (48≤c.toNat)&&decide (c.toNat≤57)
def val(l:List UInt8):Nat:=l.foldl (fun v c=>10*v+(c.toNat - 48)) 0
def dig(s:List UInt8):List UInt8:=if s.head?=some 45 then s.tail else s
def neg(s:List UInt8):Bool:=s.head?==some 45
def form(s:List UInt8):Bool:= !(dig s).isEmpty&& !((dig s).head?==some 48&&decide (1<s.length))&&(dig s).all isD
def parse(s:List UInt8):Int×Int:=
 if form s then(if 19<(dig s).length then(0,10)else signedV 0 (val (dig s)) (neg s))else(0,5)
theorem val_snoc(l:List UInt8)(c:UInt8):val (l++[c])=10*val l+(c.toNat - 48):=by simp[val]
theorem take_snoc(s:ByteArray)(k:Nat)(h:k<s.size):s.data.toList.take (k+1)=s.data.toList.take k++[s[k]]:=by
 rw[List.take_succ_eq_append_getElem (by simpa using h)];rfl
end Fx
namespace Fx
end Fx
theorem Fx.at0(s:ByteArray)(h:0<s.size):s.data.toList.head?=some s[0]:=by
 obtain⟨⟨l⟩⟩:=s
 cases l with
 |nil=>simp[ByteArray.size]at h
 |cons c l=>rfl
theorem Fx.size_toList(s:ByteArray):s.data.toList.length=s.size:=Array.length_toList
end Go.Proofs.YtfjmlfbohenmfaaGreat
namespace Go.Proofs.YtfjmlfbohenmfaaGreat.Lx
open Go.RowKit
structure Tok where
 k:Int
 n:Int
 s:List UInt8
def white(c:UInt8):Bool:=c==32||c==9||c==10||c==13
def pk(t:List UInt8)(n:Nat):UInt8:=t.getD n 0
def ends(c:UInt8):Bool:=c==0||white c||c==40||c==41||c==34||c==59
def figure(c:UInt8):Bool:=decide (48≤c.toNat)&&decide (c.toNat≤57)
def low(c:UInt8):Bool:=decide (97≤c.toNat)&&decide (c.toNat≤122)
def com:List UInt8→Nat→Option (List UInt8)
 |[],_=>none
 |c :: r,o=>
  if c==35&&r.head?==some 124 then com r.tail (o+1)
  else if c==124&&r.head?==some 35 then(if o≤1 then some r.tail else com r.tail (o - 1))
  else com r o
termination_by l=>l.length
decreasing_by all_goals (simp;try omega)
def gap:Nat→List UInt8→List UInt8×Bool
 |0,t=>(t,true)
 |_+1,[]=>([],true)
 |f+1,c :: r=>
  if white c then gap f r
  else if c==59 then gap f (r.dropWhile (· !=10))
  else if c==35&&r.head?==some 124 then
   match com (c :: r) 0 with
   |none=>(c :: r,false)
   |some r'=>gap f r'
  else(c :: r,true)
def hexOf(c:UInt8):Option Nat:=if figure c then some (c.toNat - 48)else if decide (97≤c.toNat)&&decide (c.toNat≤102)then some (c.toNat - 87)else none
def two(t:List UInt8):Int:=
 match t with
 |h :: l :: _=>match hexOf h,hexOf l with
  |some x,some y=>if x≤7 then((16*x+y:Nat):Int)else -1
  |_,_=> -1
 |_=> -1
def quoted:List UInt8→Option (List UInt8)
 |[]=>some []
 |[c]=>if c==92 then none else if white c&&c !=32 then none else some [c]
 |c :: d :: r=>
  if c==92 then
   if d==110 then(quoted r).map (10 :: ·)
   else if d==116 then(quoted r).map (9 :: ·)
   else if d==92||d==34 then(quoted r).map (d :: ·)
   else if d==120 then(if two r<0 then none else(quoted (r.drop 2)).map (UInt8.ofNat (two r).toNat :: ·))
   else none
  else if white c&&c !=32 then none else(quoted (d :: r)).map (c :: ·)
termination_by l=>l.length
decreasing_by all_goals (simp;try omega)
def strEnd:List UInt8→Option (List UInt8×List UInt8)
 |[]=>none
 |[c]=>if c==34 then some ([],[])else none
 |c :: d :: r=>
  if c==34 then some ([],d :: r)
  else if c==92 then(strEnd r).map fun p=>(c :: d :: p.1,p.2)
  else(strEnd (d :: r)).map fun p=>(c :: p.1,p.2)
termination_by l=>l.length
decreasing_by all_goals (simp;try omega)
def names(t:List UInt8):Int:=
 if t.length=1 then((t.headD 0).toNat:Int)
 else if t=[115,112,97,99,101]then 32
 else if t=[110,101,119,108,105,110,101]then 10
 else if t=[116,97,98]then 9
 else if t=[110,117,108]then 0
 else if t.length=3∧t.headD 0=120 then two t.tail
 else -1
def nameLen(t:List UInt8):Nat:=
 if low (pk t 0)then 1+(t.tail.takeWhile fun c=>low c||figure c).length else 1
def begins(c:UInt8):Bool:=low c||(decide (65≤c.toNat)&&decide (c.toNat≤90))||[33,36,37,38,42,47,58,60,61,62,63,94,95,126].contains c
def goes(c:UInt8):Bool:=begins c||figure c||[43,45,46,64].contains c
def symbol(t:List UInt8):Bool:=
 t==[43]||t==[45]||t==[46,46,46]||(!t.isEmpty&&decide (t.length≤32)&&begins (t.headD 0)&&t.all goes)
inductive Res where
 |tok (t:Tok) (rest:List UInt8)
 |err (e:Int)
def str(t:List UInt8):Res:=
 match strEnd t.tail with
 |none=> .err 31
 |some (body,rest)=>match quoted body with
  |some q=>if q.length≤256 then .tok ⟨12,0,q⟩ rest else .err 30
  |none=> .err 30
def char(t:List UInt8):Res:=
 if t.drop 2=[]then .err 31
 else if names ((t.drop 2).take (nameLen (t.drop 2)))<0||white (pk t 2)then .err 30
 else .tok ⟨11,names ((t.drop 2).take (nameLen (t.drop 2))),[]⟩ ((t.drop 2).drop (nameLen (t.drop 2)))
def run(t:List UInt8):Res:=
 let w:=t.takeWhile fun c=> !ends c
 let rest:=t.dropWhile fun c=> !ends c
 if w=[35,102]then .tok ⟨10,0,[]⟩ rest
 else if w=[35,116]then .tok ⟨10,1,[]⟩ rest
 else if w=[46]then .tok ⟨8,0,[]⟩ rest
 else if figure (w.headD 0)||((w.headD 0==45||w.headD 0==43)&&decide (1<w.length)&&figure (pk w 1))then
  if(Fx.parse w).2=0 then .tok ⟨9,(Fx.parse w).1,[]⟩ rest
  else if(Fx.parse w).2=5 then .err 30 else .err (Fx.parse w).2
 else if symbol w then .tok ⟨13,0,w⟩ rest
 else .err 30
def sign(t:List UInt8):Nat×Nat:=
 if pk t 0==40 then(1,1)else if pk t 0==41 then(2,1)else if pk t 0==39 then(4,1)else if pk t 0==96 then(5,1)
 else if pk t 0==44 then(if pk t 1==64 then(7,2)else(6,1))
 else if pk t 0==35&&pk t 1==40 then(3,2)else(0,0)
def word(t:List UInt8):Res:=
 if(sign t).1≠0 then .tok ⟨(sign t).1,0,[]⟩ (t.drop (sign t).2)
 else if pk t 0==34 then str t
 else if pk t 0==35&&pk t 1==92 then char t
 else run t
structure PTok where
 at_:Nat
 to:Nat
 t:Tok
def words(n:Nat):Nat→Nat→List UInt8→List PTok×Nat×Int
 |0,_,_=>([],0,0)
 |f+1,c,t=>
  let g:=gap t.length t
  if g.2=false then([],n - g.1.length,31)
  else if g.1=[]then([],0,0)
  else if c=4096 then([],n - g.1.length,3)
  else match word g.1 with
   | .err e=>([],n - g.1.length,e)
   | .tok k rest=>
    let r:=words n f (c+1) rest
    if r.2.2=0 then(⟨n - g.1.length,n - rest.length,k⟩ :: r.1,0,0)else([],r.2.1,r.2.2)
def okByte(c:UInt8):Bool:=decide (c.toNat≤126)&&(decide (32≤c.toNat)||white c)
def lex(s:List UInt8):List PTok×Nat×Int:=
 if 16384<s.length then([],0,3)
 else if !s.all okByte then([],(s.takeWhile okByte).length,32)
 else words s.length (s.length+1) 0 s
end Go.Proofs.YtfjmlfbohenmfaaGreat.Lx
