/-
 Cores, plain: which may be, their parts, their variables; no program in sight.
-/
import Derived.Test.YtfjmlfbohenmfaaGreatCoModelq
namespace Go.Proofs.YtfjmlfbohenmfaaGreat
namespace Co
open Dt (D)
def empty(s:ByteArray):Bool:=s.data.toList.isEmpty
def params(n:Int)(p:List Int):Bool:=decide (p.length≤32)&&(decide (n=0)||(decide (n=1)&& !p.isEmpty))&&p.all var&&once p
def alone:C→Bool
 | .mk k n s d p l=>
  if k=1 then decide (n=0)&&empty s&&p.isEmpty&&l.isEmpty&&const d
  else if none_ d=false then false
  else if k=8 then empty s&&decide (l.length=1)&&params n p
  else if p.isEmpty=false then false
  else if k=2 then empty s&&var n&&l.isEmpty
  else if k=3 then decide (n=0)&&Lx.symbol s.data.toList&&l.isEmpty
  else if k=4 then empty s&&var n&&decide (l.length=1)
  else if k=5∨k=6 then decide (n=0)&&Lx.symbol s.data.toList&&decide (l.length=1)
  else if k=7 then decide (n=0)&&empty s&&decide (l.length=3)
  else if k=9∨k=10 then decide (n=0)&&empty s&&decide (0<l.length)
  else false
def inner(k:Int)(p win:List Int):List Int:=if k=8 then win++p else win
def here(opn:Bool)(c:C)(deep:Nat)(win:List Int)(top:Bool)(cnt:Nat)(bd:List Int):Int:=
 if 128<deep then 4
 else if 8192≤cnt then 3
 else if alone c=false∨(c.k=6∧top=false)then 70
 else if(c.k=2∨c.k=4)∧opn=false∧win.contains c.n=false then 70
 else if c.p.any bd.contains then 70
 else 0
mutual
def goes(opn:Bool):C→Nat→List Int→Bool→Nat→List Int→Int×Nat×List Int
 | .mk k n s d p l,deep,win,top,cnt,bd=>
  if here opn (.mk k n s d p l) deep win top cnt bd≠0 then(here opn (.mk k n s d p l) deep win top cnt bd,cnt,bd)
  else goesL opn l (deep+1) (inner k p win) (top&&decide (k=9)) (cnt+1) (bd++p)
def goesL(opn:Bool):List C→Nat→List Int→Bool→Nat→List Int→Int×Nat×List Int
 |[],_,_,_,cnt,bd=>(0,cnt,bd)
 |c :: r,deep,win,top,cnt,bd=>
  if(goes opn c deep win top cnt bd).1≠0 then goes opn c deep win top cnt bd
  else goesL opn r deep win top (goes opn c deep win top cnt bd).2.1 (goes opn c deep win top cnt bd).2.2
end
def check(c:C)(win:List Int):Int:=(goes false c 1 win true 0 win).1
def openE(c:C):Int:=(goes true c 1 [] true 0 []).1
mutual
def parts:C→List C
 | .mk k n s d p l=> .mk k n s d p l :: partsL l
def partsL:List C→List C
 |[]=>[]
 |c :: r=>parts c++partsL r
end
def put:List Int→Int→List Int
 |[],n=>[n]
 |x :: r,n=>if n<x then n :: x :: r else if n=x then x :: r else x :: put r n
mutual
def free:C→List Int→List Int→List Int
 | .mk k n _ _ p l,win,out=>freeL l (inner k p win) (if(k=2∨k=4)∧win.contains n=false then put out n else out)
def freeL:List C→List Int→List Int→List Int
 |[],_,out=>out
 |c :: r,win,out=>freeL r win (free c win out)
end
def all(c:C):List C:=if openE c=0∧check c (free c [] [])=0 then parts c else []
def ok(c:C):Bool:=decide (openE c=0)&&decide (check c (free c [] [])=0)
mutual
theorem parts_pos:∀c:C,parts c≠[]
 | .mk k n s d p l=>by rw[parts];simp
end
end Co
end Go.Proofs.YtfjmlfbohenmfaaGreat
