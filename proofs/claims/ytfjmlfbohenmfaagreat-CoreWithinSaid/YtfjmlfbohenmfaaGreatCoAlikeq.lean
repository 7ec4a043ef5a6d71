/-
 Cores, plain: the same, and alike.
-/
import Derived.Test.YtfjmlfbohenmfaaGreatCoPlainq
import Derived.Test.YtfjmlfbohenmfaaGreatDtSameq
namespace Go.Proofs.YtfjmlfbohenmfaaGreat
namespace Co
open Dt (D)
def sd(a b:D):Bool:=(none_ a&&none_ b)||Dt.sameD a b
def like(a b:C):Bool:=decide (a.k=b.k)&&decide (a.s=b.s)&&decide (a.p.length=b.p.length)&&decide (a.l.length=b.l.length)&&sd a.d b.d
mutual
def pairs:C→C→Nat→Int→Bool×Int
 | .mk k n s d p l,b,deep,left=>
  if left - 1<0∨128<deep then(false,left - 1)
  else if(like (.mk k n s d p l) b&&decide (n=b.n)&&decide (p=b.p))=false then(false,left - 1)
  else pairsL l b.l (deep+1) (left - 1)
def pairsL:List C→List C→Nat→Int→Bool×Int
 |[],_,_,left=>(true,left)
 |a :: r,bs,deep,left=>match bs with
  |[]=>(true,left)
  |b :: q=>if(pairs a b deep left).1=false then pairs a b deep left else pairsL r q deep (pairs a b deep left).2
end
def same(a b:C):Bool:=(pairs a b 1 8192).1
def step(m:List (Int×Int))(x y:Int):Bool×List (Int×Int):=
 match m.find? (·.1=x),m.find? (·.2=y)with
 |none,none=>(true,m++[(x,y)])
 |some u,some v=>(decide (u.2=y)&&decide (v.1=x),m)
 |_,_=>(false,m)
def steps(m:List (Int×Int)):List Int→List Int→Bool×List (Int×Int)
 |[],_=>(true,m)
 |_,[]=>(true,m)
 |x :: p,y :: q=>if(step m x y).1 then steps (step m x y).2 p q else step m x y
mutual
def beside:C→C→Nat→Int→List (Int×Int)→Bool×Int×List (Int×Int)
 | .mk k n s d p l,b,deep,left,m=>
  if left - 1<0∨128<deep then(false,left - 1,m)
  else if like (.mk k n s d p l) b=false then(false,left - 1,m)
  else if(steps m p b.p).1=false then(false,left - 1,m)
  else if(k=2∨k=4)∧(step (steps m p b.p).2 n b.n).1=false then(false,left - 1,m)
  else if ¬ (k=2∨k=4)∧n≠b.n then(false,left - 1,m)
  else besideL l b.l (deep+1) (left - 1) (if k=2∨k=4 then(step (steps m p b.p).2 n b.n).2 else(steps m p b.p).2)
def besideL:List C→List C→Nat→Int→List (Int×Int)→Bool×Int×List (Int×Int)
 |[],_,_,left,m=>(true,left,m)
 |a :: r,bs,deep,left,m=>match bs with
  |[]=>(true,left,m)
  |b :: q=>if(beside a b deep left m).1=false then beside a b deep left m else besideL r q deep (beside a b deep left m).2.1 (beside a b deep left m).2.2
end
def alike(a b:C):Bool:=decide (check a []=0)&&decide (check b []=0)&&(beside a b 1 8192 []).1
end Co
end Go.Proofs.YtfjmlfbohenmfaaGreat
