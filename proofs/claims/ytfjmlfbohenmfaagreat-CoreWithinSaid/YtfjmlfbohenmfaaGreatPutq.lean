/-
 An element of a row of the call's own is written; a store here and a store there go by each other.
-/
import Derived.Test.YtfjmlfbohenmfaaGreatAppq
import Derived.Test.YtfjmlfbohenmfaaGreatTbKeepq
import Derived.Deep.MidRow
import Derived.Laws.OwnMore
namespace Go.Proofs.YtfjmlfbohenmfaaGreat
open Go.RowKit
namespace Pt
theorem heap_setCell(w:World)(b o k:Nat)(v:Value):(w.setCell ⟨b,o,none⟩ v).heap[k]?=if b=k then w.heap[k]?.map (fun x=>match x with| .cells c e f=> .cells (c.setIfInBounds o v) e f|x=>x)else w.heap[k]?:=by
 simp[World.setCell,Array.getElem?_modify];split <;> rfl
theorem world_ext{a b:World}(h0:a.tape=b.tape)(h1:a.drawn=b.drawn)(h2:a.os=b.os)(h3:a.output=b.output)(h4:∀k:Nat,a.heap[k]?=b.heap[k]?):a=b:=by
 obtain⟨x1,x2,x3,x4,x5⟩:=a;obtain⟨y1,y2,y3,y4,y5⟩:=b;simp only at h0 h1 h2 h3 h4;subst h0 h1 h2 h3
 congr 1
 exact Array.ext_getElem? fun i=>h4 i
theorem setCell_comm(w:World)(b o g p:Nat)(u v:Value)(h:b≠g):(w.setCell ⟨b,o,none⟩ u).setCell ⟨g,p,none⟩ v=(w.setCell ⟨g,p,none⟩ v).setCell ⟨b,o,none⟩ u:=by
 refine world_ext rfl rfl rfl rfl fun k=> ?_
 rw[heap_setCell,heap_setCell,heap_setCell,heap_setCell];by_cases h1:g=k
 ·by_cases h2:b=k
  ·exact absurd (h2.trans h1.symm) h
  ·simp[h1,h2]
 ·by_cases h2:b=k
  ·simp[h1,h2]
  ·simp[h1,h2]
theorem setCells_comm(b o g:Nat)(u:Value)(h:b≠g):∀(vs:List Value) (p:Nat) (w:World),(w.setCell ⟨b,o,none⟩ u).setCells g p vs=(w.setCells g p vs).setCell ⟨b,o,none⟩ u
 |[],_,_=>rfl
 |v :: r,p,w=>by
  rw[World.setCells,World.setCells,setCell_comm w b o g p u v h];exact setCells_comm b o g u h r (p+1) _
theorem keep_setCells{S:Nat→Prop}{g:Nat}(hg:S g):∀(vs:List Value) (p:Nat) {a w:World},Keep S a w→Keep S a (w.setCells g p vs)
 |[],_,_,_,h=>h
 |v :: r,p,a,w,h=>by
  rw[World.setCells];exact keep_setCells hg r (p+1) (h.setCell hg p v)
theorem own_set{w:World}{base size n g cap:Nat}{e:TypeId}{ys zs:List Value}{z v:Value}(h:w.ownsRow base e size (.slice (some ⟨g,0,none⟩) n cap) n (ys++z :: zs)):
  (w.setCell ⟨g,ys.length,none⟩ v).ownsRow base e size (.slice (some ⟨g,0,none⟩) n cap) n (ys++v :: zs):=by
 obtain⟨h0,h1⟩:=h;refine⟨by rw[←h0];simp,?_⟩;rcases h1 with⟨h1,_⟩|⟨g',cap',cur,e1,e2,e3,e4,e5,e6,e7⟩
 ·cases h1
 ·have eg:g=g':=by cases e1;rfl
  have ec:cap=cap':=by cases e1;rfl
  subst eg ec;refine .inr ⟨g,cap,cur.setIfInBounds ys.length v,rfl,e2,?_,e4,e5,by simpa using e6,?_⟩
  ·rw[heap_setCell,if_pos rfl,e3];rfl
  ·have hl:ys.length<n*size:=by rw[←h0];simp
   rw[Array.toList_setIfInBounds,List.take_set,e7];simp
theorem own_puts:∀(vs:List Value) {w:World} {base size n g cap o:Nat} {e:TypeId} {ys zs ts:List Value},zs.length=vs.length→ys.length=o→w.ownsRow base e size (.slice (some ⟨g,0,none⟩) n cap) n (ys++zs++ts)→
  (w.setCells g o vs).ownsRow base e size (.slice (some ⟨g,0,none⟩) n cap) n (ys++vs++ts)
 |[],w,base,size,n,g,cap,o,e,ys,zs,ts,hz,_,h=>by
  obtain rfl:zs=[]:=List.length_eq_zero_iff.1 hz;exact h
 |v :: r,w,base,size,n,g,cap,o,e,ys,zs,ts,hz,ho,h=>by
  match zs,hz with
  |z :: q,hz=>
   subst ho;rw[World.setCells];have h1:w.ownsRow base e size (.slice (some ⟨g,0,none⟩) n cap) n (ys++z :: (q++ts)):=by simpa using h
   have h2:=own_set (v:=v) h1;have h3:(w.setCell ⟨g,ys.length,none⟩ v).ownsRow base e size (.slice (some ⟨g,0,none⟩) n cap) n ((ys++[v])++q++ts):=by simpa using h2
   have:=own_puts r (o:=ys.length+1) (by simpa using hz) (by simp) h3;simpa using this
theorem own_put{w:World}{base size n g cap o:Nat}{e:TypeId}{xs zs:List Value}(vs:List Value)(h:w.ownsRow base e size (.slice (some ⟨g,0,none⟩) (n+1) cap) (n+1) (xs++zs))(hz:zs.length=vs.length)(ho:xs.length=o):
  (w.setCells g o vs).ownsRow base e size (.slice (some ⟨g,0,none⟩) (n+1) cap) (n+1) (xs++vs):=by
 have:=own_puts vs (ts:=[]) hz ho (by simpa using h);simpa using this
theorem own_there{w:World}{base size n g cap o m:Nat}{e:TypeId}{xs:List Value}(h:w.ownsRow base e size (.slice (some ⟨g,0,none⟩) n cap) n xs)(ho:o+m≤xs.length):w.there g o m:=by
 intro j hj;obtain⟨h0,h1⟩:=h;rcases h1 with⟨h1,_⟩|⟨g',cap',cur,e1,e2,e3,e4,e5,e6,e7⟩
 ·cases h1
 ·have eg:g=g':=by cases e1;rfl
  subst eg;have hl:o+j<cur.size:=by
   have:xs.length≤cur.size:=by rw[←e7,List.length_take];simp only[Array.length_toList];omega
   omega
  constructor
  ·unfold World.cell?;simp only[e3];simp[hl]
  ·unfold World.frozen?;simp only[e3];simp
theorem own_block{w:World}{base size n g cap:Nat}{e:TypeId}{xs:List Value}(h:w.ownsRow base e size (.slice (some ⟨g,0,none⟩) n cap) n xs):base≤g∧g<w.heap.size:=h.lt g rfl
theorem there_setCell{w:World}{b o n:Nat}(h:w.there b o n)(B j:Nat)(v:Value):(w.setCell ⟨B,j,none⟩ v).there b o n:=World.there_setCells h B j [v]
section
variable {P:Program} {w:World}
theorem run_append_none(base:Nat)(t ty e:TypeId)(i:TypeInfo)(size c:Nat)(ht:P.underlying t=some (.slice e))(hi:P.info? e=some i)(v:Value)(n:Nat)(xs:List Value)(hown:w.ownsRow base e size v n xs):
  (Builtin.append_ #[t,t] ty #[v,.slice none 0 c]).run P w= .ok v w:=by
 rcases hown.2 with⟨rfl,rfl⟩|⟨g,cap,cur,rfl,_,_,hnc,_⟩
 ·simp[Builtin.append_,run_underlying ht,sizeOf,typeInfo,hi,Builtin.lenOf,Builtin.firstCells]
 ·simp[Builtin.append_,run_underlying ht,sizeOf,typeInfo,hi,Builtin.lenOf,Builtin.firstCells,hnc,storeCells]
theorem list_none{ops:Array Oper}{rest:List Oper}{o:Oper}{a:Act}{Q:Exit→Act→World→Prop}(hgd:o.guard=none)(s x:Operand)(t:TypeId)
  (ho:o.op= .call {callee:= .builtin .append,args:=#[s,x],argTypes:=#[t,t]})
  (base:Nat) (e:TypeId) (i:TypeInfo) (size c:Nat) (ht:P.underlying t=some (.slice e)) (hi:P.info? e=some i)
  (v:Value) (n:Nat) (xs:List Value) (hs:a.eval s=v) (hown:w.ownsRow base e size v n xs) (hx:a.eval x= .slice none 0 c)
  (h:wpList P ops Q rest (a.put o.dst v) w):wpList P ops Q (o :: rest) a w:=
 wpList_plain hgd fun _ hK=>by
  have hr:=run_append_none (P:=P) (w:=w) base t o.type e i size c ht hi v n xs hown;unfold Oper.wp execOp;simp only[ho,resolve,invoke,builtin,Sem.run_bind,Sem.run_pure,Result.andThen_ok,List.map_toArray,List.map_cons,List.map_nil,hs,hx,hr];exact hK _ _ h
end
end Pt
end Go.Proofs.YtfjmlfbohenmfaaGreat
