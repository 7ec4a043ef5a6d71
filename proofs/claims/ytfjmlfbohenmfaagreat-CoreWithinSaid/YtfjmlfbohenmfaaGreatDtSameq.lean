/-
  DtSameq.
-/
import Derived.Test.YtfjmlfbohenmfaaGreatDtAllq
set_option maxRecDepth 100000
set_option maxHeartbeats 32000000
namespace Go.Proofs.YtfjmlfbohenmfaaGreat
open Go.RowKit
namespace Dt
mutual
def eqD:D→D→Bool
 | .mk k n s m l t,.mk k' n' s' m' l' t'=>decide (k=k')&&decide (n=n')&&decide (s.data.toList=s'.data.toList)&&decide (m=m')&&eqDs l l'&&eqDs t t'
def eqDs:List D→List D→Bool
 |[],[]=>true
 |a :: l,b :: r=>eqD a b&&eqDs l r
 |_,_=>false
end
theorem bytes_ext{a b:ByteArray}(h:a.data.toList=b.data.toList):a=b:=by
 obtain⟨⟨x⟩⟩:=a;obtain⟨⟨y⟩⟩:=b;simp at h;rw[h]
def sameD(a b:D):Bool:=decide (check a=0)&&decide (check b=0)&&eqD a b
theorem part_at{w:World}{base:Nat}{v:Value}{ls:List P}(h:w.ownsRow base 25 6 v ls.length (flatP ls))(j:Nat)(hj:j<ls.length):∃g c,v= .slice (some ⟨g,0,none⟩) ls.length c∧g<w.heap.size∧Six w g (j*6) ls[j].d ls[j].vm ls[j].vl ls[j].vt:=by
 rcases h.2 with⟨_,h0⟩|⟨g,cap,cur,rfl,e2,e3,e4⟩
 ·omega
 ·refine⟨g,cap,rfl,(h.lt g rfl).2,?_⟩;have hc:=fun c u hu=>h.cells (g:=g) rfl (j*6+c) u hu
  have hadd:∀k,(⟨g,0,none⟩:Addr).add k=⟨g,k,none⟩:=fun k=>by unfold Addr.add;split <;> simp_all
  simp only[hadd]at hc;have hf:∀c,c<6→(flatP ls)[j*6+c]?=ls[j].cells[c]?:=by
   intro c hc6;have hsplit:ls=ls.take j++ls[j] :: ls.drop (j+1):=by rw[←List.drop_eq_getElem_cons hj,List.take_append_drop]
   have hlen:(flatP (ls.take j)).length=j*6:=by rw[flatP_length,List.length_take,Nat.min_eq_left (by omega)]
   have:flatP ls=flatP (ls.take j)++(ls[j].cells++flatP (ls.drop (j+1))):=by
    conv=>lhs;rw[hsplit]
    unfold flatP;rw[List.flatMap_append,List.flatMap_cons]
   rw[this,List.getElem?_append_right (by omega),hlen,show j*6+c - j*6=c by omega,List.getElem?_append_left (by show c<6;exact hc6)]
  exact⟨hc 0 _ (hf 0 (by omega)),hc 1 _ (hf 1 (by omega)),hc 2 _ (hf 2 (by omega)),hc 3 _ (hf 3 (by omega)),hc 4 _ (hf 4 (by omega)),hc 5 _ (hf 5 (by omega))⟩
end Dt
namespace Dt
theorem boxes2(w:World)(x y:D)(a b c d e f:Value):∃w2,(w.alloc (.cells #[.int .i64 x.k,.int .i64 x.n,.string x.s,a,b,c] 25)).alloc (.cells #[.int .i64 y.k,.int .i64 y.n,.string y.s,d,e,f] 25)=w2∧Below w.heap.size w w2∧w2.heap.size=w.heap.size+1+1∧Box w2 w.heap.size x a b c∧Box w2 (w.heap.size+1) y d e f:=by
 refine⟨_,rfl,((Below.refl _ _).alloc (Nat.le_refl _) _).alloc (by rw[World.size_alloc];omega) _,by simp,?_,?_⟩
 ·have h:=six_new w x.k x.n x.s a b c 25;have hb:Below (w.alloc (.cells #[.int .i64 x.k,.int .i64 x.n,.string x.s,a,b,c] 25)).heap.size (w.alloc (.cells #[.int .i64 x.k,.int .i64 x.n,.string x.s,a,b,c] 25)) ((w.alloc (.cells #[.int .i64 x.k,.int .i64 x.n,.string x.s,a,b,c] 25)).alloc (.cells #[.int .i64 y.k,.int .i64 y.n,.string y.s,d,e,f] 25)):=(Below.refl _ _).alloc (Nat.le_refl _) _;have hl:w.heap.size<(w.alloc (.cells #[.int .i64 x.k,.int .i64 x.n,.string x.s,a,b,c] 25)).heap.size:=by rw[World.size_alloc];omega
  exact⟨(hb.cell (p:=⟨w.heap.size,0,none⟩) hl).trans (h 0 (by omega)),(hb.cell (p:=⟨w.heap.size,1,none⟩) hl).trans (h 1 (by omega)),(hb.cell (p:=⟨w.heap.size,2,none⟩) hl).trans (h 2 (by omega)),(hb.cell (p:=⟨w.heap.size,3,none⟩) hl).trans (h 3 (by omega)),(hb.cell (p:=⟨w.heap.size,4,none⟩) hl).trans (h 4 (by omega)),(hb.cell (p:=⟨w.heap.size,5,none⟩) hl).trans (h 5 (by omega))⟩
 ·have h:=six_new (w.alloc (.cells #[.int .i64 x.k,.int .i64 x.n,.string x.s,a,b,c] 25)) y.k y.n y.s d e f 25;rw[World.size_alloc]at h;exact⟨h 0 (by omega),h 1 (by omega),h 2 (by omega),h 3 (by omega),h 4 (by omega),h 5 (by omega)⟩
theorem Box.below{w w':World}{X:Nat}{d:D}{a b c:Value}(h:Box w X d a b c)(hb:Below w.heap.size w w'):Box w' X d a b c:=by
 obtain⟨h0,h1,h2,h3,h4,h5⟩:=h;have hl:=block_lt_of_cell h0;exact⟨(hb.cell (p:=⟨X,0,none⟩) hl).trans h0,(hb.cell (p:=⟨X,1,none⟩) hl).trans h1,(hb.cell (p:=⟨X,2,none⟩) hl).trans h2,(hb.cell (p:=⟨X,3,none⟩) hl).trans h3,(hb.cell (p:=⟨X,4,none⟩) hl).trans h4,(hb.cell (p:=⟨X,5,none⟩) hl).trans h5⟩
theorem own_below{w w':World}{b size n:Nat}{e:TypeId}{v:Value}{xs:List Value}(h:w.ownsRow b e size v n xs)(hb:Below w.heap.size w w'):w'.ownsRow b e size v n xs:=
 own_keep (S:=fun _=>False) h ((Keep.refl _ w).below hb) (fun _ _ h=>h)
theorem wf_m{x:D}(h:Wf x):x.m.length≤140737488355328:=by cases x;rw[Wf]at h;exact h.2.2.1
end Dt
end Go.Proofs.YtfjmlfbohenmfaaGreat
