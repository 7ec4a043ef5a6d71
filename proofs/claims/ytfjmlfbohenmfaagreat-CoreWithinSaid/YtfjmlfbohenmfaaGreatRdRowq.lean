/-
 What the parser's functions hand back; a row of data that grows beside the parser.
-/
import Derived.Test.YtfjmlfbohenmfaaGreatRdBaseq
import Derived.Test.YtfjmlfbohenmfaaGreatAppq
namespace Go.Proofs.YtfjmlfbohenmfaaGreat
open Go.RowKit
namespace Rd
open Dt Lx
def Nz(v:Value):Prop:=v= .slice none 0 0∨∃ad n c,v= .slice (some ad) n c
theorem own_nz{w:World}{base size n:Nat}{e:TypeId}{v:Value}{xs:List Value}(h:w.ownsRow base e size v n xs):Nz v:=by
 rcases h.2 with⟨h1,h0⟩|⟨g,cap,cur,rfl,_⟩
 ·exact .inl h1
 ·exact .inr ⟨_,_,_,rfl⟩
theorem rep_row{F:Nat→Prop}{w:World}{vl:Value}{acc:List D}(kk:Int)(h:Row F w vl acc):Rep F w (.mk kk 0 ⟨#[]⟩ [] acc []) (.slice none 0 0) vl (.slice none 0 0):=
 (rep_iff _ _ _ _ _ _).2 ⟨⟨none,0,rfl,Nat.le_refl _,fun h=>absurd rfl h⟩,h,⟨none,0,rfl,Nat.le_refl _,fun h=>absurd rfl h⟩⟩
theorem flatP_len(l:List Dt.P):(flatP l).length=l.length*6:=by
 unfold flatP
 induction l with
 |nil=>rfl
 |cons q l ih=>rw[List.flatMap_cons,List.length_append,ih,List.length_cons];show 6+_=_;omega
theorem flatP_one(qs:List Dt.P)(h:∀p∈qs,∃a1 n1 c1 a2 n2 c2 a3 n3 c3,p.vm= .slice a1 n1 c1∧p.vl= .slice a2 n2 c2∧p.vt= .slice a3 n3 c3):∀u∈flatP qs,u.oneCell'=true:=by
 intro u hu;obtain⟨p,hp,hu⟩:=List.mem_flatMap.1 hu;obtain⟨a1,n1,c1,a2,n2,c2,a3,n3,c3,e1,e2,e3⟩:=h p hp;unfold P.cells at hu;rw[e1,e2,e3]at hu;simp only[List.mem_cons,List.not_mem_nil,or_false]at hu;rcases hu with rfl|rfl|rfl|rfl|rfl|rfl <;> rfl
theorem flatP_at{qs:List Dt.P}{j:Nat}{u:Value}(h:(flatP qs)[j]?=some u):∃i r,∃hi:i<qs.length,r<6∧j=i*6+r∧(qs[i].cells)[r]?=some u:=by
 have hl:∀l:List Dt.P,(flatP l).length=l.length*6:=fun l=>by
  unfold flatP
  induction l with
  |nil=>rfl
  |cons q l ih=>rw[List.flatMap_cons,List.length_append,ih,List.length_cons];show 6+_=_;omega
 have hlt:j<qs.length*6:=by rw[←hl];exact(List.getElem?_eq_some_iff.1 h).1
 have hi:j / 6<qs.length:=by omega
 refine⟨j / 6,j % 6,hi,Nat.mod_lt _ (by decide),by omega,?_⟩;rw[←h]
 conv=>rhs;rw[←List.take_append_drop (j / 6) qs,List.drop_eq_getElem_cons hi]
 have e1:flatP (qs.take (j / 6)++qs[j / 6] :: qs.drop (j / 6+1))=flatP (qs.take (j / 6))++(qs[j / 6].cells++flatP (qs.drop (j / 6+1))):=by unfold flatP;rw[List.flatMap_append,List.flatMap_cons]
 rw[e1,List.getElem?_append_right (by rw[hl,List.length_take];omega),hl,List.length_take,Nat.min_eq_left (by omega)];rw[List.getElem?_append_left (by show _<6;omega)]
 congr 1
 omega
theorem pushK{S:Nat→Prop}{w w1 wA w5:World}{base:Nat}{v v':Value}{ls:List P}{p:P}(h:Rowing w base v ls)(hbase:base≤w.heap.size)(h1:Keep S w w1)(hS:∀k,base≤k→¬S k)(hp:Rep (fun k=>w.heap.size≤k) w1 p.d p.vm p.vl p.vt)(hA:Below w1.heap.size w1 wA)
  (hown:w5.ownsRow base 25 6 v' (ls.length+1) (flatP ls++p.cells)) (hg:wA.grownBy w5 v.ownBlock) (hat:v'.ownBlock=v.ownBlock∨v'.ownBlock=some wA.heap.size):
  Rowing w5 base v' (ls++[p])∧Keep (fun k=>S k∨v.ownBlock=some k) w w5:=by
 have hwA:Keep S w wA:=h1.trans (keep_of_below hA);have hK:Keep (fun k=>S k∨v.ownBlock=some k) w w5:=⟨hg.os.trans hwA.os,hg.tape.trans hwA.tape,hg.output.trans hwA.output,Nat.le_trans hwA.size hg.size,fun k hk hn=>(hg.block k (by have:=hwA.size;omega) (fun e=>hn (.inr e.symm))).trans (hwA.block k hk (fun e=>hn (.inl e)))⟩
 have hK1:Keep (fun k=>v.ownBlock=some k) w1 w5:=⟨hg.os.trans hA.os,hg.tape.trans hA.tape,hg.output.trans hA.output,Nat.le_trans hA.size hg.size,fun k hk hn=>(hg.block k (by have:=hA.size;omega) (fun e=>hn e.symm)).trans (hA.block k hk)⟩
 have hvl:∀k,v.ownBlock=some k→base≤k∧k<w.heap.size:=own_lt h.row;refine⟨⟨by rw[List.length_append,flatP_app];exact hown,fun q hq=> ?_⟩,hK⟩;rcases List.mem_append.1 hq with hq|hq
 ·have hr0:Rep (fun k=>k<w.heap.size∧base≤k∧v.ownBlock≠some k) w q.d q.vm q.vl q.vt:=Rep.mono (fun b hb hl=>⟨hl,hb⟩) q.d (h.rep q hq);refine Rep.mono (fun b hb _=>⟨hb.2.1,fun e=> ?_⟩) q.d (Rep.keep hK (fun b hb _ e=>e.elim (hS b hb.2.1) (fun e=>hb.2.2 e)) q.d hr0);rcases hat with e'|e'
  ·rw[e']at e;exact hb.2.2 e
  ·rw[e']at e;cases e;have:=hwA.size;omega
 ·obtain rfl:q=p:=by simpa using hq
  have hr0:Rep (fun k=>k<w1.heap.size∧w.heap.size≤k) w1 q.d q.vm q.vl q.vt:=Rep.mono (fun b hb hl=>⟨hl,hb⟩) q.d hp;refine Rep.mono (fun b hb _=>⟨Nat.le_trans hbase hb.2,fun e=> ?_⟩) q.d (Rep.keep hK1 (fun b hb _ e=>by have:=(hvl b e).2;omega) q.d hr0);rcases hat with e'|e'
  ·rw[e']at e;have:=(hvl b e).2;omega
  ·rw[e']at e;cases e;have:=hA.size;omega
theorem srcNew{w wD:World}{a b c d e f:Value}{t:TypeId}(h:w.alloc (.cells #[a,b,c,d,e,f] t)=wD):Ap.Src wD (.slice (some ⟨w.heap.size,0,none⟩) 1 1) 1 [a,b,c,d,e,f]:=
 .inr ⟨_,_,rfl,fun j u hu=>by
  rw[Addr.add_mid,Nat.zero_add];have h2:#[a,b,c,d,e,f][j]?=some u:=by rw[←hu];simp
  exact(Hp.new h).cell j h2⟩
theorem row_of_own{F:Nat→Prop}{w:World}{base n:Nat}{v:Value}{ls:List Dt.P}(hown:w.ownsRow base 25 6 v n (flatP ls))(hn:n=ls.length)(hF:∀j,v.ownBlock=some j→F j)(hr:∀p∈ls,Rep F w p.d p.vm p.vl p.vt):Row F w v (ls.map Dt.P.d):=by
 subst hn;have hreps:∀g,v.ownBlock=some g→Reps F w (ls.map Dt.P.d) g 0:=by
  intro g hg;refine Reps.of fun j hj=> ?_
  have hj':j<ls.length:=by simpa using hj
  obtain⟨g',c,rfl,_,hs⟩:=part_at hown j hj';cases hg;refine⟨ls[j].vm,ls[j].vl,ls[j].vt,by rw[Nat.zero_add];simpa using hs,?_⟩;have:=hr ls[j] (List.getElem_mem hj');simpa using this
 rcases hown.2 with⟨h1,h0⟩|⟨g,cap,cur,rfl,e2,e3,e4,_⟩
 ·have:ls=[]:=List.length_eq_zero_iff.1 h0;subst this;exact⟨none,0,by rw[h1];rfl,Nat.le_refl _,fun hn=>absurd rfl hn⟩
 ·exact⟨some ⟨g,0,none⟩,cap,by simp,by simpa using e4,fun _=>⟨g,0,rfl,hF g rfl,(Array.getElem?_eq_some_iff.1 e3).1,hreps g rfl⟩⟩
theorem row_parts{F:Nat→Prop}{w:World}{a:Option Addr}{n c:Nat}{l:List D}(h:Row F w (.slice a n c) l)(hz:Nz (.slice a n c)):∃qs:List Dt.P,qs.map Dt.P.d=l∧Ap.Src w (.slice a n c) n (flatP qs)∧∀q∈qs,Rep F w q.d q.vm q.vl q.vt:=by
 obtain⟨a',c',e,hc,hr⟩:=h;cases e
 cases l with
 |nil=>
  refine⟨[],rfl,?_,fun q hq=>by cases hq⟩;rcases hz with e|⟨ad,n,c,e⟩
  ·cases e;exact .inl ⟨rfl,rfl,rfl⟩
  ·cases e;exact .inr ⟨ad,_,rfl,fun j u hu=>by simp[flatP]at hu⟩
 |cons d0 l0=>
  obtain⟨g,o,rfl,-,hlt,hreps⟩:=hr (by simp);have hq:∀j:Fin (d0 :: l0).length,∃q:Dt.P,q.d=(d0 :: l0)[j.1]∧Six w g (o+j.1*6) q.d q.vm q.vl q.vt∧Rep F w q.d q.vm q.vl q.vt:=fun j=>by
   obtain⟨vm,vl,vt,h1,h2⟩:=hreps.at j.1 j.2;exact⟨⟨_,vm,vl,vt⟩,rfl,h1,h2⟩
  refine⟨List.ofFn (fun j=>Classical.choose (hq j)),?_,.inr ⟨⟨g,o,none⟩,_,rfl,?_⟩,?_⟩
  ·apply List.ext_getElem
   ·simp
   ·intro j h1 h2;simp only[List.getElem_map,List.getElem_ofFn];exact(Classical.choose_spec (hq ⟨j,h2⟩)).1
  ·intro j u hu;rw[Addr.add_mid];obtain⟨i,r,hi,hr6,hjr,hg⟩:=flatP_at hu;rw[List.length_ofFn]at hi;rw[List.getElem_ofFn]at hg;obtain⟨s0,s1,s2,s3,s4,s5⟩:=(Classical.choose_spec (hq ⟨i,hi⟩)).2.1;rw[hjr,←Nat.add_assoc];obtain rfl|rfl|rfl|rfl|rfl|rfl:r=0∨r=1∨r=2∨r=3∨r=4∨r=5:=by omega
   all_goals (simp only[P.cells]at hg;cases hg;first|exact s0|exact s1|exact s2|exact s3|exact s4|exact s5)
  ·intro q hq2;obtain⟨j,rfl⟩:=List.mem_ofFn.1 hq2;exact(Classical.choose_spec (hq j)).2.2
theorem own_base{w:World}{base base' size n:Nat}{e:TypeId}{v:Value}{xs:List Value}(h:w.ownsRow base e size v n xs)(hb:base'≤base):w.ownsRow base' e size v n xs:=by
 obtain⟨h1,h2⟩:=h;refine⟨h1,h2.elim .inl (fun h3=> ?_)⟩;obtain⟨g,cap,cur,e1,e2,e3⟩:=h3;exact .inr ⟨g,cap,cur,e1,Nat.le_trans hb e2,e3⟩
end Rd
end Go.Proofs.YtfjmlfbohenmfaaGreat
