/-
  RdBaseq, RdRowq, CoRowq, CoCellsq.
-/
import Derived.Test.YtfjmlfbohenmfaaGreatCoreWithinLawZM3
import Derived.Test.YtfjmlfbohenmfaaGreatCoreWithinLawZM2
import Derived.Test.YtfjmlfbohenmfaaGreatDtOwnq
import Derived.Test.YtfjmlfbohenmfaaGreatCoreWithinLawZM5
import Derived.Test.YtfjmlfbohenmfaaGreatCoreWithinLawZM6
import Derived.RangeFuncBox
set_option maxRecDepth 100000
set_option maxHeartbeats 32000000
namespace Go.Proofs.YtfjmlfbohenmfaaGreat
open Go.RowKit
attribute [local go_sem] Oper.semAt_some
namespace Rd
open Lx
structure Src(w:World)(tb:Nat)(xs:List PTok):Prop where
 lt:tb<w.heap.size
 tok:∀i,(h:i<xs.length)→w.cell? ⟨tb,i*5,none⟩=some (.int .i64 xs[i].t.k)∧w.cell? ⟨tb,i*5+1,none⟩=some (.int .i64 (xs[i].at_:Int))∧w.cell? ⟨tb,i*5+2,none⟩=some (.int .i64 (xs[i].to:Int))∧w.cell? ⟨tb,i*5+3,none⟩=some (.int .i64 xs[i].t.n)∧w.cell? ⟨tb,i*5+4,none⟩=some (.string ⟨xs[i].t.s.toArray⟩)
theorem Src.keep{S:Nat→Prop}{w w':World}{tb:Nat}{xs:List PTok}(h:Src w tb xs)(hk:Keep S w w')(hS:¬S tb):Src w' tb xs:=
 ⟨Nat.lt_of_lt_of_le h.lt hk.size,fun i hi=>by
  obtain⟨h0,h1,h2,h3,h4⟩:=h.tok i hi;exact⟨(hk.cell _ h.lt hS).trans h0,(hk.cell _ h.lt hS).trans h1,(hk.cell _ h.lt hS).trans h2,(hk.cell _ h.lt hS).trans h3,(hk.cell _ h.lt hS).trans h4⟩⟩
theorem Src.below{w w':World}{tb:Nat}{xs:List PTok}(h:Src w tb xs)(hb:Below w.heap.size w w'):Src w' tb xs:=h.keep (S:=fun _=>False) (keep_of_below hb) id
end Rd
end Go.Proofs.YtfjmlfbohenmfaaGreat
namespace Go.Proofs.YtfjmlfbohenmfaaGreat
open Go.RowKit
namespace Rd
open Dt Lx
def Nz(v:Value):Prop:=v= .slice none 0 0∨∃ad n c,v= .slice (some ad) n c
theorem own_nz{w:World}{base size n:Nat}{e:TypeId}{v:Value}{xs:List Value}(h:w.ownsRow base e size v n xs):Nz v:=by
 rcases h.2 with⟨h1,h0⟩|⟨g,cap,cur,rfl,_⟩
 ·exact .inl h1
 ·exact .inr ⟨_,_,_,rfl⟩
theorem rep_row{F:Nat→Prop}{w:World}{vl:Value}{acc:List D}(kk:Int)(h:Row F w vl acc):Rep F w (.mk kk 0 ⟨#[]⟩ [] acc []) (.slice none 0 0) vl (.slice none 0 0):=
 (rep_iff _ _ _ _ _ _).2 ⟨⟨none,0,rfl,Nat.le_refl _,fun h=>absurd rfl h⟩,h,⟨none,0,rfl,Nat.le_refl _,fun h=>absurd rfl h⟩⟩
theorem flatP_len(l:List Dt.P):(flatP l).length=l.length*6:=by
 unfold flatP
 induction l with
 |nil=>rfl
 |cons q l ih=>rw[List.flatMap_cons,List.length_append,ih,List.length_cons];show 6+_=_;omega
theorem flatP_one(qs:List Dt.P)(h:∀p∈qs,∃a1 n1 c1 a2 n2 c2 a3 n3 c3,p.vm= .slice a1 n1 c1∧p.vl= .slice a2 n2 c2∧p.vt= .slice a3 n3 c3):∀u∈flatP qs,u.oneCell'=true:=by
 intro u hu;obtain⟨p,hp,hu⟩:=List.mem_flatMap.1 hu;obtain⟨a1,n1,c1,a2,n2,c2,a3,n3,c3,e1,e2,e3⟩:=h p hp;unfold P.cells at hu;rw[e1,e2,e3]at hu;simp only[List.mem_cons,List.not_mem_nil,or_false]at hu;rcases hu with rfl|rfl|rfl|rfl|rfl|rfl <;> rfl
theorem flatP_at{qs:List Dt.P}{j:Nat}{u:Value}(h:(flatP qs)[j]?=some u):∃i r,∃hi:i<qs.length,r<6∧j=i*6+r∧(qs[i].cells)[r]?=some u:=by
 have hl:∀l:List Dt.P,(flatP l).length=l.length*6:=fun l=>by
  unfold flatP
  induction l with
  |nil=>rfl
  |cons q l ih=>rw[List.flatMap_cons,List.length_append,ih,List.length_cons];show 6+_=_;omega
 have hlt:j<qs.length*6:=by rw[←hl];exact(List.getElem?_eq_some_iff.1 h).1
 have hi:j / 6<qs.length:=by omega
 refine⟨j / 6,j % 6,hi,Nat.mod_lt _ (by decide),by omega,?_⟩;rw[←h];conv=>rhs;rw[←List.take_append_drop (j / 6) qs,List.drop_eq_getElem_cons hi]
 have e1:flatP (qs.take (j / 6)++qs[j / 6] :: qs.drop (j / 6+1))=flatP (qs.take (j / 6))++(qs[j / 6].cells++flatP (qs.drop (j / 6+1))):=by unfold flatP;rw[List.flatMap_append,List.flatMap_cons]
 rw[e1,List.getElem?_append_right (by rw[hl,List.length_take];omega),hl,List.length_take,Nat.min_eq_left (by omega)];rw[List.getElem?_append_left (by show _<6;omega)];congr 1;omega
theorem pushK{S:Nat→Prop}{w w1 wA w5:World}{base:Nat}{v v':Value}{ls:List P}{p:P}(h:Rowing w base v ls)(hbase:base≤w.heap.size)(h1:Keep S w w1)(hS:∀k,base≤k→¬S k)(hp:Rep (fun k=>w.heap.size≤k) w1 p.d p.vm p.vl p.vt)(hA:Below w1.heap.size w1 wA)
  (hown:w5.ownsRow base 25 6 v' (ls.length+1) (flatP ls++p.cells)) (hg:wA.grownBy w5 v.ownBlock) (hat:v'.ownBlock=v.ownBlock∨v'.ownBlock=some wA.heap.size):
  Rowing w5 base v' (ls++[p])∧Keep (fun k=>S k∨v.ownBlock=some k) w w5:=by
 have hwA:Keep S w wA:=h1.trans (keep_of_below hA);have hK:Keep (fun k=>S k∨v.ownBlock=some k) w w5:=⟨hg.os.trans hwA.os,hg.tape.trans hwA.tape,hg.output.trans hwA.output,Nat.le_trans hwA.size hg.size,fun k hk hn=>(hg.block k (by have:=hwA.size;omega) (fun e=>hn (.inr e.symm))).trans (hwA.block k hk (fun e=>hn (.inl e)))⟩
 have hK1:Keep (fun k=>v.ownBlock=some k) w1 w5:=⟨hg.os.trans hA.os,hg.tape.trans hA.tape,hg.output.trans hA.output,Nat.le_trans hA.size hg.size,fun k hk hn=>(hg.block k (by have:=hA.size;omega) (fun e=>hn e.symm)).trans (hA.block k hk)⟩
 have hvl:∀k,v.ownBlock=some k→base≤k∧k<w.heap.size:=own_lt h.row;refine⟨⟨by rw[List.length_append,flatP_app];exact hown,fun q hq=> ?_⟩,hK⟩;rcases List.mem_append.1 hq with hq|hq
 ·have hr0:Rep (fun k=>k<w.heap.size∧base≤k∧v.ownBlock≠some k) w q.d q.vm q.vl q.vt:=Rep.mono (fun b hb hl=>⟨hl,hb⟩) q.d (h.rep q hq);refine Rep.mono (fun b hb _=>⟨hb.2.1,fun e=> ?_⟩) q.d (Rep.keep hK (fun b hb _ e=>e.elim (hS b hb.2.1) (fun e=>hb.2.2 e)) q.d hr0);rcases hat with e'|e'
  ·rw[e']at e;exact hb.2.2 e
  ·rw[e']at e;cases e;have:=hwA.size;omega
 ·obtain rfl:q=p:=by simpa using hq
  have hr0:Rep (fun k=>k<w1.heap.size∧w.heap.size≤k) w1 q.d q.vm q.vl q.vt:=Rep.mono (fun b hb hl=>⟨hl,hb⟩) q.d hp;refine Rep.mono (fun b hb _=>⟨Nat.le_trans hbase hb.2,fun e=> ?_⟩) q.d (Rep.keep hK1 (fun b hb _ e=>by have:=(hvl b e).2;omega) q.d hr0);rcases hat with e'|e'
  ·rw[e']at e;have:=(hvl b e).2;omega
  ·rw[e']at e;cases e;have:=hA.size;omega
theorem srcNew{w wD:World}{a b c d e f:Value}{t:TypeId}(h:w.alloc (.cells #[a,b,c,d,e,f] t)=wD):Ap.Src wD (.slice (some ⟨w.heap.size,0,none⟩) 1 1) 1 [a,b,c,d,e,f]:=
 .inr ⟨_,_,rfl,fun j u hu=>by
  rw[Addr.add_mid,Nat.zero_add];have h2:#[a,b,c,d,e,f][j]?=some u:=by rw[←hu];simp
  exact(Hp.new h).cell j h2⟩
theorem row_of_own{F:Nat→Prop}{w:World}{base n:Nat}{v:Value}{ls:List Dt.P}(hown:w.ownsRow base 25 6 v n (flatP ls))(hn:n=ls.length)(hF:∀j,v.ownBlock=some j→F j)(hr:∀p∈ls,Rep F w p.d p.vm p.vl p.vt):Row F w v (ls.map Dt.P.d):=by
 subst hn;have hreps:∀g,v.ownBlock=some g→Reps F w (ls.map Dt.P.d) g 0:=by
  intro g hg;refine Reps.of fun j hj=> ?_
  have hj':j<ls.length:=by simpa using hj
  obtain⟨g',c,rfl,_,hs⟩:=part_at hown j hj';cases hg;refine⟨ls[j].vm,ls[j].vl,ls[j].vt,by rw[Nat.zero_add];simpa using hs,?_⟩;have:=hr ls[j] (List.getElem_mem hj');simpa using this
 rcases hown.2 with⟨h1,h0⟩|⟨g,cap,cur,rfl,e2,e3,e4,_⟩
 ·have:ls=[]:=List.length_eq_zero_iff.1 h0;subst this;exact⟨none,0,by rw[h1];rfl,Nat.le_refl _,fun hn=>absurd rfl hn⟩
 ·exact⟨some ⟨g,0,none⟩,cap,by simp,by simpa using e4,fun _=>⟨g,0,rfl,hF g rfl,(Array.getElem?_eq_some_iff.1 e3).1,hreps g rfl⟩⟩
theorem row_parts{F:Nat→Prop}{w:World}{a:Option Addr}{n c:Nat}{l:List D}(h:Row F w (.slice a n c) l)(hz:Nz (.slice a n c)):∃qs:List Dt.P,qs.map Dt.P.d=l∧Ap.Src w (.slice a n c) n (flatP qs)∧∀q∈qs,Rep F w q.d q.vm q.vl q.vt:=by
 obtain⟨a',c',e,hc,hr⟩:=h;cases e
 cases l with
 |nil=>
  refine⟨[],rfl,?_,fun q hq=>by cases hq⟩;rcases hz with e|⟨ad,n,c,e⟩
  ·cases e;exact .inl ⟨rfl,rfl,rfl⟩
  ·cases e;exact .inr ⟨ad,_,rfl,fun j u hu=>by simp[flatP]at hu⟩
 |cons d0 l0=>
  obtain⟨g,o,rfl,-,hlt,hreps⟩:=hr (by simp);have hq:∀j:Fin (d0 :: l0).length,∃q:Dt.P,q.d=(d0 :: l0)[j.1]∧Six w g (o+j.1*6) q.d q.vm q.vl q.vt∧Rep F w q.d q.vm q.vl q.vt:=fun j=>by
   obtain⟨vm,vl,vt,h1,h2⟩:=hreps.at j.1 j.2;exact⟨⟨_,vm,vl,vt⟩,rfl,h1,h2⟩
  refine⟨List.ofFn (fun j=>Classical.choose (hq j)),?_,.inr ⟨⟨g,o,none⟩,_,rfl,?_⟩,?_⟩
  ·apply List.ext_getElem
   ·simp
   ·intro j h1 h2;simp only[List.getElem_map,List.getElem_ofFn];exact(Classical.choose_spec (hq ⟨j,h2⟩)).1
  ·intro j u hu;rw[Addr.add_mid];obtain⟨i,r,hi,hr6,hjr,hg⟩:=flatP_at hu;rw[List.length_ofFn]at hi;rw[List.getElem_ofFn]at hg;obtain⟨s0,s1,s2,s3,s4,s5⟩:=(Classical.choose_spec (hq ⟨i,hi⟩)).2.1;rw[hjr,←Nat.add_assoc];obtain rfl|rfl|rfl|rfl|rfl|rfl:r=0∨r=1∨r=2∨r=3∨r=4∨r=5:=by omega
   all_goals (simp only[P.cells]at hg;cases hg;first|exact s0|exact s1|exact s2|exact s3|exact s4|exact s5)
  ·intro q hq2;obtain⟨j,rfl⟩:=List.mem_ofFn.1 hq2;exact(Classical.choose_spec (hq j)).2.2
theorem own_base{w:World}{base base' size n:Nat}{e:TypeId}{v:Value}{xs:List Value}(h:w.ownsRow base e size v n xs)(hb:base'≤base):w.ownsRow base' e size v n xs:=by
 obtain⟨h1,h2⟩:=h;refine⟨h1,h2.elim .inl (fun h3=> ?_)⟩;obtain⟨g,cap,cur,e1,e2,e3⟩:=h3;exact .inr ⟨g,cap,cur,e1,Nat.le_trans hb e2,e3⟩
end Rd
namespace Co
open Dt (own_keep own_lt row_form)
structure PC where
 c:C
 vm:Value
 vl:Value
 vt:Value
 vp:Value
 vk:Value
def PC.cells(p:PC):List Value:=[.int .i64 p.c.k,.int .i64 p.c.n,.string p.c.s,.int .i64 p.c.d.k,.int .i64 p.c.d.n,.string p.c.d.s,p.vm,p.vl,p.vt,p.vp,p.vk]
def PC.rep(p:PC)(F:Nat→Prop)(w:World):Prop:=Rep F w p.c p.vm p.vl p.vt p.vp p.vk
def flatC(ls:List PC):List Value:=ls.flatMap PC.cells
theorem flatC_app(ls:List PC)(p:PC):flatC (ls++[p])=flatC ls++p.cells:=by unfold flatC;simp
theorem flatC_length(ls:List PC):(flatC ls).length=ls.length*11:=by
 induction ls with
 |nil=>rfl
 |cons a l ih=>
  have e:flatC (a :: l)=a.cells++flatC l:=rfl;rw[e,List.length_append,ih];have:a.cells.length=11:=rfl;simp;omega
theorem flatC_get{ls:List PC}{j:Nat}(hj:j<ls.length){c:Nat}(hc:c<11):(flatC ls)[j*11+c]?=ls[j].cells[c]?:=by
 have hsplit:ls=ls.take j++ls[j] :: ls.drop (j+1):=by rw[←List.drop_eq_getElem_cons hj,List.take_append_drop]
 have hlen:(flatC (ls.take j)).length=j*11:=by rw[flatC_length,List.length_take,Nat.min_eq_left (by omega)]
 have e:flatC ls=flatC (ls.take j)++(ls[j].cells++flatC (ls.drop (j+1))):=by
  conv=>lhs;rw[hsplit]
  unfold flatC;rw[List.flatMap_append,List.flatMap_cons]
 rw[e,List.getElem?_append_right (by omega),hlen,Nat.add_sub_cancel_left,List.getElem?_append_left (by show c<11;exact hc)]
theorem part_at{w:World}{base:Nat}{v:Value}{ls:List PC}(h:w.ownsRow base 28 11 v ls.length (flatC ls))(j:Nat)(hj:j<ls.length):
  ∃g c,v= .slice (some ⟨g,0,none⟩) ls.length c∧g<w.heap.size∧El w g (j*11) ls[j].c ls[j].vm ls[j].vl ls[j].vt ls[j].vp ls[j].vk:=by
 rcases h.2 with⟨_,h0⟩|⟨g,cap,cur,rfl,e2,e3,e4⟩
 ·omega
 ·refine⟨g,cap,rfl,(h.lt g rfl).2,?_⟩;have hadd:∀k,(⟨g,0,none⟩:Addr).add k=⟨g,k,none⟩:=fun k=>by unfold Addr.add;split <;> simp_all
  have hc:∀c u,c<11→ls[j].cells[c]?=some u→w.cell? ⟨g,j*11+c,none⟩=some u:=fun c u hc hu=>by
   have:=h.cells (g:=g) rfl (j*11+c) u ((flatC_get hj hc).trans hu);rw[hadd]at this;exact this
  exact⟨hc 0 _ (by omega) rfl,hc 1 _ (by omega) rfl,hc 2 _ (by omega) rfl,hc 3 _ (by omega) rfl,hc 4 _ (by omega) rfl,hc 5 _ (by omega) rfl,hc 6 _ (by omega) rfl,hc 7 _ (by omega) rfl,hc 8 _ (by omega) rfl,hc 9 _ (by omega) rfl,hc 10 _ (by omega) rfl⟩
structure Rowing(w:World)(base:Nat)(v:Value)(ls:List PC):Prop where
 row:w.ownsRow base 28 11 v ls.length (flatC ls)
 rep:∀p∈ls,p.rep (fun k=>base≤k∧v.ownBlock≠some k) w
theorem Rowing.nil(w:World)(base:Nat):Rowing w base (.slice none 0 0) []:=⟨World.ownsRow_nil _ _ _ _,by simp⟩
theorem Rowing.keep{S:Nat→Prop}{w w':World}{base:Nat}{v:Value}{ls:List PC}(h:Rowing w base v ls)(hk:Keep S w w')(hS:∀k,base≤k→k<w.heap.size→¬S k):Rowing w' base v ls:=
 ⟨own_keep h.row hk (fun k hk=>hS k (own_lt h.row k hk).1 (own_lt h.row k hk).2),fun p hp=>Rep.keep hk (fun b hb hb'=>hS b hb.1 hb') p.c (h.rep p hp)⟩
theorem Rowing.below{w w':World}{base:Nat}{v:Value}{ls:List PC}(h:Rowing w base v ls)(hb:Below w.heap.size w w'):Rowing w' base v ls:=
 h.keep (S:=fun _=>False) ((Keep.refl _ w).below hb) (fun _ _ _ h=>h)
theorem pushK{S:Nat→Prop}{w w1 wA w5:World}{base:Nat}{v v':Value}{ls:List PC}{p:PC}(h:Rowing w base v ls)(hbase:base≤w.heap.size)(h1:Keep S w w1)(hS:∀k,base≤k→¬S k)(hp:p.rep (fun k=>w.heap.size≤k) w1)(hA:Below w1.heap.size w1 wA)
  (hown:w5.ownsRow base 28 11 v' (ls.length+1) (flatC ls++p.cells)) (hg:wA.grownBy w5 v.ownBlock) (hat:v'.ownBlock=v.ownBlock∨v'.ownBlock=some wA.heap.size):
  Rowing w5 base v' (ls++[p])∧Keep (fun k=>S k∨v.ownBlock=some k) w w5:=by
 have hwA:Keep S w wA:=h1.trans (keep_of_below hA);have hK:Keep (fun k=>S k∨v.ownBlock=some k) w w5:=⟨hg.os.trans hwA.os,hg.tape.trans hwA.tape,hg.output.trans hwA.output,Nat.le_trans hwA.size hg.size,fun k hk hn=>(hg.block k (by have:=hwA.size;omega) (fun e=>hn (.inr e.symm))).trans (hwA.block k hk (fun e=>hn (.inl e)))⟩
 have hK1:Keep (fun k=>v.ownBlock=some k) w1 w5:=⟨hg.os.trans hA.os,hg.tape.trans hA.tape,hg.output.trans hA.output,Nat.le_trans hA.size hg.size,fun k hk hn=>(hg.block k (by have:=hA.size;omega) (fun e=>hn e.symm)).trans (hA.block k hk)⟩
 have hvl:∀k,v.ownBlock=some k→base≤k∧k<w.heap.size:=own_lt h.row;refine⟨⟨by rw[List.length_append,flatC_app];exact hown,fun q hq=> ?_⟩,hK⟩;rcases List.mem_append.1 hq with hq|hq
 ·have hr0:q.rep (fun k=>k<w.heap.size∧base≤k∧v.ownBlock≠some k) w:=Rep.mono (fun b hb hl=>⟨hl,hb⟩) q.c (h.rep q hq);refine Rep.mono (fun b hb _=>⟨hb.2.1,fun e=> ?_⟩) q.c (Rep.keep hK (fun b hb _ e=>e.elim (hS b hb.2.1) (fun e=>hb.2.2 e)) q.c hr0);rcases hat with e'|e'
  ·rw[e']at e;exact hb.2.2 e
  ·rw[e']at e;cases e;have:=hwA.size;omega
 ·obtain rfl:q=p:=by simpa using hq
  have hr0:q.rep (fun k=>k<w1.heap.size∧w.heap.size≤k) w1:=Rep.mono (fun b hb hl=>⟨hl,hb⟩) q.c hp;refine Rep.mono (fun b hb _=>⟨Nat.le_trans hbase hb.2,fun e=> ?_⟩) q.c (Rep.keep hK1 (fun b hb _ e=>by have:=(hvl b e).2;omega) q.c hr0);rcases hat with e'|e'
  ·rw[e']at e;have:=(hvl b e).2;omega
  ·rw[e']at e;cases e;have:=hA.size;omega
theorem Rowing.to_row{w:World}{base:Nat}{v:Value}{ls:List PC}(h:Rowing w base v ls):Row (fun k=>base≤k) w v (ls.map PC.c):=by
 have hreps:∀g,v.ownBlock=some g→Reps (fun k=>base≤k) w (ls.map PC.c) g 0:=by
  intro g hg;refine Reps.of fun j hj=> ?_
  have hj':j<ls.length:=by simpa using hj
  obtain⟨g',c,rfl,_,hs⟩:=part_at h.row j hj';cases hg;refine⟨ls[j].vm,ls[j].vl,ls[j].vt,ls[j].vp,ls[j].vk,by rw[Nat.zero_add];simpa using hs,?_⟩;have:=Rep.mono (fun b hb _=>hb.1) _ (h.rep ls[j] (List.getElem_mem hj'));simpa using this
 rcases h.row.2 with⟨h1,h0⟩|⟨g,cap,cur,rfl,e2,e3,e4,_⟩
 ·have:ls=[]:=List.length_eq_zero_iff.1 h0;subst this;exact⟨none,0,by rw[h1];rfl,Nat.le_refl _,fun hn=>absurd rfl hn⟩
 ·refine⟨some ⟨g,0,none⟩,cap,by simp,by simpa using e4,fun _=>⟨g,0,rfl,e2,(Array.getElem?_eq_some_iff.1 e3).1,hreps g rfl⟩⟩
theorem srcNew{w wD:World}{a b c d e f g h i j k:Value}{t:TypeId}(hw:w.alloc (.cells #[a,b,c,d,e,f,g,h,i,j,k] t)=wD):Ap.Src wD (.slice (some ⟨w.heap.size,0,none⟩) 1 1) 1 [a,b,c,d,e,f,g,h,i,j,k]:=
 .inr ⟨_,_,rfl,fun z u hu=>by
  rw[Addr.add_mid,Nat.zero_add];have h2:#[a,b,c,d,e,f,g,h,i,j,k][z]?=some u:=by rw[←hu];simp
  exact(Hp.new hw).cell z h2⟩
theorem infoC:(Tryz.prog.info? 28).map (fun i=>(i.zero,i.size,i.bytes))=some (some (.agg #[.int .i64 0,.int .i64 0,.string ⟨#[]⟩,.int .i64 0,.int .i64 0,.string ⟨#[]⟩,.slice none 0 0,.slice none 0 0,.slice none 0 0,.slice none 0 0,.slice none 0 0]),11,184):=by kernel_rfl
end Co
def AtC(w:World)(b:Nat):Prop:=∃j v,w.cell? ⟨b,j,none⟩=some v
theorem atC_not{w:World}{r:Nat}{o:Obj}(h:w.heap[r]?=some o)(ho:o.isCells=false):¬AtC w r:=by
 rintro⟨j,v,hv⟩;unfold World.cell? at hv;simp only[h]at hv;cases o <;> simp_all [Obj.isCells]
namespace Dt
theorem irow_at{F:Nat→Prop}{w:World}{v:Value}{m:List Int}(h:IRow F w v m):IRow (fun b=>F b∧AtC w b) w v m:=by
 obtain⟨a0,c0,i1,i2,i3⟩:=h;refine⟨a0,c0,i1,i2,fun hn=> ?_⟩;obtain⟨b,o,g1,g2,g3,g4⟩:=i3 hn;have hl:0<m.length:=List.length_pos_iff.2 hn;exact⟨b,o,g1,⟨g2,_,_,g4 0 hl⟩,g3,g4⟩
theorem reps_at0{F:Nat→Prop}{w:World}{l:List D}{b o:Nat}(hn:l≠[])(h:Reps F w l b o):AtC w b:=by
 cases l with
 |nil=>exact absurd rfl hn
 |cons d r=>rw[Reps]at h;obtain⟨⟨_,_,_,h1,-⟩,-⟩:=h;exact⟨_,_,h1.c0⟩
mutual
theorem rep_at{F:Nat→Prop}{w:World}:∀(d:D) {vm vl vt:Value},Rep F w d vm vl vt→Rep (fun b=>F b∧AtC w b) w d vm vl vt
 | .mk k n s m l t,vm,vl,vt,h=>by
  rw[Rep]at h ⊢;obtain⟨h1,⟨a,c,e1,e2,e3⟩,⟨a',c',f1,f2,f3⟩⟩:=h;refine⟨irow_at h1,⟨a,c,e1,e2,fun hn=> ?_⟩,⟨a',c',f1,f2,fun hn=> ?_⟩⟩
  ·obtain⟨b,o,g1,g2,g3,g4⟩:=e3 hn;exact⟨b,o,g1,⟨g2,reps_at0 hn g4⟩,g3,reps_at l g4⟩
  ·obtain⟨b,o,g1,g2,g3,g4⟩:=f3 hn;exact⟨b,o,g1,⟨g2,reps_at0 hn g4⟩,g3,reps_at t g4⟩
theorem reps_at{F:Nat→Prop}{w:World}:∀(l:List D) {b o:Nat},Reps F w l b o→Reps (fun b=>F b∧AtC w b) w l b o
 |[],_,_,_=>by rw[Reps];trivial
 |d :: r,b,o,h=>by
  rw[Reps]at h ⊢;obtain⟨⟨vm,vl,vt,h1,h2⟩,h3⟩:=h;exact⟨⟨vm,vl,vt,h1,rep_at d h2⟩,reps_at r h3⟩
end
end Dt
namespace Co
theorem reps_at0{F:Nat→Prop}{w:World}{l:List C}{b o:Nat}(hn:l≠[])(h:Reps F w l b o):AtC w b:=by
 cases l with
 |nil=>exact absurd rfl hn
 |cons d r=>rw[Reps]at h;obtain⟨⟨_,_,_,_,_,h1,-⟩,-⟩:=h;exact⟨_,_,h1.c0⟩
mutual
theorem rep_at{F:Nat→Prop}{w:World}:∀(c:C) {vm vl vt vp vk:Value},Rep F w c vm vl vt vp vk→Rep (fun b=>F b∧AtC w b) w c vm vl vt vp vk
 | .mk k n s d p l,vm,vl,vt,vp,vk,h=>by
  rw[Rep]at h ⊢;obtain⟨h1,h2,⟨a,c,e1,e2,e3⟩⟩:=h;refine⟨Dt.rep_at d h1,Dt.irow_at h2,⟨a,c,e1,e2,fun hn=> ?_⟩⟩;obtain⟨b,o,g1,g2,g3,g4⟩:=e3 hn;exact⟨b,o,g1,⟨g2,reps_at0 hn g4⟩,g3,reps_at l g4⟩
theorem reps_at{F:Nat→Prop}{w:World}:∀(l:List C) {b o:Nat},Reps F w l b o→Reps (fun b=>F b∧AtC w b) w l b o
 |[],_,_,_=>by rw[Reps];trivial
 |d :: r,b,o,h=>by
  rw[Reps]at h ⊢;obtain⟨⟨vm,vl,vt,vp,vk,h1,h2⟩,h3⟩:=h;exact⟨⟨vm,vl,vt,vp,vk,h1,rep_at d h2⟩,reps_at r h3⟩
end
theorem Rowing.grown{w w':World}{base:Nat}{v:Value}{ls:List PC}{row:Option Nat}(h:Rowing w base v ls)(hg:w.grownBy w' row)(hr:∀r,row=some r→∃o:Obj,w.heap[r]?=some o∧o.isCells=false):Rowing w' base v ls:=by
 have hk:Keep (fun k=>row=some k) w w':=⟨hg.os,hg.tape,hg.output,hg.size,fun k hk hn=>hg.block k hk (fun e=>hn e.symm)⟩
 have hrow:w'.ownsRow base 28 11 v ls.length (flatC ls):=by
  rcases h.row.2 with⟨h1,h0⟩|⟨g,cap,cur,e1,e2,e3,e4⟩
  ·exact⟨h.row.1,.inl ⟨h1,h0⟩⟩
  ·have hne:¬row=some g:=fun e=>by
    obtain⟨o,ho,hc⟩:=hr g e;rw[ho]at e3;cases e3;cases hc
   exact⟨h.row.1,.inr ⟨g,cap,cur,e1,e2,(hk.block g (Array.getElem?_eq_some_iff.1 e3).1 hne).trans e3,e4⟩⟩
 refine⟨hrow,fun p hp=> ?_⟩;have h1:=rep_at p.c (h.rep p hp);exact Rep.mono (fun b hb _=>hb.1) p.c (Rep.keep hk (fun b hb _ e=>by obtain⟨o,ho,hc⟩:=hr b e;exact atC_not ho hc hb.2) p.c h1)
end Co
end Go.Proofs.YtfjmlfbohenmfaaGreat
