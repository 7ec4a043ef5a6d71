/-
  RdBaseb, RdRowb, DtDownSb, CoRowb, CoCellsb.
-/
import Derived.Test.YtfjmlfbohenmfaaGreatCoreBBM3
import Derived.Test.YtfjmlfbohenmfaaGreatCoreBBM2
import Derived.Test.YtfjmlfbohenmfaaGreatDtOwnb
import Derived.OrdersIn
import Derived.BigFrameIn
import Derived.Sort.CutIn
import Derived.Test.YtfjmlfbohenmfaaGreatCoreBBM5
import Derived.Test.YtfjmlfbohenmfaaGreatCoreBBM7
import Derived.RangeFuncBox
set_option maxRecDepth 100000
set_option maxHeartbeats 32000000
namespace Go.Proofs.YtfjmlfbohenmfaaGreat
open Go.RowKit
attribute [local go_sem] Oper.semAt_some
namespace Rd
open Lx
structure Src(w:World)(tb:Nat)(xs:List PTok):Prop where
 lt:tb<w.heap.size
 tok:∀i,(h:i<xs.length)→w.cell? ⟨tb,i*5,none⟩=some (.int .i64 xs[i].t.k)∧w.cell? ⟨tb,i*5+1,none⟩=some (.int .i64 (xs[i].at_:Int))∧w.cell? ⟨tb,i*5+2,none⟩=some (.int .i64 (xs[i].to:Int))∧w.cell? ⟨tb,i*5+3,none⟩=some (.int .i64 xs[i].t.n)∧w.cell? ⟨tb,i*5+4,none⟩=some (.string ⟨xs[i].t.s.toArray⟩)
theorem Src.keep{S:Nat→Prop}{w w':World}{tb:Nat}{xs:List PTok}(h:Src w tb xs)(hk:Keep S w w')(hS:¬S tb):Src w' tb xs:=
 ⟨Nat.lt_of_lt_of_le h.lt hk.size,fun i hi=>by
  obtain⟨h0,h1,h2,h3,h4⟩:=h.tok i hi;exact⟨(hk.cell _ h.lt hS).trans h0,(hk.cell _ h.lt hS).trans h1,(hk.cell _ h.lt hS).trans h2,(hk.cell _ h.lt hS).trans h3,(hk.cell _ h.lt hS).trans h4⟩⟩
theorem Src.below{w w':World}{tb:Nat}{xs:List PTok}(h:Src w tb xs)(hb:Below w.heap.size w w'):Src w' tb xs:=h.keep (S:=fun _=>False) (keep_of_below hb) id
end Rd
end Go.Proofs.YtfjmlfbohenmfaaGreat
namespace Go.Proofs.YtfjmlfbohenmfaaGreat
open Go.RowKit
namespace Rd
open Dt Lx
def Nz(v:Value):Prop:=v= .slice none 0 0∨∃ad n c,v= .slice (some ad) n c
theorem own_nz{w:World}{base size n:Nat}{e:TypeId}{v:Value}{xs:List Value}(h:w.ownsRow base e size v n xs):Nz v:=by
 rcases h.2 with⟨h1,h0⟩|⟨g,cap,cur,rfl,_⟩
 ·exact .inl h1
 ·exact .inr ⟨_,_,_,rfl⟩
theorem rep_row{F:Nat→Prop}{w:World}{vl:Value}{acc:List D}(kk:Int)(h:Row F w vl acc):Rep F w (.mk kk 0 ⟨#[]⟩ [] acc []) (.slice none 0 0) vl (.slice none 0 0):=
 (rep_iff _ _ _ _ _ _).2 ⟨⟨none,0,rfl,Nat.le_refl _,fun h=>absurd rfl h⟩,h,⟨none,0,rfl,Nat.le_refl _,fun h=>absurd rfl h⟩⟩
theorem flatP_len(l:List Dt.P):(flatP l).length=l.length*6:=by
 unfold flatP
 induction l with
 |nil=>rfl
 |cons q l ih=>rw[List.flatMap_cons,List.length_append,ih,List.length_cons];show 6+_=_;omega
theorem flatP_one(qs:List Dt.P)(h:∀p∈qs,∃a1 n1 c1 a2 n2 c2 a3 n3 c3,p.vm= .slice a1 n1 c1∧p.vl= .slice a2 n2 c2∧p.vt= .slice a3 n3 c3):∀u∈flatP qs,u.oneCell'=true:=by
 intro u hu;obtain⟨p,hp,hu⟩:=List.mem_flatMap.1 hu;obtain⟨a1,n1,c1,a2,n2,c2,a3,n3,c3,e1,e2,e3⟩:=h p hp;unfold P.cells at hu;rw[e1,e2,e3]at hu;simp only[List.mem_cons,List.not_mem_nil,or_false]at hu;rcases hu with rfl|rfl|rfl|rfl|rfl|rfl <;> rfl
theorem flatP_at{qs:List Dt.P}{j:Nat}{u:Value}(h:(flatP qs)[j]?=some u):∃i r,∃hi:i<qs.length,r<6∧j=i*6+r∧(qs[i].cells)[r]?=some u:=by
 have hl:∀l:List Dt.P,(flatP l).length=l.length*6:=fun l=>by
  unfold flatP
  induction l with
  |nil=>rfl
  |cons q l ih=>rw[List.flatMap_cons,List.length_append,ih,List.length_cons];show 6+_=_;omega
 have hlt:j<qs.length*6:=by rw[←hl];exact(List.getElem?_eq_some_iff.1 h).1
 have hi:j / 6<qs.length:=by omega
 refine⟨j / 6,j % 6,hi,Nat.mod_lt _ (by decide),by omega,?_⟩;rw[←h];conv=>rhs;rw[←List.take_append_drop (j / 6) qs,List.drop_eq_getElem_cons hi]
 have e1:flatP (qs.take (j / 6)++qs[j / 6] :: qs.drop (j / 6+1))=flatP (qs.take (j / 6))++(qs[j / 6].cells++flatP (qs.drop (j / 6+1))):=by unfold flatP;rw[List.flatMap_append,List.flatMap_cons]
 rw[e1,List.getElem?_append_right (by rw[hl,List.length_take];omega),hl,List.length_take,Nat.min_eq_left (by omega)];rw[List.getElem?_append_left (by show _<6;omega)];congr 1;omega
theorem pushK{S:Nat→Prop}{w w1 wA w5:World}{base:Nat}{v v':Value}{ls:List P}{p:P}(h:Rowing w base v ls)(hbase:base≤w.heap.size)(h1:Keep S w w1)(hS:∀k,base≤k→¬S k)(hp:Rep (fun k=>w.heap.size≤k) w1 p.d p.vm p.vl p.vt)(hA:Below w1.heap.size w1 wA)
  (hown:w5.ownsRow base 25 6 v' (ls.length+1) (flatP ls++p.cells)) (hg:wA.grownBy w5 v.ownBlock) (hat:v'.ownBlock=v.ownBlock∨v'.ownBlock=some wA.heap.size):
  Rowing w5 base v' (ls++[p])∧Keep (fun k=>S k∨v.ownBlock=some k) w w5:=by
 have hwA:Keep S w wA:=h1.trans (keep_of_below hA);have hK:Keep (fun k=>S k∨v.ownBlock=some k) w w5:=⟨hg.os.trans hwA.os,hg.tape.trans hwA.tape,hg.output.trans hwA.output,Nat.le_trans hwA.size hg.size,fun k hk hn=>(hg.block k (by have:=hwA.size;omega) (fun e=>hn (.inr e.symm))).trans (hwA.block k hk (fun e=>hn (.inl e)))⟩
 have hK1:Keep (fun k=>v.ownBlock=some k) w1 w5:=⟨hg.os.trans hA.os,hg.tape.trans hA.tape,hg.output.trans hA.output,Nat.le_trans hA.size hg.size,fun k hk hn=>(hg.block k (by have:=hA.size;omega) (fun e=>hn e.symm)).trans (hA.block k hk)⟩
 have hvl:∀k,v.ownBlock=some k→base≤k∧k<w.heap.size:=own_lt h.row;refine⟨⟨by rw[List.length_append,flatP_app];exact hown,fun q hq=> ?_⟩,hK⟩;rcases List.mem_append.1 hq with hq|hq
 ·have hr0:Rep (fun k=>k<w.heap.size∧base≤k∧v.ownBlock≠some k) w q.d q.vm q.vl q.vt:=Rep.mono (fun b hb hl=>⟨hl,hb⟩) q.d (h.rep q hq);refine Rep.mono (fun b hb _=>⟨hb.2.1,fun e=> ?_⟩) q.d (Rep.keep hK (fun b hb _ e=>e.elim (hS b hb.2.1) (fun e=>hb.2.2 e)) q.d hr0);rcases hat with e'|e'
  ·rw[e']at e;exact hb.2.2 e
  ·rw[e']at e;cases e;have:=hwA.size;omega
 ·obtain rfl:q=p:=by simpa using hq
  have hr0:Rep (fun k=>k<w1.heap.size∧w.heap.size≤k) w1 q.d q.vm q.vl q.vt:=Rep.mono (fun b hb hl=>⟨hl,hb⟩) q.d hp;refine Rep.mono (fun b hb _=>⟨Nat.le_trans hbase hb.2,fun e=> ?_⟩) q.d (Rep.keep hK1 (fun b hb _ e=>by have:=(hvl b e).2;omega) q.d hr0);rcases hat with e'|e'
  ·rw[e']at e;have:=(hvl b e).2;omega
  ·rw[e']at e;cases e;have:=hA.size;omega
theorem srcNew{w wD:World}{a b c d e f:Value}{t:TypeId}(h:w.alloc (.cells #[a,b,c,d,e,f] t)=wD):Ap.Src wD (.slice (some ⟨w.heap.size,0,none⟩) 1 1) 1 [a,b,c,d,e,f]:=
 .inr ⟨_,_,rfl,fun j u hu=>by
  rw[Addr.add_mid,Nat.zero_add];have h2:#[a,b,c,d,e,f][j]?=some u:=by rw[←hu];simp
  exact(Hp.new h).cell j h2⟩
theorem row_of_own{F:Nat→Prop}{w:World}{base n:Nat}{v:Value}{ls:List Dt.P}(hown:w.ownsRow base 25 6 v n (flatP ls))(hn:n=ls.length)(hF:∀j,v.ownBlock=some j→F j)(hr:∀p∈ls,Rep F w p.d p.vm p.vl p.vt):Row F w v (ls.map Dt.P.d):=by
 subst hn;have hreps:∀g,v.ownBlock=some g→Reps F w (ls.map Dt.P.d) g 0:=by
  intro g hg;refine Reps.of fun j hj=> ?_
  have hj':j<ls.length:=by simpa using hj
  obtain⟨g',c,rfl,_,hs⟩:=part_at hown j hj';cases hg;refine⟨ls[j].vm,ls[j].vl,ls[j].vt,by rw[Nat.zero_add];simpa using hs,?_⟩;have:=hr ls[j] (List.getElem_mem hj');simpa using this
 rcases hown.2 with⟨h1,h0⟩|⟨g,cap,cur,rfl,e2,e3,e4,_⟩
 ·have:ls=[]:=List.length_eq_zero_iff.1 h0;subst this;exact⟨none,0,by rw[h1];rfl,Nat.le_refl _,fun hn=>absurd rfl hn⟩
 ·exact⟨some ⟨g,0,none⟩,cap,by simp,by simpa using e4,fun _=>⟨g,0,rfl,hF g rfl,(Array.getElem?_eq_some_iff.1 e3).1,hreps g rfl⟩⟩
theorem row_parts{F:Nat→Prop}{w:World}{a:Option Addr}{n c:Nat}{l:List D}(h:Row F w (.slice a n c) l)(hz:Nz (.slice a n c)):∃qs:List Dt.P,qs.map Dt.P.d=l∧Ap.Src w (.slice a n c) n (flatP qs)∧∀q∈qs,Rep F w q.d q.vm q.vl q.vt:=by
 obtain⟨a',c',e,hc,hr⟩:=h;cases e
 cases l with
 |nil=>
  refine⟨[],rfl,?_,fun q hq=>by cases hq⟩;rcases hz with e|⟨ad,n,c,e⟩
  ·cases e;exact .inl ⟨rfl,rfl,rfl⟩
  ·cases e;exact .inr ⟨ad,_,rfl,fun j u hu=>by simp[flatP]at hu⟩
 |cons d0 l0=>
  obtain⟨g,o,rfl,-,hlt,hreps⟩:=hr (by simp);have hq:∀j:Fin (d0 :: l0).length,∃q:Dt.P,q.d=(d0 :: l0)[j.1]∧Six w g (o+j.1*6) q.d q.vm q.vl q.vt∧Rep F w q.d q.vm q.vl q.vt:=fun j=>by
   obtain⟨vm,vl,vt,h1,h2⟩:=hreps.at j.1 j.2;exact⟨⟨_,vm,vl,vt⟩,rfl,h1,h2⟩
  refine⟨List.ofFn (fun j=>Classical.choose (hq j)),?_,.inr ⟨⟨g,o,none⟩,_,rfl,?_⟩,?_⟩
  ·apply List.ext_getElem
   ·simp
   ·intro j h1 h2;simp only[List.getElem_map,List.getElem_ofFn];exact(Classical.choose_spec (hq ⟨j,h2⟩)).1
  ·intro j u hu;rw[Addr.add_mid];obtain⟨i,r,hi,hr6,hjr,hg⟩:=flatP_at hu;rw[List.length_ofFn]at hi;rw[List.getElem_ofFn]at hg;obtain⟨s0,s1,s2,s3,s4,s5⟩:=(Classical.choose_spec (hq ⟨i,hi⟩)).2.1;rw[hjr,←Nat.add_assoc];obtain rfl|rfl|rfl|rfl|rfl|rfl:r=0∨r=1∨r=2∨r=3∨r=4∨r=5:=by omega
   all_goals (simp only[P.cells]at hg;cases hg;first|exact s0|exact s1|exact s2|exact s3|exact s4|exact s5)
  ·intro q hq2;obtain⟨j,rfl⟩:=List.mem_ofFn.1 hq2;exact(Classical.choose_spec (hq j)).2.2
theorem own_base{w:World}{base base' size n:Nat}{e:TypeId}{v:Value}{xs:List Value}(h:w.ownsRow base e size v n xs)(hb:base'≤base):w.ownsRow base' e size v n xs:=by
 obtain⟨h1,h2⟩:=h;refine⟨h1,h2.elim .inl (fun h3=> ?_)⟩;obtain⟨g,cap,cur,e1,e2,e3⟩:=h3;exact .inr ⟨g,cap,cur,e1,Nat.le_trans hb e2,e3⟩
end Rd
namespace Dt
def encP(p:P):Array Value:=#[.agg #[.int .i64 p.d.k,.int .i64 p.d.n,.string p.d.s,p.vm,p.vl,p.vt]]
def VP(p:P)(w:World):Prop:=Rep (fun _=>True) w p.d p.vm p.vl p.vt
theorem round_wide{n m l:Nat}{P:Program}{f:FuncId}{tmps:Array Value}{assign body:Code}{w:World}{R:Ending→World→Prop}(h:RoundIn Fence.wide n P l f tmps assign body w R):RoundIn Fence.wide m P l f tmps assign body w R:=
 ⟨h.1,fun c cs _=>h.2 c cs (room_wide _)⟩
theorem yield_wide{n m l:Nat}{P:Program}{args:Array Value}{w:World}{R:Ending→World→Prop}(h:YieldAt Fence.wide n P l args w R):YieldAt Fence.wide m P l args w R:=by
 obtain⟨fn,tmps,assign,body,hy,hR⟩:=h;exact⟨fn,tmps,assign,body,hy,round_wide hR⟩
abbrev seeF(y:Nat):Value:= .func (.func 151) #[] #[.pointer (some ⟨y,0,none⟩)]
theorem eqlIn_seeF(d y:Nat)(w:World):(Op.equalIn (d+1) 105 (seeF y) .nilFunc).run Tryz.prog w= .ok false w:=by
 simp[Op.equalIn,run_underlying Tryz.underlying105]
theorem neq_seeF(y:Nat)(w:World):(binOp .neq 105 (seeF y) .nilFunc).run Tryz.prog w= .ok (.bool true) w:=by
 have h:=eqlIn_seeF 9999 y w;have h2:(Op.equal 105 (seeF y) .nilFunc).run Tryz.prog w= .ok false w:=h;show((do pure (.bool (!(←Op.equal 105 (seeF y) .nilFunc))):Sem Value)).run _ _=_;rw[Sem.run_bind,h2]
 rfl
def Ch(p d t:Nat)(lb:Nat→Prop)(k:Nat):Prop:=k=p∨k=d∨k=t∨lb k
structure Apt(p d s t u y:Nat)(lb:Nat→Prop)(B0:Nat):Prop where
 pd:p≠d
 ps:p≠s
 pt:p≠t
 pu:p≠u
 py:p≠y
 pb:¬lb p
 ds:d≠s
 dt:d≠t
 du:d≠u
 dy:d≠y
 db:¬lb d
 ts:t≠s
 tu:t≠u
 ty:t≠y
 tb:¬lb t
 sb:¬lb s
 ub:¬lb u
 yb:¬lb y
 gp:B0≤p
 gd:B0≤d
 gt:B0≤t
structure EnvS(w:World)(p d s t u y l a:Nat)(sp:Bool):Prop where
 cp:w.cell? ⟨p,0,none⟩=some (.int .i64 (a:Int))
 cd:∃b:Int,w.cell? ⟨d,0,none⟩=some (.int .i64 b)
 cs:w.cell? ⟨s,0,none⟩=some (seeF y)
 ct:w.cell? ⟨t,0,none⟩=some (.bool sp)
 cu:w.cell? ⟨u,0,none⟩=some (downF p d s t u)
 cy:w.cell? ⟨y,0,none⟩=some (.func (.yield l) #[] #[])
 fp:w.frozen? ⟨p,0,none⟩=false
 fd:w.frozen? ⟨d,0,none⟩=false
 ft:w.frozen? ⟨t,0,none⟩=false
theorem EnvS.keep{S:Nat→Prop}{w w':World}{p d s t u y l a:Nat}{sp:Bool}(h:EnvS w p d s t u y l a sp)(hk:Keep S w w')(hp:¬S p)(hd:¬S d)(hs:¬S s)(ht:¬S t)(hu:¬S u)(hy:¬S y):EnvS w' p d s t u y l a sp:=by
 obtain⟨b,hb⟩:=h.cd;exact⟨(hk.cell 0 (block_lt_of_cell h.cp) hp).trans h.cp,⟨b,(hk.cell 0 (block_lt_of_cell hb) hd).trans hb⟩,(hk.cell 0 (block_lt_of_cell h.cs) hs).trans h.cs,(hk.cell 0 (block_lt_of_cell h.ct) ht).trans h.ct,(hk.cell 0 (block_lt_of_cell h.cu) hu).trans h.cu,(hk.cell 0 (block_lt_of_cell h.cy) hy).trans h.cy,(hk.frozen 0 (block_lt_of_cell h.cp) hp).trans h.fp,(hk.frozen 0 (block_lt_of_cell hb) hd).trans h.fd,(hk.frozen 0 (block_lt_of_cell h.ct) ht).trans h.ft⟩
theorem EnvS.below{w w':World}{p d s t u y l a:Nat}{sp:Bool}(h:EnvS w p d s t u y l a sp)(hb:Below w.heap.size w w'):EnvS w' p d s t u y l a sp:=
 h.keep (S:=fun _=>False) ((Keep.refl _ w).below hb) id id id id id id
theorem EnvS.round{w w':World}{p d s t u y l a:Nat}{lb:Nat→Prop}{B0:Nat}{sp:Bool}(h:EnvS w p d s t u y l a sp)(g:Apt p d s t u y lb B0)(hk:Keep lb w w'):EnvS w' p d s t u y l a sp:=
 h.keep hk g.pb g.db g.sb g.tb g.ub g.yb
theorem EnvS.count{w:World}{p d s t u y l a:Nat}{lb:Nat→Prop}{B0:Nat}{sp:Bool}(h:EnvS w p d s t u y l a sp)(g:Apt p d s t u y lb B0)(a':Nat)(v b':Int)(hv:v=(a':Int)):EnvS ((w.setCell ⟨p,0,none⟩ (.int .i64 v)).setCell ⟨d,0,none⟩ (.int .i64 b')) p d s t u y l a' sp:=by
 subst hv;obtain⟨b,hb⟩:=h.cd;have n:∀ {x y:Nat},x≠y→(⟨x,0,none⟩:Addr)≠⟨y,0,none⟩:=fun hxy e=>by cases e;exact hxy rfl
 have o:∀ {z:Nat} {v:Value},p≠z→d≠z→w.cell? ⟨z,0,none⟩=some v→((w.setCell ⟨p,0,none⟩ (.int .i64 (a':Int))).setCell ⟨d,0,none⟩ (.int .i64 b')).cell? ⟨z,0,none⟩=some v:=fun h1 h2 h3=>
  (World.cell?_setCell_other _ _ _ _ (n h2)).trans ((World.cell?_setCell_other _ _ _ _ (n h1)).trans h3)
 refine⟨?_,⟨b',?_⟩,o g.ps g.ds h.cs,o g.pt g.dt h.ct,o g.pu g.du h.cu,o g.py g.dy h.cy,?_,?_,?_⟩
 ·exact(World.cell?_setCell_other _ _ _ _ (n (Ne.symm g.pd))).trans (World.cell?_setCell_same' _ _ _ (by rw[h.cp];rfl))
 ·exact World.cell?_setCell_same' _ _ _ (by rw[World.cell?_setCell_other _ _ _ _ (n g.pd),hb];rfl)
 ·rw[World.frozen?_setCell,World.frozen?_setCell];exact h.fp
 ·rw[World.frozen?_setCell,World.frozen?_setCell];exact h.fd
 ·rw[World.frozen?_setCell,World.frozen?_setCell];exact h.ft
theorem EnvS.stop{w:World}{p d s t u y l a:Nat}{lb:Nat→Prop}{B0:Nat}{sp:Bool}(h:EnvS w p d s t u y l a sp)(g:Apt p d s t u y lb B0)(sp':Bool):EnvS (w.setCell ⟨t,0,none⟩ (.bool sp')) p d s t u y l a sp':=by
 obtain⟨b,hb⟩:=h.cd;have n:∀ {x y:Nat},x≠y→(⟨x,0,none⟩:Addr)≠⟨y,0,none⟩:=fun hxy e=>by cases e;exact hxy rfl
 have o:∀ {z:Nat} {v:Value},t≠z→w.cell? ⟨z,0,none⟩=some v→(w.setCell ⟨t,0,none⟩ (.bool sp')).cell? ⟨z,0,none⟩=some v:=fun h1 h3=>(World.cell?_setCell_other _ _ _ _ (n h1)).trans h3
 exact⟨o (Ne.symm g.pt) h.cp,⟨b,o (Ne.symm g.dt) hb⟩,o g.ts h.cs,World.cell?_setCell_same' _ _ _ (by rw[h.ct];rfl),o g.tu h.cu,o g.ty h.cy,by rw[World.frozen?_setCell];exact h.fp,by rw[World.frozen?_setCell];exact h.fd,by rw[World.frozen?_setCell];exact h.ft⟩
def Mid(J Jx:List P→World→Prop)(x:D)(pre0:List P)(p d s t u y l:Nat)(lb:Nat→Prop)(done:List D)(q:Nat)(sp:Bool)(w3 wr:World):Prop:=
 Keep (Ch p d t lb) w3 wr∧((sp=false∧EnvS wr p d s t u y l q false∧∃xs:List P,xs.map P.d=done∧J (pre0++xs) wr)∨(sp=true∧(∃a',EnvS wr p d s t u y l a' true)∧∃xs:List P,xs.map P.d<+:pre x∧Jx (pre0++xs) wr))
def DPost(J Jx:List P→World→Prop)(x:D)(pre0:List P)(p d s t u y l:Nat)(lb:Nat→Prop)(q:Nat)(w:World)(e:Ending)(w':World):Prop:=e= .returned (.int .i64 0)∧∃sp,Mid J Jx x pre0 p d s t u y l lb (pre x) q sp w w'
def DownS(n:Nat)(J Jx:List P→World→Prop)(N l:Nat)(lb:Nat→Prop)(B0:Nat)(x:D):Prop:=∀(F:Nat→Prop) (deep a:Nat) (vm vl vt:Value) (w:World) (p d s t u y:Nat) (pre0:List P),Wf x→Fine x→Rep F w x vm vl vt→(∀k,F k→¬Ch p d t lb k)→EnvS w p d s t u y l a false→Apt p d s t u y lb B0→B0≤w.heap.size→deep≤65→a≤4096→(chk x deep a).1=0→J pre0 w→pre0.length+(pre x).length≤N→
 CallsIn Fence.wide n Tryz.prog 104 #[.agg #[.int .i64 x.k,.int .i64 x.n,.string x.s,vm,vl,vt],.int .i64 (deep:Int),.pointer (some ⟨p,0,none⟩),.pointer (some ⟨d,0,none⟩),.pointer (some ⟨s,0,none⟩),.pointer (some ⟨t,0,none⟩),.pointer (some ⟨u,0,none⟩)] w
  (DPost J Jx x pre0 p d s t u y l lb (chk x deep a).2 w)
end Dt
theorem see_in(n m l y:Nat)(hm:1≤m){R:Ending→World→Prop}{F:Nat→Prop}(x:Dt.D)(vm vl vt:Value)(w:World)(hW:Dt.Wf x)(hFi:Dt.Fine x)(hR:Dt.Rep F w x vm vl vt)(hy:w.cell? ⟨y,0,none⟩=some (.func (.yield l) #[] #[]))
  (hY:∀p:Dt.P,p.d=x→∀W1,Below w.heap.size w W1→Dt.VP p W1→YieldAt Fence.wide n Tryz.prog l (Dt.encP p) W1 R) (hB:∀e W,R e W→∃b,e= .returned (.bool b)):
  CallsIn Fence.wide m Tryz.prog 151 #[.agg #[.int .i64 x.k,.int .i64 x.n,.string x.s,vm,vl,vt],.pointer (some ⟨y,0,none⟩)] w R:=by
 obtain⟨a1,n1,q1,a2,n2,q2,a3,n3,q3,rfl,rfl,rfl⟩:=hR.forms;obtain⟨w1,hw1⟩:∃w1,w.alloc (.cells #[.int .i64 x.k,.int .i64 x.n,.string x.s,.slice a1 n1 q1,.slice a2 n2 q2,.slice a3 n3 q3] 25)=w1:=⟨_,rfl⟩
 have hb1:Below w.heap.size w w1:=by rw[←hw1];exact(Below.refl _ _).alloc (Nat.le_refl _) _
 have hbx:=Dt.six_new w x.k x.n x.s (.slice a1 n1 q1) (.slice a2 n2 q2) (.slice a3 n3 q3) 25;rw[hw1]at hbx;have b0:=hbx 0 (by omega);have b1:=hbx 1 (by omega);have b2:=hbx 2 (by omega);have b3:=hbx 3 (by omega);have b4:=hbx 4 (by omega);have b5:=hbx 5 (by omega);simp only[List.getElem?_toArray,List.getElem?_cons_zero,List.getElem?_cons_succ]at b0 b1 b2 b3 b4 b5;have hRR:=hR.below hb1;have hown:=fun u (hu:Below w1.heap.size w1 u)=>Dt.own_any x F _ _ _ u hW hFi (hRR.below hu)
 have HY:=zh hY;have HB:=zh hb1;have HYC:=zh hy;have HBL:=zh hB;clear hY hb1 hy hbx hW hFi hR hB;refine callsIn_of_wp Tryz.func151 rfl trivial ?_ rfl;simp only[Tryz.ntmps151,List.size_toArray,List.length_cons,List.length_nil,Nat.reduceAdd,Nat.reduceSub,Array.replicate_succ,Array.replicate_zero,List.push_toArray,List.append_toArray,List.nil_append,List.cons_append]
 gi_wp2
 have HOW:=zh hown;have HYB:Hid (∀W,Below w1.heap.size w1 W→W.cell? ⟨y,0,none⟩=some (.func (.yield l) #[] #[])):=fun W hb=>(((btr HB.out hb)).cell (p:=⟨y,0,none⟩) (block_lt_of_cell HYC.out)).trans HYC.out
 have yc:=HYB.out w1 (Below.refl _ _);clear hown hw1;refine wpIn_region_any (by kernel_rfl) ?_;have HBD:Hid (Below w1.heap.size w1 w1.drew):=(Below.refl _ w1).drew;refine wpAnyIn_ready (rs:=[0,1]) (by kernel_rfl) (by simp) ?_;refine AllReadyIn.cons rfl (fun K hK=> ?_) ?_
 ·go_simp;first|(refine hK _ _ ?_;clear hK K)|skip
  try simp only[Act.put,za,zb,zc]
  refine wpAnyIn_ready (rs:=[1]) (by kernel_rfl) (by simp) ?_;refine AllReadyIn.cons rfl (fun K hK=> ?_) AllReadyIn.nil;go_simp;first|(refine hK _ _ ?_;clear hK K)|skip
  try simp only[Act.put,za,zb,zc]
  refine wpAnyIn_ready (rs:=[2]) (by kernel_rfl) (by simp) ?_;refine AllReadyIn.cons rfl (fun K hK=> ?_) AllReadyIn.nil;go_simp;refine⟨trivial,?_⟩
  gi_at_call 81
  refine(callsIn_wide.2 (HOW.out _ HBD.out)).mono ?_;rintro e W5 ⟨⟨um,ul,ut,rfl,hr2⟩,hb5⟩;obtain⟨c1,m1,r1,c2,m2,r2,c3,m3,r3,rfl,rfl,rfl⟩:=hr2.forms;have hb15:=btr HBD.out hb5;have yc5:=HYB.out W5 hb15;obtain⟨fn,tmps,assign,body,hy,hR⟩:=Dt.yield_wide (m:=m) (HY.out ⟨x,.slice c1 m1 r1,.slice c2 m2 r2,.slice c3 m3 r3⟩ rfl W5 ((btr HB.out hb15)) (Dt.Rep.mono (fun _ _ _=>trivial) _ hr2));unfold Dt.encP at hy;dsimp only at hy;clear hb15 hb5 hr2;dsimp only;first|(refine hK _ _ ?_;clear hK K)|skip
  try simp only[Act.put,za,zb,zc]
  refine wpAnyIn_ready (rs:=[3]) (by kernel_rfl) (by simp) ?_;refine AllReadyIn.cons rfl (fun K hK=> ?_) AllReadyIn.nil;go_simp;refine(Dt.round_wide hR).mono ?_;rintro e W6 hRW;obtain⟨b6,rfl⟩:=HBL.out _ _ hRW;have HRW:=zh hRW;clear hR hy hRW;dsimp only;first|(refine hK _ _ ?_;clear hK K)|skip
  try simp only[Act.put,za,zb,zc]
  refine wpAnyIn_ready (rs:=[4]) (by kernel_rfl) (by simp) ?_;refine AllReadyIn.cons rfl (fun K hK=> ?_) AllReadyIn.nil;go_simp;first|(refine hK _ _ ?_;clear hK K)|skip
  try simp only[Act.put,za,zb,zc]
  refine wpAnyIn_done (by kernel_rfl) ?_ _
  gi_wp2
  exact HRW.out
 refine AllReadyIn.cons rfl (fun K hK=> ?_) AllReadyIn.nil;go_simp;first|(refine hK _ _ ?_;clear hK K)|skip
 try simp only[Act.put,za,zb,zc]
 refine wpAnyIn_ready (rs:=[0,2]) (by kernel_rfl) (by simp) ?_;refine AllReadyIn.cons rfl (fun K hK=> ?_) ?_
 ·go_simp;first|(refine hK _ _ ?_;clear hK K)|skip
  try simp only[Act.put,za,zb,zc]
  refine wpAnyIn_ready (rs:=[2]) (by kernel_rfl) (by simp) ?_;refine AllReadyIn.cons rfl (fun K hK=> ?_) AllReadyIn.nil;go_simp;refine⟨trivial,?_⟩
  gi_at_call 81
  refine(callsIn_wide.2 (HOW.out _ HBD.out)).mono ?_;rintro e W5 ⟨⟨um,ul,ut,rfl,hr2⟩,hb5⟩;obtain⟨c1,m1,r1,c2,m2,r2,c3,m3,r3,rfl,rfl,rfl⟩:=hr2.forms;have hb15:=btr HBD.out hb5;have yc5:=HYB.out W5 hb15;obtain⟨fn,tmps,assign,body,hy,hR⟩:=Dt.yield_wide (m:=m) (HY.out ⟨x,.slice c1 m1 r1,.slice c2 m2 r2,.slice c3 m3 r3⟩ rfl W5 ((btr HB.out hb15)) (Dt.Rep.mono (fun _ _ _=>trivial) _ hr2));unfold Dt.encP at hy;dsimp only at hy;clear hb15 hb5 hr2;dsimp only;first|(refine hK _ _ ?_;clear hK K)|skip
  try simp only[Act.put,za,zb,zc]
  refine wpAnyIn_ready (rs:=[3]) (by kernel_rfl) (by simp) ?_;refine AllReadyIn.cons rfl (fun K hK=> ?_) AllReadyIn.nil;go_simp;refine(Dt.round_wide hR).mono ?_;rintro e W6 hRW;obtain⟨b6,rfl⟩:=HBL.out _ _ hRW;have HRW:=zh hRW;clear hR hy hRW;dsimp only;first|(refine hK _ _ ?_;clear hK K)|skip
  try simp only[Act.put,za,zb,zc]
  refine wpAnyIn_ready (rs:=[4]) (by kernel_rfl) (by simp) ?_;refine AllReadyIn.cons rfl (fun K hK=> ?_) AllReadyIn.nil;go_simp;first|(refine hK _ _ ?_;clear hK K)|skip
  try simp only[Act.put,za,zb,zc]
  refine wpAnyIn_done (by kernel_rfl) ?_ _
  gi_wp2
  exact HRW.out
 refine AllReadyIn.cons rfl (fun K hK=> ?_) AllReadyIn.nil;go_simp;refine⟨trivial,?_⟩
 gi_at_call 81
 refine(callsIn_wide.2 (HOW.out _ HBD.out)).mono ?_;rintro e W5 ⟨⟨um,ul,ut,rfl,hr2⟩,hb5⟩;obtain⟨c1,m1,r1,c2,m2,r2,c3,m3,r3,rfl,rfl,rfl⟩:=hr2.forms;have hb15:=btr HBD.out hb5;have yc5:=HYB.out W5 hb15;obtain⟨fn,tmps,assign,body,hy,hR⟩:=Dt.yield_wide (m:=m) (HY.out ⟨x,.slice c1 m1 r1,.slice c2 m2 r2,.slice c3 m3 r3⟩ rfl W5 ((btr HB.out hb15)) (Dt.Rep.mono (fun _ _ _=>trivial) _ hr2));unfold Dt.encP at hy;dsimp only at hy;clear hb15 hb5 hr2;dsimp only;first|(refine hK _ _ ?_;clear hK K)|skip
 try simp only[Act.put,za,zb,zc]
 refine wpAnyIn_ready (rs:=[0]) (by kernel_rfl) (by simp) ?_;refine AllReadyIn.cons rfl (fun K hK=> ?_) AllReadyIn.nil;go_simp;first|(refine hK _ _ ?_;clear hK K)|skip
 try simp only[Act.put,za,zb,zc]
 refine wpAnyIn_ready (rs:=[3]) (by kernel_rfl) (by simp) ?_;refine AllReadyIn.cons rfl (fun K hK=> ?_) AllReadyIn.nil;go_simp;refine(Dt.round_wide hR).mono ?_;rintro e W6 hRW;obtain⟨b6,rfl⟩:=HBL.out _ _ hRW;have HRW:=zh hRW;clear hR hy hRW;dsimp only;first|(refine hK _ _ ?_;clear hK K)|skip
 try simp only[Act.put,za,zb,zc]
 refine wpAnyIn_ready (rs:=[4]) (by kernel_rfl) (by simp) ?_;refine AllReadyIn.cons rfl (fun K hK=> ?_) AllReadyIn.nil;go_simp;first|(refine hK _ _ ?_;clear hK K)|skip
 try simp only[Act.put,za,zb,zc]
 refine wpAnyIn_done (by kernel_rfl) ?_ _
 gi_wp2
 exact HRW.out
namespace Dt
theorem chks_head{L:List D}{deep q j:Nat}(hj:j<L.length)(h:(chks (L.drop j) deep q).1=0):(chk L[j] deep q).1=0∧chks (L.drop j) deep q=chks (L.drop (j+1)) deep (chk L[j] deep q).2:=by
 have h2:=chks_drop (deep:=deep) (q:=q) hj;by_cases e:(chk L[j] deep q).1=0
 ·rw[if_pos e]at h2;exact⟨e,h2⟩
 ·rw[if_neg e]at h2;rw[h2]at h;exact absurd h e
theorem fine_l{d:D}(h:Fine d):Fines d.l:=by cases d;rw[Fine]at h;exact h.2.2.2.1
theorem fine_t{d:D}(h:Fine d):Fines d.t:=by cases d;rw[Fine]at h;exact h.2.2.2.2
def AtS(x:D)(deep a:Nat)(M:Int×Nat)(i q:Nat):Prop:=(i=0∧q=a+1∧(chks x.l (deep+1) q).1=0)∨(i=1∧chks x.l (deep+1) (a+1)=(0,q)∧(chks x.t (deep+1) q).1=0)∨(i=2∧M=(0,q))
theorem genS2{w2:World}{p d s t u y l a:Nat}{lb:Nat→Prop}{B0:Nat}{v b':Int}{sp:Bool}(h:EnvS w2 p d s t u y l a sp)(g:Apt p d s t u y lb B0)(hv:v=((a+1:Nat):Int)):
  Hid (EnvS ((w2.setCell ⟨p,0,none⟩ (.int .i64 v)).setCell ⟨d,0,none⟩ (.int .i64 b')) p d s t u y l (a+1) sp∧Keep (Ch p d t lb) w2 ((w2.setCell ⟨p,0,none⟩ (.int .i64 v)).setCell ⟨d,0,none⟩ (.int .i64 b'))∧
   ((w2.setCell ⟨p,0,none⟩ (.int .i64 v)).setCell ⟨d,0,none⟩ (.int .i64 b')).heap.size=w2.heap.size∧Below B0 w2 ((w2.setCell ⟨p,0,none⟩ (.int .i64 v)).setCell ⟨d,0,none⟩ (.int .i64 b'))):=
 ⟨h.count g (a+1) v b' hv,((Keep.refl (Ch p d t lb) w2).setCell (B:=p) (.inl rfl) 0 _).setCell (B:=d) (.inr (.inl rfl)) 0 _,by simp[World.setCell],((Below.refl B0 w2).setCell (p:=⟨p,0,none⟩) g.gp _).setCell (p:=⟨d,0,none⟩) g.gd _⟩
def doneS(x:D)(i:Nat):List D:=if i=0 then [x]else if i=1 then x :: pres x.l else x :: (pres x.l++pres x.t)
theorem doneS_two(x:D):doneS x 2=pre x:=by simp[doneS,pre_eq]
theorem pres_take_all{l:List D}{j:Nat}(h:l.length≤j):pres (l.take j)=pres l:=by rw[List.take_of_length_le h]
theorem preOne(y:D):0<(pre y).length:=by simp[pre_eq]
theorem mid_see{J Jx:List P→World→Prop}{x:D}{pre0:List P}{p d s t u y l:Nat}{lb:Nat→Prop}{B0 q:Nat}{w w3 W1:World}{hx:P}(sp:Bool)(hE:EnvS w3 p d s t u y l q false)(g:Apt p d s t u y lb B0)(hK:Keep (Ch p d t lb) w w3)(hk1:Keep lb w3 W1)
  (hd:hx.d=x) (hz:B0≤w3.heap.size) (hJ:Rb.BelFrom B0 J) (hJx:Rb.BelFrom B0 Jx) (h:if sp then Jx (pre0++[hx]) W1 else J (pre0++[hx]) W1):
  Mid J Jx x pre0 p d s t u y l lb [x] q sp w (W1.setCell ⟨t,0,none⟩ (.bool sp)):=by
 have hz1:B0≤W1.heap.size:=Nat.le_trans hz hk1.size;have hb:Below B0 W1 (W1.setCell ⟨t,0,none⟩ (.bool sp)):=(Below.refl B0 W1).setCell (p:=⟨t,0,none⟩) g.gt _;have hE':=(hE.round g hk1).stop g sp;have hk:Keep (Ch p d t lb) w (W1.setCell ⟨t,0,none⟩ (.bool sp)):=(hK.trans (hk1.mono (fun k _ h=> .inr (.inr (.inr h))))).setCell (B:=t) (.inr (.inr (.inl rfl))) 0 _
 cases sp with
 |false=>exact⟨hk,.inl ⟨rfl,hE',[hx],by simp[hd],hJ _ _ _ h hz1 hb⟩⟩
 |true=>exact⟨hk,.inr ⟨rfl,⟨q,hE'⟩,[hx],by rw[pre_eq];simp[hd],hJx _ _ _ h hz1 hb⟩⟩
theorem Mid.below{J Jx:List P→World→Prop}{x:D}{pre0:List P}{p d s t u y l:Nat}{lb:Nat→Prop}{B0 q:Nat}{sp:Bool}{done:List D}{w3 wr w':World}(h:Mid J Jx x pre0 p d s t u y l lb done q sp w3 wr)(hJ:Rb.BelFrom B0 J)(hJx:Rb.BelFrom B0 Jx)(hz:B0≤wr.heap.size)(hb:Below wr.heap.size wr w'):
  Mid J Jx x pre0 p d s t u y l lb done q sp w3 w':=by
 obtain⟨hk,⟨hs,hE,xs,hm,hj⟩|⟨hs,⟨a',hE⟩,xs,hm,hj⟩⟩:=h
 ·exact⟨hk.below hb,.inl ⟨hs,hE.below hb,xs,hm,hJ _ _ _ hj hz (hb.mono hz)⟩⟩
 ·exact⟨hk.below hb,.inr ⟨hs,⟨a',hE.below hb⟩,xs,hm,hJx _ _ _ hj hz (hb.mono hz)⟩⟩
theorem Mid.child{J Jx:List P→World→Prop}{x y:D}{pre0 xs:List P}{p d s t u yb l:Nat}{lb:Nat→Prop}{q':Nat}{sp':Bool}{done:List D}{w3 wc w7:World}(hK:Keep (Ch p d t lb) w3 wc)(hxs:xs.map P.d=done)(hpre:done++pre y<+:pre x)
  (h:Mid J Jx y (pre0++xs) p d s t u yb l lb (pre y) q' sp' wc w7):Mid J Jx x pre0 p d s t u yb l lb (done++pre y) q' sp' w3 w7:=by
 obtain⟨hk,⟨hs,hE,ys,hm,hj⟩|⟨hs,hE,ys,hm,hj⟩⟩:=h
 ·exact⟨hK.trans hk,.inl ⟨hs,hE,xs++ys,by rw[List.map_append,hxs,hm],by rw[←List.append_assoc];exact hj⟩⟩
 ·refine⟨hK.trans hk,.inr ⟨hs,hE,xs++ys,?_,by rw[←List.append_assoc];exact hj⟩⟩;rw[List.map_append,hxs];exact List.IsPrefix.trans ((List.prefix_append_right_inj _).2 hm) hpre
theorem Mid.stopped{J Jx:List P→World→Prop}{x:D}{pre0:List P}{p d s t u y l:Nat}{lb:Nat→Prop}{q q':Nat}{done done':List D}{w3 wr:World}(h:Mid J Jx x pre0 p d s t u y l lb done q true w3 wr):Mid J Jx x pre0 p d s t u y l lb done' q' true w3 wr:=by
 obtain⟨hk,⟨hs,_⟩|h⟩:=h
 ·exact absurd hs (by simp)
 ·exact⟨hk,.inr h⟩
theorem Mid.cell{J Jx:List P→World→Prop}{x:D}{pre0:List P}{p d s t u y l:Nat}{lb:Nat→Prop}{q:Nat}{sp:Bool}{done:List D}{w3 wr:World}(h:Mid J Jx x pre0 p d s t u y l lb done q sp w3 wr):wr.cell? ⟨t,0,none⟩=some (.bool sp):=by
 obtain⟨_,⟨hs,hE,_⟩|⟨hs,⟨a',hE⟩,_⟩⟩:=h
 ·rw[hs];exact hE.ct
 ·rw[hs];exact hE.ct
theorem Mid.going{J Jx:List P→World→Prop}{x:D}{pre0:List P}{p d s t u y l:Nat}{lb:Nat→Prop}{q:Nat}{done:List D}{w3 wr:World}(h:Mid J Jx x pre0 p d s t u y l lb done q false w3 wr):EnvS wr p d s t u y l q false∧∃xs:List P,xs.map P.d=done∧J (pre0++xs) wr:=by
 obtain⟨_,⟨_,h⟩|⟨hs,_⟩⟩:=h
 ·exact h
 ·exact absurd hs (by simp)
theorem pres_append:∀(a b:List D),pres (a++b)=pres a++pres b
 |[],_=>by rw[pres];rfl
 |y :: a,b=>by rw[List.cons_append,pres,pres,pres_append a b,List.append_assoc]
theorem prefix_l{x:D}{j:Nat}(hj:j<x.l.length):doneS x 0++pres (x.l.take j)++pre x.l[j]<+:pre x:=by
 have h:=pres_snoc x.l j hj;rw[List.append_assoc,←h,pre_eq];have h2:pres x.l=pres (x.l.take (j+1))++pres (x.l.drop (j+1)):=by rw[←pres_append,List.take_append_drop]
 rw[h2];exact⟨pres (x.l.drop (j+1))++pres x.t,by simp[doneS]⟩
theorem prefix_t{x:D}{j:Nat}(hj:j<x.t.length):doneS x 1++pres (x.t.take j)++pre x.t[j]<+:pre x:=by
 have h:=pres_snoc x.t j hj;rw[List.append_assoc,←h,pre_eq];have h2:pres x.t=pres (x.t.take (j+1))++pres (x.t.drop (j+1)):=by rw[←pres_append,List.take_append_drop]
 rw[h2];exact⟨pres (x.t.drop (j+1)),by simp[doneS]⟩
theorem doneS_l(x:D){j:Nat}(h:x.l.length≤j):doneS x 0++pres (x.l.take j)=doneS x 1:=by rw[pres_take_all h];simp[doneS]
theorem doneS_t(x:D){j:Nat}(h:x.t.length≤j):doneS x 1++pres (x.t.take j)=doneS x 2:=by rw[pres_take_all h];simp[doneS]
def InL(x:D)(deep a j q:Nat):Prop:=(chks (x.l.drop j) (deep+1) q).1=0∧chks x.l (deep+1) (a+1)=chks (x.l.drop j) (deep+1) q
def InT(x:D)(deep a j q:Nat):Prop:=(chks (x.t.drop j) (deep+1) q).1=0∧∃q1,chks x.l (deep+1) (a+1)=(0,q1)∧chks x.t (deep+1) q1=chks (x.t.drop j) (deep+1) q
theorem inl_start{x:D}{deep a q:Nat}{M:Int×Nat}(h:AtS x deep a M 0 q):InL x deep a 0 q:=by
 rcases h with⟨_,rfl,h⟩|⟨h,_⟩|⟨h,_⟩
 ·exact⟨h,rfl⟩
 ·exact absurd h (by simp)
 ·exact absurd h (by simp)
theorem int_start{x:D}{deep a q:Nat}{M:Int×Nat}(h:AtS x deep a M 1 q):InT x deep a 0 q:=by
 rcases h with⟨h,_⟩|⟨_,h1,h2⟩|⟨h,_⟩
 ·exact absurd h (by simp)
 ·exact⟨h2,q,h1,rfl⟩
 ·exact absurd h (by simp)
theorem inl_step{x:D}{deep a j q:Nat}(hj:j<x.l.length)(h:InL x deep a j q):(chk x.l[j] (deep+1) q).1=0∧InL x deep a (j+1) (chk x.l[j] (deep+1) q).2:=by
 obtain⟨h1,h2⟩:=chks_head hj h.1;exact⟨h1,by rw[←h2];exact h.1,h.2.trans h2⟩
theorem int_step{x:D}{deep a j q:Nat}(hj:j<x.t.length)(h:InT x deep a j q):(chk x.t[j] (deep+1) q).1=0∧InT x deep a (j+1) (chk x.t[j] (deep+1) q).2:=by
 obtain⟨h0,q1,h3,h4⟩:=h;obtain⟨h1,h2⟩:=chks_head hj h0;exact⟨h1,by rw[←h2];exact h0,q1,h3,h4.trans h2⟩
theorem inl_end{x:D}{deep a j q:Nat}{M:Int×Nat}(hj:x.l.length≤j)(h:InL x deep a j q)(hM:M=chks x.t (deep+1) (chks x.l (deep+1) (a+1)).2)(h0:M.1=0):AtS x deep a M 1 q:=by
 have h2:=h.2;rw[List.drop_eq_nil_of_le hj,chks]at h2;rw[hM,h2]at h0;exact .inr (.inl ⟨rfl,h2,h0⟩)
theorem int_end{x:D}{deep a j q:Nat}{M:Int×Nat}(hj:x.t.length≤j)(h:InT x deep a j q)(hM:M=chks x.t (deep+1) (chks x.l (deep+1) (a+1)).2):AtS x deep a M 2 q:=by
 obtain⟨_,q1,h3,h4⟩:=h;rw[List.drop_eq_nil_of_le hj,chks]at h4;rw[h3,h4]at hM;exact .inr (.inr ⟨rfl,hM⟩)
theorem ats_two{x:D}{deep a q:Nat}{M:Int×Nat}(h:AtS x deep a M 2 q):M.2=q:=by
 rcases h with⟨h,_⟩|⟨h,_⟩|⟨_,h⟩
 ·exact absurd h (by simp)
 ·exact absurd h (by simp)
 ·rw[h]
theorem calls_wide{n m f:Nat}{P:Program}{args:Array Value}{w:World}{Q:Ending→World→Prop}(h:CallsIn Fence.wide n P f args w Q):CallsIn Fence.wide m P f args w Q:=callsIn_wide.2 (callsIn_wide.1 h)
theorem fines_at:∀ {l:List D},Fines l→∀(j:Nat) (h:j<l.length),Fine l[j]
 |[],_,j,h=>by simp at h
 |y :: r,hf,0,_=>by rw[Fines]at hf;exact hf.1
 |y :: r,hf,j+1,h=>by rw[Fines]at hf;exact fines_at (l:=r) hf.2 j (by simpa using h)
end Dt
namespace Co
open Dt (own_keep own_lt row_form)
structure PC where
 c:C
 vm:Value
 vl:Value
 vt:Value
 vp:Value
 vk:Value
def PC.cells(p:PC):List Value:=[.int .i64 p.c.k,.int .i64 p.c.n,.string p.c.s,.int .i64 p.c.d.k,.int .i64 p.c.d.n,.string p.c.d.s,p.vm,p.vl,p.vt,p.vp,p.vk]
def PC.rep(p:PC)(F:Nat→Prop)(w:World):Prop:=Rep F w p.c p.vm p.vl p.vt p.vp p.vk
def flatC(ls:List PC):List Value:=ls.flatMap PC.cells
theorem flatC_app(ls:List PC)(p:PC):flatC (ls++[p])=flatC ls++p.cells:=by unfold flatC;simp
theorem flatC_length(ls:List PC):(flatC ls).length=ls.length*11:=by
 induction ls with
 |nil=>rfl
 |cons a l ih=>
  have e:flatC (a :: l)=a.cells++flatC l:=rfl;rw[e,List.length_append,ih];have:a.cells.length=11:=rfl;simp;omega
theorem flatC_get{ls:List PC}{j:Nat}(hj:j<ls.length){c:Nat}(hc:c<11):(flatC ls)[j*11+c]?=ls[j].cells[c]?:=by
 have hsplit:ls=ls.take j++ls[j] :: ls.drop (j+1):=by rw[←List.drop_eq_getElem_cons hj,List.take_append_drop]
 have hlen:(flatC (ls.take j)).length=j*11:=by rw[flatC_length,List.length_take,Nat.min_eq_left (by omega)]
 have e:flatC ls=flatC (ls.take j)++(ls[j].cells++flatC (ls.drop (j+1))):=by
  conv=>lhs;rw[hsplit]
  unfold flatC;rw[List.flatMap_append,List.flatMap_cons]
 rw[e,List.getElem?_append_right (by omega),hlen,Nat.add_sub_cancel_left,List.getElem?_append_left (by show c<11;exact hc)]
theorem part_at{w:World}{base:Nat}{v:Value}{ls:List PC}(h:w.ownsRow base 28 11 v ls.length (flatC ls))(j:Nat)(hj:j<ls.length):
  ∃g c,v= .slice (some ⟨g,0,none⟩) ls.length c∧g<w.heap.size∧El w g (j*11) ls[j].c ls[j].vm ls[j].vl ls[j].vt ls[j].vp ls[j].vk:=by
 rcases h.2 with⟨_,h0⟩|⟨g,cap,cur,rfl,e2,e3,e4⟩
 ·omega
 ·refine⟨g,cap,rfl,(h.lt g rfl).2,?_⟩;have hadd:∀k,(⟨g,0,none⟩:Addr).add k=⟨g,k,none⟩:=fun k=>by unfold Addr.add;split <;> simp_all
  have hc:∀c u,c<11→ls[j].cells[c]?=some u→w.cell? ⟨g,j*11+c,none⟩=some u:=fun c u hc hu=>by
   have:=h.cells (g:=g) rfl (j*11+c) u ((flatC_get hj hc).trans hu);rw[hadd]at this;exact this
  exact⟨hc 0 _ (by omega) rfl,hc 1 _ (by omega) rfl,hc 2 _ (by omega) rfl,hc 3 _ (by omega) rfl,hc 4 _ (by omega) rfl,hc 5 _ (by omega) rfl,hc 6 _ (by omega) rfl,hc 7 _ (by omega) rfl,hc 8 _ (by omega) rfl,hc 9 _ (by omega) rfl,hc 10 _ (by omega) rfl⟩
structure Rowing(w:World)(base:Nat)(v:Value)(ls:List PC):Prop where
 row:w.ownsRow base 28 11 v ls.length (flatC ls)
 rep:∀p∈ls,p.rep (fun k=>base≤k∧v.ownBlock≠some k) w
theorem Rowing.nil(w:World)(base:Nat):Rowing w base (.slice none 0 0) []:=⟨World.ownsRow_nil _ _ _ _,by simp⟩
theorem Rowing.keep{S:Nat→Prop}{w w':World}{base:Nat}{v:Value}{ls:List PC}(h:Rowing w base v ls)(hk:Keep S w w')(hS:∀k,base≤k→k<w.heap.size→¬S k):Rowing w' base v ls:=
 ⟨own_keep h.row hk (fun k hk=>hS k (own_lt h.row k hk).1 (own_lt h.row k hk).2),fun p hp=>Rep.keep hk (fun b hb hb'=>hS b hb.1 hb') p.c (h.rep p hp)⟩
theorem Rowing.below{w w':World}{base:Nat}{v:Value}{ls:List PC}(h:Rowing w base v ls)(hb:Below w.heap.size w w'):Rowing w' base v ls:=
 h.keep (S:=fun _=>False) ((Keep.refl _ w).below hb) (fun _ _ _ h=>h)
theorem pushK{S:Nat→Prop}{w w1 wA w5:World}{base:Nat}{v v':Value}{ls:List PC}{p:PC}(h:Rowing w base v ls)(hbase:base≤w.heap.size)(h1:Keep S w w1)(hS:∀k,base≤k→¬S k)(hp:p.rep (fun k=>w.heap.size≤k) w1)(hA:Below w1.heap.size w1 wA)
  (hown:w5.ownsRow base 28 11 v' (ls.length+1) (flatC ls++p.cells)) (hg:wA.grownBy w5 v.ownBlock) (hat:v'.ownBlock=v.ownBlock∨v'.ownBlock=some wA.heap.size):
  Rowing w5 base v' (ls++[p])∧Keep (fun k=>S k∨v.ownBlock=some k) w w5:=by
 have hwA:Keep S w wA:=h1.trans (keep_of_below hA);have hK:Keep (fun k=>S k∨v.ownBlock=some k) w w5:=⟨hg.os.trans hwA.os,hg.tape.trans hwA.tape,hg.output.trans hwA.output,Nat.le_trans hwA.size hg.size,fun k hk hn=>(hg.block k (by have:=hwA.size;omega) (fun e=>hn (.inr e.symm))).trans (hwA.block k hk (fun e=>hn (.inl e)))⟩
 have hK1:Keep (fun k=>v.ownBlock=some k) w1 w5:=⟨hg.os.trans hA.os,hg.tape.trans hA.tape,hg.output.trans hA.output,Nat.le_trans hA.size hg.size,fun k hk hn=>(hg.block k (by have:=hA.size;omega) (fun e=>hn e.symm)).trans (hA.block k hk)⟩
 have hvl:∀k,v.ownBlock=some k→base≤k∧k<w.heap.size:=own_lt h.row;refine⟨⟨by rw[List.length_append,flatC_app];exact hown,fun q hq=> ?_⟩,hK⟩;rcases List.mem_append.1 hq with hq|hq
 ·have hr0:q.rep (fun k=>k<w.heap.size∧base≤k∧v.ownBlock≠some k) w:=Rep.mono (fun b hb hl=>⟨hl,hb⟩) q.c (h.rep q hq);refine Rep.mono (fun b hb _=>⟨hb.2.1,fun e=> ?_⟩) q.c (Rep.keep hK (fun b hb _ e=>e.elim (hS b hb.2.1) (fun e=>hb.2.2 e)) q.c hr0);rcases hat with e'|e'
  ·rw[e']at e;exact hb.2.2 e
  ·rw[e']at e;cases e;have:=hwA.size;omega
 ·obtain rfl:q=p:=by simpa using hq
  have hr0:q.rep (fun k=>k<w1.heap.size∧w.heap.size≤k) w1:=Rep.mono (fun b hb hl=>⟨hl,hb⟩) q.c hp;refine Rep.mono (fun b hb _=>⟨Nat.le_trans hbase hb.2,fun e=> ?_⟩) q.c (Rep.keep hK1 (fun b hb _ e=>by have:=(hvl b e).2;omega) q.c hr0);rcases hat with e'|e'
  ·rw[e']at e;have:=(hvl b e).2;omega
  ·rw[e']at e;cases e;have:=hA.size;omega
theorem Rowing.to_row{w:World}{base:Nat}{v:Value}{ls:List PC}(h:Rowing w base v ls):Row (fun k=>base≤k) w v (ls.map PC.c):=by
 have hreps:∀g,v.ownBlock=some g→Reps (fun k=>base≤k) w (ls.map PC.c) g 0:=by
  intro g hg;refine Reps.of fun j hj=> ?_
  have hj':j<ls.length:=by simpa using hj
  obtain⟨g',c,rfl,_,hs⟩:=part_at h.row j hj';cases hg;refine⟨ls[j].vm,ls[j].vl,ls[j].vt,ls[j].vp,ls[j].vk,by rw[Nat.zero_add];simpa using hs,?_⟩;have:=Rep.mono (fun b hb _=>hb.1) _ (h.rep ls[j] (List.getElem_mem hj'));simpa using this
 rcases h.row.2 with⟨h1,h0⟩|⟨g,cap,cur,rfl,e2,e3,e4,_⟩
 ·have:ls=[]:=List.length_eq_zero_iff.1 h0;subst this;exact⟨none,0,by rw[h1];rfl,Nat.le_refl _,fun hn=>absurd rfl hn⟩
 ·refine⟨some ⟨g,0,none⟩,cap,by simp,by simpa using e4,fun _=>⟨g,0,rfl,e2,(Array.getElem?_eq_some_iff.1 e3).1,hreps g rfl⟩⟩
theorem srcNew{w wD:World}{a b c d e f g h i j k:Value}{t:TypeId}(hw:w.alloc (.cells #[a,b,c,d,e,f,g,h,i,j,k] t)=wD):Ap.Src wD (.slice (some ⟨w.heap.size,0,none⟩) 1 1) 1 [a,b,c,d,e,f,g,h,i,j,k]:=
 .inr ⟨_,_,rfl,fun z u hu=>by
  rw[Addr.add_mid,Nat.zero_add];have h2:#[a,b,c,d,e,f,g,h,i,j,k][z]?=some u:=by rw[←hu];simp
  exact(Hp.new hw).cell z h2⟩
theorem infoC:(Tryz.prog.info? 28).map (fun i=>(i.zero,i.size,i.bytes))=some (some (.agg #[.int .i64 0,.int .i64 0,.string ⟨#[]⟩,.int .i64 0,.int .i64 0,.string ⟨#[]⟩,.slice none 0 0,.slice none 0 0,.slice none 0 0,.slice none 0 0,.slice none 0 0]),11,184):=by kernel_rfl
end Co
def AtC(w:World)(b:Nat):Prop:=∃j v,w.cell? ⟨b,j,none⟩=some v
theorem atC_not{w:World}{r:Nat}{o:Obj}(h:w.heap[r]?=some o)(ho:o.isCells=false):¬AtC w r:=by
 rintro⟨j,v,hv⟩;unfold World.cell? at hv;simp only[h]at hv;cases o <;> simp_all [Obj.isCells]
namespace Dt
theorem irow_at{F:Nat→Prop}{w:World}{v:Value}{m:List Int}(h:IRow F w v m):IRow (fun b=>F b∧AtC w b) w v m:=by
 obtain⟨a0,c0,i1,i2,i3⟩:=h;refine⟨a0,c0,i1,i2,fun hn=> ?_⟩;obtain⟨b,o,g1,g2,g3,g4⟩:=i3 hn;have hl:0<m.length:=List.length_pos_iff.2 hn;exact⟨b,o,g1,⟨g2,_,_,g4 0 hl⟩,g3,g4⟩
theorem reps_at0{F:Nat→Prop}{w:World}{l:List D}{b o:Nat}(hn:l≠[])(h:Reps F w l b o):AtC w b:=by
 cases l with
 |nil=>exact absurd rfl hn
 |cons d r=>rw[Reps]at h;obtain⟨⟨_,_,_,h1,-⟩,-⟩:=h;exact⟨_,_,h1.c0⟩
mutual
theorem rep_at{F:Nat→Prop}{w:World}:∀(d:D) {vm vl vt:Value},Rep F w d vm vl vt→Rep (fun b=>F b∧AtC w b) w d vm vl vt
 | .mk k n s m l t,vm,vl,vt,h=>by
  rw[Rep]at h ⊢;obtain⟨h1,⟨a,c,e1,e2,e3⟩,⟨a',c',f1,f2,f3⟩⟩:=h;refine⟨irow_at h1,⟨a,c,e1,e2,fun hn=> ?_⟩,⟨a',c',f1,f2,fun hn=> ?_⟩⟩
  ·obtain⟨b,o,g1,g2,g3,g4⟩:=e3 hn;exact⟨b,o,g1,⟨g2,reps_at0 hn g4⟩,g3,reps_at l g4⟩
  ·obtain⟨b,o,g1,g2,g3,g4⟩:=f3 hn;exact⟨b,o,g1,⟨g2,reps_at0 hn g4⟩,g3,reps_at t g4⟩
theorem reps_at{F:Nat→Prop}{w:World}:∀(l:List D) {b o:Nat},Reps F w l b o→Reps (fun b=>F b∧AtC w b) w l b o
 |[],_,_,_=>by rw[Reps];trivial
 |d :: r,b,o,h=>by
  rw[Reps]at h ⊢;obtain⟨⟨vm,vl,vt,h1,h2⟩,h3⟩:=h;exact⟨⟨vm,vl,vt,h1,rep_at d h2⟩,reps_at r h3⟩
end
end Dt
namespace Co
theorem reps_at0{F:Nat→Prop}{w:World}{l:List C}{b o:Nat}(hn:l≠[])(h:Reps F w l b o):AtC w b:=by
 cases l with
 |nil=>exact absurd rfl hn
 |cons d r=>rw[Reps]at h;obtain⟨⟨_,_,_,_,_,h1,-⟩,-⟩:=h;exact⟨_,_,h1.c0⟩
mutual
theorem rep_at{F:Nat→Prop}{w:World}:∀(c:C) {vm vl vt vp vk:Value},Rep F w c vm vl vt vp vk→Rep (fun b=>F b∧AtC w b) w c vm vl vt vp vk
 | .mk k n s d p l,vm,vl,vt,vp,vk,h=>by
  rw[Rep]at h ⊢;obtain⟨h1,h2,⟨a,c,e1,e2,e3⟩⟩:=h;refine⟨Dt.rep_at d h1,Dt.irow_at h2,⟨a,c,e1,e2,fun hn=> ?_⟩⟩;obtain⟨b,o,g1,g2,g3,g4⟩:=e3 hn;exact⟨b,o,g1,⟨g2,reps_at0 hn g4⟩,g3,reps_at l g4⟩
theorem reps_at{F:Nat→Prop}{w:World}:∀(l:List C) {b o:Nat},Reps F w l b o→Reps (fun b=>F b∧AtC w b) w l b o
 |[],_,_,_=>by rw[Reps];trivial
 |d :: r,b,o,h=>by
  rw[Reps]at h ⊢;obtain⟨⟨vm,vl,vt,vp,vk,h1,h2⟩,h3⟩:=h;exact⟨⟨vm,vl,vt,vp,vk,h1,rep_at d h2⟩,reps_at r h3⟩
end
theorem Rowing.grown{w w':World}{base:Nat}{v:Value}{ls:List PC}{row:Option Nat}(h:Rowing w base v ls)(hg:w.grownBy w' row)(hr:∀r,row=some r→∃o:Obj,w.heap[r]?=some o∧o.isCells=false):Rowing w' base v ls:=by
 have hk:Keep (fun k=>row=some k) w w':=⟨hg.os,hg.tape,hg.output,hg.size,fun k hk hn=>hg.block k hk (fun e=>hn e.symm)⟩
 have hrow:w'.ownsRow base 28 11 v ls.length (flatC ls):=by
  rcases h.row.2 with⟨h1,h0⟩|⟨g,cap,cur,e1,e2,e3,e4⟩
  ·exact⟨h.row.1,.inl ⟨h1,h0⟩⟩
  ·have hne:¬row=some g:=fun e=>by
    obtain⟨o,ho,hc⟩:=hr g e;rw[ho]at e3;cases e3;cases hc
   exact⟨h.row.1,.inr ⟨g,cap,cur,e1,e2,(hk.block g (Array.getElem?_eq_some_iff.1 e3).1 hne).trans e3,e4⟩⟩
 refine⟨hrow,fun p hp=> ?_⟩;have h1:=rep_at p.c (h.rep p hp);exact Rep.mono (fun b hb _=>hb.1) p.c (Rep.keep hk (fun b hb _ e=>by obtain⟨o,ho,hc⟩:=hr b e;exact atC_not ho hc hb.2) p.c h1)
end Co
end Go.Proofs.YtfjmlfbohenmfaaGreat
