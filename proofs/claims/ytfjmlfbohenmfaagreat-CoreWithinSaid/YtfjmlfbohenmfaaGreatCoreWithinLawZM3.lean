/-
  Several texts of this proof in one: CoToldq, CoMarksq, CdSymRq, CoRAloneq, CoRWkq, CoSdq, CoRKindq, ApNq, CoRGoesq, CoRCheckq, CoRPutq.
-/
import Derived.Test.YtfjmlfbohenmfaaGreatCoreWithinLawZM2
import Derived.Test.YtfjmlfbohenmfaaGreatPutq
import Derived.RangeFuncBox
import Derived.Test.YtfjmlfbohenmfaaGreatMinq
import Derived.Test.YtfjmlfbohenmfaaGreatDtSameq
import Derived.Test.YtfjmlfbohenmfaaGreatCoPlainq
import Derived.Test.YtfjmlfbohenmfaaGreatMemq
import Derived.Test.YtfjmlfbohenmfaaGreatTbSymRq
import Derived.Test.YtfjmlfbohenmfaaGreatCoreWithinLawZM1
import Derived.Deep.CutBlock
import Derived.Test.YtfjmlfbohenmfaaGreatRdRowq
import Derived.StillTailTactics
import Derived.Test.YtfjmlfbohenmfaaGreatAppq
import Derived.Test.YtfjmlfbohenmfaaGreatDtOwnPq
set_option maxRecDepth 100000
set_option maxHeartbeats 32000000
namespace Go.Proofs.YtfjmlfbohenmfaaGreat
open Go.RowKit Go.Shelf Go.Maps Go.WideMaps
attribute [local go_sem] Oper.semAt_some
namespace Co
theorem eqlIn_seqC(d:Nat)(f:Fn)(ts lb:Array Value)(w:World):(Op.equalIn (d+1) 38 (.func f ts lb) .nilFunc).run Tryz.prog w= .ok false w:=by
 simp[Op.equalIn,run_underlying Tryz.underlying38]
theorem eql_seqC(f:Fn)(ts lb:Array Value)(w:World):(binOp .eql 38 (.func f ts lb) .nilFunc).run Tryz.prog w= .ok (.bool false) w:=by
 simp only[binOp];simp[Op.equal,Op.maxDepth,eqlIn_seqC 9999 f ts lb w]
def tdn(L Z:Nat)(W:World)(k:Nat):Prop:=k=L∨k=Z∨∃v,W.cell? ⟨L,0,none⟩=some v∧v.ownBlock=some k
theorem tdn_st{L Z n:Nat}(hL:L<n):DSt (tdn L Z) n:=by
 intro A B k hn hb h;rcases h with h|h|⟨v,h1,h2⟩
 ·exact .inl h
 ·exact .inr (.inl h)
 ·exact .inr (.inr ⟨v,(hb.cell (p:=⟨L,0,none⟩) hL).symm.trans h1,h2⟩)
structure TI(w:World)(m:Nat)(O:Nat→Prop)(pre:List PC)(W:World):Prop where
 row:∃v,Boxed W (w.heap.size+1) 26 v∧Rowing W (w.heap.size+2) v pre∧(∀k,v.ownBlock=some k→¬O k)∧∀p∈pre,p.rep (fun k=>w.heap.size+2≤k∧v.ownBlock≠some k∧¬O k) W
 lim:Boxed W w.heap.size 3 (.int .i64 (m:Int))
 bel:Below w.heap.size w W
theorem TI.grown{w W W':World}{m:Nat}{O:Nat→Prop}{pre:List PC}{row:Option Nat}(h:TI w m O pre W)(hg:W.grownBy W' row)(hr:∀r,row=some r→w.heap.size+2≤r∧∃o:Obj,W.heap[r]?=some o∧o.isCells=false):TI w m O pre W':=by
 obtain⟨v,h1,h2,h3,h4⟩:=h.row;have hk:Keep (fun k=>row=some k) W W':=⟨hg.os,hg.tape,hg.output,hg.size,fun k hk hn=>hg.block k hk (fun e=>hn e.symm)⟩
 refine⟨⟨v,h1.kept hg (fun e=>by have:=(hr _ e.symm).1;omega),h2.grown hg (fun r e=>(hr r e).2),h3,fun p hp=> ?_⟩,h.lim.kept hg (fun e=>by have:=(hr _ e.symm).1;omega),Cd.below_grown h.bel (B:=w.heap.size+2) (by omega) hg (fun r e=>(hr r e).1)⟩;exact Rep.mono (fun b hb _=>hb.1) p.c (Rep.keep hk (fun b hb _ e=>by obtain⟨-,o,ho,hc⟩:=hr b e;exact atC_not ho hc hb.2) p.c (rep_at p.c (h4 p hp)))
theorem TI.other{w A B:World}{m:Nat}{O:Nat→Prop}{pre:List PC}(h:TI w m O pre A)(hO:∀k,O k→w.heap.size+2+2≤k)(hk:Keep O A B):TI w m O pre B:=by
 obtain⟨v,h1,h2,h3,h4⟩:=h.row;have hb:Below w.heap.size A B:=hk.to_below (fun k h=>by have:=hO k h;omega) h.bel.size;refine⟨⟨v,(hk.block _ h1.lt (fun e=>by have:=hO _ e;omega)).trans h1,⟨Dt.own_keep h2.row hk h3,fun p hp=> ?_⟩,h3,fun p hp=>Rep.keep hk (fun b hb _=>hb.2.2) p.c (h4 p hp)⟩,(hk.block _ h.lim.lt (fun e=>by have:=hO _ e;omega)).trans h.lim,h.bel.trans hb⟩;exact Rep.mono (fun b hb _=>⟨hb.1,hb.2.1⟩) p.c (Rep.keep hk (fun b hb _=>hb.2.2) p.c (h4 p hp))
def putAll(g:Nat):World→Nat→List Value→World
 |w,_,[]=>w
 |w,o,v :: r=>putAll g (w.setCell ⟨g,o,none⟩ v) (o+1) r
theorem putAll_keep(g:Nat):∀(vs:List Value) (w:World) (o:Nat),Keep (fun k=>k=g) w (putAll g w o vs)
 |[],w,o=>Keep.refl _ w
 |v :: r,w,o=>(set_keep w g o v).trans (putAll_keep g r _ _)
theorem own_putAll{base size n g cap:Nat}{e:TypeId}:∀(vs zs ys:List Value) (w:World),vs.length=zs.length→w.ownsRow base e size (.slice (some ⟨g,0,none⟩) n cap) n (ys++zs)→
  (putAll g w ys.length vs).ownsRow base e size (.slice (some ⟨g,0,none⟩) n cap) n (ys++vs)
 |[],[],ys,w,_,h=>h
 |[],_ :: _,_,_,hl,_=>by simp at hl
 |_ :: _,[],_,_,hl,_=>by simp at hl
 |v :: vs,z :: zs,ys,w,hl,h=>by
  have h1:=Pt.own_set (v:=v) h;have h2:=own_putAll vs zs (ys++[v]) _ (by simpa using hl) (by simpa using h1);rw[putAll];simpa using h2
theorem store_last{w w5:World}{base g cap:Nat}{v:Value}{ls:List PC}{p:PC}{zs:List Value}{S:Nat→Prop}(h:Rowing w base v ls)(hz:zs.length=11)(hk:Keep S w w5)(hS:∀k,base≤k→S k→v.ownBlock=some k)
  (hown:w5.ownsRow base 28 11 (.slice (some ⟨g,0,none⟩) (ls.length+1) cap) (ls.length+1) (flatC ls++zs)) (hg:v.ownBlock=some g∨w.heap.size≤g) (hgb:base≤g) (hp:p.rep (fun k=>base≤k∧k<w.heap.size∧v.ownBlock≠some k) w):
  Rowing (putAll g w5 (ls.length*11) p.cells) base (.slice (some ⟨g,0,none⟩) (ls.length+1) cap) (ls++[p]):=by
 have h1:=own_putAll p.cells zs (flatC ls) w5 (by rw[hz];rfl) hown;rw[flatC_length]at h1;have hk2:Keep (fun k=>S k∨k=g) w (putAll g w5 (ls.length*11) p.cells):=(hk.le fun k e=> .inl e).trans ((putAll_keep g p.cells w5 (ls.length*11)).le fun k e=> .inr e);have hno:∀b,base≤b→b<w.heap.size→v.ownBlock≠some b→¬ (S b∨b=g):=fun b h1 h2 h3 h4=>by
  rcases h4 with h4|h4
  ·exact h3 (hS b h1 h4)
  ·rcases hg with hg|hg
   ·rw[h4]at h3;exact h3 hg
   ·omega
 have hng:∀b,b<w.heap.size→v.ownBlock≠some b→(Value.slice (some ⟨g,0,none⟩) (ls.length+1) cap).ownBlock≠some b:=fun b h2 h3 e=>by
  have e:g=b:=by simpa[Value.ownBlock]using e
  rcases hg with hg|hg
  ·rw[e]at hg;exact h3 hg
  ·omega
 refine⟨by rw[List.length_append,flatC_app];exact h1,fun q hq=> ?_⟩;rcases List.mem_append.1 hq with hq|hq
 ·have hr0:q.rep (fun k=>k<w.heap.size∧base≤k∧v.ownBlock≠some k) w:=Rep.mono (fun b hb hl=>⟨hl,hb⟩) q.c (h.rep q hq);exact Rep.mono (fun b hb _=>⟨hb.2.1,hng b hb.1 hb.2.2⟩) q.c (Rep.keep hk2 (fun b hb _=>hno b hb.2.1 hb.1 hb.2.2) q.c hr0)
 ·obtain rfl:q=p:=by simpa using hq
  exact Rep.mono (fun b hb _=>⟨hb.1,hng b hb.2.1 hb.2.2⟩) q.c (Rep.keep hk2 (fun b hb _=>hno b hb.1 hb.2.1 hb.2.2) q.c hp)
theorem cutG(G X:Prop)(m:G→X)(r:G):X:=m r
theorem putAll_eq(g:Nat):∀(vs:List Value) (w:World) (o:Nat),putAll g w o vs=w.setCells g o vs
 |[],_,_=>rfl
 |v :: r,w,o=>by rw[putAll,World.setCells,putAll_eq g r]
theorem setCell_comm{g L:Nat}(hne:g≠L)(w:World)(i j:Nat)(u v:Value):(w.setCell ⟨g,i,none⟩ u).setCell ⟨L,j,none⟩ v=(w.setCell ⟨L,j,none⟩ v).setCell ⟨g,i,none⟩ u:=by
 unfold World.setCell
 congr 1
 refine Array.ext_getElem? fun k=> ?_
 simp only[Array.getElem?_modify];by_cases h1:g=k
 ·have h2:¬L=k:=fun e=>hne (h1.trans e.symm)
  simp[h1,h2]
 ·by_cases h2:L=k
  ·simp[h1,h2]
  ·simp[h1,h2]
theorem setCells_comm{g L:Nat}(hne:g≠L):∀(vs:List Value) (w:World) (o j:Nat) (v:Value),(w.setCell ⟨L,j,none⟩ v).setCells g o vs=(w.setCells g o vs).setCell ⟨L,j,none⟩ v
 |[],_,_,_,_=>rfl
 |u :: r,w,o,j,v=>by rw[World.setCells,World.setCells,←setCell_comm hne,setCells_comm hne r]
theorem setCells_keep(g:Nat)(vs:List Value)(w:World)(o:Nat):Keep (fun k=>k=g) w (w.setCells g o vs):=by rw[←putAll_eq];exact putAll_keep g vs w o
theorem kr_put{L Z:Nat}(hLZ:L≠Z)(W:World)(o':Obj):KR (tdn L Z) W (W.putObj Z o'):=by
 have hg:=grownBy_putObj' W Z o';refine⟨hg.os,hg.tape,hg.output,hg.size,fun k hk hn=>hg.block k hk (fun e=>by cases e;exact hn (.inr (.inl rfl))),fun k hk=> .inl ?_⟩;rcases hk with h|h|⟨v,h1,h2⟩
 ·exact .inl h
 ·exact .inr (.inl h)
 ·refine .inr (.inr ⟨v,?_,h2⟩);rw[←h1];unfold World.cell?;by_cases hl:L<W.heap.size
  ·rw[hg.block L hl (fun e=>by cases e;exact hLZ rfl)]
  ·have e1:(W.putObj Z o').heap[L]?=W.heap[L]?:=by
    unfold World.putObj;simp[Array.getElem?_eq_none (Nat.le_of_not_lt hl)];omega
   rw[e1]
theorem VCD.grown{L Z lo:Nat}{O:Nat→Prop}{x:PC}{W W':World}{row:Option Nat}(h:VCD (tdn L Z) lo O x W)(hL:L<W.heap.size)(hg:W.grownBy W' row)(hr:∀r,row=some r→L<r∧∃o:Obj,W.heap[r]?=some o∧o.isCells=false):VCD (tdn L Z) lo O x W':=by
 have hk:Keep (fun k=>row=some k) W W':=⟨hg.os,hg.tape,hg.output,hg.size,fun k hk hn=>hg.block k hk (fun e=>hn e.symm)⟩
 have same:∀b,tdn L Z W' b→tdn L Z W b:=fun b hb=>by
  rcases hb with hb|hb|⟨v,h1,h2⟩
  ·exact .inl hb
  ·exact .inr (.inl hb)
  ·exact .inr (.inr ⟨v,(hk.cell 0 hL (fun e=>by have:=(hr _ e).1;omega)).symm.trans h1,h2⟩)
 exact⟨Rep.mono (fun b hb _=>⟨hb.1.1,fun e=>hb.1.2.1 (same b e),hb.1.2.2⟩) _ (Rep.keep hk (fun b hb _ e=>by obtain⟨-,o,ho,hc⟩:=hr b e;exact atC_not ho hc hb.2) _ (rep_at _ h.1)),h.2⟩
theorem rowK_mono{F G:Nat→Prop}{w:World}{v:Value}{l:List C}(hFG:∀b,F b→G b)(h:Row F w v l):Row G w v l:=by
 obtain⟨a,c,e1,e2,e3⟩:=h;refine⟨a,c,e1,e2,fun hn=> ?_⟩;obtain⟨b,o,g1,g2,g3,g4⟩:=e3 hn;exact⟨b,o,g1,hFG b g2,g3,Reps.mono (fun b hb _=>hFG b hb) l g4⟩
theorem take_prefix{α:Type}{pre xs:List α}{m:Nat}(h:pre<+:xs)(hm:m≤pre.length):pre.take m=xs.take m:=by
 obtain⟨r,rfl⟩:=h;rw[List.take_append_of_le_length hm]
def TAx(w:World)(m:Nat)(tm:Nat→PC→Array Value)(O:Nat→Prop)(pre:List PC)(x:PC)(a':Act)(W:World):Prop:=
 (TI w m O pre W∧pre.length≤m)∧(∀k,O k→w.heap.size+2+2≤k∧k<W.heap.size)∧VCD (tdn (w.heap.size+1) (w.heap.size+3)) (w.heap.size+2) O x W∧∃Xb,w.heap.size+2≤Xb∧(∀v,W.cell? ⟨w.heap.size+1,0,none⟩=some v→v.ownBlock≠some Xb)∧Bc W Xb x.c x.vm x.vl x.vt x.vp x.vk∧a'= {tmps:=tm Xb x,defers:=[]}
end Co
theorem coTold_any{F:Nat→Prop}(c:Co.C)(vm vl vt vp vk:Value)(m:Nat)(hm:m≤1048576)(db:Nat)(w:World)(hW:Co.Wf c)(hR:Co.Rep F w c vm vl vt vp vk)(hd:Co.Bc w db c vm vl vt vp vk):
  Calls Tryz.prog 16 #[.func (.func 43) #[] #[.pointer (some ⟨db,0,none⟩)],.int .i64 (m:Int)] w fun e w'=>∃v,e= .returned v∧Co.Row (fun k=>w.heap.size≤k) w' v ((Co.all c).take m)∧Below w.heap.size w w':=by
 refine(callsIn_wide (n:=12)).1 ?_;refine callsIn_of_wp_marks Tryz.func16 rfl trivial ?_ rfl;simp only[Tryz.ntmps16,List.size_toArray,List.length_cons,List.length_nil,Nat.reduceAdd,Nat.reduceSub,Array.replicate_succ,Array.replicate_zero,List.push_toArray,List.append_toArray,List.nil_append,List.cons_append]
 gi_wp2
 simp only[Co.eql_seqC]
 gi_wp2
 have bM:=Boxed.new w 3 (.int .i64 (m:Int));have bL:=Boxed.new (w.alloc (.cells #[.int .i64 (m:Int)] 3)) 26 (.slice none 0 0);rw[World.size_alloc]at bL;have hB0:Below w.heap.size w ((w.alloc (.cells #[.int .i64 (m:Int)] 3)).alloc (.cells #[.slice none 0 0] 26)):=((Below.refl _ w).alloc (Nat.le_refl _) _).alloc (by simp) _;have hsz:((w.alloc (.cells #[.int .i64 (m:Int)] 3)).alloc (.cells #[.slice none 0 0] 26)).heap.size=w.heap.size+2:=by simp
 have bM1:=bM.alloc (.cells #[.slice none 0 0] 26);obtain⟨W0,hW0⟩:∃W0,(w.alloc (.cells #[.int .i64 (m:Int)] 3)).alloc (.cells #[.slice none 0 0] 26)=W0:=⟨_,rfl⟩
 rw[hW0]at bM1 bL hB0 hsz ⊢;clear hW0 bM;have hdb:db<w.heap.size:=hd.lt;have HSZ:=hd hsz;have HB0:=hd hB0;have HLEN:=hd (Co.all_len c);refine Rb.wpIn_rangeO (n:=12) rfl (by omega) (gf:=43) (lb:=#[.pointer (some ⟨db,0,none⟩)]) rfl trivial (enters_of Tryz.func43 (by kernel_rfl) rfl)
  (encs:=Co.encC) (Kp:=Co.KR (Co.tdn (w.heap.size+1) (w.heap.size+3))) (V:=Co.VCD (Co.tdn (w.heap.size+1) (w.heap.size+3)) (w.heap.size+2)) (S:=fun ys=>ys.map Co.PC.c=Co.all c) (Sp:=fun ys=>ys.map Co.PC.c<+:Co.all c) (N:=(Co.all c).length) (w0:=W0)
  (by
   have h:=coAll_stopsD 11 (F:=fun k=>k<w.heap.size) c vm vl vt vp vk W0 (Co.tdn (w.heap.size+1) (w.heap.size+3)) db (Co.tdn_st (by omega)) (fun k hk=>by
     rcases hk with h|h|⟨v,h1,h2⟩
     ·omega
     ·omega
     ·rw[bL.cell]at h1;cases h1;cases h2) hW ((Co.Rep.mono (fun _ _ h=>h) c hR).below hB0) (fun k hk=>⟨by omega,fun h=>by
     rcases h with h|h|⟨v,h1,h2⟩
     ·omega
     ·omega
     ·rw[bL.cell]at h1;cases h1;cases h2⟩) (hd.keep (S:=fun _=>False) (keep_of_below hB0) id)
   rw[hsz]at h;exact h)
  (fun h k=>h.trans k) (fun W o o' ho hc=>by rw[hsz];exact Co.kr_put (by omega) W o') (Below.refl _ _) (fun _=>rfl)
  (fun O pre W=>Co.TI w m O pre W∧pre.length≤m) (fun O cd pre W=>cd= .exit 0∧m≤pre.length∧Co.TI w m O (pre.take m) W)
  (fun O pre W W' row h hg hr=>⟨h.1.grown hg (fun r e=>by rw[←hsz];exact hr r e),h.2⟩)
  (fun O cd pre W W' row h hg hr=>⟨h.1,h.2.1,h.2.2.grown hg (fun r e=>by rw[←hsz];exact hr r e)⟩)
  (fun O pre A B hO h hk=>⟨h.1.other (fun k hk=>by rw[←hsz];exact hO k hk) hk,h.2⟩)
  (fun O cd pre A B hO h hk=>⟨h.1,h.2.1,h.2.2.other (fun k hk=>by rw[←hsz];exact hO k hk) hk⟩)
  (fun O hO=>⟨⟨⟨_,bL,Co.Rowing.nil _ _,(fun k e=>nomatch e),(fun p hp=>nomatch hp)⟩,bM1,hB0⟩,Nat.zero_le _⟩)
  (Co.TAx w m (fun Xb p=>#[.func (.func 43) #[] #[.pointer (some ⟨db,0,none⟩)],.int .i64 (m:Int),undef,.pointer (some ⟨w.heap.size,0,none⟩),.slice none 0 0,.pointer (some ⟨w.heap.size+1,0,none⟩),.pointer (some ⟨Xb,0,none⟩),.func (.func 43) #[] #[.pointer (some ⟨db,0,none⟩)],.bool false,.func (.func 43) #[] #[.pointer (some ⟨db,0,none⟩)],.agg #[.int .i64 p.c.k,.int .i64 p.c.n,.string p.c.s,.int .i64 p.c.d.k,.int .i64 p.c.d.n,.string p.c.d.s,p.vm,p.vl,p.vt,p.vp,p.vk],undef,undef,undef,undef,undef,undef,undef,undef,undef,undef,undef]))
  (fun O pre y a' _ W W' row h hg hr=> ?grown)
  ?assign ?body ?done ?stop
 case grown=>
  obtain⟨h1,h2,h3,Xb,h4,h45,h5,h6⟩:=h;refine⟨⟨h1.1.grown hg (fun r e=>by rw[←hsz];exact hr r e),h1.2⟩,fun k hk=>⟨(h2 k hk).1,Nat.lt_of_lt_of_le (h2 k hk).2 hg.size⟩,?_,Xb,h4,(fun v hv=> ?_),(hg.block Xb h5.lt (fun e=> ?_)).trans h5,h6⟩
  ·obtain⟨v,hb,-⟩:=h1.1.row;exact h3.grown hb.lt hg (fun r e=>⟨by have:=(hr r e).1;omega,(hr r e).2⟩)
  ·obtain⟨v0,hb,-⟩:=h1.1.row;have e1:=(hb.kept hg (fun e=>by have:=(hr _ e.symm).1;omega)).cell;rw[e1]at hv;cases hv;exact h45 _ hb.cell
  ·obtain⟨-,o,ho,hc⟩:=hr Xb e.symm;rw[show W.heap[Xb]?=_ from h5]at ho;cases ho;cases hc
 case assign=>
  rintro O l pre ⟨pc,pm,pl,pt,pp,pk⟩ W K hO ⟨hT,hlm⟩ hV hK;have HV:=hd hV;have HT:=hd hT;have HO:=hd hO;have hwz:=hT.bel.size;obtain⟨b1,n1,q1,b2,n2,q2,b3,n3,q3,b4,n4,q4,b5,n5,q5,e1,e2,e3,e4,e5⟩:=Co.Rep.forms5 (show Co.Rep _ W pc pm pl pt pp pk from hV.1);subst e1 e2 e3 e4 e5;unfold Co.encC Co.V;dsimp only;clear hV hT hO
  gi_wp2
  have hL:w.heap.size+1<W.heap.size:=by obtain⟨v,h1,-⟩:=HT.out.row;exact h1.lt
  refine hK _ _ ?_ ?_ ?_
  ·exact(KeepsOthers.alloc _ _).from _
  ·exact Co.KR.of_below (Co.tdn_st (n:=w.heap.size+2) (by omega)) (by omega) ((Below.refl _ _).alloc (Nat.le_refl _) _)
  refine⟨⟨HT.out.grown (World.grownBy_alloc W _ none) (by simp),hlm⟩,fun k hk=> ?_,?_,W.heap.size,by omega,(fun v hv=> ?_),Hp.new rfl,rfl⟩
  ·have:=HO.out k hk;rw[World.size_alloc];omega
  ·exact Co.VCD.grown HV.out hL (World.grownBy_alloc W _ none) (by simp)
  ·obtain⟨v0,hb,hr0,-⟩:=HT.out.row;have e1:=(hb.alloc (.cells #[.int .i64 pc.k,.int .i64 pc.n,.string pc.s,.int .i64 pc.d.k,.int .i64 pc.d.n,.string pc.d.s,.slice b1 n1 q1,.slice b2 n2 q2,.slice b3 n3 q3,.slice b4 n4 q4,.slice b5 n5 q5] 28)).cell;rw[e1]at hv;cases hv;exact fun e=>Nat.lt_irrefl _ (Dt.own_lt hr0.row _ e).2
 case body=>
  rintro O l pre ⟨pc,pm,pl,pt,pp,pk⟩ a' W hl ⟨r,hr⟩ ⟨⟨hT,hlm⟩,hO,hV,Xb,hXl,hXr,hX,rfl⟩ hlt;dsimp only at hX hV ⊢;have HT:=hd hT;obtain⟨v,hb,hrow,hno,hreps⟩:=hT.row;have cL:=hb.cell;have fL:=hb.frozen;have cM:=hT.lim.cell;obtain⟨a,cp,rfl⟩:=Dt.row_form hrow.row;by_cases hge:m≤pre.length
  ·have hgei:(m:Int)≤(pre.length:Int):=by omega
   have he:(pre++[(⟨pc,pm,pl,pt,pp,pk⟩:Co.PC)]).take m=pre:=by rw[List.take_append_of_le_length hge,List.take_of_length_le hlm]
   have HE:=hd he;clear he hT hb hrow hno hreps hV hX hXr hO
   gi_wp2
   exact⟨KeepsFrom.refl _ _,⟨rfl,rfl,rfl,Nat.le_refl _,fun _ _ _=>rfl,fun _ h=> .inl h⟩,rfl,by simp;omega,by rw[HE.out];exact HT.out⟩
  ·have hgei:¬ (m:Int)≤(pre.length:Int):=by omega
   have HB:=hd hb;have HROW:=hd hrow;have HNO:=hd hno;have HREPS:=hd hreps;have HV:=hd hV;have HX:=hd hX;have HXR:=hd (hXr _ cL);have HO:=hd hO;obtain⟨b1,n1,q1,b2,n2,q2,b3,n3,q3,b4,n4,q4,b5,n5,q5,e1,e2,e3,e4,e5⟩:=Co.Rep.forms5 (show Co.Rep _ W pc pm pl pt pp pk from hV.1);subst e1 e2 e3 e4 e5;clear hT hb hrow hno hreps hV hX hXr hO
   gi_wp2
   refine Li.held (S:=fun W'=>Co.Bc W' Xb pc (.slice b1 n1 q1) (.slice b2 n2 q2) (.slice b3 n3 q3) (.slice b4 n4 q4) (.slice b5 n5 q5)) ?_ (by kernel_rfl) (by kernel_rfl) ?_ (fun hHeld=> ?_)
   ·rintro⟨a9,w9,h9⟩;exact h9
   ·exact HX.out.keep (S:=fun _=>False) (keep_of_below (Co.drew_below W)) id
   ·clear cL fL cM;refine Zm.u 1 ?_ rfl ?_ ?_;rotate_left
    ·intro w9 hSw;have hC:Hp w9 Xb _ _:=hSw;obtain⟨q0,q1,q2,q3,q4,q5,q6,q7,q8,q9,q10⟩:=hC.c11;clear hC;clear hSw;go_simp
     try with_reducible rfl
    simp only[Act.put,Zm.a,Zm.b,Zm.c];have cLd:=((Co.drew_below W).cell (p:=⟨w.heap.size+1,0,none⟩) HB.out.lt).trans HB.out.cell;have HSd:Hid (Co.Bc W.drew Xb pc (.slice b1 n1 q1) (.slice b2 n2 q2) (.slice b3 n3 q3) (.slice b4 n4 q4) (.slice b5 n5 q5)):=HX.out.keep (S:=fun _=>False) (keep_of_below (Co.drew_below W)) id;obtain⟨wD,hwD⟩:∃wD,W.drew.alloc (.cells #[.int .i64 0,.int .i64 0,.string ⟨#[]⟩,.int .i64 0,.int .i64 0,.string ⟨#[]⟩,.slice none 0 0,.slice none 0 0,.slice none 0 0,.slice none 0 0,.slice none 0 0] 28)=wD:=⟨_,rfl⟩
    have hbD:Below W.heap.size W wD:=by rw[←hwD];exact(Co.drew_below W).alloc (by have:=(Co.drew_below W).size;omega) _
    have hsrc:Ap.Src wD (.slice (some ⟨W.heap.size,0,none⟩) 1 1) 1 [.int .i64 0,.int .i64 0,.string ⟨#[]⟩,.int .i64 0,.int .i64 0,.string ⟨#[]⟩,.slice none 0 0,.slice none 0 0,.slice none 0 0,.slice none 0 0,.slice none 0 0]:=by
     rw[←hwD];have h:=Co.srcNew (w:=W) (t:=28) (a:= .int .i64 0) (b:= .int .i64 0) (c:= .string ⟨#[]⟩) (d:= .int .i64 0) (e:= .int .i64 0) (f:= .string ⟨#[]⟩) (g:= .slice none 0 0) (h:= .slice none 0 0) (i:= .slice none 0 0) (j:= .slice none 0 0) (k:= .slice none 0 0) rfl;exact h
    have HBD:=hd hbD;have HSRC:=hd hsrc;have HWD:=hd hwD;have hSD:Co.Bc wD Xb pc (.slice b1 n1 q1) (.slice b2 n2 q2) (.slice b3 n3 q3) (.slice b4 n4 q4) (.slice b5 n5 q5):=
     HX.out.keep (S:=fun _=>False) (keep_of_below hbD) id
    have HSD:=hd hSD;clear hbD hsrc hSD;have cLD:=(HBD.out.cell (p:=⟨w.heap.size+1,0,none⟩) HB.out.lt).trans HB.out.cell
    apply Co.cutG
    ·intro rest;refine Zm.q 0 3 rfl rfl (fun K hK=> ?_) (fun K hK=> ?_)
     ·go_simp;refine hK.out _ _ HSd.out (fun hHeld=> ?_);clear hK K;refine Zm.u 2 ?_ rfl ?_ ?_;rotate_left
      ·intro w9 hSw;clear hSw;go_simp
       try with_reducible rfl
      simp only[Act.put,Zm.a,Zm.b,Zm.c];refine Zm.r 3 rfl (fun K hK=> ?_);go_simp
      try rw[hwD]
      refine hK.out _ _ HSD.out (fun hHeld=> ?_);clear hK K;exact rest
     ·go_simp
      try rw[hwD]
      refine hK.out _ _ HSD.out (fun hHeld=> ?_);clear hK K;refine Zm.r 0 rfl (fun K hK=> ?_);go_simp;refine hK.out _ _ HSD.out (fun hHeld=> ?_);clear hK K;refine Zm.u 2 ?_ rfl ?_ ?_;rotate_left
      ·intro w9 hSw;clear hSw;go_simp
       try with_reducible rfl
      simp only[Act.put,Zm.a,Zm.b,Zm.c];exact rest
    clear cLd cLD hwD;have hHeld:=HSD.out;have hrD:wD.ownsRow (w.heap.size+2) 28 11 (.slice a pre.length cp) pre.length (Co.flatC pre):=(HROW.out.below HBD.out).row;have HRD:=hd hrD;clear hrD;obtain⟨i0,hi,hz0,hz1,hz2⟩:=info_parts Co.infoC;have hwz:=HT.out.bel.size;have hbs:w.heap.size+2≤wD.heap.size:=by have:=HB.out.lt;have:=HBD.out.size;omega
    have hlm2:pre.length+1≤1048577:=by omega
    refine Zm.r 4 rfl (fun K hK=> ?_);refine Ap.step rfl (.tmp 15) (.tmp 18) 26 (by kernel_rfl) (w.heap.size+2) 28 i0 (.agg #[.int .i64 0,.int .i64 0,.string ⟨#[]⟩,.int .i64 0,.int .i64 0,.string ⟨#[]⟩,.slice none 0 0,.slice none 0 0,.slice none 0 0,.slice none 0 0,.slice none 0 0]) 11 184 Tryz.underlying26 hi hz0 hz1 hz2 rfl (by decide) (.slice a pre.length cp) pre.length (Co.flatC pre) (by kernel_rfl) HRD.out (.slice (some ⟨W.heap.size,0,none⟩) 1 1) 1 [.int .i64 0,.int .i64 0,.string ⟨#[]⟩,.int .i64 0,.int .i64 0,.string ⟨#[]⟩,.slice none 0 0,.slice none 0 0,.slice none 0 0,.slice none 0 0,.slice none 0 0] (by kernel_rfl) HSRC.out rfl (by simp[Value.oneCell']) (by unfold maxLen;omega) (by omega) hbs ?_;intro v' w5 hown hgrow hat;obtain⟨g,c5,rfl⟩:∃g c5,v'= .slice (some ⟨g,0,none⟩) (pre.length+1) c5:=by
     rcases hown.2 with⟨-,h0⟩|⟨g,c5,-,e,-⟩
     ·omega
     ·exact⟨g,c5,e⟩
    have hrl:∀k,(Value.slice a pre.length cp).ownBlock=some k→w.heap.size+2≤k∧k<W.heap.size:=fun k e=>Dt.own_lt HROW.out.row k e
    have hS5:Co.Bc w5 Xb pc (.slice b1 n1 q1) (.slice b2 n2 q2) (.slice b3 n3 q3) (.slice b4 n4 q4) (.slice b5 n5 q5):=(hgrow.block Xb (Hp.lt HSD.out) (fun e=>HXR.out e.symm)).trans HSD.out;have HS5:=hd hS5;have HOWN:=hd hown;have HGR:=hd hgrow;have HAT:=hd hat;clear hS5 hown hgrow hat hrl;refine hK.out _ _ HS5.out (fun hHeld=> ?_);clear hK K;have hlti:(pre.length:Int)<(pre.length:Int)+1:=by omega
    have hcell:∀(j:Nat) (u:Value),[Value.int .i64 0,.int .i64 0,.string ⟨#[]⟩,.int .i64 0,.int .i64 0,.string ⟨#[]⟩,.slice none 0 0,.slice none 0 0,.slice none 0 0,.slice none 0 0,.slice none 0 0][j]?=some u→w5.cell? ⟨g,pre.length*11+j,none⟩=some u:=fun j u hu=>by
     have h:=HOWN.out.cells (g:=g) rfl (pre.length*11+j) u (by rw[List.getElem?_append_right (by rw[Co.flatC_length];omega),Co.flatC_length,Nat.add_sub_cancel_left];exact hu);rw[Addr.add_mid,Nat.zero_add]at h;exact h
    have hgb:w.heap.size+2≤g∧g<w5.heap.size:=Dt.own_lt HOWN.out g rfl;have hXg:Xb≠g:=by
     intro e;rcases HAT.out with h|h
     ·exact HXR.out (by rw[←h,e];rfl)
     ·have h:g=wD.heap.size:=by simpa[Value.ownBlock]using h
      have h1:=Hp.lt HX.out;have h2:=HBD.out.size;omega
    have hfz:∀j,w5.frozen? ⟨g,j,none⟩=false:=fun j=>by
     rcases HOWN.out.2 with⟨h1,h0⟩|⟨g',cap',cur',e1,e2,e3,e4⟩
     ·omega
     ·cases e1;exact Lib.frozen_of_heap e3 j
    have HTH:Hid (w5.there g (pre.length*11) 11):=fun j hj=>by
     refine⟨?_,hfz _⟩;rw[hcell j _ (List.getElem?_eq_getElem (by simpa using hj))]
     rfl
    have HBL:Hid (Boxed w5 (w.heap.size+1) 26 (.slice a pre.length cp)):=by
     have h1:wD.heap[w.heap.size+1]?=some (.cells #[.slice a pre.length cp] 26 (0,0)):=(HBD.out.block _ HB.out.lt).trans HB.out;refine(HGR.out.block _ (Array.getElem?_eq_some_iff.1 h1).1 (fun e=> ?_)).trans h1;have:=(Dt.own_lt HROW.out.row _ e.symm).1;omega
    obtain⟨w6,hw6⟩:∃w6,w5.setCells g (pre.length*11) (#[.int .i64 pc.k,.int .i64 pc.n,.string pc.s,.int .i64 pc.d.k,.int .i64 pc.d.n,.string pc.d.s,.slice b1 n1 q1,.slice b2 n2 q2,.slice b3 n3 q3,.slice b4 n4 q4,.slice b5 n5 q5]:Array Value).toList=w6:=⟨_,rfl⟩
    have hk6:Keep (fun k=>k=g) w5 w6:=by rw[←hw6];exact Co.setCells_keep _ _ _ _
    have HBL6:Hid (Boxed w6 (w.heap.size+1) 26 (.slice a pre.length cp)):=(hk6.block _ HBL.out.lt (by omega)).trans HBL.out;have HS6:Hid (Co.Bc w6 Xb pc (.slice b1 n1 q1) (.slice b2 n2 q2) (.slice b3 n3 q3) (.slice b4 n4 q4) (.slice b5 n5 q5)):=HS5.out.keep hk6 hXg;obtain⟨w7,hw7⟩:∃w7,w5.setCell ⟨w.heap.size+1,0,none⟩ (.slice (some ⟨g,0,none⟩) (pre.length+1) c5)=w7:=⟨_,rfl⟩
    have hk7:Keep (fun k=>k=w.heap.size+1) w5 w7:=by rw[←hw7];exact set_keep _ _ _ _
    have HS7:Hid (Co.Bc w7 Xb pc (.slice b1 n1 q1) (.slice b2 n2 q2) (.slice b3 n3 q3) (.slice b4 n4 q4) (.slice b5 n5 q5)):=HS5.out.keep hk7 (by omega);have HTH7:Hid (w7.there g (pre.length*11) 11):=fun j hj=>by
     have h:=HTH.out j hj;have e1:w7.heap[g]?=w5.heap[g]?:=hk7.block g hgb.2 (by omega);exact⟨by rw[World.cell?_of_block (a:=⟨g,pre.length*11+j,none⟩) e1];exact h.1,by rw[World.frozen?_of_block (a:=⟨g,pre.length*11+j,none⟩) e1];exact h.2⟩
    obtain⟨wF,hwF⟩:∃wF,w6.setCell ⟨w.heap.size+1,0,none⟩ (.slice (some ⟨g,0,none⟩) (pre.length+1) c5)=wF:=⟨_,rfl⟩
    have hwF7:w7.setCells g (pre.length*11) (#[.int .i64 pc.k,.int .i64 pc.n,.string pc.s,.int .i64 pc.d.k,.int .i64 pc.d.n,.string pc.d.s,.slice b1 n1 q1,.slice b2 n2 q2,.slice b3 n3 q3,.slice b4 n4 q4,.slice b5 n5 q5]:Array Value).toList=wF:=by rw[←hwF,←hw6,←hw7];exact Co.setCells_comm (by omega) _ _ _ _ _
    have HBF:Hid (Boxed wF (w.heap.size+1) 26 (.slice (some ⟨g,0,none⟩) (pre.length+1) c5)):=by rw[←hwF];exact HBL6.out.set _
    have hkF:Keep (fun k=>k=w.heap.size+1) w6 wF:=by rw[←hwF];exact set_keep _ _ _ _
    have HSF:Hid (Co.Bc wF Xb pc (.slice b1 n1 q1) (.slice b2 n2 q2) (.slice b3 n3 q3) (.slice b4 n4 q4) (.slice b5 n5 q5)):=HS6.out.keep hkF (by omega);have HKF:=hd hkF;have HK6:=hd hk6;have HGB:=hd hgb;clear hcell hfz hkF hk6 hk7 hXg hgb;refine Zm.u 5 ?_ rfl ?_ ?_;rotate_left
    ·intro w9 hSw;clear hSw;go_simp
     try with_reducible rfl
    simp only[Act.put,Zm.a,Zm.b,Zm.c]
    apply Co.cutG
    ·intro rest;refine Zm.q 6 7 rfl rfl (fun K hK=> ?_) (fun K hK=> ?_)
     ·refine wp_store_mid 28 (.tmp 20) (.tmp 16) rfl g (pre.length*11) #[.int .i64 pc.k,.int .i64 pc.n,.string pc.s,.int .i64 pc.d.k,.int .i64 pc.d.n,.string pc.d.s,.slice b1 n1 q1,.slice b2 n2 q2,.slice b3 n3 q3,.slice b4 n4 q4,.slice b5 n5 q5] (by kernel_rfl) (by kernel_rfl) HTH.out (by kernel_rfl) (by kernel_rfl) ?_;rw[hw6];refine hK.out _ _ HS6.out (fun hHeld=> ?_);clear hK K;have cL6:=HBL6.out.cell;have fL6:=HBL6.out.frozen;refine Zm.r 7 rfl (fun K hK=> ?_);go_simp
      try rw[hwF]
      refine hK.out _ _ HSF.out (fun hHeld=> ?_);clear hK K;refine wpAnyH_done (by kernel_rfl) ?_ _;exact rest
     ·have cL5:=HBL.out.cell;have fL5:=HBL.out.frozen;go_simp
      try rw[hw7]
      refine hK.out _ _ HS7.out (fun hHeld=> ?_);clear hK K;refine Zm.r 6 rfl (fun K hK=> ?_);refine wp_store_mid 28 (.tmp 20) (.tmp 16) rfl g (pre.length*11) #[.int .i64 pc.k,.int .i64 pc.n,.string pc.s,.int .i64 pc.d.k,.int .i64 pc.d.n,.string pc.d.s,.slice b1 n1 q1,.slice b2 n2 q2,.slice b3 n3 q3,.slice b4 n4 q4,.slice b5 n5 q5] (by kernel_rfl) (by kernel_rfl) HTH7.out (by kernel_rfl) (by kernel_rfl) ?_;rw[hwF7];refine hK.out _ _ HSF.out (fun hHeld=> ?_);clear hK K;refine wpAnyH_done (by kernel_rfl) ?_ _;exact rest
    clear hwF hwF7;go_wp2;have hsz1:W.heap.size≤wD.heap.size:=HBD.out.size;have hkD5:Keep (fun k=>(Value.slice a pre.length cp).ownBlock=some k) wD w5:=⟨HGR.out.os,HGR.out.tape,HGR.out.output,HGR.out.size,fun k hk hn=>HGR.out.block k hk (fun e=>hn e.symm)⟩
    have hkD6:Keep (fun k=>(Value.slice a pre.length cp).ownBlock=some k∨k=g) wD w6:=(hkD5.le fun k h=> .inl h).trans (HK6.out.le fun k h=> .inr h);have hkWF:Keep (fun k=>(Value.slice a pre.length cp).ownBlock=some k∨k=g∨k=w.heap.size+1) W wF:=((keep_of_below HBD.out).trans (hkD6.le fun k h=>h.elim .inl (fun h=> .inr (.inl h)))).trans (HKF.out.le fun k h=> .inr (.inr h));have hg:(Value.slice a pre.length cp).ownBlock=some g∨g=wD.heap.size:=HAT.out.elim (fun h=> .inl (h.symm.trans rfl)) (fun h=> .inr (by simpa[Value.ownBlock]using h));have hol:∀k,(Value.slice a pre.length cp).ownBlock=some k→w.heap.size+2≤k∧k<W.heap.size:=fun k e=>Dt.own_lt HROW.out.row k e
    have hLW:=HB.out.lt;have hdn:∀k,¬Co.tdn (w.heap.size+1) (w.heap.size+3) W k→(Value.slice a pre.length cp).ownBlock≠some k:=fun k h e=>h (.inr (.inr ⟨_,HB.out.cell,e⟩))
    have hrx:Co.Rep (fun k=>(w.heap.size+2≤k∧(Value.slice a pre.length cp).ownBlock≠some k∧¬O k)∧k<W.heap.size) W pc (.slice b1 n1 q1) (.slice b2 n2 q2) (.slice b3 n3 q3) (.slice b4 n4 q4) (.slice b5 n5 q5):=Co.Rep.mono (fun b hb hl=>⟨⟨hb.1,hdn b hb.2.1,hb.2.2⟩,hl⟩) pc HV.out.1;have hnk:∀k,(w.heap.size+2≤k∧(Value.slice a pre.length cp).ownBlock≠some k∧¬O k)∧k<W.heap.size→¬ ((Value.slice a pre.length cp).ownBlock=some k∨k=g∨k=w.heap.size+1):=fun k hk h=>by
     rcases h with h|h|h
     ·exact hk.1.2.1 h
     ·rcases hg with e|e
      ·exact hk.1.2.1 (by rw[h];exact e)
      ·omega
     ·omega
    have hng:∀k,(w.heap.size+2≤k∧(Value.slice a pre.length cp).ownBlock≠some k∧¬O k)∧k<W.heap.size→(w.heap.size+2≤k∧(Value.slice (some ⟨g,0,none⟩) (pre.length+1) c5).ownBlock≠some k∧¬O k):=fun k hk=>⟨hk.1.1,fun e=>by
     have e:g=k:=by simpa[Value.ownBlock]using e
     rcases hg with h|h
     ·exact hk.1.2.1 (by rw[←e];exact h)
     ·omega,hk.1.2.2⟩
    have hrow6:Co.Rowing w6 (w.heap.size+2) (Value.slice (some ⟨g,0,none⟩) (pre.length+1) c5) (pre++[(⟨pc,.slice b1 n1 q1,.slice b2 n2 q2,.slice b3 n3 q3,.slice b4 n4 q4,.slice b5 n5 q5⟩:Co.PC)]):=by
     have h:=Co.store_last (w:=wD) (w5:=w5) (base:=w.heap.size+2) (p:=(⟨pc,.slice b1 n1 q1,.slice b2 n2 q2,.slice b3 n3 q3,.slice b4 n4 q4,.slice b5 n5 q5⟩:Co.PC)) (HROW.out.below HBD.out) rfl hkD5 (fun k _ h=>h) HOWN.out (hg.elim .inl (fun h=> .inr (Nat.le_of_eq h.symm))) HGB.out.1
      (Co.Rep.mono (fun b hb _=>⟨hb.1.1,Nat.lt_of_lt_of_le hb.2 hsz1,hb.1.2.1⟩) pc (hrx.below HBD.out))
     rw[Co.putAll_eq]at h;rw[←hw6];exact h
    have hlen:pre.length+1≤m:=by omega
    refine⟨⟨hkWF.size,fun k o hk ho hc=> ?_⟩,⟨hkWF.os,hkWF.tape,hkWF.output,hkWF.size,fun k hk hn=>hkWF.block k hk (fun h=> ?_),fun k hk=> ?_⟩,⟨⟨(Value.slice (some ⟨g,0,none⟩) (pre.length+1) c5),HBF.out,?_,fun k e hO=> ?_,fun p hp=> ?_⟩,?_,?_⟩,by rw[List.length_append];exact hlen⟩
    ·have hkl:k<W.heap.size:=(Array.getElem?_eq_some_iff.1 ho).1;have hcell:∀j,(Value.slice a pre.length cp).ownBlock=some j→∃cs ty fr,W.heap[j]?=some (.cells cs ty fr):=fun j e=>by
      rcases HROW.out.row.2 with⟨h1,h0⟩|⟨g',cap',cur',e1,e2,e3,e4⟩
      ·rw[h1]at e;cases e
      ·rw[e1]at e;cases e;exact⟨_,_,_,e3⟩
     refine(hkWF.block k hkl (fun h=> ?_)).trans ho;have hcc:∀j,(Value.slice a pre.length cp).ownBlock=some j→j≠k:=fun j e e2=>by
      obtain⟨cs,ty,fr,h3⟩:=hcell j e;rw[e2,ho]at h3;cases h3;cases hc
     rcases h with h|h|h
     ·exact hcc k h rfl
     ·rcases hg with e|e
      ·exact hcc g e h.symm
      ·omega
     ·omega
    ·rcases h with h|h|h
     ·exact hn (.inr (.inr ⟨_,HB.out.cell,h⟩))
     ·rcases hg with e|e
      ·exact hn (.inr (.inr ⟨_,HB.out.cell,by rw[h];exact e⟩))
      ·omega
     ·exact hn (.inl h)
    ·rcases hk with h|h|⟨v,h1,h2⟩
     ·exact .inl (.inl h)
     ·exact .inl (.inr (.inl h))
     ·rw[HBF.out.cell]at h1;cases h1;have e:g=k:=by simpa[Value.ownBlock]using h2
      rcases hg with e2|e2
      ·exact .inl (.inr (.inr ⟨_,HB.out.cell,by rw[←e];exact e2⟩))
      ·refine .inr ⟨by omega,?_⟩;have h5:=HGB.out.2;have h6:=HK6.out.size;have h7:=HKF.out.size;omega
    ·exact hrow6.keep HKF.out (fun k h1 _=>by omega)
    ·have e:g=k:=by simpa[Value.ownBlock]using e
     rcases hg with e2|e2
     ·exact HNO.out g e2 (by rw[e];exact hO)
     ·have:=(HO.out k hO).2;omega
    ·rcases List.mem_append.1 hp with hp|hp
     ·have h:=Co.Rep.mono (fun b hb hl=>(⟨hb,hl⟩:(w.heap.size+2≤b∧(Value.slice a pre.length cp).ownBlock≠some b∧¬O b)∧b<W.heap.size)) p.c (HREPS.out p hp);exact Co.Rep.mono (fun b hb _=>hng b hb) p.c (Co.Rep.keep hkWF (fun b hb _=>hnk b hb) p.c h)
     ·obtain rfl:p=(⟨pc,.slice b1 n1 q1,.slice b2 n2 q2,.slice b3 n3 q3,.slice b4 n4 q4,.slice b5 n5 q5⟩:Co.PC):=by simpa using hp
      exact Co.Rep.mono (fun b hb _=>hng b hb) pc (Co.Rep.keep hkWF (fun b hb _=>hnk b hb) pc hrx)
    ·exact(hkWF.block _ HT.out.lim.lt (fun h=>by
      rcases h with h|h|h
      ·have:=(hol _ h).1;omega
      ·have:=HGB.out.1;omega
      ·omega)).trans HT.out.lim
    ·exact HT.out.bel.trans (hkWF.to_below (fun k h=>by
      rcases h with h|h|h
      ·have:=(hol _ h).1;omega
      ·have:=HGB.out.1;omega
      ·omega) HT.out.bel.size)
 case done=>
  rintro O D ys W hD hS ⟨hI,hlm⟩ hK;obtain⟨v,h1,h2,h3,h4⟩:=hI.row;have cL:=h1.cell
  gi_wp2
  refine⟨by simp,.inl ⟨_,_,rfl,run_takeDeferred hK,?_⟩⟩;refine⟨_,results_tmp rfl _ _ _,v,rfl,?_,?_⟩
  ·refine Co.rowK_mono (F:=fun k=>w.heap.size+2≤k) (fun b hb=>by omega) ?_;rw[List.take_of_length_le (by rw[←hS,List.length_map];exact hlm),←hS];exact(h2.grown (grownBy_putObj' W D _) (fun r e=>by cases e;exact⟨_,hK,rfl⟩)).to_row
  ·exact hI.bel.trans (belowK_b (w:=w) (Nat.le_refl _) W D _ _ (by omega) hK rfl rfl)
 case stop=>
  rintro O D cd pre W hD hp ⟨rfl,hmp,hI⟩ hK;obtain⟨v,h1,h2,h3,h4⟩:=hI.row;have cL:=h1.cell
  gi_wp2
  refine⟨by simp,.inl ⟨_,_,rfl,run_takeDeferred hK,?_⟩⟩;refine⟨_,results_tmp rfl _ _ _,v,rfl,?_,?_⟩
  ·refine Co.rowK_mono (F:=fun k=>w.heap.size+2≤k) (fun b hb=>by omega) ?_;rw[←Co.take_prefix hp (by rw[List.length_map];exact hmp),←List.map_take];exact(h2.grown (grownBy_putObj' W D _) (fun r e=>by cases e;exact⟨_,hK,rfl⟩)).to_row
  ·exact hI.bel.trans (belowK_b (w:=w) (Nat.le_refl _) W D _ _ (by omega) hK rfl rfl)
end Go.Proofs.YtfjmlfbohenmfaaGreat
namespace Go.Proofs.YtfjmlfbohenmfaaGreat
open Go.RowKit
attribute [local go_sem] Oper.semAt_some
namespace Co
def marked(d:Dt.D):Bool:= !((if Dt.check d=0 then Dt.pre d else []).all fun x=>x.m.isEmpty)
theorem const_marked(d:Dt.D):const d=(decide (Dt.check d=0)&& !(marked d)):=by
 unfold const marked;by_cases h:Dt.check d=0
 ·rw[decide_eq_true h,if_pos h,Bool.not_not]
 ·rw[decide_eq_false h];rfl
theorem all_take{l:List Dt.D}{j:Nat}(hj:j<l.length)(h:(l.take j).all (fun x=>x.m.isEmpty)=true)(h2:l[j].m.isEmpty=true):(l.take (j+1)).all (fun x=>x.m.isEmpty)=true:=by
 rw[List.take_succ_eq_append_getElem hj,List.all_append,h,List.all_cons,h2]
 rfl
end Co
theorem coMarks_any{F:Nat→Prop}(d:Dt.D)(vm vl vt:Value)(w:World)(hW:Dt.Wf d)(hR:Dt.Rep F w d vm vl vt):
  Calls Tryz.prog 92 #[.agg #[.int .i64 d.k,.int .i64 d.n,.string d.s,vm,vl,vt]] w fun e w'=>e= .returned (.bool (Co.marked d))∧Below w.heap.size w w':=by
 obtain⟨a1,n1,q1,a2,n2,q2,a3,n3,q3,rfl,rfl,rfl⟩:=hR.forms;obtain⟨w1,hw1⟩:∃w1,w.alloc (.cells #[.int .i64 d.k,.int .i64 d.n,.string d.s,.slice a1 n1 q1,.slice a2 n2 q2,.slice a3 n3 q3] 25)=w1:=⟨_,rfl⟩
 obtain⟨hb1,hs1⟩:=new_below hw1;have hall:=rAll_any d _ _ _ w1 hW (hR.below hb1);unfold Dt.AllPost at hall;have H1:=hd (Hp.new hw1);have HB1:=hd hb1;obtain⟨c0,c1,c2,c3,c4,c5⟩:=H1.out.c6;obtain⟨M,hM⟩:∃M,Co.marked d=M:=⟨_,rfl⟩
 unfold Co.marked at hM;obtain⟨L,hL⟩:∃L,(if Dt.check d=0 then Dt.pre d else [])=L:=⟨_,rfl⟩
 rw[hL]at hM hall;have HM:=hd hM;rw[show Co.marked d=M by unfold Co.marked;rw[hL];exact hM];clear hb1 hs1 hM hL hW hR;go_enter Tryz.func92,Tryz.ntmps92;go_wp2_with fail
 refine hall.mono ?_;rintro e w2 ⟨vp,ls,rfl,hown,hrep,hmap,hlen,hb2⟩;obtain⟨ap,cp,rfl⟩:=Dt.row_form hown;have HOWN:=hd hown;have HREP:=hd hrep;have HMAP:=hd hmap;have HB2:Hid (Below w.heap.size w w2):=btr HB1.out hb2;clear c0 c1 c2 c3 c4 c5;clear hall hown hrep hmap hb2 hw1 H1;have HQ0:Hid ((L.take 0).all (fun x=>x.m.isEmpty)=true):=hd (by rw[List.take_zero];rfl);go_wp2
 go_loopw [4] (fun v wr=>∃j:Nat,v= .int .i64 j∧j≤ls.length∧wr=w2∧Hid ((L.take j).all (fun x=>x.m.isEmpty)=true)) (fun v _=>ls.length - (intOf v).toNat)
 case atStart=>exact⟨0,rfl,by omega,rfl,HQ0⟩
 case round=>
  clear HQ0;obtain⟨j,rfl,hj,rfl,HQ⟩:=hrel;by_cases hlt:j<ls.length
  case neg=>
   have hge:(ls.length:Int)≤(j:Int):=by omega
   have hM:M=false:=by
    have h:=HQ.out;rw[show j=ls.length by omega,show ls.length=L.length by rw[←HMAP.out,List.length_map],List.take_length]at h;rw[←HM.out,h]
    rfl
   subst hM;clear hlt hj;go_wp2;go_ret;exact⟨rfl,HB2.out⟩
  have hlti:(j:Int)<(ls.length:Int):=by omega
  obtain⟨g,c,he,hgl,hsix⟩:=Dt.part_at HOWN.out j hlt;cases he;have hr:=HREP.out ls[j] (List.getElem_mem hlt);have hjL:j<L.length:=by rw[←HMAP.out,List.length_map];exact hlt
  have hLj:L[j]=ls[j].d:=by simp[←HMAP.out]
  obtain⟨⟨b1,r1,hm1,hmc,-⟩,-,-⟩:=(Dt.rep_iff _ _ _ _ _ _).1 hr;have s3:=hsix.c3;rw[hm1]at s3;obtain⟨N,hN⟩:∃N,ls[j].d.m.length=N:=⟨_,rfl⟩
  rw[hN]at s3;have HN:=hd hN;have HLJ:=hd hLj;clear hr hsix hm1 hmc hN hLj hgl;by_cases h0:0<N
  ·have hb:decide ((0:Int)<(N:Int))=true:=decide_eq_true (by omega);have hbn:decide (0<N)=true:=decide_eq_true h0;have hM:M=true:=by
    rw[←HM.out,Bool.not_eq_true',Bool.eq_false_iff];intro h;have h1:=List.all_eq_true.1 h L[j] (List.getElem_mem hjL);rw[HLJ.out]at h1;have h2:ls[j].d.m=[]:=by simpa using h1
    have h3:=HN.out;rw[h2]at h3;simp at h3;omega
   subst hM;clear h0;go_wp2;go_ret;exact⟨rfl,HB2.out⟩
  ·have hb:decide ((0:Int)<(N:Int))=false:=decide_eq_false (by omega);have hbn:decide (0<N)=false:=decide_eq_false h0;have HN2:Hid ((L.take (j+1)).all (fun x=>x.m.isEmpty)=true):=Co.all_take hjL HQ.out (by
    rw[HLJ.out];have h3:=HN.out;have:ls[j].d.m=[]:=List.length_eq_zero_iff.1 (by omega);rw[this]
    rfl)
   clear h0;go_wp2;go_roundw
   case rel=>exact⟨j+1,by simp,by omega,trivial,HN2⟩
   case measure=>simp[intOf];omega
end Go.Proofs.YtfjmlfbohenmfaaGreat
namespace Go.Proofs.YtfjmlfbohenmfaaGreat
open Go.RowKit
theorem SymbolR2_any(s:ByteArray)(w:World)(hs:s.size≤140737488355328):
  Calls Tryz.prog 95 #[.string s] w fun e w'=>e= .returned (.bool (Lx.symbol s.data.toList))∧w=w':=by
 obtain⟨R,hR⟩:∃R,Lx.symbol s.data.toList=R:=⟨_,rfl⟩
 rw[hR];unfold Lx.symbol at hR;rw[←ByteArray.toList_eq]at hR;cases h1:(s.toList==[43])
 case true=>
  have HF:Hid (R=true):=by show _=_;rw[←hR,h1];rfl
  clear hR;go_enter Tryz.func95,Tryz.ntmps95;go_wp2;go_ret;exact⟨by rw[HF.out];rfl,rfl⟩
 cases h2:(s.toList==[45])
 case true=>
  have HF:Hid (R=true):=by show _=_;rw[←hR,h1,h2];rfl
  clear hR;go_enter Tryz.func95,Tryz.ntmps95;go_wp2;go_ret;exact⟨by rw[HF.out];rfl,rfl⟩
 cases h3:(s.toList==[46,46,46])
 case true=>
  have HF:Hid (R=true):=by show _=_;rw[←hR,h1,h2,h3];rfl
  clear hR;go_enter Tryz.func95,Tryz.ntmps95;go_wp2;go_ret;exact⟨by rw[HF.out];rfl,rfl⟩
 rw[h1,h2,h3,ByteArray.toList_eq]at hR;simp only[Bool.false_or]at hR;have hlen:s.data.toList.length=s.size:=Fx.size_toList s;by_cases h0:s.size=0
 ·have h0i:(s.size:Int)<1:=by omega
  have HF:Hid (R=false):=by
   show _=_;rw[←hR,show s.data.toList=[]from List.length_eq_zero_iff.1 (by omega)];rfl
  clear hR;go_enter Tryz.func95,Tryz.ntmps95;go_wp2;go_ret;exact⟨by rw[HF.out];rfl,rfl⟩
 have h0i:¬ (s.size:Int)<1:=by omega
 have hpos:0<s.size:=by omega
 by_cases h32:32<s.size
 ·have h32i:32<(s.size:Int):=by omega
  have HF:Hid (R=false):=by
   show _=_;rw[←hR,hlen,decide_eq_false (show ¬s.size≤32 by omega)];simp
  clear hR;go_enter Tryz.func95,Tryz.ntmps95;go_wp2;go_ret;exact⟨by rw[HF.out];rfl,rfl⟩
 have h32i:¬32<(s.size:Int):=by omega
 have hcons:s.data.toList=s[0] :: Lx.tl s 1:=by
  have:=Lx.tl_cons s 0 hpos;rw[←this];unfold Lx.tl;simp
 have hR2:R=(Lx.begins s[0]&&(Lx.goes s[0]&&(Lx.tl s 1).all Lx.goes)):=by
  rw[←hR,hlen,decide_eq_true (show s.size≤32 by omega),hcons];simp
 have hl:=letterR_any s[0] w;cases hb:Lx.begins s[0]
 ·have HF:Hid (R=false):=by show _=_;rw[hR2,hb];rfl
  rw[hb]at hl;clear hR hR2 hcons hlen;go_enter Tryz.func95,Tryz.ntmps95;go_wp2_with fail
  refine hl.mono ?_;rintro e w1 ⟨rfl,rfl⟩;go_wp2;go_ret;exact⟨by rw[HF.out];rfl,rfl⟩
 have H1:Hid (R=(Lx.tl s 1).all Lx.goes):=by
  show _=_;rw[hR2,hb,Lx.goes_more,hb];simp
 rw[hb]at hl;clear hR hR2 hcons hlen;go_enter Tryz.func95,Tryz.ntmps95;go_wp2_with fail
 refine hl.mono ?_;rintro e w1 ⟨rfl,rfl⟩;clear hl;go_wp2_with fail
 go_loop [3] (fun vi=>∃k:Nat,vi= .int .i64 k∧1≤k∧k≤s.size∧Hid (R=(Lx.tl s k).all Lx.goes)) (fun vi=>s.size - (intOf vi).toNat)
 case atStart=>exact⟨1,rfl,by omega,by omega,H1⟩
 case round=>
  obtain⟨k,rfl,hk1,hk,HR⟩:=hrel;by_cases hlt:k<s.size
  case neg=>
   have hge:¬ (k:Int)<(s.size:Int):=by omega
   have HE:Hid (R=true):=by show _=_;rw[HR.out,Lx.tl_nil s k (by omega)];rfl
   go_wp2;go_ret;exact⟨by rw[HE.out];rfl,rfl⟩
  have hlti:(k:Int)<(s.size:Int):=by omega
  have hr:=HR.out;rw[Lx.tl_cons s k hlt,List.all_cons,Lx.goes_more]at hr;have hl2:=letterR_any s[k] w;have hi2:=isInR_any s[k] Lx.moreB w (by decide);cases hb2:Lx.begins s[k]
  ·rw[hb2]at hl2 hr;cases hm:Lx.moreB.data.toList.contains s[k]
   ·rw[hm]at hi2 hr;have HE:Hid (R=false):=hr;clear hr HR hb2 hm;go_wp2_with fail
    refine hl2.mono ?_;rintro e w1 ⟨rfl,rfl⟩;go_wp2_with fail
    refine hi2.mono ?_;rintro e w1 ⟨rfl,rfl⟩;go_wp2;go_ret;exact⟨by rw[HE.out];rfl,rfl⟩
   ·rw[hm]at hi2 hr;have HN:Hid (R=(Lx.tl s (k+1)).all Lx.goes):=by show _=_;rw[hr];simp
    clear hr HR hb2 hm;go_wp2_with fail
    refine hl2.mono ?_;rintro e w1 ⟨rfl,rfl⟩;go_wp2_with fail
    refine hi2.mono ?_;rintro e w1 ⟨rfl,rfl⟩;go_wp2
    go_round
    case rel=>exact⟨k+1,by go_num,by omega,by omega,HN⟩
    case measure=>simp[intOf];omega
  ·rw[hb2]at hl2 hr;have HN:Hid (R=(Lx.tl s (k+1)).all Lx.goes):=by show _=_;rw[hr];simp
   clear hr HR hb2;go_wp2_with fail
   refine hl2.mono ?_;rintro e w1 ⟨rfl,rfl⟩;go_wp2
   go_round
   case rel=>exact⟨k+1,by go_num,by omega,by omega,HN⟩
   case measure=>simp[intOf];omega
end Go.Proofs.YtfjmlfbohenmfaaGreat
namespace Go.Proofs.YtfjmlfbohenmfaaGreat
open Go.RowKit
attribute [local go_sem] Oper.semAt_some
theorem coRAlone_any{F:Nat→Prop}(c:Co.C)(vm vl vt vp vk:Value)(w:World)(hWf:Co.Wf c)(h:Co.Rep F w c vm vl vt vp vk):
  Calls Tryz.prog 66 #[Co.V c vm vl vt vp vk] w fun e w'=>e= .returned (.bool (Co.alone c))∧Below w.heap.size w w':=by
 obtain⟨k,n,s,d,p,l⟩:=c;obtain⟨hD,⟨ap,cp,rfl,hlc,-⟩,⟨al,cl,rfl,hll,-⟩⟩:=(Co.rep_iff _ _ _ _ _ _ _ _).1 h;have hD:Dt.Rep F w d vm vl vt:=hD;have hP:Dt.IRow F w (.slice ap p.length cp) p:=((Co.rep_iff _ _ _ _ _ _ _ _).1 h).2.1;obtain⟨a1,n1,q1,a2,n2,q2,a3,n3,q3,rfl,rfl,rfl⟩:=hD.forms;obtain⟨-,hs,hW,hp,-,hL,-⟩:=Co.wf_parts hWf;have hs:s.size≤140737488355328:=hs;have hW:Dt.Wf d:=hW;have hp:p.length≤140737488355328:=hp;have hL:l.length≤140737488355328:=hL;obtain⟨R,hR⟩:∃R,Co.alone (.mk k n s d p l)=R:=⟨_,rfl⟩
 rw[hR];unfold Co.V;show Calls Tryz.prog 66 #[.agg #[.int .i64 k,.int .i64 n,.string s,.int .i64 d.k,.int .i64 d.n,.string d.s,.slice a1 n1 q1,.slice a2 n2 q2,.slice a3 n3 q3,.slice ap p.length cp,.slice al l.length cl]] w _;obtain⟨w1,hw1⟩:∃w1,w.alloc (.cells #[.int .i64 k,.int .i64 n,.string s,.int .i64 d.k,.int .i64 d.n,.string d.s,.slice a1 n1 q1,.slice a2 n2 q2,.slice a3 n3 q3,.slice ap p.length cp,.slice al l.length cl] 28)=w1:=⟨_,rfl⟩
 obtain⟨hb1,hs1⟩:=new_below hw1;have Hc:=hd (Hp.new hw1);have HB1:=hd hb1;have HD:=hd hD;have HWD:=hd hW;have HP:=hd hP;have HPL:Hid (p.isEmpty=decide (p.length=0)):=by show _=_;cases p <;> simp
 have HR:=hd hR;obtain⟨c0,c1,c2,c3,c4,c5,c6,c7,c8,c9,c10⟩:=Hc.out.c11;clear hb1 hs1 hD hP h hWf hlc hll hR;by_cases gk:k=1
 ·subst gk;by_cases gN:n=0
  case neg=>
   have hN:(n==0)=false:=by simpa using gN
   have HF:Hid (R=false):=by show _=_;rw[←HR.out,←Co.alone1,hN];simp
   clear gN HR;go_enter Tryz.func66,Tryz.ntmps66;go_wp2_with fail
   go_ret;exact⟨by rw[HF.out];rfl,HB1.out⟩
  have hN:(n==0)=true:=by simpa using gN
  by_cases gS:s.toList.isEmpty=true
  case neg=>
   have hS:s.toList.isEmpty=false:=by simpa using gS
   have hS2:¬s.toList=[]:=by simpa using gS
   have HF:Hid (R=false):=by show _=_;rw[←HR.out,←Co.alone1,hS];simp
   clear gS gN HR;go_enter Tryz.func66,Tryz.ntmps66;go_wp2_with fail
   go_ret;exact⟨by rw[HF.out];rfl,HB1.out⟩
  have hS2:s.toList=[]:=by simpa using gS
  by_cases gL:p.length+l.length=0
  case neg=>
   have hPL:((p.length:Int)+(l.length:Int)==0)=false:=by rw[beq_eq_false_iff_ne];omega
   have HF:Hid (R=false):=by
    show _=_;rw[←HR.out,←Co.alone1,HPL.out];by_cases e:l.length=0
    ·rw[decide_eq_false (p:=p.length=0) (by omega)];simp
    ·rw[decide_eq_false (p:=l.length=0) e];simp
   clear gL gS gN HR;go_enter Tryz.func66,Tryz.ntmps66;go_wp2_with fail
   go_ret;exact⟨by rw[HF.out];rfl,HB1.out⟩
  have hPL:((p.length:Int)+(l.length:Int)==0)=true:=by rw[beq_iff_eq];omega
  have HA:Hid (R=Co.const d):=by
   show _=_;rw[←HR.out,←Co.alone1,HPL.out,hN,gS,decide_eq_true (p:=p.length=0) (by omega),decide_eq_true (p:=l.length=0) (by omega)];simp
  have hck:=rCheck_any d _ _ _ w1 HWD.out (HD.out.below HB1.out);obtain⟨E,hE⟩:∃E,Dt.check d=E:=⟨_,rfl⟩
  rw[hE]at hck;have HE:=hd hE;clear hE;by_cases gE:E=0
  case neg=>
   have hEb:(E==0)=false:=by simpa using gE
   have HF:Hid (R=false):=by show _=_;rw[HA.out,Co.const_marked,decide_eq_false (by rw[HE.out];exact gE)];rfl
   clear gE gL gS gN HR HA;go_enter Tryz.func66,Tryz.ntmps66;go_wp2_with(first
     |(go_at_call 86;refine hck.mono ?_;rintro e w2 ⟨rfl,hb2⟩;clear c0 c1 c2 c3 c4 c5 c6 c7 c8 c9 c10;clear hck hw1;have HB2:=hd ((btr HB1.out hb2));clear hb2)
     |fail)
   go_ret;exact⟨by rw[HF.out];rfl,HB2.out⟩
  have hEb:(E==0)=true:=by simpa using gE
  have hmk:=fun W (hb:Below w.heap.size w W)=>coMarks_any d _ _ _ W HWD.out (HD.out.below hb)
  obtain⟨M,hM⟩:∃M,Co.marked d=M:=⟨_,rfl⟩
  have HF:Hid (R= !M):=by show _=_;rw[HA.out,Co.const_marked,decide_eq_true (by rw[HE.out];exact gE),hM];rfl
  rw[hM]at hmk;have HMK:=hd hmk;clear hM hmk gE gL gS gN HR HA;go_enter Tryz.func66,Tryz.ntmps66;go_wp2_with(first
    |(go_at_call 86;refine hck.mono ?_;rintro e w2 ⟨rfl,hb2⟩;clear c0 c1 c2 c3 c4 c5 c6 c7 c8 c9 c10;have Hc2:=hd (Hc.out.below hb2);obtain⟨c0,c1,c2,c3,c4,c5,c6,c7,c8,c9,c10⟩:=Hc2.out.c11;clear hck hw1;have HB2:=hd ((btr HB1.out hb2));clear hb2)
    |(go_at_call 92;refine(HMK.out _ HB2.out).mono ?_;rintro e w3 ⟨rfl,hb3⟩;clear c0 c1 c2 c3 c4 c5 c6 c7 c8 c9 c10;have HB3:=hd ((btr HB2.out hb3));clear hb3)
    |fail)
  go_ret;exact⟨by rw[HF.out];rfl,HB3.out⟩
 have hk1:(k==1)=false:=by simpa using gk
 have hno:=noneC_any d _ _ _ w1 HWD.out (HD.out.below HB1.out);obtain⟨K,hK⟩:∃K,Co.none_ d=K:=⟨_,rfl⟩
 rw[hK]at hno;have HK:=hd hK;clear hK
 cases K with
 |false=>
  have HF:Hid (R=false):=by
   show _=_;rw[←HR.out];unfold Co.alone;dsimp only;rw[if_neg gk,if_pos HK.out]
  clear gk HR;go_enter Tryz.func66,Tryz.ntmps66;go_wp2_with(first
    |(go_at_call 93;refine hno.mono ?_;rintro e w2 ⟨rfl,hb2⟩;clear c0 c1 c2 c3 c4 c5 c6 c7 c8 c9 c10;clear hno hw1;have HB2:=hd ((btr HB1.out hb2));clear hb2)
    |fail)
  go_ret;exact⟨by rw[HF.out];rfl,HB2.out⟩
 |true=>
 have HR2:Hid (R=(if k=8 then Co.empty s&&decide (l.length=1)&&Co.params n p
  else if p.isEmpty=false then false
  else if k=2 then Co.empty s&&Co.var n&&l.isEmpty
  else if k=3 then decide (n=0)&&Lx.symbol s.data.toList&&l.isEmpty
  else if k=4 then Co.empty s&&Co.var n&&decide (l.length=1)
  else if k=5∨k=6 then decide (n=0)&&Lx.symbol s.data.toList&&decide (l.length=1)
  else if k=7 then decide (n=0)&&Co.empty s&&decide (l.length=3)
  else if k=9∨k=10 then decide (n=0)&&Co.empty s&&decide (0<l.length)
  else false)):=by
  show _=_;rw[←HR.out]
  conv=>lhs;unfold Co.alone
  dsimp only;rw[if_neg gk,if_neg (by rw[HK.out];simp)]
 rw[Co.empty_list]at HR2;rw[Co.len_is]at HR2;go_enter Tryz.func66,Tryz.ntmps66;go_upto_region 5 with((go_at_call 93;refine hno.mono ?_;rintro e w2 ⟨rfl,hb2⟩;clear c0 c1 c2 c3 c4 c5 c6 c7 c8 c9 c10;have Hc2:=hd (Hc.out.below hb2);obtain⟨c0,c1,c2,c3,c4,c5,c6,c7,c8,c9,c10⟩:=Hc2.out.c11;clear hno hw1;have HB2:=hd ((btr HB1.out hb2));clear hb2))
 clear Hc HB1;by_cases g8:k=8
 ·subst g8;rw[if_pos rfl]at HR2;by_cases gS:s.toList.isEmpty=true
  case neg=>
   have hS:s.toList.isEmpty=false:=by simpa using gS
   have hS2:¬s.toList=[]:=by simpa using gS
   have HF:Hid (R=false):=by show _=_;rw[HR2.out,hS];rfl
   clear gS HR HR2;go_wp2;go_ret;exact⟨by rw[HF.out];rfl,HB2.out⟩
  have hS2:s.toList=[]:=by simpa using gS
  by_cases gL:l.length=1
  case neg=>
   have hL1:((l.length:Int)==1)=false:=by rw[beq_eq_false_iff_ne];omega
   have HF:Hid (R=false):=by show _=_;rw[HR2.out,gS,decide_eq_false gL];rfl
   clear gS gL HR HR2;go_wp2;go_ret;exact⟨by rw[HF.out];rfl,HB2.out⟩
  have hL1:((l.length:Int)==1)=true:=by rw[beq_iff_eq];omega
  have hpa:=paramsR_any 8 n d.k d.n s d.s (.slice a1 n1 q1) (.slice a2 n2 q2) (.slice a3 n3 q3) (.slice ap p.length cp) (.slice al l.length cl) p w2 (HP.out.below HB2.out) hp;have HF:Hid (R=Co.params n p):=by show _=_;rw[HR2.out,gS,decide_eq_true gL];rfl
  obtain⟨V,hV⟩:∃V,Co.params n p=V:=⟨_,rfl⟩
  rw[hV]at hpa HF;clear gS gL HR HR2 hV;go_wp2_with fail
  refine hpa.mono ?_;rintro e w3 ⟨rfl,hb3⟩;have HB3:=hd ((btr HB2.out hb3));clear c0 c1 c2 c3 c4 c5 c6 c7 c8 c9 c10;clear hb3 hpa;go_wp2;go_ret;exact⟨by rw[HF.out];rfl,HB3.out⟩
 have hk8:(k==8)=false:=by simpa using g8
 rw[if_neg g8]at HR2;by_cases gP:0<p.length
 ·have hPb:decide ((0:Int)<(p.length:Int))=true:=decide_eq_true (by omega);have hPn:decide (0<p.length)=true:=decide_eq_true gP;have HF:Hid (R=false):=by show _=_;rw[HR2.out,HPL.out,decide_eq_false (by omega),if_pos rfl]
  clear gP HR HR2 gk g8;go_wp2;go_ret;exact⟨by rw[HF.out];rfl,HB2.out⟩
 have hPb:decide ((0:Int)<(p.length:Int))=false:=decide_eq_false (by omega);have hPn:decide (0<p.length)=false:=decide_eq_false gP;have HR3:=hd HR2.out;rw[HPL.out,if_neg (by rw[decide_eq_true (by omega)];simp)]at HR3;clear gP HR HR2;have hsy:=fun W=>SymbolR2_any s W hs
 have hnu:=fun W=>numC_any n W
 obtain⟨V,hV⟩:∃V,Co.var n=V:=⟨_,rfl⟩
 obtain⟨Y,hY⟩:∃Y,Lx.symbol s.data.toList=Y:=⟨_,rfl⟩
 obtain⟨N,hN⟩:∃N,(n==0)=N:=⟨_,rfl⟩
 have hNd:decide (n=0)=N:=by rw[←hN];by_cases e:n=0 <;> simp[e]
 rw[hV,hY,hNd]at HR3;rw[hV]at hnu;rw[hY]at hsy;clear hV hY hNd;go_upto_region 9 with fail
 go_cut [3] (fun v wx=>v= .bool (N&&Y)∧wx=w2)
 case first=>
  cases N with
  |false=>
   go_wp2;go_meet;exact⟨rfl,rfl⟩
  |true=>
   go_wp2_with((go_at_call 95;refine(hsy _).mono ?_;rintro e w5 ⟨rfl,rfl⟩))
   go_meet;exact⟨rfl,rfl⟩
 case rest=>
  obtain⟨rfl,rfl⟩:=hcut;obtain⟨Z,hZ⟩:∃Z,(N&&Y)=Z:=⟨_,rfl⟩
  rw[hZ]at HR3 ⊢;clear hZ hsy hk1 hk8 hPb hPn;by_cases g2:k=2
  ·rw[if_pos g2]at HR3;subst g2;by_cases gS:s.toList.isEmpty=true
   case neg=>
    have hS:s.toList.isEmpty=false:=by simpa using gS
    have hS2:¬s.toList=[]:=by simpa using gS
    have HF:Hid (R=false):=by show _=_;rw[HR3.out];simp[*]
    clear gk g8 HR3 HD HWD HP HPL;go_wp2_with(first|(go_at_call 96;refine(hnu _).mono ?_;rintro e w5 ⟨rfl,rfl⟩)|fail)
    go_ret;exact⟨by rw[HF.out];rfl,HB2.out⟩
   have hS2:s.toList=[]:=by simpa using gS
   by_cases gV:V=true
   case neg=>
    have hV:V=false:=by simpa using gV
    subst hV;have HF:Hid (R=false):=by show _=_;rw[HR3.out];simp[*]
    clear gk g8 HR3 HD HWD HP HPL;go_wp2_with(first|(go_at_call 96;refine(hnu _).mono ?_;rintro e w5 ⟨rfl,rfl⟩)|fail)
    go_ret;exact⟨by rw[HF.out];rfl,HB2.out⟩
   subst gV;by_cases gL:l.length=0
   ·have hLb:((l.length:Int)==0)=true:=by rw[beq_iff_eq];omega
    have HF:Hid (R=true):=by show _=_;rw[HR3.out];simp[*]
    clear gk g8 gL HR3 HD HWD HP HPL;go_wp2_with(first|(go_at_call 96;refine(hnu _).mono ?_;rintro e w5 ⟨rfl,rfl⟩)|fail)
    go_ret;exact⟨by rw[HF.out];rfl,HB2.out⟩
   ·have hLb:((l.length:Int)==0)=false:=by rw[beq_eq_false_iff_ne];omega
    have HF:Hid (R=false):=by show _=_;rw[HR3.out];simp[*]
    clear gk g8 gL HR3 HD HWD HP HPL;go_wp2_with(first|(go_at_call 96;refine(hnu _).mono ?_;rintro e w5 ⟨rfl,rfl⟩)|fail)
    go_ret;exact⟨by rw[HF.out];rfl,HB2.out⟩
  rw[if_neg g2]at HR3;have hk2:(k==2)=false:=by rw[beq_eq_false_iff_ne];omega
  by_cases g3:k=3
  ·rw[if_pos g3]at HR3;subst g3;by_cases gZ:Z=true
   case neg=>
    have hZ:Z=false:=by simpa using gZ
    subst hZ;have HF:Hid (R=false):=by show _=_;rw[HR3.out];simp[*]
    clear gk g8 HR3 HD HWD HP HPL;go_wp2_with(first|(go_at_call 96;refine(hnu _).mono ?_;rintro e w5 ⟨rfl,rfl⟩)|fail)
    go_ret;exact⟨by rw[HF.out];rfl,HB2.out⟩
   subst gZ;by_cases gL:l.length=0
   ·have hLb:((l.length:Int)==0)=true:=by rw[beq_iff_eq];omega
    have HF:Hid (R=true):=by show _=_;rw[HR3.out];simp[*]
    clear gk g8 gL HR3 HD HWD HP HPL;go_wp2_with(first|(go_at_call 96;refine(hnu _).mono ?_;rintro e w5 ⟨rfl,rfl⟩)|fail)
    go_ret;exact⟨by rw[HF.out];rfl,HB2.out⟩
   ·have hLb:((l.length:Int)==0)=false:=by rw[beq_eq_false_iff_ne];omega
    have HF:Hid (R=false):=by show _=_;rw[HR3.out];simp[*]
    clear gk g8 gL HR3 HD HWD HP HPL;go_wp2_with(first|(go_at_call 96;refine(hnu _).mono ?_;rintro e w5 ⟨rfl,rfl⟩)|fail)
    go_ret;exact⟨by rw[HF.out];rfl,HB2.out⟩
  rw[if_neg g3]at HR3;have hk3:(k==3)=false:=by rw[beq_eq_false_iff_ne];omega
  by_cases g4:k=4
  ·rw[if_pos g4]at HR3;subst g4;by_cases gS:s.toList.isEmpty=true
   case neg=>
    have hS:s.toList.isEmpty=false:=by simpa using gS
    have hS2:¬s.toList=[]:=by simpa using gS
    have HF:Hid (R=false):=by show _=_;rw[HR3.out];simp[*]
    clear gk g8 HR3 HD HWD HP HPL;go_wp2_with(first|(go_at_call 96;refine(hnu _).mono ?_;rintro e w5 ⟨rfl,rfl⟩)|fail)
    go_ret;exact⟨by rw[HF.out];rfl,HB2.out⟩
   have hS2:s.toList=[]:=by simpa using gS
   by_cases gV:V=true
   case neg=>
    have hV:V=false:=by simpa using gV
    subst hV;have HF:Hid (R=false):=by show _=_;rw[HR3.out];simp[*]
    clear gk g8 HR3 HD HWD HP HPL;go_wp2_with(first|(go_at_call 96;refine(hnu _).mono ?_;rintro e w5 ⟨rfl,rfl⟩)|fail)
    go_ret;exact⟨by rw[HF.out];rfl,HB2.out⟩
   subst gV;by_cases gL:l.length=1
   ·have hLb:((l.length:Int)==1)=true:=by rw[beq_iff_eq];omega
    have HF:Hid (R=true):=by show _=_;rw[HR3.out];simp[*]
    clear gk g8 gL HR3 HD HWD HP HPL;go_wp2_with(first|(go_at_call 96;refine(hnu _).mono ?_;rintro e w5 ⟨rfl,rfl⟩)|fail)
    go_ret;exact⟨by rw[HF.out];rfl,HB2.out⟩
   ·have hLb:((l.length:Int)==1)=false:=by rw[beq_eq_false_iff_ne];omega
    have HF:Hid (R=false):=by show _=_;rw[HR3.out];simp[*]
    clear gk g8 gL HR3 HD HWD HP HPL;go_wp2_with(first|(go_at_call 96;refine(hnu _).mono ?_;rintro e w5 ⟨rfl,rfl⟩)|fail)
    go_ret;exact⟨by rw[HF.out];rfl,HB2.out⟩
  rw[if_neg g4]at HR3;have hk4:(k==4)=false:=by rw[beq_eq_false_iff_ne];omega
  by_cases g5:k=5∨k=6
  ·rw[if_pos g5]at HR3;rcases g5 with rfl|rfl
   all_goals
    by_cases gZ:Z=true
    case neg=>
     have hZ:Z=false:=by simpa using gZ
     subst hZ;have HF:Hid (R=false):=by show _=_;rw[HR3.out];simp[*]
     clear gk g8 HR3 HD HWD HP HPL;go_wp2_with(first|(go_at_call 96;refine(hnu _).mono ?_;rintro e w5 ⟨rfl,rfl⟩)|fail)
     go_ret;exact⟨by rw[HF.out];rfl,HB2.out⟩
    subst gZ;by_cases gL:l.length=1
    ·have hLb:((l.length:Int)==1)=true:=by rw[beq_iff_eq];omega
     have HF:Hid (R=true):=by show _=_;rw[HR3.out];simp[*]
     clear gk g8 gL HR3 HD HWD HP HPL;go_wp2_with(first|(go_at_call 96;refine(hnu _).mono ?_;rintro e w5 ⟨rfl,rfl⟩)|fail)
     go_ret;exact⟨by rw[HF.out];rfl,HB2.out⟩
    ·have hLb:((l.length:Int)==1)=false:=by rw[beq_eq_false_iff_ne];omega
     have HF:Hid (R=false):=by show _=_;rw[HR3.out];simp[*]
     clear gk g8 gL HR3 HD HWD HP HPL;go_wp2_with(first|(go_at_call 96;refine(hnu _).mono ?_;rintro e w5 ⟨rfl,rfl⟩)|fail)
     go_ret;exact⟨by rw[HF.out];rfl,HB2.out⟩
  rw[if_neg g5]at HR3;have hk5:(k==5)=false:=by rw[beq_eq_false_iff_ne];omega
  have hk6:(k==6)=false:=by rw[beq_eq_false_iff_ne];omega
  by_cases g7:k=7
  ·rw[if_pos g7]at HR3;subst g7;by_cases gN:N=true
   case neg=>
    have hN2:N=false:=by simpa using gN
    subst hN2;have HF:Hid (R=false):=by show _=_;rw[HR3.out];simp[*]
    clear gk g8 HR3 HD HWD HP HPL;go_wp2_with(first|(go_at_call 96;refine(hnu _).mono ?_;rintro e w5 ⟨rfl,rfl⟩)|fail)
    go_ret;exact⟨by rw[HF.out];rfl,HB2.out⟩
   subst gN;by_cases gS:s.toList.isEmpty=true
   case neg=>
    have hS:s.toList.isEmpty=false:=by simpa using gS
    have hS2:¬s.toList=[]:=by simpa using gS
    have HF:Hid (R=false):=by show _=_;rw[HR3.out];simp[*]
    clear gk g8 HR3 HD HWD HP HPL;go_wp2_with(first|(go_at_call 96;refine(hnu _).mono ?_;rintro e w5 ⟨rfl,rfl⟩)|fail)
    go_ret;exact⟨by rw[HF.out];rfl,HB2.out⟩
   have hS2:s.toList=[]:=by simpa using gS
   by_cases gL:l.length=3
   ·have hLb:((l.length:Int)==3)=true:=by rw[beq_iff_eq];omega
    have HF:Hid (R=true):=by show _=_;rw[HR3.out];simp[*]
    clear gk g8 gL HR3 HD HWD HP HPL;go_wp2_with(first|(go_at_call 96;refine(hnu _).mono ?_;rintro e w5 ⟨rfl,rfl⟩)|fail)
    go_ret;exact⟨by rw[HF.out];rfl,HB2.out⟩
   ·have hLb:((l.length:Int)==3)=false:=by rw[beq_eq_false_iff_ne];omega
    have HF:Hid (R=false):=by show _=_;rw[HR3.out];simp[*]
    clear gk g8 gL HR3 HD HWD HP HPL;go_wp2_with(first|(go_at_call 96;refine(hnu _).mono ?_;rintro e w5 ⟨rfl,rfl⟩)|fail)
    go_ret;exact⟨by rw[HF.out];rfl,HB2.out⟩
  rw[if_neg g7]at HR3;have hk7:(k==7)=false:=by rw[beq_eq_false_iff_ne];omega
  by_cases g9:k=9∨k=10
  ·rw[if_pos g9]at HR3;rcases g9 with rfl|rfl
   all_goals
    by_cases gN:N=true
    case neg=>
     have hN2:N=false:=by simpa using gN
     subst hN2;have HF:Hid (R=false):=by show _=_;rw[HR3.out];simp[*]
     clear gk g8 HR3 HD HWD HP HPL;go_wp2_with(first|(go_at_call 96;refine(hnu _).mono ?_;rintro e w5 ⟨rfl,rfl⟩)|fail)
     go_ret;exact⟨by rw[HF.out];rfl,HB2.out⟩
    subst gN;by_cases gS:s.toList.isEmpty=true
    case neg=>
     have hS:s.toList.isEmpty=false:=by simpa using gS
     have hS2:¬s.toList=[]:=by simpa using gS
     have HF:Hid (R=false):=by show _=_;rw[HR3.out];simp[*]
     clear gk g8 HR3 HD HWD HP HPL;go_wp2_with(first|(go_at_call 96;refine(hnu _).mono ?_;rintro e w5 ⟨rfl,rfl⟩)|fail)
     go_ret;exact⟨by rw[HF.out];rfl,HB2.out⟩
    have hS2:s.toList=[]:=by simpa using gS
    by_cases gL:0<l.length
    ·have hLb:decide ((0:Int)<(l.length:Int))=true:=decide_eq_true (by omega);have hLn:decide (0<l.length)=true:=decide_eq_true gL;have HF:Hid (R=true):=by show _=_;rw[HR3.out];simp[*]
     clear gk g8 gL HR3 HD HWD HP HPL;go_wp2_with(first|(go_at_call 96;refine(hnu _).mono ?_;rintro e w5 ⟨rfl,rfl⟩)|fail)
     go_ret;exact⟨by rw[HF.out];rfl,HB2.out⟩
    ·have hLb:decide ((0:Int)<(l.length:Int))=false:=decide_eq_false (by omega);have hLn:decide (0<l.length)=false:=decide_eq_false gL;have HF:Hid (R=false):=by show _=_;rw[HR3.out];simp[*]
     clear gk g8 gL HR3 HD HWD HP HPL;go_wp2_with(first|(go_at_call 96;refine(hnu _).mono ?_;rintro e w5 ⟨rfl,rfl⟩)|fail)
     go_ret;exact⟨by rw[HF.out];rfl,HB2.out⟩
  rw[if_neg g9]at HR3;have hk9:(k==9)=false:=by rw[beq_eq_false_iff_ne];omega
  have hk10:(k==10)=false:=by rw[beq_eq_false_iff_ne];omega
  have HF:Hid (R=false):=HR3.out;clear gk g8 g2 g3 g4 g5 g7 g9 HR3 HD HWD HP HPL;go_wp2;go_ret;exact⟨by rw[HF.out];rfl,HB2.out⟩
end Go.Proofs.YtfjmlfbohenmfaaGreat
namespace Go.Proofs.YtfjmlfbohenmfaaGreat
open Go.RowKit
namespace Co
def ints(l:List Int):List Value:=l.map (Value.int .i64)
structure RW(G:Nat→Prop)(w:World)(base X:Nat)(e:Int)(opn:Bool)(pv bv:Value)(ps:List PC)(bd:List Int):Prop where
  hp:Hp w X #[pv,bv,.int .i64 e,.bool opn] 66
  rp:w.ownsRow base 28 11 pv ps.length (flatC ps)
  re:∀p∈ps,p.rep G w
  rb:w.ownsRow base 3 1 bv bd.length (ints bd)
  bx:base≤X
  np:pv.ownBlock≠some X
  nb:bv.ownBlock≠some X
  nn:∀k,pv.ownBlock=some k→bv.ownBlock≠some k
def WS(X:Nat)(pv bv:Value)(k:Nat):Prop:=k=X∨pv.ownBlock=some k∨bv.ownBlock=some k
def RV(w:World)(v v':Value):Prop:=∀k,v'.ownBlock=some k→v.ownBlock=some k∨w.heap.size≤k
theorem RV.refl(w:World)(v:Value):RV w v v:=fun _ h=> .inl h
theorem WS.low{G:Nat→Prop}{w:World}{base X:Nat}{e:Int}{opn:Bool}{pv bv:Value}{ps:List PC}{bd:List Int}(h:RW G w base X e opn pv bv ps bd){k:Nat}(hk:WS X pv bv k):base≤k:=by
  rcases hk with hk|hk|hk
  · have:=h.bx;omega
  · exact(Dt.own_lt h.rp k hk).1
  · exact(Dt.own_lt h.rb k hk).1
theorem RW.keep{G S:Nat→Prop}{w w':World}{base X:Nat}{e:Int}{opn:Bool}{pv bv:Value}{ps:List PC}{bd:List Int}(h:RW G w base X e opn pv bv ps bd)(hk:Keep S w w')(hS:∀k,k<w.heap.size→(G k∨WS X pv bv k)→¬S k):RW G w' base X e opn pv bv ps bd:=
  ⟨h.hp.keep hk (hS X h.hp.lt (.inr (.inl rfl))),Dt.own_keep h.rp hk (fun k e=>hS k (Dt.own_lt h.rp k e).2 (.inr (.inr (.inl e)))),fun p hp=>Rep.keep hk (fun b hb hl=>hS b hl (.inl hb)) p.c (h.re p hp),Dt.own_keep h.rb hk (fun k e=>hS k (Dt.own_lt h.rb k e).2 (.inr (.inr (.inr e)))),h.bx,h.np,h.nb,h.nn⟩
theorem RW.below{G:Nat→Prop}{w w':World}{base X:Nat}{e:Int}{opn:Bool}{pv bv:Value}{ps:List PC}{bd:List Int}(h:RW G w base X e opn pv bv ps bd)(hb:Below w.heap.size w w'):RW G w' base X e opn pv bv ps bd:=
  h.keep (S:=fun _=>False) (keep_of_below hb) (fun _ _ _ h=>h)
theorem RW.setE{G:Nat→Prop}{w:World}{base X:Nat}{e:Int}{opn:Bool}{pv bv:Value}{ps:List PC}{bd:List Int}(h:RW G w base X e opn pv bv ps bd)(hG:∀k,G k→k<base)(e':Int):RW G (w.setCell ⟨X,2,none⟩ (.int .i64 e')) base X e' opn pv bv ps bd:=by
  have k:=set_keep w X 2 (.int .i64 e');have hn:∀b,b<w.heap.size→G b→¬b=X:=fun b _ hb e=>by have:=hG b hb;have:=h.bx;omega
  exact⟨h.hp.set 2 _,Dt.own_keep h.rp k (fun j hj e=>h.np (by rw[hj,e])),fun p hp=>Rep.keep k (fun b hb hl=>hn b hl hb) p.c (h.re p hp),Dt.own_keep h.rb k (fun j hj e=>h.nb (by rw[hj,e])),h.bx,h.np,h.nb,h.nn⟩
theorem grown_keep2{w wA w5:World}{row:Option Nat}(hA:Below w.heap.size w wA)(hg:wA.grownBy w5 row):Keep (fun k=>row=some k) w w5:=
  ⟨hg.os.trans hA.os,hg.tape.trans hA.tape,hg.output.trans hA.output,Nat.le_trans hA.size hg.size,fun k hk hn=>(hg.block k (by have:=hA.size;omega) (fun e=>hn e.symm)).trans (hA.block k hk)⟩
theorem RW.pushB{G:Nat→Prop}{w wA w5:World}{base X:Nat}{e:Int}{opn:Bool}{pv bv bv':Value}{ps:List PC}{bd:List Int}{x:Int}(h:RW G w base X e opn pv bv ps bd)(hG:∀k,G k→k<base)(hA:Below w.heap.size w wA)
    (hown:w5.ownsRow base 3 1 bv' (bd.length+1) (ints bd++[.int .i64 x])) (hg:wA.grownBy w5 bv.ownBlock) (hat:bv'.ownBlock=bv.ownBlock∨bv'.ownBlock=some wA.heap.size):
    RW G (w5.setCell ⟨X,1,none⟩ bv') base X e opn pv bv' ps (bd++[x])∧Keep (WS X pv bv) w (w5.setCell ⟨X,1,none⟩ bv')∧RV w bv bv':=by
  have k1:=grown_keep2 hA hg;have k2:=set_keep w5 X 1 bv';have hX:=h.hp.lt;have hnX:¬bv.ownBlock=some X:=h.nb;have hp5:Hp w5 X #[pv,bv,.int .i64 e,.bool opn] 66:=h.hp.keep k1 hnX;have hs:=hA.size;have hrv:RV w bv bv':=fun k hk=>hat.elim (fun e=> .inl (e▸hk)) (fun e=> .inr (by rw[e]at hk;cases hk;exact hs))
  have hb'X:bv'.ownBlock≠some X:=fun e=>(hrv X e).elim hnX (fun h=>by omega)
  have hlow:∀k,bv.ownBlock=some k→base≤k:=fun k e=>(Dt.own_lt h.rb k e).1
  have k12:Keep (WS X pv bv) w (w5.setCell ⟨X,1,none⟩ bv'):=(k1.le fun k e=> .inr (.inr e)).trans (k2.le fun k e=> .inl e);refine⟨⟨hp5.set 1 _,?_,fun p hp=> ?_,?_,h.bx,h.np,hb'X,fun k hk e=> ?_⟩,k12,hrv⟩
  · exact Dt.own_keep (Dt.own_keep h.rp k1 (fun j hj e=>h.nn j hj e)) k2 (fun j hj e=>h.np (by rw[hj,e]))
  · exact Rep.keep k12 (fun b hb hl e=>by have:=hG b hb;have:=WS.low h e;omega) p.c (h.re p hp)
  · have:=Dt.own_keep hown k2 (fun j hj e=>hb'X (by rw[hj,e]))
    rw[List.length_append,show ints (bd++[x])=ints bd++[.int .i64 x]by unfold ints;simp];exact this
  · exact(hrv k e).elim (fun e=>h.nn k hk e) (fun h2=>by have:=(Dt.own_lt h.rp k hk).2;omega)
theorem RW.pushP{G:Nat→Prop}{w wA w5:World}{base X g cap:Nat}{e:Int}{opn:Bool}{pv bv:Value}{ps:List PC}{bd:List Int}{p:PC}{zs:List Value}(h:RW G w base X e opn pv bv ps bd)(hG:∀k,G k→k<base)(hA:Below w.heap.size w wA)(hz:zs.length=11)(hp:p.rep G w)
    (hown:w5.ownsRow base 28 11 (.slice (some ⟨g,0,none⟩) (ps.length+1) cap) (ps.length+1) (flatC ps++zs)) (hg:wA.grownBy w5 pv.ownBlock) (hat:pv.ownBlock=some g∨g=wA.heap.size):
    RW G ((w5.setCells g (ps.length*11) p.cells).setCell ⟨X,0,none⟩ (.slice (some ⟨g,0,none⟩) (ps.length+1) cap)) base X e opn (.slice (some ⟨g,0,none⟩) (ps.length+1) cap) bv (ps++[p]) bd∧Keep (WS X pv bv) w ((w5.setCells g (ps.length*11) p.cells).setCell ⟨X,0,none⟩ (.slice (some ⟨g,0,none⟩) (ps.length+1) cap))∧RV w pv (.slice (some ⟨g,0,none⟩) (ps.length+1) cap):=by
  have k1:=grown_keep2 hA hg;have h1:=own_putAll p.cells zs (flatC ps) w5 (by rw[hz];rfl) hown;rw[flatC_length,putAll_eq]at h1;have k2:=setCells_keep g p.cells w5 (ps.length*11);obtain⟨w6,hw6⟩:∃w6,w5.setCells g (ps.length*11) p.cells=w6:=⟨_,rfl⟩
  rw[hw6]at h1 k2 ⊢;have k3:=set_keep w6 X 0 (.slice (some ⟨g,0,none⟩) (ps.length+1) cap);have hs:=hA.size;have hX:=h.hp.lt;have hgX:g≠X:=fun e=>hat.elim (fun h2=>h.np (by rw[h2,e])) (fun h2=>by omega)
  have hrv:RV w pv (.slice (some ⟨g,0,none⟩) (ps.length+1) cap):=fun k hk=>by
    have e:g=k:=by simpa[Value.ownBlock]using hk
    exact hat.elim (fun h2=> .inl (by rw[h2,e])) (fun h2=> .inr (by omega))
  have hp6:Hp w6 X #[pv,bv,.int .i64 e,.bool opn] 66:=(h.hp.keep k1 h.np).keep k2 (fun e=>hgX e.symm);have k12:Keep (WS X pv bv) w (w6.setCell ⟨X,0,none⟩ (.slice (some ⟨g,0,none⟩) (ps.length+1) cap)):=by
    refine Keep.mono (((k1.le (T:=fun k=>WS X pv bv k∨k=g) fun k e=> .inl (.inr (.inl e))).trans (k2.le fun k e=> .inr e)).trans (k3.le fun k e=> .inl (.inl e))) (fun k hk e=> ?_);rcases e with e|e
    · exact e
    · exact hat.elim (fun h2=> .inr (.inl (by rw[h2,e]))) (fun h2=>by omega)
  have hnb:∀k,(Value.slice (some ⟨g,0,none⟩) (ps.length+1) cap).ownBlock=some k→bv.ownBlock≠some k:=fun k hk e=>
    (hrv k hk).elim (fun h2=>h.nn k h2 e) (fun h2=>by have:=(Dt.own_lt h.rb k e).2;omega)
  refine⟨⟨hp6.set 0 _,?_,fun q hq=> ?_,?_,h.bx,fun e=> ?_,h.nb,hnb⟩,k12,hrv⟩
  · rw[List.length_append,flatC_app]
    exact Dt.own_keep h1 k3 (fun j hj e => by have e2 : g = j := by simpa [Value.ownBlock] using hj
                                              omega)
  · have hr:q.rep G w:=by
      rcases List.mem_append.1 hq with hq|hq
      · exact h.re q hq
      · obtain rfl:q=p:=by simpa using hq
        exact hp
    exact Rep.keep k12 (fun b hb hl e=>by have:=hG b hb;have:=WS.low h e;omega) q.c hr
  · refine Dt.own_keep (Dt.own_keep (Dt.own_keep h.rb k1 (fun j hj e=>h.nn j e hj)) k2 (fun j hj e=>hnb j (by rw[e];rfl) hj)) k3 (fun j hj e=>h.nb (by rw[hj,e]))
  · have e:g=X:=by simpa[Value.ownBlock]using e
    exact hgX e
theorem RW.ib{G:Nat→Prop}{w:World}{base X:Nat}{e:Int}{opn:Bool}{pv bv:Value}{ps:List PC}{bd:List Int}(h:RW G w base X e opn pv bv ps bd):Dt.IRow (fun k=>base≤k) w bv bd:=Dt.IRow.of_own h.rb
def RPost(G:Nat→Prop)(base X:Nat)(opn:Bool)(pv bv:Value)(w:World)(c:C)(deep:Nat)(win:List Int)(top:Bool)(ps:List PC)(bd:List Int)(er:Int)(e:Ending)(w':World):Prop:=
  e= .returned (.tuple #[])∧∃e' pv' bv' ps' bd',RW G w' base X e' opn pv' bv' ps' bd'∧Keep (WS X pv bv) w w'∧RV w pv pv'∧RV w bv bv'∧(er≠0→e'=er)∧(er=0→e'=(goes opn c deep win top ps.length bd).1∧(e'=0→ps'.map PC.c=ps.map PC.c++parts c∧goes opn c deep win top ps.length bd=(0,ps'.length,bd')∧bd'.length≤1000000+32*ps'.length∧ps'.length≤8192))
def RGoesIs(c:C):Prop:=∀(G G2:Nat→Prop) (base X:Nat) (opn:Bool) (pv bv vm vl vt vp vk iv:Value) (ps:List PC) (bd win:List Int) (w:World) (deep:Nat) (top:Bool) (er:Int),
  Wf c→Rep G w c vm vl vt vp vk→(∀k,G k→k<base)→RW G w base X er opn pv bv ps bd→Dt.IRow G2 w iv win→(∀k,G2 k→k<w.heap.size→¬WS X pv bv k)→win.length≤1000000+32*deep→deep≤129→(er=0→bd.length≤1000000+32*ps.length∧ps.length≤8192)→
  Calls Tryz.prog 37 #[.pointer (some ⟨X,0,none⟩),V c vm vl vt vp vk,.int .i64 (deep:Int),iv,.bool top] w (RPost G base X opn pv bv w c deep win top ps bd er)
end Co
end Go.Proofs.YtfjmlfbohenmfaaGreat
namespace Go.Proofs.YtfjmlfbohenmfaaGreat
open Go.RowKit
attribute [local go_sem] Oper.semAt_some
namespace Co
open Dt (D)
open Lx (PTok)
mutual
def rdD:Nat→List PTok→Option (D×List PTok)
 |0,_=>none
 |_+1,[]=>none
 | f + 1, t :: r => if t.t.k = 9 then some (fixD t.t.n, r) else if t.t.k = 13 then some (symD ⟨t.t.s.toArray⟩, r) else if t.t.k = 1 then (match rdL f r with
   |some q=>some (lstD q.1,q.2)
   |none=>none)else none
def rdL:Nat→List PTok→Option (List D×List PTok)
 |0,_=>none
 |_+1,[]=>none
 | f + 1, t :: r => if t.t.k = 2 then some ([], r) else (match rdD f (t :: r) with
   |some q=>(match rdL f q.2 with
    |some p=>some (q.1 :: p.1,p.2)
    |none=>none)
   |none=>none)
end
def RS(w:World)(P tb xc:Nat)(xs:List PTok)(n:Nat):Prop:=Hp w P #[.slice (some ⟨tb,0,none⟩) xs.length xc,.int .i64 (n:Int)] 142
def SPost2(P tb xc:Nat)(xs:List PTok)(w:World)(x:D)(rest:List PTok)(e:Ending)(w':World):Prop:=
 ∃vm vl vt pre,e= .returned (.tuple #[.agg #[.int .i64 x.k,.int .i64 x.n,.string x.s,vm,vl,vt],.int .i64 0,.int .i64 0])∧Dt.Rep (fun k=>w.heap.size≤k) w' x vm vl vt∧xs=pre++rest∧RS w' P tb xc xs pre.length∧Keep (fun k=>k=P) w w'
def SdIs(P tb xc:Nat)(xs:List PTok)(f:Nat):Prop:=∀(ts rest pre:List PTok) (x:D) (w:World),xs=pre++ts→rdD f ts=some (x,rest)→RS w P tb xc xs pre.length→Rd.Src w tb xs→tb≠P→
 Calls Tryz.prog 109 #[.pointer (some ⟨P,0,none⟩)] w (SPost2 P tb xc xs w x rest)
def SlIs(P tb xc:Nat)(xs:List PTok)(f:Nat):Prop:=∀(ts rest pre:List PTok) (l:List D) (t:PTok) (w:World),xs=pre++ts→rdL f ts=some (l,rest)→t.t.k=1→RS w P tb xc xs pre.length→Rd.Src w tb xs→tb≠P→
 Calls Tryz.prog 146 #[.pointer (some ⟨P,0,none⟩),.agg #[.int .i64 t.t.k,.int .i64 (t.at_:Int),.int .i64 (t.to:Int),.int .i64 t.t.n,.string ⟨t.t.s.toArray⟩]] w (SPost2 P tb xc xs w (lstD l) rest)
end Co
theorem coSd_step(P tb xc:Nat)(xs:List Lx.PTok)(hx4:xs.length≤1000000)(f:Nat)(hsl:Co.SlIs P tb xc xs f):Co.SdIs P tb xc xs (f+1):=by
 intro ts rest pre x w hxs hsd hRS hSrc hne
 cases ts with
 |nil=>rw[Co.rdD]at hsd;cases hsd
 |cons t r=>
 have hlen:xs.length=pre.length+(r.length+1):=by rw[hxs];simp
 have hlt:pre.length<xs.length:=by omega
 have htok:=hSrc.tok pre.length hlt;have hti:xs[pre.length]=t:=by simp[hxs]
 rw[hti]at htok;obtain⟨k0,k1,k2,k3,k4⟩:=htok;obtain⟨w1,hw1⟩:∃w1,w.alloc (.cells #[.int .i64 0,.int .i64 0,.string ⟨#[]⟩,.slice none 0 0,.slice none 0 0,.slice none 0 0] 25)=w1:=⟨_,rfl⟩
 obtain⟨hb1,hs1⟩:=new_below hw1;have HR1:=hd (Hp.new hw1);have HRS1:Hid (Hp w1 P #[.slice (some ⟨tb,0,none⟩) xs.length xc,.int .i64 (pre.length:Int)] 142):=Hp.below hRS hb1;have hPl:=Hp.lt hRS;obtain⟨wD,hwD⟩:∃wD,w1.drew=wD:=⟨_,rfl⟩
 have hbD:Below w1.heap.size w1 wD:=by rw[←hwD];exact Co.drew_below w1
 have hb1D:Below w.heap.size w wD:=hb1.trans (hbD.mono (by omega));have HRSD:Hid (Hp wD P #[.slice (some ⟨tb,0,none⟩) xs.length xc,.int .i64 (pre.length:Int)] 142):=HRS1.out.below hbD;have htl:=hSrc.lt;have hc:=fun(W:World) (hb:Below w.heap.size w W) (j:Nat) (v:Value) (h:w.cell? ⟨tb,j,none⟩=some v)=>(hb.cell (p:=⟨tb,j,none⟩) htl).trans h
 have HSD:Hid (Hp wD P #[.slice (some ⟨tb,0,none⟩) xs.length xc,.int .i64 (pre.length:Int)] 142∧wD.cell? ⟨tb,pre.length*5,none⟩=some (.int .i64 t.t.k)∧wD.cell? ⟨tb,pre.length*5+1,none⟩=some (.int .i64 (t.at_:Int))∧wD.cell? ⟨tb,pre.length*5+2,none⟩=some (.int .i64 (t.to:Int))∧wD.cell? ⟨tb,pre.length*5+3,none⟩=some (.int .i64 t.t.n)∧wD.cell? ⟨tb,pre.length*5+4,none⟩=some (.string ⟨t.t.s.toArray⟩)):=
  ⟨HRSD.out,hc _ hb1D _ _ k0,hc _ hb1D _ _ k1,hc _ hb1D _ _ k2,hc _ hb1D _ _ k3,hc _ hb1D _ _ k4⟩
 obtain⟨wA,hwA⟩:∃wA,wD.alloc (.cells #[.int .i64 0,.int .i64 0,.int .i64 0,.int .i64 0,.string ⟨#[]⟩] 144)=wA:=⟨_,rfl⟩
 obtain⟨hbA,hsA⟩:=new_below hwA;have hbDA:Below w.heap.size w wA:=btr hb1D hbA;have HSA:Hid (Hp wA P #[.slice (some ⟨tb,0,none⟩) xs.length xc,.int .i64 (pre.length:Int)] 142∧wA.cell? ⟨tb,pre.length*5,none⟩=some (.int .i64 t.t.k)∧wA.cell? ⟨tb,pre.length*5+1,none⟩=some (.int .i64 (t.at_:Int))∧wA.cell? ⟨tb,pre.length*5+2,none⟩=some (.int .i64 (t.to:Int))∧wA.cell? ⟨tb,pre.length*5+3,none⟩=some (.int .i64 t.t.n)∧wA.cell? ⟨tb,pre.length*5+4,none⟩=some (.string ⟨t.t.s.toArray⟩)):=
  ⟨HRSD.out.below hbA,hc _ hbDA _ _ k0,hc _ hbDA _ _ k1,hc _ hbDA _ _ k2,hc _ hbDA _ _ k3,hc _ hbDA _ _ k4⟩
 have HTA:=hd (Hp.new hwA);have HTH:Hid (wA.there wD.heap.size 0 5):=HTA.out.there (Nat.le_refl _);obtain⟨wT,hwT⟩:∃wT,wA.setCells wD.heap.size 0 (#[.int .i64 t.t.k,.int .i64 (t.at_:Int),.int .i64 (t.to:Int),.int .i64 t.t.n,.string ⟨t.t.s.toArray⟩]:Array Value).toList=wT:=⟨_,rfl⟩
 have hkT:Keep (fun k=>k=wD.heap.size) wA wT:=by rw[←hwT];exact Co.setCells_keep _ _ _ _
 have HTT:Hid (Hp wT wD.heap.size #[.int .i64 t.t.k,.int .i64 (t.at_:Int),.int .i64 (t.to:Int),.int .i64 t.t.n,.string ⟨t.t.s.toArray⟩] 144):=by rw[←hwT];exact HTA.out.set5 _ _ _ _ _
 have hzD:w1.heap.size≤wD.heap.size:=hbD.size;have hbT:Below w.heap.size w wT:=hbDA.trans (hkT.to_below (fun k e=>by omega) hbDA.size);have HST:Hid (Hp wT P #[.slice (some ⟨tb,0,none⟩) xs.length xc,.int .i64 (pre.length:Int)] 142∧wT.cell? ⟨tb,pre.length*5,none⟩=some (.int .i64 t.t.k)∧wT.cell? ⟨tb,pre.length*5+1,none⟩=some (.int .i64 (t.at_:Int))∧wT.cell? ⟨tb,pre.length*5+2,none⟩=some (.int .i64 (t.to:Int))∧wT.cell? ⟨tb,pre.length*5+3,none⟩=some (.int .i64 t.t.n)∧wT.cell? ⟨tb,pre.length*5+4,none⟩=some (.string ⟨t.t.s.toArray⟩)):=
  ⟨HSA.out.1.keep hkT (fun e=>by omega),hc _ hbT _ _ k0,hc _ hbT _ _ k1,hc _ hbT _ _ k2,hc _ hbT _ _ k3,hc _ hbT _ _ k4⟩
 have HBT:=hd hbT;have HN:Hid (w1.heap.size=w.heap.size+1∧w1.heap.size≤wD.heap.size∧wD.heap.size<wT.heap.size∧P<w.heap.size):=⟨hs1,hzD,HTT.out.lt,hPl⟩
 have HR2:Hid (Hp wT w.heap.size #[.int .i64 0,.int .i64 0,.string ⟨#[]⟩,.slice none 0 0,.slice none 0 0,.slice none 0 0] 25):=((HR1.out.below hbD).below (by rw[←hwA]at*;exact hbA)).keep hkT (fun e=>by omega);have HSD0:=hd hsd;have HSRC:=hd hSrc;have HXS:=hd hxs;have hlti:(pre.length:Int)<(xs.length:Int):=by omega
 have HLEN:=hd hlen;clear hb1 hs1 hbD hb1D hbA hsA hbDA hkT hbT hc k0 k1 k2 k3 k4 hRS hSrc hsd hxs hti htl hzD hlen;go_enter Tryz.func109,Tryz.ntmps109;go_upto_region 1 with fail
 refine wp_region_noPanic ?_;refine wp_region_held_drew (S:=fun w'=>Hp w' P #[.slice (some ⟨tb,0,none⟩) xs.length xc,.int .i64 (pre.length:Int)] 142∧w'.cell? ⟨tb,pre.length*5,none⟩=some (.int .i64 t.t.k)∧w'.cell? ⟨tb,pre.length*5+1,none⟩=some (.int .i64 (t.at_:Int))∧w'.cell? ⟨tb,pre.length*5+2,none⟩=some (.int .i64 (t.to:Int))∧w'.cell? ⟨tb,pre.length*5+3,none⟩=some (.int .i64 t.t.n)∧w'.cell? ⟨tb,pre.length*5+4,none⟩=some (.string ⟨t.t.s.toArray⟩)) (by kernel_rfl) (by rw[hwD];exact HSD.out) (fun hHeld=> ?_);rw[hwD]at hHeld ⊢;clear hwD;refine Zm.u 0 ?_ rfl ?_ ?_;rotate_left
 ·intro w9 hSw;clear hSw;go_simp
  try with_reducible rfl
 simp only[Act.put,Zm.a,Zm.b,Zm.c];refine Zm.u 1 ?_ rfl ?_ ?_;rotate_left
 ·intro w9 hSw;clear hSw;go_simp
  try with_reducible rfl
 simp only[Act.put,Zm.a,Zm.b,Zm.c];refine Zm.u 2 ?_ rfl ?_ ?_;rotate_left
 ·intro w9 hSw;clear hSw;go_simp
  try with_reducible rfl
 simp only[Act.put,Zm.a,Zm.b,Zm.c];refine Zm.u 3 ?_ rfl ?_ ?_;rotate_left
 ·intro w9 hSw;have hC:Hp w9 P _ _:=hSw.1;have p0:=hC.cell 0 rfl;have p1:=hC.cell 1 rfl;clear hC;clear hSw;go_simp
  try with_reducible rfl
 simp only[Act.put,Zm.a,Zm.b,Zm.c];refine Zm.u 4 ?_ rfl ?_ ?_;rotate_left
 ·intro w9 hSw;clear hSw;go_simp
  try with_reducible rfl
 simp only[Act.put,Zm.a,Zm.b,Zm.c];refine Zm.u 5 ?_ rfl ?_ ?_;rotate_left
 ·intro w9 hSw;clear hSw;go_simp
  try with_reducible rfl
 simp only[Act.put,Zm.a,Zm.b,Zm.c];refine Zm.u 6 ?_ rfl ?_ ?_;rotate_left
 ·intro w9 hSw;clear hSw;go_simp
  try with_reducible rfl
 simp only[Act.put,Zm.a,Zm.b,Zm.c];refine Zm.u 7 ?_ rfl ?_ ?_;rotate_left
 ·intro w9 hSw;have hC:Hp w9 P _ _:=hSw.1;have p0:=hC.cell 0 rfl;have p1:=hC.cell 1 rfl;clear hC;clear hSw;go_simp
  try with_reducible rfl
 simp only[Act.put,Zm.a,Zm.b,Zm.c];refine Zm.u 8 ?_ rfl ?_ ?_;rotate_left
 ·intro w9 hSw;clear hSw;go_simp
  try with_reducible rfl
 simp only[Act.put,Zm.a,Zm.b,Zm.c];refine Zm.u 9 ?_ rfl ?_ ?_;rotate_left
 ·intro w9 hSw;obtain⟨-,z0,z1,z2,z3,z4⟩:=hSw;go_simp
  try with_reducible rfl
 simp only[Act.put,Zm.a,Zm.b,Zm.c];refine Zm.r 10 rfl (fun K hK=> ?_);go_simp
 try rw[hwA]
 refine hK.out _ _ HSA.out (fun hHeld=> ?_);clear hK K;refine Zm.r 11 rfl (fun K hK=> ?_);refine wp_store_mid 144 (.tmp 5) (.tmp 18) rfl wD.heap.size 0 #[.int .i64 t.t.k,.int .i64 (t.at_:Int),.int .i64 (t.to:Int),.int .i64 t.t.n,.string ⟨t.t.s.toArray⟩] (by kernel_rfl) (by kernel_rfl) HTH.out (by kernel_rfl) (by kernel_rfl) ?_;rw[hwT];refine hK.out _ _ HST.out (fun hHeld=> ?_);clear hK K;refine wpAnyH_done (by kernel_rfl) ?_ _;refine NoPanic.normal ?_;clear hwA hwT;obtain⟨w5,hw5⟩:∃w5,wT.setCell ⟨P,1,none⟩ (.int .i64 ((pre.length:Int)+1))=w5:=⟨_,rfl⟩
 have hk5:Keep (fun k=>k=P) wT w5:=by rw[←hw5];exact set_keep _ _ _ _
 have HRS5:Hid (Co.RS w5 P tb xc xs (pre++[t]).length):=by
  have h:=HST.out.1.set 1 (.int .i64 ((pre.length:Int)+1));rw[hw5]at h;show Hp _ _ _ _;rw[List.length_append];exact h
 have HKW:Hid (Keep (fun k=>k=P) w w5):=(keep_of_below HBT.out).trans hk5;have HT5:Hid (Hp w5 wD.heap.size #[.int .i64 t.t.k,.int .i64 (t.at_:Int),.int .i64 (t.to:Int),.int .i64 t.t.n,.string ⟨t.t.s.toArray⟩] 144):=HTT.out.keep hk5 (fun e=>by have:=HN.out;omega);have HR5:Hid (Hp w5 w.heap.size #[.int .i64 0,.int .i64 0,.string ⟨#[]⟩,.slice none 0 0,.slice none 0 0,.slice none 0 0] 25):=HR2.out.keep hk5 (fun e=>by have:=HN.out;omega);have p1:=HST.out.1.cell 1 rfl;have pf1:=HST.out.1.frz 1;have HSR5:Hid (Rd.Src w5 tb xs):=HSRC.out.keep HKW.out hne;have hpl:(pre.length:Int)≤1000000:=by have:=HLEN.out;omega
 have q0:=HT5.out.cell 0 rfl;have q1:=HT5.out.cell 1 rfl;have q2:=HT5.out.cell 2 rfl;have q3:=HT5.out.cell 3 rfl;have q4:=HT5.out.cell 4 rfl;obtain⟨rr0,rr1,rr2,rr3,rr4,rr5⟩:=HR5.out.c6;have rrf0:=HR5.out.frz 0;have rrf1:=HR5.out.frz 1;have rrf2:=HR5.out.frz 2;have rrf3:=HR5.out.frz 3;have rrf4:=HR5.out.frz 4;have rrf5:=HR5.out.frz 5;clear hk5;by_cases g9:t.t.k=9
 ·have hq:(t.t.k==9)=true:=by simpa using g9
  have HF:Hid (Co.SPost2 P tb xc xs w x rest (.returned (.tuple #[.agg #[.int .i64 1,.int .i64 t.t.n,.string ⟨#[]⟩,.slice none 0 0,.slice none 0 0,.slice none 0 0],.int .i64 0,.int .i64 0])) (set6 w5 w.heap.size (.int .i64 1) (.int .i64 t.t.n) (.string ⟨#[]⟩) (.slice none 0 0) (.slice none 0 0) (.slice none 0 0))):=by
   have h:=HSD0.out;rw[Co.rdD]at h;rw[if_pos g9]at h;cases h;have k6:=set6_keep w5 w.heap.size (.int .i64 1) (.int .i64 t.t.n) (.string ⟨#[]⟩) (.slice none 0 0) (.slice none 0 0) (.slice none 0 0);have hn:=HN.out;exact⟨_,_,_,pre++[t],rfl,Co.rep_nil _ _ _ _ _,by rw[HXS.out];simp,HRS5.out.keep k6 (fun e=>by omega),Keep.mono ((HKW.out.le (T:=fun k=>k=P∨k=w.heap.size) fun k e=> .inl e).trans (k6.le fun k e=> .inr e)) (fun k hk e=>by omega)⟩
  clear g9;go_wp2;refine bodyPost_ret (v:= .tuple #[.agg #[.int .i64 1,.int .i64 t.t.n,.string ⟨#[]⟩,.slice none 0 0,.slice none 0 0,.slice none 0 0],.int .i64 0,.int .i64 0]) (by simp[results,Tryz.results109,go_sem, *]) rfl ?_;exact HF.out
 have e9:(t.t.k==9)=false:=by simpa using g9
 by_cases g13:t.t.k=13
 ·have hq:(t.t.k==13)=true:=by simpa using g13
  have HF:Hid (Co.SPost2 P tb xc xs w x rest (.returned (.tuple #[.agg #[.int .i64 5,.int .i64 0,.string ⟨t.t.s.toArray⟩,.slice none 0 0,.slice none 0 0,.slice none 0 0],.int .i64 0,.int .i64 0])) (set6 w5 w.heap.size (.int .i64 5) (.int .i64 0) (.string ⟨t.t.s.toArray⟩) (.slice none 0 0) (.slice none 0 0) (.slice none 0 0))):=by
   have h:=HSD0.out;rw[Co.rdD]at h;rw[if_neg g9,if_pos g13]at h;cases h;have k6:=set6_keep w5 w.heap.size (.int .i64 5) (.int .i64 0) (.string ⟨t.t.s.toArray⟩) (.slice none 0 0) (.slice none 0 0) (.slice none 0 0);have hn:=HN.out;exact⟨_,_,_,pre++[t],rfl,Co.rep_nil _ _ _ _ _,by rw[HXS.out];simp,HRS5.out.keep k6 (fun e=>by omega),Keep.mono ((HKW.out.le (T:=fun k=>k=P∨k=w.heap.size) fun k e=> .inl e).trans (k6.le fun k e=> .inr e)) (fun k hk e=>by omega)⟩
  have q4:(t.t.k==10)=false:=by rw[g13];rfl
  have q5:(t.t.k==11)=false:=by rw[g13];rfl
  have q6:(t.t.k==12)=false:=by rw[g13];rfl
  clear g13 g9;go_wp2;refine bodyPost_ret (v:= .tuple #[.agg #[.int .i64 5,.int .i64 0,.string ⟨t.t.s.toArray⟩,.slice none 0 0,.slice none 0 0,.slice none 0 0],.int .i64 0,.int .i64 0]) (by simp[results,Tryz.results109,go_sem, *]) rfl ?_;exact HF.out
 have e13:(t.t.k==13)=false:=by simpa using g13
 have g1:t.t.k=1:=by
  have h:=HSD0.out;rw[Co.rdD,if_neg g9,if_neg g13]at h;by_cases e:t.t.k=1
  ·exact e
  ·rw[if_neg e]at h;cases h
 obtain⟨l,hl,hx⟩:∃l,Co.rdL f r=some (l,rest)∧x=Co.lstD l:=by
  have h:=HSD0.out;rw[Co.rdD,if_neg g9,if_neg g13,if_pos g1]at h
  cases hs:Co.rdL f r with
  |none=>rw[hs]at h;cases h
  |some q=>
   rw[hs]at h;cases h;exact⟨q.1,rfl,rfl⟩
 subst hx;have hcall:=hsl r rest (pre++[t]) l t w5 (by rw[HXS.out];simp) hl g1 HRS5.out HSR5.out hne;have q1:(t.t.k==1)=true:=by simpa using g1
 have q2:(t.t.k==2)=false:=by rw[g1];rfl
 have q3:(t.t.k==8)=false:=by rw[g1];rfl
 have q4:(t.t.k==10)=false:=by rw[g1];rfl
 have q5:(t.t.k==11)=false:=by rw[g1];rfl
 have q6:(t.t.k==12)=false:=by rw[g1];rfl
 clear g1 g9 g13 hl;go_wp2_with fail
 refine hcall.mono ?_;rintro e w6 ⟨vm,vl,vt,pre',rfl,hr6,hx6,hs6,hk6⟩;obtain⟨h1,k1,s1,h2,k2,s2,h3,k3,s3,rfl,rfl,rfl⟩:=hr6.forms;have HR6:Hid (Hp w6 w.heap.size #[.int .i64 0,.int .i64 0,.string ⟨#[]⟩,.slice none 0 0,.slice none 0 0,.slice none 0 0] 25):=HR5.out.keep hk6 (fun e=>by have:=HN.out;omega);have HF:Hid (Co.SPost2 P tb xc xs w (Co.lstD l) rest (.returned (.tuple #[.agg #[.int .i64 (Co.lstD l).k,.int .i64 (Co.lstD l).n,.string (Co.lstD l).s,.slice h1 k1 s1,.slice h2 k2 s2,.slice h3 k3 s3],.int .i64 0,.int .i64 0])) (set6 w6 w.heap.size (.int .i64 (Co.lstD l).k) (.int .i64 (Co.lstD l).n) (.string (Co.lstD l).s) (.slice h1 k1 s1) (.slice h2 k2 s2) (.slice h3 k3 s3))):=by
  have k7:=set6_keep w6 w.heap.size (.int .i64 (Co.lstD l).k) (.int .i64 (Co.lstD l).n) (.string (Co.lstD l).s) (.slice h1 k1 s1) (.slice h2 k2 s2) (.slice h3 k3 s3);have hn:=HN.out;have hz:=HT5.out.lt;refine⟨_,_,_,pre',rfl,Dt.Rep.mono (fun b hb _=>by omega) _ (Dt.Rep.keep k7 (fun b hb _ e=>by omega) _ hr6),hx6,hs6.keep k7 (fun e=>by omega),Keep.mono (((HKW.out.le (T:=fun k=>k=P∨k=w.heap.size) fun k e=> .inl e).trans (hk6.le fun k e=> .inl e)).trans (k7.le fun k e=> .inr e)) (fun k hk e=>by omega)⟩
 obtain⟨Z,hZ⟩:∃Z,Co.lstD l=Z:=⟨_,rfl⟩
 rw[hZ]at HF ⊢;clear rr0 rr1 rr2 rr3 rr4 rr5;clear hcall hr6 hx6 hs6 hk6;obtain⟨rr0,rr1,rr2,rr3,rr4,rr5⟩:=HR6.out.c6;have rrf0:=HR6.out.frz 0;have rrf1:=HR6.out.frz 1;have rrf2:=HR6.out.frz 2;have rrf3:=HR6.out.frz 3;have rrf4:=HR6.out.frz 4;have rrf5:=HR6.out.frz 5;go_wp2;refine bodyPost_ret (v:= .tuple #[.agg #[.int .i64 Z.k,.int .i64 Z.n,.string Z.s,.slice h1 k1 s1,.slice h2 k2 s2,.slice h3 k3 s3],.int .i64 0,.int .i64 0]) (by simp[results,Tryz.results109,go_sem, *]) rfl ?_;rw[hZ];exact HF.out
mutual
theorem Co.rd_lenD:∀(f:Nat) (ts:List Lx.PTok) (x:Dt.D) (rest:List Lx.PTok),Co.rdD f ts=some (x,rest)→rest.length<ts.length
 |0,_,_,_,h=>by rw[Co.rdD]at h;cases h
 |_+1,[],_,_,h=>by rw[Co.rdD]at h;cases h
 |f+1,t :: r,x,rest,h=>by
  rw[Co.rdD]at h;split at h
  ·cases h;simp
  split at h
  ·cases h;simp
  split at h
  ·cases hs:Co.rdL f r with
   |none=>rw[hs]at h;cases h
   |some q=>
    rw[hs]at h;cases h;have:=Co.rd_lenL f r q.1 q.2 hs;simp;omega
  ·cases h
theorem Co.rd_lenL:∀(f:Nat) (ts:List Lx.PTok) (l:List Dt.D) (rest:List Lx.PTok),Co.rdL f ts=some (l,rest)→rest.length<ts.length
 |0,_,_,_,h=>by rw[Co.rdL]at h;cases h
 |_+1,[],_,_,h=>by rw[Co.rdL]at h;cases h
 |f+1,t :: r,l,rest,h=>by
  rw[Co.rdL]at h;split at h
  ·cases h;simp
  ·cases hs:Co.rdD f (t :: r)with
   |none=>rw[hs]at h;cases h
   |some q=>
    rw[hs]at h;dsimp only at h
    cases hs2:Co.rdL f q.2 with
    |none=>rw[hs2]at h;cases h
    |some p=>
     rw[hs2]at h;cases h;have h1:=Co.rd_lenD f (t :: r) q.1 q.2 hs;have h2:=Co.rd_lenL f q.2 p.1 p.2 hs2;omega
end
theorem Co.rd_len(f:Nat):(∀ts x rest,Co.rdD f ts=some (x,rest)→rest.length<ts.length)∧(∀ts l rest,Co.rdL f ts=some (l,rest)→rest.length<ts.length):=⟨Co.rd_lenD f,Co.rd_lenL f⟩
structure Co.LR(P tb xc:Nat)(xs:List Lx.PTok)(w w3:World)(g:Nat)(l:List Dt.D)(rest:List Lx.PTok)(acc:List Dt.D)(ps:List Dt.P)(pre ts:List Lx.PTok)(al:Option Addr)(m ql:Nat)(wr:World):Prop where
 ok:∃l',Co.rdL g ts=some (l',rest)∧l=acc++l'
 xs_:xs=pre++ts
 hd:Hp wr (w.heap.size+2) #[.int .i64 6,.int .i64 0,.string ⟨#[]⟩,.slice none 0 0,.slice al m ql,.slice none 0 0] 25
 row:Dt.Rowing wr w3.heap.size (.slice al m ql) ps
 ml:m=ps.length
 mp:ps.map Dt.P.d=acc
 rs:Co.RS wr P tb xc xs pre.length
 kp:Keep (fun k=>k=P∨k=w.heap.size+2∨w3.heap.size≤k) w3 wr
 mb:m+ts.length≤xs.length
def Co.left(xs:List Lx.PTok)(P:Nat)(w:World):Nat:=match w.cell? ⟨P,1,none⟩with
 |some (.int _ n)=>xs.length - n.toNat
 |_=>0
theorem Co.RS.left{w:World}{P tb xc n:Nat}{xs:List Lx.PTok}(h:Co.RS w P tb xc xs n):Co.left xs P w=xs.length - n:=by
 have h1:w.cell? ⟨P,1,none⟩=some (.int .i64 (n:Int)):=Hp.cell h 1 rfl;unfold Co.left;rw[h1];simp
theorem coSl_step(P tb xc:Nat)(xs:List Lx.PTok)(hx4:xs.length≤1000000)(F:Nat)(hD:∀g,g<F→Co.SdIs P tb xc xs g):Co.SlIs P tb xc xs F:=by
 intro ts0 rest pre0 l t w hxs hsl ht1 hRS hSrc hne;obtain⟨w1,hw1⟩:∃w1,w.alloc (.cells #[.int .i64 t.t.k,.int .i64 (t.at_:Int),.int .i64 (t.to:Int),.int .i64 t.t.n,.string ⟨t.t.s.toArray⟩] 144)=w1:=⟨_,rfl⟩
 obtain⟨w2,hw2⟩:∃w2,w1.alloc (.cells #[.int .i64 0,.int .i64 0,.string ⟨#[]⟩,.slice none 0 0,.slice none 0 0,.slice none 0 0] 25)=w2:=⟨_,rfl⟩
 obtain⟨w3,hw3⟩:∃w3,w2.alloc (.cells #[.int .i64 6,.int .i64 0,.string ⟨#[]⟩,.slice none 0 0,.slice none 0 0,.slice none 0 0] 25)=w3:=⟨_,rfl⟩
 obtain⟨hb1,hs1⟩:=new_below hw1;obtain⟨hb2,hs2⟩:=new_below hw2;obtain⟨hb3,hs3⟩:=new_below hw3;have hb13:Below w.heap.size w w3:=((btr hb1 hb2)).trans (hb3.mono (by omega));have hz1:w1.heap.size=w.heap.size+1:=hs1;have hz2:w2.heap.size=w.heap.size+2:=by omega
 have HT:Hid (Hp w3 w.heap.size #[.int .i64 t.t.k,.int .i64 (t.at_:Int),.int .i64 (t.to:Int),.int .i64 t.t.n,.string ⟨t.t.s.toArray⟩] 144):=((Hp.new hw1).below hb2).below hb3;have HR:Hid (Hp w3 (w.heap.size+1) #[.int .i64 0,.int .i64 0,.string ⟨#[]⟩,.slice none 0 0,.slice none 0 0,.slice none 0 0] 25):=by rw[←hz1];exact(Hp.new hw2).below hb3
 have HDB:Hid (Hp w3 (w.heap.size+2) #[.int .i64 6,.int .i64 0,.string ⟨#[]⟩,.slice none 0 0,.slice none 0 0,.slice none 0 0] 25):=by rw[←hz2];exact Hp.new hw3
 have hPl:=Hp.lt hRS;have htl:=hSrc.lt;have HN:Hid (w3.heap.size=w.heap.size+3∧P<w.heap.size∧tb<w.heap.size):=⟨by omega,hPl,htl⟩
 have HI0:Hid (Co.LR P tb xc xs w w3 F l rest [] [] pre0 ts0 none 0 0 w3):=⟨⟨l,hsl,rfl⟩,hxs,HDB.out,Dt.Rowing.nil _ _,rfl,rfl,Hp.below hRS hb13,Keep.refl _ _,by rw[hxs];simp⟩
 have HSRC:=hd hSrc;have HB3:=hd hb13;have HDD:=hd hD;obtain⟨i0,hi,hz0',hz1',hz2'⟩:=info_parts Dt.infoD;have HI:=hd hi;have HZ0:=hd hz0';have HZ1:=hd hz1';have HZ2:=hd hz2';have tk3:(t.t.k==3)=false:=by rw[ht1];rfl
 clear ht1;have HW1:=hd hw1;have HW2:=hd hw2;have HW3:=hd hw3;clear hw1 hw2 hw3;clear hb1 hb2 hb3 hs1 hs2 hs3 hb13 hxs hsl hRS hSrc hD hi hz0' hz1' hz2' htl hPl;go_enter Tryz.func146,Tryz.ntmps146;go_wp2;rw[HW1.out,HW2.out,HW3.out]
 go_loopw [10] (fun _ wr=>∃(g:Nat) (acc:List Dt.D) (ps:List Dt.P) (pre ts:List Lx.PTok) (al:Option Addr) (m ql:Nat),Hid (Co.LR P tb xc xs w w3 g l rest acc ps pre ts al m ql wr)∧g≤F) (fun _ wr=>Co.left xs P wr)
 case atStart=>exact⟨F,[],[],pre0,ts0,none,0,0,HI0,Nat.le_refl _⟩
 case round=>
  clear HI0;obtain⟨g,acc,ps,pre,ts,al,m,ql,HL,hgF⟩:=hrel;obtain⟨l',hl1,hl2⟩:=HL.out.ok;obtain⟨g,rfl⟩:∃g',g=g'+1:=by
   cases g with
   |zero=>rw[Co.rdL]at hl1;cases hl1
   |succ g=>exact⟨g,rfl⟩
  obtain⟨u,r,rfl⟩:∃u r,ts=u :: r:=by
   cases ts with
   |nil=>rw[Co.rdL]at hl1;cases hl1
   |cons u r=>exact⟨u,r,rfl⟩
  have hxs:=HL.out.xs_;have hlen:xs.length=pre.length+(r.length+1):=by rw[hxs];simp
  have hlt:pre.length<xs.length:=by omega
  have hlti:(pre.length:Int)<(xs.length:Int):=by omega
  have hge:¬ (xs.length:Int)≤(pre.length:Int):=by omega
  have hgeb:decide ((xs.length:Int)≤(pre.length:Int))=false:=decide_eq_false hge;have hn:=HN.out;have hsz:=HL.out.kp.size;have htok:=(((HSRC.out.below HB3.out).keep HL.out.kp (fun e=>by rcases e with e|e|e;exact hne e;omega;omega)).tok pre.length hlt)
  have hti:xs[pre.length]=u:=by simp[hxs]
  rw[hti]at htok;obtain⟨k0,k1,k2,k3,k4⟩:=htok;have hRS:Hp wr P #[.slice (some ⟨tb,0,none⟩) xs.length xc,.int .i64 (pre.length:Int)] 142:=HL.out.rs;obtain⟨wD,hwD⟩:∃wD,wr.drew=wD:=⟨_,rfl⟩
  have hbD:Below wr.heap.size wr wD:=by rw[←hwD];exact Co.drew_below wr
  have hcl:=fun(W:World) (hb:Below wr.heap.size wr W) (j:Nat) (v:Value) (h:wr.cell? ⟨tb,j,none⟩=some v)=>(hb.cell (p:=⟨tb,j,none⟩) (by show tb<_;omega)).trans h
  have HSD:Hid (Hp wD P #[.slice (some ⟨tb,0,none⟩) xs.length xc,.int .i64 (pre.length:Int)] 142∧wD.cell? ⟨tb,pre.length*5,none⟩=some (.int .i64 u.t.k)∧wD.cell? ⟨tb,pre.length*5+1,none⟩=some (.int .i64 (u.at_:Int))∧wD.cell? ⟨tb,pre.length*5+2,none⟩=some (.int .i64 (u.to:Int))∧wD.cell? ⟨tb,pre.length*5+3,none⟩=some (.int .i64 u.t.n)∧wD.cell? ⟨tb,pre.length*5+4,none⟩=some (.string ⟨u.t.s.toArray⟩)):=⟨hRS.below hbD,hcl _ hbD _ _ k0,hcl _ hbD _ _ k1,hcl _ hbD _ _ k2,hcl _ hbD _ _ k3,hcl _ hbD _ _ k4⟩
  obtain⟨wE,hwE⟩:∃wE,wD.drew=wE:=⟨_,rfl⟩
  have hbDE:Below wD.heap.size wD wE:=by rw[←hwE];exact Co.drew_below wD
  have hbE:Below wr.heap.size wr wE:=btr hbD hbDE;have HSE:Hid (Hp wE P #[.slice (some ⟨tb,0,none⟩) xs.length xc,.int .i64 (pre.length:Int)] 142∧wE.cell? ⟨tb,pre.length*5,none⟩=some (.int .i64 u.t.k)∧wE.cell? ⟨tb,pre.length*5+1,none⟩=some (.int .i64 (u.at_:Int))∧wE.cell? ⟨tb,pre.length*5+2,none⟩=some (.int .i64 (u.to:Int))∧wE.cell? ⟨tb,pre.length*5+3,none⟩=some (.int .i64 u.t.n)∧wE.cell? ⟨tb,pre.length*5+4,none⟩=some (.string ⟨u.t.s.toArray⟩)):=⟨hRS.below hbE,hcl _ hbE _ _ k0,hcl _ hbE _ _ k1,hcl _ hbE _ _ k2,hcl _ hbE _ _ k3,hcl _ hbE _ _ k4⟩
  obtain⟨wA,hwA⟩:∃wA,wE.alloc (.cells #[.int .i64 0,.int .i64 0,.int .i64 0,.int .i64 0,.string ⟨#[]⟩] 144)=wA:=⟨_,rfl⟩
  obtain⟨hbA,hsA⟩:=new_below hwA;have hbA2:Below wr.heap.size wr wA:=btr hbE hbA;have HSA:Hid (Hp wA P #[.slice (some ⟨tb,0,none⟩) xs.length xc,.int .i64 (pre.length:Int)] 142∧wA.cell? ⟨tb,pre.length*5,none⟩=some (.int .i64 u.t.k)∧wA.cell? ⟨tb,pre.length*5+1,none⟩=some (.int .i64 (u.at_:Int))∧wA.cell? ⟨tb,pre.length*5+2,none⟩=some (.int .i64 (u.to:Int))∧wA.cell? ⟨tb,pre.length*5+3,none⟩=some (.int .i64 u.t.n)∧wA.cell? ⟨tb,pre.length*5+4,none⟩=some (.string ⟨u.t.s.toArray⟩)):=⟨hRS.below hbA2,hcl _ hbA2 _ _ k0,hcl _ hbA2 _ _ k1,hcl _ hbA2 _ _ k2,hcl _ hbA2 _ _ k3,hcl _ hbA2 _ _ k4⟩
  have HTA:=hd (Hp.new hwA);have HTH:Hid (wA.there wE.heap.size 0 5):=HTA.out.there (Nat.le_refl _);obtain⟨wT,hwT⟩:∃wT,wA.setCells wE.heap.size 0 (#[.int .i64 u.t.k,.int .i64 (u.at_:Int),.int .i64 (u.to:Int),.int .i64 u.t.n,.string ⟨u.t.s.toArray⟩]:Array Value).toList=wT:=⟨_,rfl⟩
  have hkT:Keep (fun k=>k=wE.heap.size) wA wT:=by rw[←hwT];exact Co.setCells_keep _ _ _ _
  have HTT:Hid (Hp wT wE.heap.size #[.int .i64 u.t.k,.int .i64 (u.at_:Int),.int .i64 (u.to:Int),.int .i64 u.t.n,.string ⟨u.t.s.toArray⟩] 144):=by rw[←hwT];exact HTA.out.set5 _ _ _ _ _
  have hbT:Below wr.heap.size wr wT:=hbA2.trans (hkT.to_below (fun k e=>by have:=hbE.size;omega) hbA2.size);have HST:Hid (Hp wT P #[.slice (some ⟨tb,0,none⟩) xs.length xc,.int .i64 (pre.length:Int)] 142∧wT.cell? ⟨tb,pre.length*5,none⟩=some (.int .i64 u.t.k)∧wT.cell? ⟨tb,pre.length*5+1,none⟩=some (.int .i64 (u.at_:Int))∧wT.cell? ⟨tb,pre.length*5+2,none⟩=some (.int .i64 (u.to:Int))∧wT.cell? ⟨tb,pre.length*5+3,none⟩=some (.int .i64 u.t.n)∧wT.cell? ⟨tb,pre.length*5+4,none⟩=some (.string ⟨u.t.s.toArray⟩)):=⟨HSA.out.1.keep hkT (fun e=>by have:=hbE.size;omega),hcl _ hbT _ _ k0,hcl _ hbT _ _ k1,hcl _ hbT _ _ k2,hcl _ hbT _ _ k3,hcl _ hbT _ _ k4⟩
  have HBT:=hd hbT;have HZE:Hid (wr.heap.size≤wE.heap.size):=hbE.size;have HLEN:=hd hlen;have HL1:=hd hl1;have HL2:=hd hl2;have HXS:=hd hxs;clear hbD hcl hbDE hbE hbA hsA hbA2 hkT hbT k0 k1 k2 k3 k4 hRS hti hlen hl1 hl2 hxs hn hsz;go_upto_region 4 with fail
  refine wp_region_noPanic ?_;refine wp_region_held_drew (S:=fun w'=>Hp w' P #[.slice (some ⟨tb,0,none⟩) xs.length xc,.int .i64 (pre.length:Int)] 142∧w'.cell? ⟨tb,pre.length*5,none⟩=some (.int .i64 u.t.k)∧w'.cell? ⟨tb,pre.length*5+1,none⟩=some (.int .i64 (u.at_:Int))∧w'.cell? ⟨tb,pre.length*5+2,none⟩=some (.int .i64 (u.to:Int))∧w'.cell? ⟨tb,pre.length*5+3,none⟩=some (.int .i64 u.t.n)∧w'.cell? ⟨tb,pre.length*5+4,none⟩=some (.string ⟨u.t.s.toArray⟩)) (by kernel_rfl) (by rw[hwD];exact HSD.out) (fun hHeld=> ?_);rw[hwD]at hHeld ⊢;clear hwD;refine Zm.u 0 ?_ rfl ?_ ?_;rotate_left
  ·intro w9 hSw;clear hSw;go_simp
   try with_reducible rfl
  simp only[Act.put,Zm.a,Zm.b,Zm.c];refine Zm.u 1 ?_ rfl ?_ ?_;rotate_left
  ·intro w9 hSw;clear hSw;go_simp
   try with_reducible rfl
  simp only[Act.put,Zm.a,Zm.b,Zm.c];refine Zm.u 2 ?_ rfl ?_ ?_;rotate_left
  ·intro w9 hSw;clear hSw;go_simp
   try with_reducible rfl
  simp only[Act.put,Zm.a,Zm.b,Zm.c];refine Zm.u 3 ?_ rfl ?_ ?_;rotate_left
  ·intro w9 hSw;have hC:Hp w9 P _ _:=hSw.1;have p0:=hC.cell 0 rfl;have p1:=hC.cell 1 rfl;clear hC;clear hSw;go_simp
   try with_reducible rfl
  simp only[Act.put,Zm.a,Zm.b,Zm.c];refine Zm.u 4 ?_ rfl ?_ ?_;rotate_left
  ·intro w9 hSw;clear hSw;go_simp
   try with_reducible rfl
  simp only[Act.put,Zm.a,Zm.b,Zm.c];refine Zm.u 5 ?_ rfl ?_ ?_;rotate_left
  ·intro w9 hSw;clear hSw;go_simp
   try with_reducible rfl
  simp only[Act.put,Zm.a,Zm.b,Zm.c];refine Zm.u 6 ?_ rfl ?_ ?_;rotate_left
  ·intro w9 hSw;clear hSw;go_simp
   try with_reducible rfl
  simp only[Act.put,Zm.a,Zm.b,Zm.c];refine Zm.u 7 ?_ rfl ?_ ?_;rotate_left
  ·intro w9 hSw;have hC:Hp w9 P _ _:=hSw.1;have p0:=hC.cell 0 rfl;have p1:=hC.cell 1 rfl;clear hC;clear hSw;go_simp
   try with_reducible rfl
  simp only[Act.put,Zm.a,Zm.b,Zm.c];refine Zm.u 8 ?_ rfl ?_ ?_;rotate_left
  ·intro w9 hSw;clear hSw;go_simp
   try with_reducible rfl
  simp only[Act.put,Zm.a,Zm.b,Zm.c];refine Zm.u 9 ?_ rfl ?_ ?_;rotate_left
  ·intro w9 hSw;clear hSw;go_simp
   try with_reducible rfl
  simp only[Act.put,Zm.a,Zm.b,Zm.c];refine wpAnyH_done (by kernel_rfl) ?_ _;refine NoPanic.normal ?_;go_upto_region 6 with fail
  refine wp_region_noPanic ?_;refine wp_region_held_drew (S:=fun w'=>Hp w' P #[.slice (some ⟨tb,0,none⟩) xs.length xc,.int .i64 (pre.length:Int)] 142∧w'.cell? ⟨tb,pre.length*5,none⟩=some (.int .i64 u.t.k)∧w'.cell? ⟨tb,pre.length*5+1,none⟩=some (.int .i64 (u.at_:Int))∧w'.cell? ⟨tb,pre.length*5+2,none⟩=some (.int .i64 (u.to:Int))∧w'.cell? ⟨tb,pre.length*5+3,none⟩=some (.int .i64 u.t.n)∧w'.cell? ⟨tb,pre.length*5+4,none⟩=some (.string ⟨u.t.s.toArray⟩)) (by kernel_rfl) (by rw[hwE];exact HSE.out) (fun hHeld=> ?_);rw[hwE]at hHeld ⊢;clear hwE;refine Zm.u 0 ?_ rfl ?_ ?_;rotate_left
  ·intro w9 hSw;clear hSw;go_simp
   try with_reducible rfl
  simp only[Act.put,Zm.a,Zm.b,Zm.c];refine Zm.u 1 ?_ rfl ?_ ?_;rotate_left
  ·intro w9 hSw;clear hSw;go_simp
   try with_reducible rfl
  simp only[Act.put,Zm.a,Zm.b,Zm.c];refine Zm.u 2 ?_ rfl ?_ ?_;rotate_left
  ·intro w9 hSw;clear hSw;go_simp
   try with_reducible rfl
  simp only[Act.put,Zm.a,Zm.b,Zm.c];refine Zm.u 3 ?_ rfl ?_ ?_;rotate_left
  ·intro w9 hSw;have hC:Hp w9 P _ _:=hSw.1;have p0:=hC.cell 0 rfl;have p1:=hC.cell 1 rfl;clear hC;clear hSw;go_simp
   try with_reducible rfl
  simp only[Act.put,Zm.a,Zm.b,Zm.c];refine Zm.u 4 ?_ rfl ?_ ?_;rotate_left
  ·intro w9 hSw;clear hSw;go_simp
   try with_reducible rfl
  simp only[Act.put,Zm.a,Zm.b,Zm.c];refine Zm.u 5 ?_ rfl ?_ ?_;rotate_left
  ·intro w9 hSw;clear hSw;go_simp
   try with_reducible rfl
  simp only[Act.put,Zm.a,Zm.b,Zm.c];refine Zm.u 6 ?_ rfl ?_ ?_;rotate_left
  ·intro w9 hSw;clear hSw;go_simp
   try with_reducible rfl
  simp only[Act.put,Zm.a,Zm.b,Zm.c];refine Zm.u 7 ?_ rfl ?_ ?_;rotate_left
  ·intro w9 hSw;have hC:Hp w9 P _ _:=hSw.1;have p0:=hC.cell 0 rfl;have p1:=hC.cell 1 rfl;clear hC;clear hSw;go_simp
   try with_reducible rfl
  simp only[Act.put,Zm.a,Zm.b,Zm.c];refine Zm.u 8 ?_ rfl ?_ ?_;rotate_left
  ·intro w9 hSw;clear hSw;go_simp
   try with_reducible rfl
  simp only[Act.put,Zm.a,Zm.b,Zm.c];refine Zm.u 9 ?_ rfl ?_ ?_;rotate_left
  ·intro w9 hSw;obtain⟨-,z0,z1,z2,z3,z4⟩:=hSw;go_simp
   try with_reducible rfl
  simp only[Act.put,Zm.a,Zm.b,Zm.c];refine Zm.r 10 rfl (fun K hK=> ?_);go_simp
  try rw[hwA]
  refine hK.out _ _ HSA.out (fun hHeld=> ?_);clear hK K;refine Zm.r 11 rfl (fun K hK=> ?_);refine wp_store_mid 144 (.tmp 8) (.tmp 41) rfl wE.heap.size 0 #[.int .i64 u.t.k,.int .i64 (u.at_:Int),.int .i64 (u.to:Int),.int .i64 u.t.n,.string ⟨u.t.s.toArray⟩] (by kernel_rfl) (by kernel_rfl) HTH.out (by kernel_rfl) (by kernel_rfl) ?_;rw[hwT];refine hK.out _ _ HST.out (fun hHeld=> ?_);clear hK K;refine wpAnyH_done (by kernel_rfl) ?_ _;refine NoPanic.normal ?_;clear hwA hwT;have HPT:=hd HST.out.1;have HDT:Hid (Hp wT (w.heap.size+2) #[.int .i64 6,.int .i64 0,.string ⟨#[]⟩,.slice none 0 0,.slice al m ql,.slice none 0 0] 25):=HL.out.hd.below HBT.out;have HRT:Hid (Hp wT (w.heap.size+1) #[.int .i64 0,.int .i64 0,.string ⟨#[]⟩,.slice none 0 0,.slice none 0 0,.slice none 0 0] 25):=(HR.out.keep HL.out.kp (fun e=>by have:=HN.out;rcases e with e|e|e <;> omega)).below HBT.out;have hne5:wE.heap.size≠P:=by have h1:=HN.out;have h2:=HL.out.kp.size;have h3:=HZE.out;omega
  have hq0:=HTT.out.cell 0 rfl;by_cases g2:u.t.k=2
  ·have t2:(u.t.k==2)=true:=by simpa using g2
   obtain⟨rfl,rfl⟩:l'=[]∧rest=r:=by
    have h:=HL1.out;rw[Co.rdL,if_pos g2]at h;cases h;exact⟨rfl,rfl⟩
   obtain⟨w5,hw5⟩:∃w5,wT.setCell ⟨P,1,none⟩ (.int .i64 ((pre.length:Int)+1))=w5:=⟨_,rfl⟩
   have hk5:Keep (fun k=>k=P) wT w5:=by rw[←hw5];exact set_keep _ _ _ _
   have HRS5:Hid (Co.RS w5 P tb xc xs (pre++[u]).length):=by
    have h:=HPT.out.set 1 (.int .i64 ((pre.length:Int)+1));rw[hw5]at h;show Hp _ _ _ _;rw[List.length_append];exact h
   have hn:=HN.out;have HD5:Hid (Hp w5 (w.heap.size+2) #[.int .i64 6,.int .i64 0,.string ⟨#[]⟩,.slice none 0 0,.slice al m ql,.slice none 0 0] 25):=HDT.out.keep hk5 (fun e=>by omega);have HR5:Hid (Hp w5 (w.heap.size+1) #[.int .i64 0,.int .i64 0,.string ⟨#[]⟩,.slice none 0 0,.slice none 0 0,.slice none 0 0] 25):=HRT.out.keep hk5 (fun e=>by omega);have k6:=set6_keep w5 (w.heap.size+1) (.int .i64 6) (.int .i64 0) (.string ⟨#[]⟩) (.slice none 0 0) (.slice al m ql) (.slice none 0 0);have HF:Hid (Co.SPost2 P tb xc xs w (Co.lstD l) rest (.returned (.tuple #[.agg #[.int .i64 6,.int .i64 0,.string ⟨#[]⟩,.slice none 0 0,.slice al m ql,.slice none 0 0],.int .i64 0,.int .i64 0])) (set6 w5 (w.heap.size+1) (.int .i64 6) (.int .i64 0) (.string ⟨#[]⟩) (.slice none 0 0) (.slice al m ql) (.slice none 0 0))):=by
    have hrow:Dt.Row (fun k=>w3.heap.size≤k) wr (.slice al m ql) acc:=by rw[←HL.out.mp];exact HL.out.row.to_row
    have hl:l=acc:=by rw[HL2.out,List.append_nil]
    rw[hl];have h1:Dt.Row (fun k=>w3.heap.size≤k) w5 (.slice al m ql) acc:=(hrow.below HBT.out).keep hk5 (fun b hb _ e=>by omega);have h2:=Rd.rep_row 6 h1;refine⟨_,_,_,pre++[u],rfl,Dt.Rep.mono (fun b hb _=>by omega) _ (Dt.Rep.keep k6 (fun b hb _ e=>by omega) _ h2),by rw[HXS.out];simp,HRS5.out.keep k6 (fun e=>by omega),?_⟩;exact Keep.mono ((((keep_of_below HB3.out).trans (HL.out.kp.le (T:=fun k=>k=P∨w.heap.size≤k) fun k e=>e.imp id (fun e=>by rcases e with e|e <;> omega))).trans ((keep_of_below HBT.out).trans (hk5.le fun k e=> .inl e))).trans (k6.le fun k e=> .inr (by omega))) (fun k hk e=>e.elim id (fun e=>by omega))
   have p1:=HPT.out.cell 1 rfl;have pf1:=HPT.out.frz 1;obtain⟨dd0,dd1,dd2,dd3,dd4,dd5⟩:=HD5.out.c6;obtain⟨rr0,rr1,rr2,rr3,rr4,rr5⟩:=HR5.out.c6;have rrf0:=HR5.out.frz 0;have rrf1:=HR5.out.frz 1;have rrf2:=HR5.out.frz 2;have rrf3:=HR5.out.frz 3;have rrf4:=HR5.out.frz 4;have rrf5:=HR5.out.frz 5;clear g2 hk5 k6 hn;go_wp2;refine bodyPost_ret (v:= .tuple #[.agg #[.int .i64 6,.int .i64 0,.string ⟨#[]⟩,.slice none 0 0,.slice al m ql,.slice none 0 0],.int .i64 0,.int .i64 0]) (by simp[results,Tryz.results146,go_sem, *]) rfl ?_;exact HF.out
  have t2:(u.t.k==2)=false:=by simpa using g2
  obtain⟨d,r2,l2,hd,hl3,rfl⟩:∃d r2 l2,Co.rdD g (u :: r)=some (d,r2)∧Co.rdL g r2=some (l2,rest)∧l'=d :: l2:=by
   have h:=HL1.out;rw[Co.rdL,if_neg g2]at h
   cases hs:Co.rdD g (u :: r)with
   |none=>rw[hs]at h;cases h
   |some q=>
    rw[hs]at h;dsimp only at h
    cases hs2:Co.rdL g q.2 with
    |none=>rw[hs2]at h;cases h
    |some p=>
     rw[hs2]at h;cases h;exact⟨q.1,q.2,p.1,rfl,hs2,rfl⟩
  have t8:(u.t.k==8)=false:=by
   cases g with
   |zero=>rw[Co.rdD]at hd;cases hd
   |succ g=>
    rw[beq_eq_false_iff_ne];intro e;rw[Co.rdD,if_neg (by omega),if_neg (by omega),if_neg (by omega)]at hd;cases hd
  have hcall:=HDD.out g (by omega) (u :: r) r2 pre d wT HXS.out hd HPT.out ((((HSRC.out.below HB3.out).keep HL.out.kp (fun e=>by have:=HN.out;rcases e with e|e|e;exact hne e;omega;omega))).below HBT.out) hne;have hdl:=(Co.rd_len g).1 _ _ _ hd;have HL3:=hd hl3;have HDL:=hd hdl;clear g2 hd hl3 hdl;go_wp2_with fail
  refine hcall.mono ?_;rintro e w6 ⟨vm,vl,vt,pre',rfl,hr6,hx6,hs6,hk6⟩;obtain⟨h1,k1,s1,h2,k2,s2,h3,k3,s3,rfl,rfl,rfl⟩:=hr6.forms;obtain⟨w7,hw7⟩:∃w7,w6.alloc (.cells #[.int .i64 d.k,.int .i64 d.n,.string d.s,.slice h1 k1 s1,.slice h2 k2 s2,.slice h3 k3 s3] 25)=w7:=⟨_,rfl⟩
  obtain⟨hb7,hs7⟩:=new_below hw7;have HB7:=hd hb7;have HQ7:=hd (Hp.new hw7);have HD7:Hid (Hp w7 (w.heap.size+2) #[.int .i64 6,.int .i64 0,.string ⟨#[]⟩,.slice none 0 0,.slice al m ql,.slice none 0 0] 25):=(HDT.out.keep hk6 (fun e=>by have:=HN.out;omega)).below hb7;have HKR:Hid (Keep (fun k=>k=P) wr w6):=(keep_of_below HBT.out).trans hk6;have HR6:Hid (Dt.Rep (fun k=>wr.heap.size≤k) w6 d (.slice h1 k1 s1) (.slice h2 k2 s2) (.slice h3 k3 s3)):=Dt.Rep.mono (fun b hb _=>by have:=HBT.out.size;omega) d hr6;have HX6:=hd hx6;have HS6:=hd hs6;have hW8:w7.alloc (.cells #[.int .i64 d.k,.int .i64 d.n,.string d.s,.slice h1 k1 s1,.slice h2 k2 s2,.slice h3 k3 s3] 25)=w7.alloc (.cells #[.int .i64 d.k,.int .i64 d.n,.string d.s,.slice h1 k1 s1,.slice h2 k2 s2,.slice h3 k3 s3] 25):=rfl;obtain⟨hb8,hs8⟩:=new_below hW8;have HB8:Hid (Below w6.heap.size w6 (w7.alloc (.cells #[.int .i64 d.k,.int .i64 d.n,.string d.s,.slice h1 k1 s1,.slice h2 k2 s2,.slice h3 k3 s3] 25))):=btr hb7 hb8;have HS:Hid (Ap.Src (w7.alloc (.cells #[.int .i64 d.k,.int .i64 d.n,.string d.s,.slice h1 k1 s1,.slice h2 k2 s2,.slice h3 k3 s3] 25)) (.slice (some ⟨w7.heap.size,0,none⟩) 1 1) 1 [.int .i64 d.k,.int .i64 d.n,.string d.s,.slice h1 k1 s1,.slice h2 k2 s2,.slice h3 k3 s3]):=Rd.srcNew hW8;have HRO:Hid ((w7.alloc (.cells #[.int .i64 d.k,.int .i64 d.n,.string d.s,.slice h1 k1 s1,.slice h2 k2 s2,.slice h3 k3 s3] 25)).ownsRow w3.heap.size 25 6 (.slice al m ql) m (Dt.flatP ps)):=by
   have h:=Dt.own_keep (S:=fun k=>k=P) HL.out.row.row (HKR.out.trans ((keep_of_below HB8.out))) (fun k hk e=>by have h1:=(Dt.own_lt HL.out.row.row k hk).1;have:=HN.out;omega);rw[←HL.out.ml]at h;exact h
  have HSZ:Hid (w3.heap.size≤(w7.alloc (.cells #[.int .i64 d.k,.int .i64 d.n,.string d.s,.slice h1 k1 s1,.slice h2 k2 s2,.slice h3 k3 s3] 25)).heap.size):=by have h1:=HL.out.kp.size;have h2:=HKR.out.size;have h3:=HB8.out.size;show w3.heap.size≤_;omega
  have hml:m≤1000000:=by have:=HL.out.mb;omega
  have hm1:m+1≤maxLen:=by unfold maxLen;omega
  have hm2:(m+1)*104≤140737488355328:=by omega
  obtain⟨dd0,dd1,dd2,dd3,dd4,dd5⟩:=HD7.out.c6;have df4:=HD7.out.frz 4;obtain⟨qq0,qq1,qq2,qq3,qq4,qq5⟩:=HQ7.out.c6;clear hcall hr6 hx6 hs6 hk6 hb7 hs7 hW8 hb8 hs8 hq0;have HL4:=hd (show l=(acc++[d])++l2 by rw[HL2.out];simp);have HMB:Hid (m+1+r2.length≤xs.length):=by
   have h1:=HL.out.mb;have h2:=HDL.out;show _≤_;omega
  have HMES:Hid (xs.length - pre'.length<xs.length - pre.length):=by
   have h1:=HDL.out;have h2:xs.length=pre'.length+r2.length:=by rw[HX6.out,List.length_append]
   have h3:xs.length=pre.length+(u :: r).length:=by rw[HXS.out,List.length_append]
   have h4:=HLEN.out;show _<_;omega
  go_wp2_with(at_builtin;refine Ap.list rfl _ _ 23 rfl w3.heap.size 25 i0 _ 6 104 Tryz.underlying23 HI.out HZ0.out HZ1.out HZ2.out rfl (by decide) (.slice al m ql) m (Dt.flatP ps) rfl HRO.out (.slice (some ⟨w7.heap.size,0,none⟩) 1 1) 1 [.int .i64 d.k,.int .i64 d.n,.string d.s,.slice h1 k1 s1,.slice h2 k2 s2,.slice h3 k3 s3] rfl HS.out rfl (by intro u hu;simp only[List.mem_cons,List.not_mem_nil,or_false]at hu;rcases hu with rfl|rfl|rfl|rfl|rfl|rfl <;> rfl) hm1 hm2 HSZ.out ?_;intro v' w9 hown hg hat;obtain⟨al',ql',rfl⟩:=Dt.row_form hown;obtain⟨n1,n2⟩:=Rd.pushK (S:=fun k=>k=P) HL.out.row HL.out.kp.size HKR.out (fun k hk e=>(by have:=HN.out;omega)) (p:=(⟨d,.slice h1 k1 s1,.slice h2 k2 s2,.slice h3 k3 s3⟩:Dt.P)) HR6.out HB8.out (by rw[←HL.out.ml];exact hown) hg hat;have hol:∀k,(Value.slice al m ql).ownBlock=some k→w3.heap.size≤k:=fun k e=>(Dt.own_lt HL.out.row.row k e).1;have HD9:Hid (Hp w9 (w.heap.size+2) #[.int .i64 6,.int .i64 0,.string ⟨#[]⟩,.slice none 0 0,.slice al m ql,.slice none 0 0] 25):=hd (HL.out.hd.keep n2 (fun e=>(by have:=HN.out;rcases e with e|e;omega;(have:=hol _ e;omega))));have HN1:=hd n1;have HN2:=hd n2;have HOL:=hd hol;have HS9:Hid (Co.RS w9 P tb xc xs pre'.length):=hd (((Hp.below HS6.out HB8.out):Hp _ P _ _).keep (Co.grown_keep2 (Below.refl _ _) hg) (fun e=>(by have:=HN.out;have:=hol _ e;omega)));clear hown hg hat n1 n2 hol dd0 dd1 dd2 dd3 dd4 dd5 df4 qq0 qq1 qq2 qq3 qq4 qq5 hw7;have u4:=HD9.out.cell 4 rfl;have uf4:=HD9.out.frz 4)
  have HFIN:Hid (Co.LR P tb xc xs w w3 g l rest (acc++[d]) (ps++[(⟨d,.slice h1 k1 s1,.slice h2 k2 s2,.slice h3 k3 s3⟩:Dt.P)]) pre' r2 al' (m+1) ql' (w9.setCell ⟨w.heap.size+2,4,none⟩ (.slice al' (m+1) ql'))):=by
   have k9:=set_keep w9 (w.heap.size+2) 4 (.slice al' (m+1) ql');have hn:=HN.out;refine⟨⟨l2,HL3.out,HL4.out⟩,HX6.out,HD9.out.set 4 _,HN1.out.keep k9 (fun k hk _ e=>by omega),by rw[List.length_append,←HL.out.ml];rfl,by rw[List.map_append,HL.out.mp];rfl,HS9.out.keep k9 (fun e=>by omega),?_,HMB.out⟩;exact(HL.out.kp.trans (HN2.out.le fun k e=>e.imp id (fun e=> .inr (HOL.out k e)))).trans (k9.le fun k e=> .inr (.inl e))
  clear u4 uf4;go_roundw
  case rel=>exact⟨g,_,_,pre',r2,al',m+1,ql',HFIN,by omega⟩
  case measure=>rw[HFIN.out.rs.left,HL.out.rs.left];exact HMES.out
theorem coSd_any(P tb xc:Nat)(xs:List Lx.PTok)(hx4:xs.length≤1000000)(F:Nat):Co.SdIs P tb xc xs F:=by
 induction F using Nat.strongRecOn with
 |ind F ih=>
  cases F with
  |zero=>
   intro ts rest pre x w hxs hsd;rw[Co.rdD]at hsd;cases hsd
  |succ f=>exact coSd_step P tb xc xs hx4 f (coSl_step P tb xc xs hx4 f (fun g hg=>ih g (by omega)))
namespace Co
def wordR(k n:Int):ByteArray:=
 if k=1 then⟨#[99,111,110,115,116]⟩else if k=2 then⟨#[108,111,99,97,108]⟩else if k=3 then⟨#[103,108,111,98,97,108]⟩
 else if k=4 then⟨#[115,101,116]⟩else if k=5 then⟨#[97,115,115,105,103,110]⟩else if k=6 then⟨#[100,101,102,105,110,101]⟩
 else if k=7 then⟨#[105,102]⟩else if k=8 then(if n=1 then⟨#[108,97,109,98,100,97,42]⟩else⟨#[108,97,109,98,100,97]⟩)
 else if k=9 then⟨#[115,101,113]⟩else⟨#[99,97,108,108]⟩
def nn(k n:Int):Int:=if k=8 then n else 0
def kdF(s:ByteArray):Nat→Nat→Int×Int
 |_,0=>(0,0)
 |i,f+1=>if wordR ((i / 2:Nat)+1) (nn ((i / 2:Nat)+1) ((i % 2:Nat):Int))=s then((i / 2:Nat)+1,nn ((i / 2:Nat)+1) ((i % 2:Nat):Int))else kdF s (i+1) f
def kd(s:ByteArray):Int×Int:=kdF s 0 20
theorem kd_step{s:ByteArray}{k n i:Nat}(hk:i=2*k+n)(hn:n<2)(hk10:k<10):
  kdF s i (20 - i)=if wordR ((k:Int)+1) (nn ((k:Int)+1) (n:Int))=s then((k:Int)+1,nn ((k:Int)+1) (n:Int))else kdF s (i+1) (20 - (i+1)):=by
 obtain⟨f,hf⟩:∃f,20 - i=f+1:=⟨19 - i,by omega⟩
 rw[hf,kdF];have e1:i / 2=k:=by omega
 have e2:i % 2=n:=by omega
 have e3:20 - (i+1)=f:=by omega
 rw[e1,e2,e3]
end Co
theorem word07_any(k n dk dn:Int)(s ds:ByteArray)(vm vl vt vp vk:Value)(w:World):
  Calls Tryz.prog 149 #[.agg #[.int .i64 k,.int .i64 n,.string s,.int .i64 dk,.int .i64 dn,.string ds,vm,vl,vt,vp,vk]] w fun e w'=>e= .returned (.string (Co.wordR k n))∧Below w.heap.size w w':=by
 obtain⟨w1,hw1⟩:∃w1,w.alloc (.cells #[.int .i64 k,.int .i64 n,.string s,.int .i64 dk,.int .i64 dn,.string ds,vm,vl,vt,vp,vk] 28)=w1:=⟨_,rfl⟩
 obtain⟨hb1,-⟩:=new_below hw1;have c0:=(Hp.new hw1).cell 0 rfl;have c1:=(Hp.new hw1).cell 1 rfl;have HB:=hd hb1;clear hb1;obtain⟨R,hR⟩:∃R,Co.wordR k n=R:=⟨_,rfl⟩
 rw[hR];unfold Co.wordR at hR;by_cases g1:k=1
 ·rw[if_pos g1]at hR;subst g1 hR;go_enter Tryz.func149,Tryz.ntmps149;go_wp2;go_ret;exact⟨rfl,HB.out⟩
 rw[if_neg g1]at hR;have t1:(k==1)=false:=by rw[beq_eq_false_iff_ne];omega
 by_cases g2:k=2
 ·rw[if_pos g2]at hR;subst g2 hR;go_enter Tryz.func149,Tryz.ntmps149;go_wp2;go_ret;exact⟨rfl,HB.out⟩
 rw[if_neg g2]at hR;have t2:(k==2)=false:=by rw[beq_eq_false_iff_ne];omega
 by_cases g3:k=3
 ·rw[if_pos g3]at hR;subst g3 hR;go_enter Tryz.func149,Tryz.ntmps149;go_wp2;go_ret;exact⟨rfl,HB.out⟩
 rw[if_neg g3]at hR;have t3:(k==3)=false:=by rw[beq_eq_false_iff_ne];omega
 by_cases g4:k=4
 ·rw[if_pos g4]at hR;subst g4 hR;go_enter Tryz.func149,Tryz.ntmps149;go_wp2;go_ret;exact⟨rfl,HB.out⟩
 rw[if_neg g4]at hR;have t4:(k==4)=false:=by rw[beq_eq_false_iff_ne];omega
 by_cases g5:k=5
 ·rw[if_pos g5]at hR;subst g5 hR;go_enter Tryz.func149,Tryz.ntmps149;go_wp2;go_ret;exact⟨rfl,HB.out⟩
 rw[if_neg g5]at hR;have t5:(k==5)=false:=by rw[beq_eq_false_iff_ne];omega
 by_cases g6:k=6
 ·rw[if_pos g6]at hR;subst g6 hR;go_enter Tryz.func149,Tryz.ntmps149;go_wp2;go_ret;exact⟨rfl,HB.out⟩
 rw[if_neg g6]at hR;have t6:(k==6)=false:=by rw[beq_eq_false_iff_ne];omega
 by_cases g7:k=7
 ·rw[if_pos g7]at hR;subst g7 hR;go_enter Tryz.func149,Tryz.ntmps149;go_wp2;go_ret;exact⟨rfl,HB.out⟩
 rw[if_neg g7]at hR;have t7:(k==7)=false:=by rw[beq_eq_false_iff_ne];omega
 by_cases g8:k=8
 ·rw[if_pos g8]at hR;subst g8;by_cases gn:n=1
  ·rw[if_pos gn]at hR;subst gn hR;go_enter Tryz.func149,Tryz.ntmps149;go_wp2;go_ret;exact⟨rfl,HB.out⟩
  ·rw[if_neg gn]at hR;have tn:(n==1)=false:=by rw[beq_eq_false_iff_ne];omega
   subst hR;clear gn;go_enter Tryz.func149,Tryz.ntmps149;go_wp2;go_ret;exact⟨rfl,HB.out⟩
 rw[if_neg g8]at hR;have t8:(k==8)=false:=by rw[beq_eq_false_iff_ne];omega
 by_cases g9:k=9
 ·rw[if_pos g9]at hR;subst g9 hR;go_enter Tryz.func149,Tryz.ntmps149;go_wp2;go_ret;exact⟨rfl,HB.out⟩
 rw[if_neg g9]at hR;have t9:(k==9)=false:=by rw[beq_eq_false_iff_ne];omega
 subst hR;clear g1 g2 g3 g4 g5 g6 g7 g8 g9;go_enter Tryz.func149,Tryz.ntmps149;go_wp2;go_ret;exact⟨rfl,HB.out⟩
theorem kind07_any(s:ByteArray)(w:World):
  Calls Tryz.prog 110 #[.string s] w fun e w'=>e= .returned (.tuple #[.int .i64 (Co.kd s).1,.int .i64 (Co.kd s).2])∧Below w.heap.size w w':=by
 obtain⟨⟨r1,r2⟩,hR⟩:∃R,Co.kd s=R:=⟨_,rfl⟩
 rw[hR];have HR:=hd hR;have HI0:Hid (Below w.heap.size w w∧Co.kd s=Co.kdF s (2*0) (20 - 2*0)):=⟨Below.refl _ _,rfl⟩
 clear hR;go_enter Tryz.func110,Tryz.ntmps110;go_wp2
 go_loopw [4] (fun v wr=>∃k:Nat,v= .int .i64 ((k:Int)+1)∧k≤10∧Hid (Below w.heap.size w wr∧Co.kd s=Co.kdF s (2*k) (20 - 2*k))) (fun v _=>11 - (intOf v).toNat)
 case atStart=>exact⟨0,rfl,by omega,HI0⟩
 case round=>
  clear HI0;obtain⟨k,rfl,hk,HI⟩:=hrel;by_cases h10:k<10
  case neg=>
   have hge:(10:Int)<(k:Int)+1:=by omega
   have hd:decide ((k:Int)+1≤10)=false:=decide_eq_false (by omega);have HZ:Hid (r1=0∧r2=0):=by
    have h:=HI.out.2;rw[show k=10 by omega,HR.out]at h;have h:(r1,r2)=((0:Int),(0:Int)):=h;exact⟨congrArg Prod.fst h,congrArg Prod.snd h⟩
   have HB:=hd HI.out.1;go_wp2;refine bodyPost_ret (v:= .tuple #[.int .i64 0,.int .i64 0]) (by simp[results,Tryz.results110,go_sem, *]) rfl ?_;rw[HZ.out.1,HZ.out.2];exact⟨rfl,HB.out⟩
  have hle:decide ((k:Int)+1≤10)=true:=decide_eq_true (by omega);have hlei:(k:Int)+1≤10:=by omega
  have HJ0:Hid (Below w.heap.size w wr∧Co.kd s=Co.kdF s (2*k+0) (20 - (2*k+0))):=HI.out;go_wp2
  go_loopw [5] (fun v w9=>∃n:Nat,v= .int .i64 (n:Int)∧n≤2∧Hid (Below w.heap.size w w9∧Co.kd s=Co.kdF s (2*k+n) (20 - (2*k+n)))) (fun v _=>2 - (intOf v).toNat)
  case atStart=>exact⟨0,rfl,by omega,HJ0⟩
  case round=>
   clear HJ0 HI;obtain⟨n,rfl,hn,HJ⟩:=hrel;by_cases h2:n<2
   case neg=>
    have hge:(1:Int)<(n:Int):=by omega
    have hd:decide ((n:Int)≤1)=false:=decide_eq_false (by omega);have HN:Hid (Below w.heap.size w wr∧Co.kd s=Co.kdF s (2*(k+1)) (20 - 2*(k+1))):=by
     have h:=HJ.out;rw[show 2*k+n=2*(k+1)by omega]at h;exact h
    go_wp2;go_roundw
    case rel=>exact⟨k+1,by simp,by omega,HN⟩
    case measure=>simp[intOf];omega
   have hlen:(n:Int)≤1:=by omega
   have hd:decide ((n:Int)≤1)=true:=decide_eq_true hlen;have hst:=Co.kd_step (s:=s) (i:=2*k+n) rfl h2 h10;have hwA:wr.alloc (.cells #[.int .i64 ((k:Int)+1),.int .i64 0,.string ⟨#[]⟩,.int .i64 0,.int .i64 0,.string ⟨#[]⟩,.slice none 0 0,.slice none 0 0,.slice none 0 0,.slice none 0 0,.slice none 0 0] 28)=wr.alloc (.cells #[.int .i64 ((k:Int)+1),.int .i64 0,.string ⟨#[]⟩,.int .i64 0,.int .i64 0,.string ⟨#[]⟩,.slice none 0 0,.slice none 0 0,.slice none 0 0,.slice none 0 0,.slice none 0 0] 28):=rfl;obtain⟨hbA,hsA⟩:=new_below hwA;have HA:=hd (Hp.new hwA);have HBA:Hid (Below w.heap.size w (wr.alloc (.cells #[.int .i64 ((k:Int)+1),.int .i64 0,.string ⟨#[]⟩,.int .i64 0,.int .i64 0,.string ⟨#[]⟩,.slice none 0 0,.slice none 0 0,.slice none 0 0,.slice none 0 0,.slice none 0 0] 28))):=HJ.out.1.trans (hbA.mono HJ.out.1.size);have HSA:=hd hsA;have HLB:Hid (w.heap.size≤wr.heap.size):=HJ.out.1.size;clear hbA hsA hwA;by_cases h8:k=7
   ·have hk8:((k:Int)+1==8)=true:=by rw[beq_iff_eq];omega
    have hN:Co.nn ((k:Int)+1) (n:Int)=(n:Int):=by unfold Co.nn;rw[if_pos (by omega)]
    clear h8;rw[hN]at hst;obtain⟨wB,hwB⟩:∃wB,(wr.alloc (.cells #[.int .i64 ((k:Int)+1),.int .i64 0,.string ⟨#[]⟩,.int .i64 0,.int .i64 0,.string ⟨#[]⟩,.slice none 0 0,.slice none 0 0,.slice none 0 0,.slice none 0 0,.slice none 0 0] 28)).setCell ⟨wr.heap.size,1,none⟩ (.int .i64 (n:Int))=wB:=⟨_,rfl⟩
    have kB:=set_keep (wr.alloc (.cells #[.int .i64 ((k:Int)+1),.int .i64 0,.string ⟨#[]⟩,.int .i64 0,.int .i64 0,.string ⟨#[]⟩,.slice none 0 0,.slice none 0 0,.slice none 0 0,.slice none 0 0,.slice none 0 0] 28)) wr.heap.size 1 (.int .i64 (n:Int));rw[hwB]at kB;have HC:Hid (Hp wB wr.heap.size #[.int .i64 ((k:Int)+1),.int .i64 (n:Int),.string ⟨#[]⟩,.int .i64 0,.int .i64 0,.string ⟨#[]⟩,.slice none 0 0,.slice none 0 0,.slice none 0 0,.slice none 0 0,.slice none 0 0] 28):=by rw[←hwB];exact HA.out.set 1 _
    have HBB:Hid (Below w.heap.size w wB):=HBA.out.trans (kB.to_below (fun j e=>by have:=HLB.out;omega) HBA.out.size);have xA:=HA.out.cell 1 rfl;have xf:=HA.out.frz 1;obtain⟨c0,c1,c2,c3,c4,c5,c6,c7,c8,c9,c10⟩:=HC.out.c11;have hwd:=word07_any ((k:Int)+1) (n:Int) 0 0 ⟨#[]⟩ ⟨#[]⟩ (.slice none 0 0) (.slice none 0 0) (.slice none 0 0) (.slice none 0 0) (.slice none 0 0) wB;obtain⟨WD,hWD⟩:∃WD,Co.wordR ((k:Int)+1) (n:Int)=WD:=⟨_,rfl⟩
    rw[hWD]at hwd hst;clear kB hN;clear hWD;have HST:=hd hst;clear hst;go_wp2_with fail
    refine hwd.mono ?_;rintro e wC ⟨rfl,hbC⟩;have HBC:Hid (Below w.heap.size w wC):=btr HBB.out hbC;have HCC:=hd (HC.out.below hbC);have d1:=HCC.out.cell 1 rfl;clear xA xf hwB c0 c1 c2 c3 c4 c5 c6 c7 c8 c9 c10 hwd hbC;by_cases hm:WD=s
    ·have s1:decide (WD=s)=true:=decide_eq_true hm;have s2:(WD.data==s.data)=true:=by rw[hm];simp
     have s4:(WD==s)=true:=s2;have s6:(WD.toList==s.toList)=true:=by rw[hm];simp
     have HF:Hid (r1=((k:Int)+1)∧r2=(n:Int)):=by
      have h:=HJ.out.2;rw[HST.out,if_pos hm,HR.out]at h;exact⟨congrArg Prod.fst h,congrArg Prod.snd h⟩
     clear hm;go_wp2
     go_region
     all_goals
      go_wp2;refine bodyPost_ret (v:= .tuple #[.int .i64 ((k:Int)+1),.int .i64 (n:Int)]) (by simp[results,Tryz.results110,go_sem, *]) rfl ?_;rw[HF.out.1,HF.out.2];exact⟨rfl,HBC.out.drew⟩
    ·have s1:decide (WD=s)=false:=decide_eq_false hm;have s2:(WD.data==s.data)=false:=by rw[beq_eq_false_iff_ne];intro e;exact hm (Dt.bytes_ext (by rw[e]))
     have s4:(WD==s)=false:=s2;have s6:(WD.toList==s.toList)=false:=by rw[ByteArray.toList_eq,ByteArray.toList_eq,beq_eq_false_iff_ne];exact fun e=>hm (Dt.bytes_ext e)
     have HN:Hid (Below w.heap.size w wC∧Co.kd s=Co.kdF s (2*k+(n+1)) (20 - (2*k+(n+1)))):=by
      have h:=HJ.out.2;rw[HST.out,if_neg hm]at h;exact⟨HBC.out,h⟩
     clear hm;go_wp2;go_roundw
     case rel=>exact⟨n+1,by simp,by omega,HN⟩
     case measure=>simp[intOf];omega
   ·have hk8:((k:Int)+1==8)=false:=by rw[beq_eq_false_iff_ne];omega
    have hN:Co.nn ((k:Int)+1) (n:Int)=0:=by unfold Co.nn;rw[if_neg (by omega)]
    rw[hN]at hst;have HC:=HA;have HBB:=HBA;obtain⟨c0,c1,c2,c3,c4,c5,c6,c7,c8,c9,c10⟩:=HC.out.c11;have hwd:=word07_any ((k:Int)+1) 0 0 0 ⟨#[]⟩ ⟨#[]⟩ (.slice none 0 0) (.slice none 0 0) (.slice none 0 0) (.slice none 0 0) (.slice none 0 0) (wr.alloc (.cells #[.int .i64 ((k:Int)+1),.int .i64 0,.string ⟨#[]⟩,.int .i64 0,.int .i64 0,.string ⟨#[]⟩,.slice none 0 0,.slice none 0 0,.slice none 0 0,.slice none 0 0,.slice none 0 0] 28));obtain⟨WD,hWD⟩:∃WD,Co.wordR ((k:Int)+1) 0=WD:=⟨_,rfl⟩
    rw[hWD]at hwd hst;clear hN;clear hWD;have HST:=hd hst;clear hst;go_wp2_with fail
    refine hwd.mono ?_;rintro e wC ⟨rfl,hbC⟩;have HBC:Hid (Below w.heap.size w wC):=btr HBB.out hbC;have HCC:=hd (HC.out.below hbC);have d1:=HCC.out.cell 1 rfl;clear c0 c1 c2 c3 c4 c5 c6 c7 c8 c9 c10 hwd hbC;by_cases hm:WD=s
    ·have s1:decide (WD=s)=true:=decide_eq_true hm;have s2:(WD.data==s.data)=true:=by rw[hm];simp
     have s4:(WD==s)=true:=s2;have s6:(WD.toList==s.toList)=true:=by rw[hm];simp
     have HF:Hid (r1=((k:Int)+1)∧r2=0):=by
      have h:=HJ.out.2;rw[HST.out,if_pos hm,HR.out]at h;exact⟨congrArg Prod.fst h,congrArg Prod.snd h⟩
     clear hm;go_wp2
     go_region
     all_goals
      go_wp2;refine bodyPost_ret (v:= .tuple #[.int .i64 ((k:Int)+1),.int .i64 0]) (by simp[results,Tryz.results110,go_sem, *]) rfl ?_;rw[HF.out.1,HF.out.2];exact⟨rfl,HBC.out.drew⟩
    ·have s1:decide (WD=s)=false:=decide_eq_false hm;have s2:(WD.data==s.data)=false:=by rw[beq_eq_false_iff_ne];intro e;exact hm (Dt.bytes_ext (by rw[e]))
     have s4:(WD==s)=false:=s2;have s6:(WD.toList==s.toList)=false:=by rw[ByteArray.toList_eq,ByteArray.toList_eq,beq_eq_false_iff_ne];exact fun e=>hm (Dt.bytes_ext e)
     have HN:Hid (Below w.heap.size w wC∧Co.kd s=Co.kdF s (2*k+(n+1)) (20 - (2*k+(n+1)))):=by
      have h:=HJ.out.2;rw[HST.out,if_neg hm]at h;exact⟨HBC.out,h⟩
     clear hm;go_wp2;go_roundw
     case rel=>exact⟨n+1,by simp,by omega,HN⟩
     case measure=>simp[intOf];omega
end Go.Proofs.YtfjmlfbohenmfaaGreat
namespace Go.Proofs.YtfjmlfbohenmfaaGreat
open Go.RowKit
namespace Ap
def Src2(w:World)(src:Value)(m:Nat)(news:List Value):Prop:=Src w src m news∨∃c,src= .slice none 0 c∧m=0∧news=[]
section
variable {P:Program} {w:World}
theorem run_none(base:Nat)(t ty e:TypeId)(i:TypeInfo)(size:Nat)(ht:P.underlying t=some (.slice e))(hi:P.info? e=some i)
  (v:Value) (n c:Nat) (xs:List Value) (hown:w.ownsRow base e size v n xs):
  (Builtin.append_ #[t,t] ty #[v,.slice none 0 c]).run P w= .ok v w:=by
 rcases hown.2 with⟨rfl,rfl⟩|⟨g,cap,cur,rfl,_,_,hnc,_⟩
 ·simp[Builtin.append_,run_underlying ht,sizeOf,typeInfo,hi,Builtin.lenOf,Builtin.firstCells]
 ·simp[Builtin.append_,run_underlying ht,sizeOf,typeInfo,hi,Builtin.lenOf,Builtin.firstCells,hnc,storeCells]
theorem step2{ops:Array Oper}{o:Oper}{a:Act}{K:Act→World→Prop}{Q:Exit→Act→World→Prop}{E:Prop}(hgd:o.guard=none)(s x:Operand)(t:TypeId)
  (ho:o.op= .call {callee:= .builtin .append,args:=#[s,x],argTypes:=#[t,t]})
  (base:Nat) (e:TypeId) (i:TypeInfo) (z:Value) (size bytes:Nat) (ht:P.underlying t=some (.slice e)) (hi:P.info? e=some i) (hz:i.zero=some z)
  (hsize:i.size=size) (hby:i.bytes=bytes) (hzs:z.cells.size=size) (hsz:0<size)
  (v:Value) (n:Nat) (xs:List Value) (hs:a.eval s=v) (hown:w.ownsRow base e size v n xs)
  (src:Value) (m:Nat) (news:List Value) (hx:a.eval x=src) (hsrc:Src2 w src m news) (hl:news.length=m*size) (h1:∀u∈news,u.oneCell'=true)
  (h63:n+m≤maxLen) (hbytes:(n+m)*bytes≤140737488355328) (hbase:base≤w.heap.size)
  (h:∀v' w',w'.ownsRow base e size v' (n+m) (xs++news)→w.grownBy w' v.ownBlock→(v'.ownBlock=v.ownBlock∨v'.ownBlock=some w.heap.size)→K (a.put o.dst v') w'):
  if Region.wanted o (yielded ops a.tmps)=true then Oper.wp P o a w K Q else E:=by
 rcases hsrc with hsrc|⟨c,rfl,rfl,rfl⟩
 ·exact step hgd s x t ho base e i z size bytes ht hi hz hsize hby hzs hsz v n xs hs hown src m news hx hsrc hl h1 h63 hbytes hbase h
 ·have hw:Region.wanted o (yielded ops a.tmps)=true:=by simp[Region.wanted,hgd]
  rw[if_pos hw];unfold Oper.wp execOp;simp only[ho,resolve,invoke,builtin,Sem.run_bind,Sem.run_pure,Result.andThen_ok,List.map_toArray,List.map_cons,List.map_nil,hs,hx,run_none base t o.type e i size ht hi v n c xs hown];exact h v w (by simpa using hown) ⟨rfl,rfl,rfl,Nat.le_refl _,fun _ _ _=>rfl⟩ (.inl rfl)
theorem list2{ops:Array Oper}{rest:List Oper}{o:Oper}{a:Act}{Q:Exit→Act→World→Prop}(hgd:o.guard=none)(s x:Operand)(t:TypeId)
  (ho:o.op= .call {callee:= .builtin .append,args:=#[s,x],argTypes:=#[t,t]})
  (base:Nat) (e:TypeId) (i:TypeInfo) (z:Value) (size bytes:Nat) (ht:P.underlying t=some (.slice e)) (hi:P.info? e=some i) (hz:i.zero=some z)
  (hsize:i.size=size) (hby:i.bytes=bytes) (hzs:z.cells.size=size) (hsz:0<size)
  (v:Value) (n:Nat) (xs:List Value) (hs:a.eval s=v) (hown:w.ownsRow base e size v n xs)
  (src:Value) (m:Nat) (news:List Value) (hx:a.eval x=src) (hsrc:Src2 w src m news) (hl:news.length=m*size) (h1:∀u∈news,u.oneCell'=true)
  (h63:n+m≤maxLen) (hbytes:(n+m)*bytes≤140737488355328) (hbase:base≤w.heap.size)
  (h:∀v' w',w'.ownsRow base e size v' (n+m) (xs++news)→w.grownBy w' v.ownBlock→(v'.ownBlock=v.ownBlock∨v'.ownBlock=some w.heap.size)→wpList P ops Q rest (a.put o.dst v') w'):wpList P ops Q (o :: rest) a w:=by
 rcases hsrc with hsrc|⟨c,rfl,rfl,rfl⟩
 ·exact list hgd s x t ho base e i z size bytes ht hi hz hsize hby hzs hsz v n xs hs hown src m news hx hsrc hl h1 h63 hbytes hbase h
 ·refine wpList_plain hgd fun _ hK=> ?_
  unfold Oper.wp execOp;simp only[ho,resolve,invoke,builtin,Sem.run_bind,Sem.run_pure,Result.andThen_ok,List.map_toArray,List.map_cons,List.map_nil,hs,hx,run_none base t o.type e i size ht hi v n c xs hown];exact hK _ _ (h v w (by simpa using hown) ⟨rfl,rfl,rfl,Nat.le_refl _,fun _ _ _=>rfl⟩ (.inl rfl))
end
end Ap
theorem Dt.IRow.src2{F:Nat→Prop}{w:World}{v:Value}{m:List Int}(h:Dt.IRow F w v m):Ap.Src2 w v m.length (m.map (Value.int .i64)):=by
 have h0:=h;obtain⟨a,c,rfl,-,h3⟩:=h;by_cases ha:a=none
 ·right;have hm:m=[]:=by
   cases m with
   |nil=>rfl
   |cons x r=>obtain⟨b,o,e,-⟩:=h3 (by simp);rw[ha]at e;cases e
  subst hm ha;exact⟨c,rfl,rfl,rfl⟩
 ·exact .inl (Dt.IRow.src h0 ha)
end Go.Proofs.YtfjmlfbohenmfaaGreat
namespace Go.Proofs.YtfjmlfbohenmfaaGreat
open Go.RowKit
attribute [local go_sem] Oper.semAt_some
namespace Co
theorem src1{w wD:World}{a:Value}{t:TypeId}(hw:w.alloc (.cells #[a] t)=wD):Ap.Src wD (.slice (some ⟨w.heap.size,0,none⟩) 1 1) 1 [a]:=
 .inr ⟨_,_,rfl,fun z u hu=>by
  rw[Addr.add_mid,Nat.zero_add];have h2:#[a][z]?=some u:=by rw[←hu];simp
  exact(Hp.new hw).cell z h2⟩
def sw(opn:Bool)(c:C)(deep:Nat)(win:List Int)(top:Bool)(cnt:Nat):Int:=
 if 128<deep then 4 else if 8192≤cnt then 3 else if alone c=false∨(c.k=6∧top=false)then 70 else if(c.k=2∨c.k=4)∧opn=false∧win.contains c.n=false then 70 else 0
theorem here_sw(opn:Bool)(c:C)(deep:Nat)(win:List Int)(top:Bool)(cnt:Nat)(bd:List Int):here opn c deep win top cnt bd=if sw opn c deep win top cnt≠0 then sw opn c deep win top cnt else if c.p.any bd.contains then 70 else 0:=by
 unfold here sw;split
 ·rfl
 split
 ·rfl
 split
 ·rfl
 split
 ·rfl
 ·rfl
theorem sw_alone{opn:Bool}{c:C}{deep:Nat}{win:List Int}{top:Bool}{cnt:Nat}(h:sw opn c deep win top cnt=0):alone c=true∧deep≤128∧cnt<8192:=by
 unfold sw at h;split at h
 ·cases h
 split at h
 ·cases h
 split at h
 ·cases h
 rename_i h1 h2 h3;refine⟨?_,by omega,by omega⟩;cases h4:alone c
 ·exact absurd (.inl h4) h3
 ·rfl
structure M1(G:Nat→Prop)(base X:Nat)(opn:Bool)(pv bv:Value)(ps:List PC)(bd:List Int)(w:World)(A0:Nat)(cs:Array Value)(e:Int)(wx:World):Prop where
 rw_:RW G wx base X e opn pv bv ps bd
 bx:Hp wx A0 cs 28
 kp:Keep (WS X pv bv) w wx
structure M2(G:Nat→Prop)(base X:Nat)(opn:Bool)(pv bv:Value)(ps:List PC)(bd:List Int)(w:World)(A0:Nat)(cs:Array Value)(c:C)(e1:Int)(i:Nat)(e:Int)(bv2:Value)(bd2:List Int)(wx:World):Prop where
 rw_:RW G wx base X e opn pv bv2 ps bd2
 bx:Hp wx A0 cs 28
 kp:Keep (WS X pv bv) w wx
 rv:∀k,bv2.ownBlock=some k→bv.ownBlock=some k∨w.heap.size+1≤k
 ok:(e=0∧e1=0∧bd2=bd++c.p.take i∧(∀x∈c.p.take i,x∉bd))∨(e≠0∧((e1≠0∧e=e1)∨(e1=0∧e=70∧c.p.any bd.contains=true)))
theorem M2.here{G:Nat→Prop}{base X:Nat}{opn:Bool}{pv bv:Value}{ps:List PC}{bd:List Int}{w:World}{A0:Nat}{cs:Array Value}{c:C}{e1:Int}{i:Nat}{e:Int}{bv2:Value}{bd2:List Int}{wx:World}{deep:Nat}{win:List Int}{top:Bool}(h:M2 G base X opn pv bv ps bd w A0 cs c e1 i e bv2 bd2 wx)(he:e1=sw opn c deep win top ps.length)(hi:e=0→i=c.p.length):
  Co.here opn c deep win top ps.length bd=e∧(e=0→bd2=bd++c.p):=by
 rw[here_sw,←he];rcases h.ok with⟨h1,h2,h3,h4⟩|⟨h1,⟨h2,h3⟩|⟨h2,h3,h4⟩⟩
 ·have e2:=hi h1;rw[e2,List.take_length]at h3 h4;rw[if_neg (by rw[h2];simp),h1];refine⟨if_neg ?_,fun _=>h3⟩;intro hh;obtain⟨x,hx,hc⟩:=List.any_eq_true.1 hh;exact h4 x hx (by simpa using hc)
 ·rw[if_pos h2];exact⟨h3.symm,fun e=>absurd e h1⟩
 ·rw[if_neg (by rw[h2];simp),if_pos h4,h3];exact⟨rfl,fun e=>by cases e⟩
structure M3(G:Nat→Prop)(base X:Nat)(opn:Bool)(pv bv:Value)(w:World)(A0:Nat)(cs:Array Value)(pv2 bv2:Value)(qs:List PC)(bd2:List Int)(wx:World):Prop where
 rw_:RW G wx base X 0 opn pv2 bv2 qs bd2
 bx:Hp wx A0 cs 28
 kp:Keep (WS X pv bv) w wx
 rp:∀k,pv2.ownBlock=some k→pv.ownBlock=some k∨w.heap.size+1≤k
 rb:∀k,bv2.ownBlock=some k→bv.ownBlock=some k∨w.heap.size+1≤k
structure M4(G G3:Nat→Prop)(base X:Nat)(opn:Bool)(pv bv:Value)(w:World)(A0:Nat)(cs:Array Value)(c:C)(d1:Nat)(win2:List Int)(TB:Bool)(ps:List PC)(bd:List Int)(iv2:Value)(j:Nat)(e:Int)(pvj bvj:Value)(psj:List PC)(bdj:List Int)(wx:World):Prop where
 rw_:RW G wx base X e opn pvj bvj psj bdj
 bx:Hp wx A0 cs 28
 kp:Keep (WS X pv bv) w wx
 rp:∀k,pvj.ownBlock=some k→pv.ownBlock=some k∨w.heap.size+1≤k
 rb:∀k,bvj.ownBlock=some k→bv.ownBlock=some k∨w.heap.size+1≤k
 iv:Dt.IRow G3 wx iv2 win2
 ng:∀k,G3 k→¬WS X pvj bvj k
 gl:∀k,G3 k→k<wx.heap.size
 m0:e=0→goesL opn c.l d1 win2 TB (ps.length+1) (bd++c.p)=goesL opn (c.l.drop j) d1 win2 TB psj.length bdj∧psj.map PC.c=ps.map PC.c++(c :: partsL (c.l.take j))∧bdj.length≤1000000+32*psj.length∧psj.length≤8192
 m1:e≠0→(goesL opn c.l d1 win2 TB (ps.length+1) (bd++c.p)).1=e
theorem goes_go{opn:Bool}{c:C}{deep:Nat}{win:List Int}{top:Bool}{cnt:Nat}{bd:List Int}(h:here opn c deep win top cnt bd=0):goes opn c deep win top cnt bd=goesL opn c.l (deep+1) (inner c.k c.p win) (top&&decide (c.k=9)) (cnt+1) (bd++c.p):=by
 obtain⟨k,n,s,d,p,l⟩:=c;rw[goes,if_neg (by rw[h];simp)]
 rfl
theorem goes_bad{opn:Bool}{c:C}{deep:Nat}{win:List Int}{top:Bool}{cnt:Nat}{bd:List Int}(h:here opn c deep win top cnt bd≠0):(goes opn c deep win top cnt bd).1=here opn c deep win top cnt bd:=by
 obtain⟨k,n,s,d,p,l⟩:=c;rw[goes,if_pos h]
theorem partsL_take{l:List C}{j:Nat}(hj:j<l.length):partsL (l.take (j+1))=partsL (l.take j)++parts l[j]:=by
 induction l generalizing j with
 |nil=>simp at hj
 |cons a r ih=>
  cases j with
  |zero=>rw[List.take_succ_cons,partsL,List.take_zero,List.take_zero,partsL];simp
  |succ j=>rw[List.take_succ_cons,List.take_succ_cons,partsL,partsL,ih (by simpa using hj),List.append_assoc];rfl
theorem M4.next{G G3:Nat→Prop}{base X:Nat}{opn:Bool}{pv bv:Value}{w:World}{A0:Nat}{cs:Array Value}{c:C}{d1:Nat}{win2:List Int}{TB:Bool}{ps:List PC}{bd:List Int}{iv2:Value}{j:Nat}{e:Int}{pvj bvj:Value}{psj:List PC}{bdj:List Int}{wx wd w':World}{x:Ending}(hA:¬WS X pv bv A0)(hA0:A0=w.heap.size)(h:M4 G G3 base X opn pv bv w A0 cs c d1 win2 TB ps bd iv2 j e pvj bvj psj bdj wx)(hb:Below wx.heap.size wx wd)(hj:j<c.l.length)(hp:RPost G base X opn pvj bvj wd c.l[j] d1 win2 TB psj bdj e x w'):
  ∃e' pv' bv' ps' bd',M4 G G3 base X opn pv bv w A0 cs c d1 win2 TB ps bd iv2 (j+1) e' pv' bv' ps' bd' w':=by
 obtain⟨-,e',pv',bv',ps',bd',g1,g2,g3,g4,g5,g6⟩:=hp;have hk:Keep (WS X pvj bvj) wx w':=(keep_of_below hb).trans g2;have hsz:=hb.size;have hbl:=h.bx.lt;have hnA:¬WS X pvj bvj A0:=fun e=>by
  rcases e with e|e|e
  ·exact hA (.inl e)
  ·exact(h.rp A0 e).elim (fun e=>hA (.inr (.inl e))) (fun e=>by omega)
  ·exact(h.rb A0 e).elim (fun e=>hA (.inr (.inr e))) (fun e=>by omega)
 refine⟨e',pv',bv',ps',bd',g1,h.bx.keep hk hnA,?_,fun k hk=> ?_,fun k hk=> ?_,h.iv.keep hk (fun b hb _=>h.ng b hb),fun k hk e=> ?_,fun k hk'=>Nat.lt_of_lt_of_le (h.gl k hk') hk.size,fun he=> ?_,fun he=> ?_⟩
 ·refine Keep.mono ((h.kp.le (T:=fun k=>WS X pv bv k∨WS X pvj bvj k) fun k e=> .inl e).trans (hk.le fun k e=> .inr e)) (fun k hk e=> ?_);rcases e with e|e|e|e
  ·exact e
  ·exact .inl e
  ·exact(h.rp k e).elim (fun e=> .inr (.inl e)) (fun e=>by omega)
  ·exact(h.rb k e).elim (fun e=> .inr (.inr e)) (fun e=>by omega)
 ·exact(g3 k hk).elim (fun e=>h.rp k e) (fun e=> .inr (by omega))
 ·exact(g4 k hk).elim (fun e=>h.rb k e) (fun e=> .inr (by omega))
 ·have hl:=h.gl k hk;rcases e with e|e|e
  ·exact h.ng k hk (.inl e)
  ·exact(g3 k e).elim (fun e=>h.ng k hk (.inr (.inl e))) (fun e=>by omega)
  ·exact(g4 k e).elim (fun e=>h.ng k hk (.inr (.inr e))) (fun e=>by omega)
 ·by_cases h0:e=0
  ·obtain⟨k1,k2⟩:=g6 h0;obtain⟨k3,k4,k5,k6⟩:=k2 he;obtain⟨m1,m2,m3,m4⟩:=h.m0 h0;refine⟨?_,?_,k5,k6⟩
   ·rw[m1,List.drop_eq_getElem_cons hj,goesL,if_neg (by rw[k4];simp),k4]
   ·rw[k3,m2,partsL_take hj];simp
  ·exact absurd ((g5 h0).symm.trans he) h0
 ·by_cases h0:e=0
  ·obtain⟨k1,-⟩:=g6 h0;obtain⟨m1,-⟩:=h.m0 h0;rw[m1,List.drop_eq_getElem_cons hj,goesL,if_pos (by rw[←k1];exact he),←k1]
  ·rw[h.m1 h0];exact(g5 h0).symm
theorem once_take{p:List Int}(h:once p=true):∀i,(hi:i<p.length)→p[i]∉p.take i:=by
 induction p with
 |nil=>intro i hi;simp at hi
 |cons a r ih=>
  unfold once at h;rw[Bool.and_eq_true]at h;intro i hi
  cases i with
  |zero=>simp
  |succ i=>
   have h1:a∉r:=by simpa using h.1
   have h2:=ih h.2 i (by simpa using hi);rw[List.getElem_cons_succ,List.take_succ_cons,List.mem_cons];rintro(e|e)
   ·exact h1 (by rw[←e];exact List.getElem_mem _)
   ·exact h2 e
theorem once_of_alone{c:C}(h:alone c=true):once c.p=true:=by
 obtain⟨k,n,s,d,p,l⟩:=c;show once p=true;unfold alone at h;dsimp only at h;split at h
 ·simp only[Bool.and_eq_true]at h;have:p=[]:=by simpa using h.1.1.2
  rw[this];rfl
 split at h
 ·cases h
 split at h
 ·simp only[Bool.and_eq_true]at h;have h2:=h.2;unfold params at h2;simp only[Bool.and_eq_true]at h2;exact h2.2
 split at h
 ·cases h
 ·rename_i h2;have:p=[]:=by
   cases p with
   |nil=>rfl
   |cons a r=>exact absurd rfl h2
  rw[this];rfl
end Co
theorem coRGoes_step(c:Co.C)(hch:∀y∈c.l,Co.RGoesIs y):Co.RGoesIs c:=by
 intro G G2 base X opn pv bv vm vl vt vp vk iv ps bd win w deep top er hW hR hG hRW hIV hG2 hwin hdeep hbd;obtain⟨-,hrp,hrk⟩:=(Co.rep_iff _ _ _ _ _ _ _ _).1 hR;obtain⟨b1,n1,q1,b2,n2,q2,b3,n3,q3,b4,n4,q4,b5,n5,q5,rfl,rfl,rfl,rfl,rfl⟩:=hR.forms5;obtain⟨_,_,he5,_,_⟩:=id hrk;injection he5 with he5a he5b he5c
 subst he5b;clear he5a he5c;obtain⟨_,_,he4,_,_⟩:=id hrp;injection he4 with he4a he4b he4c
 subst he4b;clear he4a he4c;obtain⟨pa,pq,rfl⟩:=Dt.row_form hRW.rp;obtain⟨ba,bq,rfl⟩:=Dt.row_form hRW.rb;unfold Co.V;obtain⟨w1,hw1⟩:∃w1,w.alloc (.cells #[.int .i64 c.k,.int .i64 c.n,.string c.s,.int .i64 c.d.k,.int .i64 c.d.n,.string c.d.s,.slice b1 n1 q1,.slice b2 n2 q2,.slice b3 n3 q3,.slice b4 c.p.length q4,.slice b5 c.l.length q5] 28)=w1:=⟨_,rfl⟩
 obtain⟨hb1,hs1⟩:=new_below hw1;have Hc:=hd (Hp.new hw1);have HA0:Hid (w1.heap.size=w.heap.size+1):=hs1;have HNA:Hid (¬Co.WS X (.slice pa ps.length pq) (.slice ba bd.length bq) w.heap.size):=by
  rintro(h|h|h)
  ·have:=hRW.hp.lt;omega
  ·have:=(Dt.own_lt hRW.rp w.heap.size h).2;omega
  ·have:=(Dt.own_lt hRW.rb w.heap.size h).2;omega
 have HX1:Hid (Hp w1 X #[.slice pa ps.length pq,.slice ba bd.length bq,.int .i64 er,.bool opn] 66):=hRW.hp.below hb1;obtain⟨x0,x1,x2,x3⟩:=HX1.out.c4;have xf2:=HX1.out.frz 2;have HRW:=hd (hRW.below hb1);have HB1:=hd hb1;have HK1:Hid (Keep (Co.WS X (.slice pa ps.length pq) (.slice ba bd.length bq)) w w1):=(Keep.refl _ w).below hb1;have HR:=hd hR;have HW:=hd hW;have HG:=hd hG;have HIV:=hd (hIV.below hb1);have HIVW:Hid (Dt.IRow (fun k=>k<w.heap.size∧¬Co.WS X (.slice pa ps.length pq) (.slice ba bd.length bq) k) w iv win):=Co.irow_mono (fun b hb hl=>⟨hl,hG2 b hb hl⟩) hIV;have HG2:=hd hG2;have HBD:=hd hbd;have HCH:=hd hch;clear hb1 hs1 hRW hR hW hG hIV hG2 hbd hch hrp hrk;by_cases her:er=0
 case neg=>
  have heb:(er !=0)=true:=by simpa using her
  have HF:Hid (Co.RPost G base X opn (.slice pa ps.length pq) (.slice ba bd.length bq) w c deep win top ps bd er (.returned (.tuple #[])) w1):=
   ⟨rfl,er,_,_,ps,bd,HRW.out,HK1.out,Co.RV.refl _ _,Co.RV.refl _ _,fun _=>rfl,fun h=>absurd h her⟩
  clear her;go_enter Tryz.func37,Tryz.ntmps37;go_wp2;refine bodyPost_ret (v:= .tuple #[]) (by simp[results,Tryz.results37,go_sem]) rfl ?_;exact HF.out
 subst her;have hcnt:ps.length≤8192:=(HBD.out rfl).2;obtain⟨c0,c1,c2,c3,c4,c5,c6,c7,c8,c9,c10⟩:=Hc.out.c11;have hal:=coRAlone_any c _ _ _ _ _ w1 HW.out (HR.out.below HB1.out);unfold Co.V at hal;obtain⟨AL,hAL⟩:∃AL,Co.alone c=AL:=⟨_,rfl⟩
 rw[hAL]at hal;have HAL:=hd hAL;obtain⟨e1,he1⟩:∃e1,Co.sw opn c deep win top ps.length=e1:=⟨_,rfl⟩
 have HE1:=hd he1;have HFAULT:Hid (∀wx ef,Below w1.heap.size w1 wx→ef=e1→∃e,e=e1∧Co.M1 G base X opn (.slice pa ps.length pq) (.slice ba bd.length bq) ps bd w w.heap.size #[.int .i64 c.k,.int .i64 c.n,.string c.s,.int .i64 c.d.k,.int .i64 c.d.n,.string c.d.s,.slice b1 n1 q1,.slice b2 n2 q2,.slice b3 n3 q3,.slice b4 c.p.length q4,.slice b5 c.l.length q5] e (wx.setCell ⟨X,2,none⟩ (.int .i64 ef))):=fun wx e hb he=>
  ⟨e,he,(HRW.out.below hb).setE HG.out e,(Hc.out.below hb).keep (set_keep wx X 2 _) (fun h=>HNA.out (.inl h)),(HK1.out.below hb).trans ((set_keep wx X 2 _).le fun k h=> .inl h)⟩
 clear hAL he1;go_enter Tryz.func37,Tryz.ntmps37;go_upto_block 0 with fail
 clear hw1
 go_cut [] (fun wx=>∃e,e=e1∧Co.M1 G base X opn (.slice pa ps.length pq) (.slice ba bd.length bq) ps bd w w.heap.size #[.int .i64 c.k,.int .i64 c.n,.string c.s,.int .i64 c.d.k,.int .i64 c.d.n,.string c.d.s,.slice b1 n1 q1,.slice b2 n2 q2,.slice b3 n3 q3,.slice b4 c.p.length q4,.slice b5 c.l.length q5] e wx)
 case first=>
  by_cases g1:128<deep
  ·have t1:decide ((128:Int)<(deep:Int))=true:=decide_eq_true (by omega);have HM:=hd (HFAULT.out w1 4 (Below.refl _ _) (by rw[←HE1.out];unfold Co.sw;rw[if_pos g1]));clear g1 hal;go_wp2;go_meet;exact HM.out
  have t1:decide ((128:Int)<(deep:Int))=false:=decide_eq_false (by omega);by_cases g2:8192≤ps.length
  ·have t2:decide ((8192:Int)≤(ps.length:Int))=true:=decide_eq_true (by omega);have HM:=hd (HFAULT.out w1 3 (Below.refl _ _) (by rw[←HE1.out];unfold Co.sw;rw[if_neg g1,if_pos g2]));clear g1 g2 hal;go_wp2;go_meet;exact HM.out
  have t2:decide ((8192:Int)≤(ps.length:Int))=false:=decide_eq_false (by omega)
  cases AL with
  |false=>
   have HS:Hid (Co.sw opn c deep win top ps.length=70):=by show _=_;unfold Co.sw;rw[if_neg g1,if_neg g2,if_pos (.inl HAL.out)]
   clear g1 g2;go_wp2_with fail
   refine hal.mono ?_;rintro e w2 ⟨rfl,hb2⟩;have HM:=hd (HFAULT.out w2 70 hb2 (by rw[←HE1.out,HS.out]));have HX2:Hid (Hp w2 X _ _):=HX1.out.below hb2;clear x0 x1 x2 x3 xf2;clear c0 c1 c2 c3 c4 c5 c6 c7 c8 c9 c10 hal hb2;obtain⟨x0,x1,x2,x3⟩:=HX2.out.c4;have xf2:=HX2.out.frz 2;go_wp2;go_meet;exact HM.out
  |true=>
  by_cases g3:c.k=6∧top=false
  ·have HS:Hid (Co.sw opn c deep win top ps.length=70):=by show _=_;unfold Co.sw;rw[if_neg g1,if_neg g2,if_pos (.inr g3)]
   have t3:(c.k==6)=true:=by simpa using g3.1
   obtain rfl:top=false:=g3.2;clear g1 g2 g3;go_wp2_with fail
   refine hal.mono ?_;rintro e w2 ⟨rfl,hb2⟩;have HM:=hd (HFAULT.out w2 70 hb2 (by rw[←HE1.out,HS.out]));have HX2:Hid (Hp w2 X _ _):=HX1.out.below hb2;have HC2:Hid (Hp w2 w.heap.size _ _):=Hc.out.below hb2;clear x0 x1 x2 x3 xf2;clear c0 c1 c2 c3 c4 c5 c6 c7 c8 c9 c10 hal hb2;obtain⟨x0,x1,x2,x3⟩:=HX2.out.c4;have xf2:=HX2.out.frz 2;have c0:=HC2.out.cell 0 rfl;go_wp2;go_meet;exact HM.out
  have HNA3:Hid (¬ (Co.alone c=false∨(c.k=6∧top=false))):=fun h=>h.elim (fun h=>by rw[HAL.out]at h;cases h) g3
  have HT3:Hid (c.k=6→top=true):=fun e=>by
   cases top with
   |true=>rfl
   |false=>exact absurd ⟨e,rfl⟩ g3
  clear g3
  go_upto_if 35 with((go_at_call 66;refine hal.mono ?_;rintro e w2 ⟨rfl,hb2⟩;have HX2:Hid (Hp w2 X _ _):=HX1.out.below hb2;have HC2:Hid (Hp w2 w.heap.size _ _):=Hc.out.below hb2;clear x0 x1 x2 x3 xf2;clear c0 c1 c2 c3 c4 c5 c6 c7 c8 c9 c10;have HB2:=hd hb2;clear hal hb2;obtain⟨x0,x1,x2,x3⟩:=HX2.out.c4;have xf2:=HX2.out.frz 2;obtain⟨c0,c1,c2,c3,c4,c5,c6,c7,c8,c9,c10⟩:=HC2.out.c11))
  go_cut [35] (fun v wx=>v= .bool false∧wx=w2)
  case first=>
   by_cases g4:c.k=6
   ·have t3:(c.k==6)=true:=by simpa using g4
    obtain rfl:=HT3.out g4;clear g1 g2 g4;go_wp2;go_meet;exact⟨rfl,rfl⟩
   ·have t3:(c.k==6)=false:=by simpa using g4
    clear g1 g2 g4;go_wp2;go_meet;exact⟨rfl,rfl⟩
  case rest=>
   obtain⟨rfl,rfl⟩:=hcut;obtain⟨w2,rfl⟩:∃w2,w2=wc:=⟨_,rfl⟩
   have HM0:Hid (e1=0→∃e,e=e1∧Co.M1 G base X opn (.slice pa ps.length pq) (.slice ba bd.length bq) ps bd w w.heap.size #[.int .i64 c.k,.int .i64 c.n,.string c.s,.int .i64 c.d.k,.int .i64 c.d.n,.string c.d.s,.slice b1 n1 q1,.slice b2 n2 q2,.slice b3 n3 q3,.slice b4 c.p.length q4,.slice b5 c.l.length q5] e w2):=fun h=>⟨0,h.symm,HRW.out.below HB2.out,HC2.out,HK1.out.below HB2.out⟩
   by_cases gq:c.k=2∨c.k=4
   case neg=>
    have t4:(c.k==2)=false:=by rw[beq_eq_false_iff_ne];omega
    have t5:(c.k==4)=false:=by rw[beq_eq_false_iff_ne];omega
    have HM:=hd (HM0.out (by rw[←HE1.out];unfold Co.sw;rw[if_neg g1,if_neg g2,if_neg HNA3.out,if_neg (fun h=>gq h.1)]));clear g1 g2 gq HM0;go_wp2;go_meet;exact HM.out
   have t45:(c.k==2)=true∨((c.k==2)=false∧(c.k==4)=true):=by
    rcases gq with e|e
    ·exact .inl (by simpa using e)
    ·exact .inr ⟨by rw[beq_eq_false_iff_ne];omega,by simpa using e⟩
   cases opn with
   |true=>
    have HM:=hd (HM0.out (by rw[←HE1.out];unfold Co.sw;rw[if_neg g1,if_neg g2,if_neg HNA3.out,if_neg (fun h=>by cases h.2.1)]));clear g1 g2 gq HM0;rcases t45 with t4|⟨t4,t5⟩
    all_goals
     go_wp2;go_meet;exact HM.out
   |false=>
    have hin:=inI_any iv win c.n w2 (HIV.out.below HB2.out) (by omega);obtain⟨R,hR⟩:∃R,win.contains c.n=R:=⟨_,rfl⟩
    rw[hR]at hin
    cases R with
    |true=>
     have HM:=hd (HM0.out (by rw[←HE1.out];unfold Co.sw;rw[if_neg g1,if_neg g2,if_neg HNA3.out,if_neg (fun h=>by rw[hR]at h;cases h.2.2)]));clear g1 g2 gq HM0 hR;rcases t45 with t4|⟨t4,t5⟩
     all_goals
      go_wp2_with((go_at_call 67;refine hin.mono ?_;rintro e w5 ⟨rfl,rfl⟩))
      go_meet;exact HM.out
    |false=>
     have HM:=hd (HFAULT.out w2 70 HB2.out (by rw[←HE1.out];unfold Co.sw;rw[if_neg g1,if_neg g2,if_neg HNA3.out,if_pos ⟨gq,rfl,hR⟩]));clear g1 g2 gq HM0 hR;rcases t45 with t4|⟨t4,t5⟩
     all_goals
      go_wp2_with((go_at_call 67;refine hin.mono ?_;rintro e w5 ⟨rfl,rfl⟩))
      go_meet;exact HM.out
 case rest=>
  obtain⟨ee,hee,hm1⟩:=hcut;rw[hee]at hm1;clear hee;obtain⟨w4,rfl⟩:∃w4,w4=wc:=⟨_,rfl⟩
  have HM:=hd hm1;clear c0 c1 c2 c3 c4 c5 c6 c7 c8 c9 c10 x0 x1 x2 x3 xf2 hal HX1 HFAULT;clear hm1;obtain⟨j0,hj,hj0,hj1,hj2⟩:=info_parts Dt.infoI;have HJ:=hd hj;have HJ0:=hd hj0;have HJ1:=hd hj1;have HJ2:=hd hj2;clear hj hj0 hj1 hj2;have HPW:Hid (Dt.IRow G w (.slice b4 c.p.length q4) c.p):=((Co.rep_iff _ _ _ _ _ _ _ _).1 HR.out).2.1;have HLOW0:Hid (∀k,Co.WS X (.slice pa ps.length pq) (.slice ba bd.length bq) k→base≤k):=fun k h=>Co.WS.low HRW.out h
  have hbdl:=(HBD.out rfl).1;have HQ0:Hid (Co.M2 G base X opn (.slice pa ps.length pq) (.slice ba bd.length bq) ps bd w w.heap.size #[.int .i64 c.k,.int .i64 c.n,.string c.s,.int .i64 c.d.k,.int .i64 c.d.n,.string c.d.s,.slice b1 n1 q1,.slice b2 n2 q2,.slice b3 n3 q3,.slice b4 c.p.length q4,.slice b5 c.l.length q5] c e1 0 e1 (.slice ba bd.length bq) bd w4):=⟨HM.out.rw_,HM.out.bx,HM.out.kp,fun k h=> .inl h,by
   by_cases h:e1=0
   ·exact .inl ⟨h,h,by simp,by simp⟩
   ·exact .inr ⟨h,.inl ⟨h,rfl⟩⟩⟩
  go_upto_block 1 with fail
  go_cut [] (fun wx=>∃(i:Nat) (e:Int) (ba2:Option Addr) (bq2:Nat) (bd2:List Int),Co.M2 G base X opn (.slice pa ps.length pq) (.slice ba bd.length bq) ps bd w w.heap.size #[.int .i64 c.k,.int .i64 c.n,.string c.s,.int .i64 c.d.k,.int .i64 c.d.n,.string c.d.s,.slice b1 n1 q1,.slice b2 n2 q2,.slice b3 n3 q3,.slice b4 c.p.length q4,.slice b5 c.l.length q5] c e1 i e (.slice ba2 bd2.length bq2) bd2 wx∧(e=0→i=c.p.length))
  case first=>
   go_wp2
   go_loopw [10] (fun v wr=>∃(i:Nat) (e:Int) (ba2:Option Addr) (bq2:Nat) (bd2:List Int),v= .int .i64 i∧i≤c.p.length∧Hid (Co.M2 G base X opn (.slice pa ps.length pq) (.slice ba bd.length bq) ps bd w w.heap.size #[.int .i64 c.k,.int .i64 c.n,.string c.s,.int .i64 c.d.k,.int .i64 c.d.n,.string c.d.s,.slice b1 n1 q1,.slice b2 n2 q2,.slice b3 n3 q3,.slice b4 c.p.length q4,.slice b5 c.l.length q5] c e1 i e (.slice ba2 bd2.length bq2) bd2 wr)) (fun v _=>c.p.length - (intOf v).toNat)
   case atStart=>exact⟨0,e1,ba,bq,bd,rfl,Nat.zero_le _,HQ0⟩
   case round=>
    clear HQ0 HM;obtain⟨i,e,ba2,bq2,bd2,rfl,hi,HQ⟩:=hrel;have hx:Hp wr X _ _:=HQ.out.rw_.hp;have hc:Hp wr w.heap.size _ _:=HQ.out.bx;have x1:=hx.cell 1 rfl;have x2:=hx.cell 2 rfl;have xf2:=hx.frz 2;have c9:=hc.cell 9 rfl;clear hx hc;by_cases hlt:i<c.p.length
    case neg=>
     have hge:(c.p.length:Int)≤(i:Int):=by omega
     have HE:Hid (∃(i:Nat) (e:Int) (ba2:Option Addr) (bq2:Nat) (bd2:List Int),Co.M2 G base X opn (.slice pa ps.length pq) (.slice ba bd.length bq) ps bd w w.heap.size #[.int .i64 c.k,.int .i64 c.n,.string c.s,.int .i64 c.d.k,.int .i64 c.d.n,.string c.d.s,.slice b1 n1 q1,.slice b2 n2 q2,.slice b3 n3 q3,.slice b4 c.p.length q4,.slice b5 c.l.length q5] c e1 i e (.slice ba2 bd2.length bq2) bd2 wr∧(e=0→i=c.p.length)):=⟨i,e,ba2,bq2,bd2,HQ.out,fun _=>by omega⟩
     go_wp2;go_meet;exact HE.out
    have hlti:(i:Int)<(c.p.length:Int):=by omega
    by_cases he:e=0
    case neg=>
     have heb:(e==0)=false:=by simpa using he
     have HE:Hid (∃(i:Nat) (e:Int) (ba2:Option Addr) (bq2:Nat) (bd2:List Int),Co.M2 G base X opn (.slice pa ps.length pq) (.slice ba bd.length bq) ps bd w w.heap.size #[.int .i64 c.k,.int .i64 c.n,.string c.s,.int .i64 c.d.k,.int .i64 c.d.n,.string c.d.s,.slice b1 n1 q1,.slice b2 n2 q2,.slice b3 n3 q3,.slice b4 c.p.length q4,.slice b5 c.l.length q5] c e1 i e (.slice ba2 bd2.length bq2) bd2 wr∧(e=0→i=c.p.length)):=⟨i,e,ba2,bq2,bd2,HQ.out,fun h=>absurd h he⟩
     go_wp2;go_meet;exact HE.out
    subst he;obtain⟨h1,h2,h3⟩:e1=0∧bd2=bd++c.p.take i∧(∀x∈c.p.take i,x∉bd):=by
     rcases HQ.out.ok with⟨-,h⟩|⟨h,-⟩
     ·exact h
     ·exact absurd rfl h
    have hal:=Co.sw_alone (HE1.out.trans h1);have hp32:=Co.alone_p32 hal.1;have hb2l:bd2.length≤1000000+32*ps.length+32:=by rw[h2,List.length_append,List.length_take];omega
    have hon:=Co.once_take (Co.once_of_alone hal.1) i hlt;obtain⟨_,_,he,_,hrow⟩:=HPW.out.keep HQ.out.kp (fun b hb _ h=>by have:=HG.out b hb;have:=HLOW0.out b h;omega);injection he with he1 he2 he3
    subst he1;clear he2 he3;obtain⟨pb,po,rfl,hGp,hbl,hcell⟩:=hrow (by intro h0;rw[h0]at hlt;simp at hlt);have p0:=hcell i hlt;obtain⟨x,hx⟩:∃x,c.p[i]=x:=⟨_,rfl⟩
    rw[hx]at p0 hon;have HXX:=hd hx;have HON:=hd hon;have HGP:Hid (pb<base):=HG.out pb hGp;have HNB:Hid (∀k,k=w.heap.size→¬ (Value.slice ba2 bd2.length bq2).ownBlock=some k):=fun k hk h=>(HQ.out.rv k h).elim (fun h=>HNA.out (.inr (.inr (by rw[←hk];exact h)))) (fun h=>by omega)
    have H1:=hd h1;have H2:=hd h2;have H3:=hd h3;obtain⟨wd,hwd⟩:∃wd,wr.drew=wd:=⟨_,rfl⟩
    have hbd:=Co.drew_below wr;rw[hwd]at hbd;have hin:=inI_any (.slice ba2 bd2.length bq2) bd2 x wd (HQ.out.rw_.ib.below hbd) (by omega);obtain⟨R,hR⟩:∃R,bd2.contains x=R:=⟨_,rfl⟩
    rw[hR]at hin;have HRR:=hd hR;have HBD2:=hd hbd;have p0d:=(hbd.cell (p:=⟨pb,po+i,none⟩) (block_lt_of_cell p0)).trans p0;have hxd:Hp wd X _ _:=HQ.out.rw_.hp.below hbd;have hcd:Hp wd w.heap.size _ _:=HQ.out.bx.below hbd;have x1d:=hxd.cell 1 rfl;have x2d:=hxd.cell 2 rfl;have xf2d:=hxd.frz 2;have c9d:=hcd.cell 9 rfl;clear h1 h2 h3 hrow hcell hx hGp hbl hal hon hR hbd hxd hcd;go_wp2;refine wp_region_still_tail 9 (by kernel_rfl) (by kernel_rfl) ?_;change wpStill _ _ wr.drew _ _ _;rw[hwd];have HWD:=hd hwd;clear hwd p0 x1 x2 xf2 c9;simp only[List.take_succ_cons,List.take_zero,List.drop_succ_cons,List.drop_zero]
    repeat still_step
    try refine wpStill_nil ?_
    go_wp2_with fail
    rw[HWD.out];refine hin.mono ?_;rintro e w5 ⟨rfl,rfl⟩;clear hin
    cases R with
    |false=>
     have HRY:Hid (Co.RW G wd base X 0 opn (.slice pa ps.length pq) (.slice ba2 bd2.length bq2) ps bd2):=HQ.out.rw_.below HBD2.out;have HBY:Hid (Hp wd w.heap.size #[.int .i64 c.k,.int .i64 c.n,.string c.s,.int .i64 c.d.k,.int .i64 c.d.n,.string c.d.s,.slice b1 n1 q1,.slice b2 n2 q2,.slice b3 n3 q3,.slice (some ⟨pb,po,none⟩) c.p.length q4,.slice b5 c.l.length q5] 28):=HQ.out.bx.below HBD2.out;have HKY:Hid (Keep (Co.WS X (.slice pa ps.length pq) (.slice ba2 bd2.length bq2)) wr wd):=keep_of_below HBD2.out;have P0:=hd p0d;clear x1d x2d xf2d c9d p0d;go_wp2;obtain⟨wB,hwB⟩:∃wB,wd.drew.alloc (.cells #[.int .i64 x] 3)=wB:=⟨_,rfl⟩
     have hbd0:Below wd.heap.size wd wd.drew:=Co.drew_below wd;have hbB:Below wd.heap.size wd wB:=by rw[←hwB];exact hbd0.alloc (by have:=hbd0.size;omega) _
     have HBB:=hd hbB;have HSd:Hid (Hp wd.drew w.heap.size #[.int .i64 c.k,.int .i64 c.n,.string c.s,.int .i64 c.d.k,.int .i64 c.d.n,.string c.d.s,.slice b1 n1 q1,.slice b2 n2 q2,.slice b3 n3 q3,.slice (some ⟨pb,po,none⟩) c.p.length q4,.slice b5 c.l.length q5] 28∧wd.drew.cell? ⟨pb,po+i,none⟩=some (.int .i64 x)):=⟨HBY.out.below hbd0,(hbd0.cell (p:=⟨pb,po+i,none⟩) (block_lt_of_cell P0.out)).trans P0.out⟩
     have HSB:Hid (Hp wB w.heap.size #[.int .i64 c.k,.int .i64 c.n,.string c.s,.int .i64 c.d.k,.int .i64 c.d.n,.string c.d.s,.slice b1 n1 q1,.slice b2 n2 q2,.slice b3 n3 q3,.slice (some ⟨pb,po,none⟩) c.p.length q4,.slice b5 c.l.length q5] 28∧wB.cell? ⟨pb,po+i,none⟩=some (.int .i64 x)):=⟨HBY.out.below hbB,(hbB.cell (p:=⟨pb,po+i,none⟩) (block_lt_of_cell P0.out)).trans P0.out⟩
     have z1:=(HRY.out.below hbd0).hp.cell 1 rfl;have z1B:=(HRY.out.below hbB).hp.cell 1 rfl;have HSRC:Hid (Ap.Src wB (.slice (some ⟨wd.heap.size,0,none⟩) 1 1) 1 [.int .i64 x]):=Co.src1 (w:=wd.drew) hwB;have HOWB:=hd (HRY.out.below hbB).rb;have HLOW:=hd HRY.out;have hbs:base≤wB.heap.size:=by have h1:=HRY.out.bx;have h2:=HRY.out.hp.lt;have h3:=hbB.size;omega
     have hm1:bd2.length+1≤maxLen:=by unfold maxLen;omega
     have hm2:(bd2.length+1)*8≤140737488355328:=by omega
     clear hbd0 hbB;refine wp_region_noPanic ?_;refine wp_region_held_drew (S:=fun w'=>Hp w' w.heap.size #[.int .i64 c.k,.int .i64 c.n,.string c.s,.int .i64 c.d.k,.int .i64 c.d.n,.string c.d.s,.slice b1 n1 q1,.slice b2 n2 q2,.slice b3 n3 q3,.slice (some ⟨pb,po,none⟩) c.p.length q4,.slice b5 c.l.length q5] 28∧w'.cell? ⟨pb,po+i,none⟩=some (.int .i64 x)) (by kernel_rfl) HSd.out (fun hHeld=> ?_);refine Zm.u 0 ?_ rfl ?_ ?_;rotate_left
     ·intro w9 hSw;clear hSw;go_simp
      try with_reducible rfl
     simp only[Act.put,Zm.a,Zm.b,Zm.c];refine Zm.u 1 ?_ rfl ?_ ?_;rotate_left
     ·intro w9 hSw;clear hSw;go_simp
      try with_reducible rfl
     simp only[Act.put,Zm.a,Zm.b,Zm.c];refine Zm.u 2 ?_ rfl ?_ ?_;rotate_left
     ·intro w9 hSw;clear hSw;go_simp
      try with_reducible rfl
     simp only[Act.put,Zm.a,Zm.b,Zm.c];refine Zm.u 3 ?_ rfl ?_ ?_;rotate_left
     ·intro w9 hSw;clear hSw;go_simp
      try with_reducible rfl
     simp only[Act.put,Zm.a,Zm.b,Zm.c];refine Zm.u 5 ?_ rfl ?_ ?_;rotate_left
     ·intro w9 hSw;clear hSw;go_simp
      try with_reducible rfl
     simp only[Act.put,Zm.a,Zm.b,Zm.c];refine Zm.u 6 ?_ rfl ?_ ?_;rotate_left
     ·intro w9 hSw;have hC:Hp w9 w.heap.size _ _:=hSw.1;have c9:=hC.cell 9 rfl;clear hC;clear hSw;go_simp
      try with_reducible rfl
     simp only[Act.put,Zm.a,Zm.b,Zm.c];refine Zm.u 7 ?_ rfl ?_ ?_;rotate_left
     ·intro w9 hSw;clear hSw;go_simp
      try with_reducible rfl
     simp only[Act.put,Zm.a,Zm.b,Zm.c];refine Zm.u 8 ?_ rfl ?_ ?_;rotate_left
     ·intro w9 hSw;clear hSw;go_simp
      try with_reducible rfl
     simp only[Act.put,Zm.a,Zm.b,Zm.c];refine Zm.u 9 ?_ rfl ?_ ?_;rotate_left
     ·intro w9 hSw;have q0:=hSw.2;clear hSw;go_simp
      try with_reducible rfl
     simp only[Act.put,Zm.a,Zm.b,Zm.c]
     apply Co.cutG
     ·intro rest;refine Zm.q 4 10 rfl rfl (fun K hK=> ?_) (fun K hK=> ?_)
      ·go_simp;refine hK.out _ _ HSd.out (fun hHeld=> ?_);clear hK K;refine Zm.r 10 rfl (fun K hK=> ?_);go_simp
       try rw[hwB]
       refine hK.out _ _ HSB.out (fun hHeld=> ?_);clear hK K;exact rest
      ·go_simp
       try rw[hwB]
       refine hK.out _ _ HSB.out (fun hHeld=> ?_);clear hK K;refine Zm.r 4 rfl (fun K hK=> ?_);go_simp;refine hK.out _ _ HSB.out (fun hHeld=> ?_);clear hK K;exact rest
     clear z1 z1B hwB;have hHeld:=HSB.out;refine Zm.r 11 rfl (fun K hK=> ?_);refine Ap.step rfl (.tmp 106) (.tmp 112) 22 (by kernel_rfl) base 3 j0 (.int .i64 0) 1 8 Tryz.underlying22 HJ.out HJ0.out HJ1.out HJ2.out rfl (by decide) (.slice ba2 bd2.length bq2) bd2.length (Co.ints bd2) (by kernel_rfl) HOWB.out (.slice (some ⟨wd.heap.size,0,none⟩) 1 1) 1 [.int .i64 x] (by kernel_rfl) HSRC.out rfl (by simp[Value.oneCell']) hm1 hm2 hbs ?_;intro v' w5 hown hgrow hat;obtain⟨ba3,bq3,rfl⟩:=Dt.row_form hown;have HOWN:=hd hown;have HGR:=hd hgrow;have HAT:=hd hat;have hk5:Keep (fun k=>(Value.slice ba2 bd2.length bq2).ownBlock=some k) wd w5:=Co.grown_keep2 HBB.out hgrow;have hnA:¬ (Value.slice ba2 bd2.length bq2).ownBlock=some w.heap.size:=fun e=>HNB.out w.heap.size rfl e
     have hnE:¬ (Value.slice ba2 bd2.length bq2).ownBlock=some pb:=fun e=>by have:=(Dt.own_lt HLOW.out.rb pb e).1;have:=HGP.out;omega
     have HS5:Hid (Hp w5 w.heap.size #[.int .i64 c.k,.int .i64 c.n,.string c.s,.int .i64 c.d.k,.int .i64 c.d.n,.string c.d.s,.slice b1 n1 q1,.slice b2 n2 q2,.slice b3 n3 q3,.slice (some ⟨pb,po,none⟩) c.p.length q4,.slice b5 c.l.length q5] 28∧w5.cell? ⟨pb,po+i,none⟩=some (.int .i64 x)):=⟨HBY.out.keep hk5 hnA,(hk5.cell (po+i) (block_lt_of_cell P0.out) hnE).trans P0.out⟩
     have hx5:Hp w5 X _ _:=HLOW.out.hp.keep hk5 HLOW.out.nb;have k6:=set_keep w5 X 1 (.slice ba3 (bd2.length+1) bq3);have HS6:Hid (Hp (w5.setCell ⟨X,1,none⟩ (.slice ba3 (bd2.length+1) bq3)) w.heap.size #[.int .i64 c.k,.int .i64 c.n,.string c.s,.int .i64 c.d.k,.int .i64 c.d.n,.string c.d.s,.slice b1 n1 q1,.slice b2 n2 q2,.slice b3 n3 q3,.slice (some ⟨pb,po,none⟩) c.p.length q4,.slice b5 c.l.length q5] 28∧(w5.setCell ⟨X,1,none⟩ (.slice ba3 (bd2.length+1) bq3)).cell? ⟨pb,po+i,none⟩=some (.int .i64 x)):=⟨HS5.out.1.keep k6 (fun e=>HNA.out (.inl e)),(k6.cell (po+i) (block_lt_of_cell HS5.out.2) (fun(e:pb=X)=>by have:=HGP.out;have:=HLOW.out.bx;omega)).trans HS5.out.2⟩
     have u1:=hx5.cell 1 rfl;have uf1:=hx5.frz 1;clear hown hgrow hat hk5 hnA hnE hx5 k6;refine hK.out _ _ HS5.out (fun hHeld=> ?_);clear hK K;refine Zm.u 12 ?_ rfl ?_ ?_;rotate_left
     ·intro w9 hSw;clear hSw;go_simp
      try with_reducible rfl
     simp only[Act.put,Zm.a,Zm.b,Zm.c];refine Zm.u 13 ?_ rfl ?_ ?_;rotate_left
     ·intro w9 hSw;clear hSw;go_simp
      try with_reducible rfl
     simp only[Act.put,Zm.a,Zm.b,Zm.c];refine Zm.r 14 rfl (fun K hK=> ?_);go_simp;refine hK.out _ _ HS6.out (fun hHeld=> ?_);clear hK K;refine wpAnyH_done (by kernel_rfl) ?_ _;refine NoPanic.normal ?_;clear u1 uf1;have HN:Hid (Co.M2 G base X opn (.slice pa ps.length pq) (.slice ba bd.length bq) ps bd w w.heap.size #[.int .i64 c.k,.int .i64 c.n,.string c.s,.int .i64 c.d.k,.int .i64 c.d.n,.string c.d.s,.slice b1 n1 q1,.slice b2 n2 q2,.slice b3 n3 q3,.slice (some ⟨pb,po,none⟩) c.p.length q4,.slice b5 c.l.length q5] c e1 (i+1) 0 (.slice ba3 (bd2.length+1) bq3) (bd2++[x]) (w5.setCell ⟨X,1,none⟩ (.slice ba3 (bd2.length+1) bq3))):=by
      obtain⟨p1,p2,p3⟩:=HRY.out.pushB HG.out HBB.out HOWN.out HGR.out HAT.out;refine⟨p1,HS6.out.1,?_,(fun k hk=>(p3 k hk).elim (fun h=>HQ.out.rv k h) (fun h=> .inr (by have h1:=HKY.out.size;have h2:=HQ.out.bx.lt;omega))),?_⟩
      ·refine Keep.mono ((HQ.out.kp.le (T:=fun k=>Co.WS X (.slice pa ps.length pq) (.slice ba bd.length bq) k∨Co.WS X (.slice pa ps.length pq) (.slice ba2 bd2.length bq2) k) fun k h=> .inl h).trans ((HKY.out.le fun k h=> .inr h).trans (p2.le fun k h=> .inr h))) (fun k hk h=> ?_);rcases h with h|h|h|h
       ·exact h
       ·exact .inl h
       ·exact .inr (.inl h)
       ·exact(HQ.out.rv k h).elim (fun h=> .inr (.inr h)) (fun h=>by omega)
      ·refine .inl ⟨rfl,H1.out,?_,fun y hy=> ?_⟩
       ·rw[List.take_succ_eq_append_getElem hlt,HXX.out,←List.append_assoc,←H2.out]
       ·rw[List.take_succ_eq_append_getElem hlt,HXX.out]at hy;rcases List.mem_append.1 hy with hy|hy
        ·exact H3.out y hy
        ·obtain rfl:y=x:=by simpa using hy
         intro hb;have h:=HRR.out;rw[H2.out]at h;have h5:(bd++c.p.take i).contains y=true:=by simpa using Or.inl hb
         rw[h5]at h;cases h
     clear HRY HBY HKY P0 HBB HSd HSB HSRC HOWB HLOW HOWN HGR HAT HS5 HS6;go_wp2;go_roundw
     case rel=>exact⟨i+1,_,ba3,bq3,bd2++[x],by simp,by omega,by rw[show(bd2++[x]).length=bd2.length+1 by simp];exact HN⟩
     case measure=>simp[intOf];omega
    |true=>
     have HRY:Hid (Co.RW G (wd.setCell ⟨X,2,none⟩ (.int .i64 70)) base X 70 opn (.slice pa ps.length pq) (.slice ba2 bd2.length bq2) ps bd2):=(HQ.out.rw_.below HBD2.out).setE HG.out 70;have k2:=set_keep wd X 2 (.int .i64 70);have HBY:Hid (Hp (wd.setCell ⟨X,2,none⟩ (.int .i64 70)) w.heap.size #[.int .i64 c.k,.int .i64 c.n,.string c.s,.int .i64 c.d.k,.int .i64 c.d.n,.string c.d.s,.slice b1 n1 q1,.slice b2 n2 q2,.slice b3 n3 q3,.slice (some ⟨pb,po,none⟩) c.p.length q4,.slice b5 c.l.length q5] 28):=(HQ.out.bx.below HBD2.out).keep k2 (fun h=>HNA.out (.inl h));have HKY:Hid (Keep (Co.WS X (.slice pa ps.length pq) (.slice ba2 bd2.length bq2)) wr (wd.setCell ⟨X,2,none⟩ (.int .i64 70))):=(keep_of_below HBD2.out).trans (k2.le fun k h=> .inl h);have P0:Hid ((wd.setCell ⟨X,2,none⟩ (.int .i64 70)).cell? ⟨pb,po+i,none⟩=some (.int .i64 x)):=(k2.cell (po+i) (block_lt_of_cell p0d) (fun(e:pb=X)=>by have:=HGP.out;have:=HRY.out.bx;omega)).trans p0d;clear p0d k2;go_wp2;clear x1d x2d xf2d c9d;obtain⟨wy,hwy⟩:∃wy,wd.setCell ⟨X,2,none⟩ (.int .i64 70)=wy:=⟨_,rfl⟩
     rw[hwy]at HRY HBY HKY P0 ⊢;clear hwy;obtain⟨wB,hwB⟩:∃wB,wy.drew.alloc (.cells #[.int .i64 x] 3)=wB:=⟨_,rfl⟩
     have hbd0:Below wy.heap.size wy wy.drew:=Co.drew_below wy;have hbB:Below wy.heap.size wy wB:=by rw[←hwB];exact hbd0.alloc (by have:=hbd0.size;omega) _
     have HBB:=hd hbB;have HSd:Hid (Hp wy.drew w.heap.size #[.int .i64 c.k,.int .i64 c.n,.string c.s,.int .i64 c.d.k,.int .i64 c.d.n,.string c.d.s,.slice b1 n1 q1,.slice b2 n2 q2,.slice b3 n3 q3,.slice (some ⟨pb,po,none⟩) c.p.length q4,.slice b5 c.l.length q5] 28∧wy.drew.cell? ⟨pb,po+i,none⟩=some (.int .i64 x)):=⟨HBY.out.below hbd0,(hbd0.cell (p:=⟨pb,po+i,none⟩) (block_lt_of_cell P0.out)).trans P0.out⟩
     have HSB:Hid (Hp wB w.heap.size #[.int .i64 c.k,.int .i64 c.n,.string c.s,.int .i64 c.d.k,.int .i64 c.d.n,.string c.d.s,.slice b1 n1 q1,.slice b2 n2 q2,.slice b3 n3 q3,.slice (some ⟨pb,po,none⟩) c.p.length q4,.slice b5 c.l.length q5] 28∧wB.cell? ⟨pb,po+i,none⟩=some (.int .i64 x)):=⟨HBY.out.below hbB,(hbB.cell (p:=⟨pb,po+i,none⟩) (block_lt_of_cell P0.out)).trans P0.out⟩
     have z1:=(HRY.out.below hbd0).hp.cell 1 rfl;have z1B:=(HRY.out.below hbB).hp.cell 1 rfl;have HSRC:Hid (Ap.Src wB (.slice (some ⟨wy.heap.size,0,none⟩) 1 1) 1 [.int .i64 x]):=Co.src1 (w:=wy.drew) hwB;have HOWB:=hd (HRY.out.below hbB).rb;have HLOW:=hd HRY.out;have hbs:base≤wB.heap.size:=by have h1:=HRY.out.bx;have h2:=HRY.out.hp.lt;have h3:=hbB.size;omega
     have hm1:bd2.length+1≤maxLen:=by unfold maxLen;omega
     have hm2:(bd2.length+1)*8≤140737488355328:=by omega
     clear hbd0 hbB;refine wp_region_noPanic ?_;refine wp_region_held_drew (S:=fun w'=>Hp w' w.heap.size #[.int .i64 c.k,.int .i64 c.n,.string c.s,.int .i64 c.d.k,.int .i64 c.d.n,.string c.d.s,.slice b1 n1 q1,.slice b2 n2 q2,.slice b3 n3 q3,.slice (some ⟨pb,po,none⟩) c.p.length q4,.slice b5 c.l.length q5] 28∧w'.cell? ⟨pb,po+i,none⟩=some (.int .i64 x)) (by kernel_rfl) HSd.out (fun hHeld=> ?_);refine Zm.u 0 ?_ rfl ?_ ?_;rotate_left
     ·intro w9 hSw;clear hSw;go_simp
      try with_reducible rfl
     simp only[Act.put,Zm.a,Zm.b,Zm.c];refine Zm.u 1 ?_ rfl ?_ ?_;rotate_left
     ·intro w9 hSw;clear hSw;go_simp
      try with_reducible rfl
     simp only[Act.put,Zm.a,Zm.b,Zm.c];refine Zm.u 2 ?_ rfl ?_ ?_;rotate_left
     ·intro w9 hSw;clear hSw;go_simp
      try with_reducible rfl
     simp only[Act.put,Zm.a,Zm.b,Zm.c];refine Zm.u 3 ?_ rfl ?_ ?_;rotate_left
     ·intro w9 hSw;clear hSw;go_simp
      try with_reducible rfl
     simp only[Act.put,Zm.a,Zm.b,Zm.c];refine Zm.u 5 ?_ rfl ?_ ?_;rotate_left
     ·intro w9 hSw;clear hSw;go_simp
      try with_reducible rfl
     simp only[Act.put,Zm.a,Zm.b,Zm.c];refine Zm.u 6 ?_ rfl ?_ ?_;rotate_left
     ·intro w9 hSw;have hC:Hp w9 w.heap.size _ _:=hSw.1;have c9:=hC.cell 9 rfl;clear hC;clear hSw;go_simp
      try with_reducible rfl
     simp only[Act.put,Zm.a,Zm.b,Zm.c];refine Zm.u 7 ?_ rfl ?_ ?_;rotate_left
     ·intro w9 hSw;clear hSw;go_simp
      try with_reducible rfl
     simp only[Act.put,Zm.a,Zm.b,Zm.c];refine Zm.u 8 ?_ rfl ?_ ?_;rotate_left
     ·intro w9 hSw;clear hSw;go_simp
      try with_reducible rfl
     simp only[Act.put,Zm.a,Zm.b,Zm.c];refine Zm.u 9 ?_ rfl ?_ ?_;rotate_left
     ·intro w9 hSw;have q0:=hSw.2;clear hSw;go_simp
      try with_reducible rfl
     simp only[Act.put,Zm.a,Zm.b,Zm.c]
     apply Co.cutG
     ·intro rest;refine Zm.q 4 10 rfl rfl (fun K hK=> ?_) (fun K hK=> ?_)
      ·go_simp;refine hK.out _ _ HSd.out (fun hHeld=> ?_);clear hK K;refine Zm.r 10 rfl (fun K hK=> ?_);go_simp
       try rw[hwB]
       refine hK.out _ _ HSB.out (fun hHeld=> ?_);clear hK K;exact rest
      ·go_simp
       try rw[hwB]
       refine hK.out _ _ HSB.out (fun hHeld=> ?_);clear hK K;refine Zm.r 4 rfl (fun K hK=> ?_);go_simp;refine hK.out _ _ HSB.out (fun hHeld=> ?_);clear hK K;exact rest
     clear z1 z1B hwB;have hHeld:=HSB.out;refine Zm.r 11 rfl (fun K hK=> ?_);refine Ap.step rfl (.tmp 106) (.tmp 112) 22 (by kernel_rfl) base 3 j0 (.int .i64 0) 1 8 Tryz.underlying22 HJ.out HJ0.out HJ1.out HJ2.out rfl (by decide) (.slice ba2 bd2.length bq2) bd2.length (Co.ints bd2) (by kernel_rfl) HOWB.out (.slice (some ⟨wy.heap.size,0,none⟩) 1 1) 1 [.int .i64 x] (by kernel_rfl) HSRC.out rfl (by simp[Value.oneCell']) hm1 hm2 hbs ?_;intro v' w5 hown hgrow hat;obtain⟨ba3,bq3,rfl⟩:=Dt.row_form hown;have HOWN:=hd hown;have HGR:=hd hgrow;have HAT:=hd hat;have hk5:Keep (fun k=>(Value.slice ba2 bd2.length bq2).ownBlock=some k) wy w5:=Co.grown_keep2 HBB.out hgrow;have hnA:¬ (Value.slice ba2 bd2.length bq2).ownBlock=some w.heap.size:=fun e=>HNB.out w.heap.size rfl e
     have hnE:¬ (Value.slice ba2 bd2.length bq2).ownBlock=some pb:=fun e=>by have:=(Dt.own_lt HLOW.out.rb pb e).1;have:=HGP.out;omega
     have HS5:Hid (Hp w5 w.heap.size #[.int .i64 c.k,.int .i64 c.n,.string c.s,.int .i64 c.d.k,.int .i64 c.d.n,.string c.d.s,.slice b1 n1 q1,.slice b2 n2 q2,.slice b3 n3 q3,.slice (some ⟨pb,po,none⟩) c.p.length q4,.slice b5 c.l.length q5] 28∧w5.cell? ⟨pb,po+i,none⟩=some (.int .i64 x)):=⟨HBY.out.keep hk5 hnA,(hk5.cell (po+i) (block_lt_of_cell P0.out) hnE).trans P0.out⟩
     have hx5:Hp w5 X _ _:=HLOW.out.hp.keep hk5 HLOW.out.nb;have k6:=set_keep w5 X 1 (.slice ba3 (bd2.length+1) bq3);have HS6:Hid (Hp (w5.setCell ⟨X,1,none⟩ (.slice ba3 (bd2.length+1) bq3)) w.heap.size #[.int .i64 c.k,.int .i64 c.n,.string c.s,.int .i64 c.d.k,.int .i64 c.d.n,.string c.d.s,.slice b1 n1 q1,.slice b2 n2 q2,.slice b3 n3 q3,.slice (some ⟨pb,po,none⟩) c.p.length q4,.slice b5 c.l.length q5] 28∧(w5.setCell ⟨X,1,none⟩ (.slice ba3 (bd2.length+1) bq3)).cell? ⟨pb,po+i,none⟩=some (.int .i64 x)):=⟨HS5.out.1.keep k6 (fun e=>HNA.out (.inl e)),(k6.cell (po+i) (block_lt_of_cell HS5.out.2) (fun(e:pb=X)=>by have:=HGP.out;have:=HLOW.out.bx;omega)).trans HS5.out.2⟩
     have u1:=hx5.cell 1 rfl;have uf1:=hx5.frz 1;clear hown hgrow hat hk5 hnA hnE hx5 k6;refine hK.out _ _ HS5.out (fun hHeld=> ?_);clear hK K;refine Zm.u 12 ?_ rfl ?_ ?_;rotate_left
     ·intro w9 hSw;clear hSw;go_simp
      try with_reducible rfl
     simp only[Act.put,Zm.a,Zm.b,Zm.c];refine Zm.u 13 ?_ rfl ?_ ?_;rotate_left
     ·intro w9 hSw;clear hSw;go_simp
      try with_reducible rfl
     simp only[Act.put,Zm.a,Zm.b,Zm.c];refine Zm.r 14 rfl (fun K hK=> ?_);go_simp;refine hK.out _ _ HS6.out (fun hHeld=> ?_);clear hK K;refine wpAnyH_done (by kernel_rfl) ?_ _;refine NoPanic.normal ?_;clear u1 uf1;have HN:Hid (Co.M2 G base X opn (.slice pa ps.length pq) (.slice ba bd.length bq) ps bd w w.heap.size #[.int .i64 c.k,.int .i64 c.n,.string c.s,.int .i64 c.d.k,.int .i64 c.d.n,.string c.d.s,.slice b1 n1 q1,.slice b2 n2 q2,.slice b3 n3 q3,.slice (some ⟨pb,po,none⟩) c.p.length q4,.slice b5 c.l.length q5] c e1 (i+1) 70 (.slice ba3 (bd2.length+1) bq3) (bd2++[x]) (w5.setCell ⟨X,1,none⟩ (.slice ba3 (bd2.length+1) bq3))):=by
      obtain⟨p1,p2,p3⟩:=HRY.out.pushB HG.out HBB.out HOWN.out HGR.out HAT.out;refine⟨p1,HS6.out.1,?_,(fun k hk=>(p3 k hk).elim (fun h=>HQ.out.rv k h) (fun h=> .inr (by have h1:=HKY.out.size;have h2:=HQ.out.bx.lt;omega))),?_⟩
      ·refine Keep.mono ((HQ.out.kp.le (T:=fun k=>Co.WS X (.slice pa ps.length pq) (.slice ba bd.length bq) k∨Co.WS X (.slice pa ps.length pq) (.slice ba2 bd2.length bq2) k) fun k h=> .inl h).trans ((HKY.out.le fun k h=> .inr h).trans (p2.le fun k h=> .inr h))) (fun k hk h=> ?_);rcases h with h|h|h|h
       ·exact h
       ·exact .inl h
       ·exact .inr (.inl h)
       ·exact(HQ.out.rv k h).elim (fun h=> .inr (.inr h)) (fun h=>by omega)
      ·refine .inr ⟨by decide,.inr ⟨H1.out,rfl,List.any_eq_true.2 ⟨x,?_,?_⟩⟩⟩
       ·rw[←HXX.out];exact List.getElem_mem hlt
       ·have h:=HRR.out;rw[H2.out]at h;have h5:x∈bd∨x∈c.p.take i:=by simpa using h
        exact h5.elim (fun h=>by simpa using h) (fun h=>absurd h HON.out)
     clear HRY HBY HKY P0 HBB HSd HSB HSRC HOWB HLOW HOWN HGR HAT HS5 HS6;go_wp2;go_roundw
     case rel=>exact⟨i+1,_,ba3,bq3,bd2++[x],by simp,by omega,by rw[show(bd2++[x]).length=bd2.length+1 by simp];exact HN⟩
     case measure=>simp[intOf];omega
  case rest=>
   obtain⟨i,e,ba2,bq2,bd2,hq,hei⟩:=hcut;obtain⟨w6,rfl⟩:∃w6,w6=wc:=⟨_,rfl⟩
   have HQ:=hd hq;obtain⟨hh,hbd2⟩:=hq.here HE1.out.symm hei;clear HQ0 HM hq;have hx:Hp w6 X _ _:=HQ.out.rw_.hp;have x2:=hx.cell 2 rfl;clear hx;by_cases he:e=0
   case neg=>
    have heb:(e !=0)=true:=by simpa using he
    have HF:Hid (Co.RPost G base X opn (.slice pa ps.length pq) (.slice ba bd.length bq) w c deep win top ps bd 0 (.returned (.tuple #[])) w6):=⟨rfl,e,_,_,ps,bd2,HQ.out.rw_,HQ.out.kp,Co.RV.refl _ _,fun k hk=>(HQ.out.rv k hk).imp id (fun h=>by omega),fun h=>absurd rfl h,fun _=>⟨by rw[Co.goes_bad (by rw[hh];exact he),hh],fun h=>absurd h he⟩⟩
    clear he hh hbd2 hei;go_wp2;refine bodyPost_ret (v:= .tuple #[]) (by simp[results,Tryz.results37,go_sem]) rfl ?_;exact HF.out
   subst he;obtain rfl:=(hbd2 rfl)
   have HH:=hd hh;have h1:e1=0:=by
    rcases HQ.out.ok with⟨-,h,-⟩|⟨h,-⟩
    ·exact h
    ·exact absurd rfl h
   have hal:=Co.sw_alone (HE1.out.trans h1);have hp32:=Co.alone_p32 hal.1;have hpl:ps.length<8192:=hal.2.2;have hdl:deep≤128:=hal.2.1;have hb2l:(bd++c.p).length≤1000000+32*(ps.length+1):=by rw[List.length_append];omega
   obtain⟨i0,hi,hi0,hi1,hi2⟩:=info_parts Co.infoC;have HI:=hd hi;have HI0:=hd hi0;have HI1:=hd hi1;have HI2:=hd hi2;clear hei hh hbd2 h1 hal hi hi0 hi1 hi2;obtain⟨bd2,hbd2⟩:∃bd2,bd++c.p=bd2:=⟨_,rfl⟩
   rw[hbd2]at HQ hb2l;have HBD2:=hd hbd2;clear hbd2;go_wp2;clear x2;obtain⟨wB,hwB⟩:∃wB,w6.drew.alloc (.cells #[.int .i64 0,.int .i64 0,.string ⟨#[]⟩,.int .i64 0,.int .i64 0,.string ⟨#[]⟩,.slice none 0 0,.slice none 0 0,.slice none 0 0,.slice none 0 0,.slice none 0 0] 28)=wB:=⟨_,rfl⟩
   have hbd0:Below w6.heap.size w6 w6.drew:=Co.drew_below w6;have hbB:Below w6.heap.size w6 wB:=by rw[←hwB];exact hbd0.alloc (by have:=hbd0.size;omega) _
   have HBB:=hd hbB;have HSd:Hid (Hp w6.drew w.heap.size #[.int .i64 c.k,.int .i64 c.n,.string c.s,.int .i64 c.d.k,.int .i64 c.d.n,.string c.d.s,.slice b1 n1 q1,.slice b2 n2 q2,.slice b3 n3 q3,.slice b4 c.p.length q4,.slice b5 c.l.length q5] 28):=HQ.out.bx.below hbd0;have HSB:Hid (Hp wB w.heap.size #[.int .i64 c.k,.int .i64 c.n,.string c.s,.int .i64 c.d.k,.int .i64 c.d.n,.string c.d.s,.slice b1 n1 q1,.slice b2 n2 q2,.slice b3 n3 q3,.slice b4 c.p.length q4,.slice b5 c.l.length q5] 28):=HQ.out.bx.below hbB;have z0:=(HQ.out.rw_.below hbd0).hp.cell 0 rfl;have z0B:=(HQ.out.rw_.below hbB).hp.cell 0 rfl;have HSRC:Hid (Ap.Src wB (.slice (some ⟨w6.heap.size,0,none⟩) 1 1) 1 [.int .i64 0,.int .i64 0,.string ⟨#[]⟩,.int .i64 0,.int .i64 0,.string ⟨#[]⟩,.slice none 0 0,.slice none 0 0,.slice none 0 0,.slice none 0 0,.slice none 0 0]):=Co.srcNew (w:=w6.drew) hwB;have HOWB:=hd (HQ.out.rw_.below hbB).rp;have hbs:base≤wB.heap.size:=by have h1:=HQ.out.rw_.bx;have h2:=HQ.out.rw_.hp.lt;have h3:=hbB.size;omega
   have hm1:ps.length+1≤maxLen:=by unfold maxLen;omega
   have hm2:(ps.length+1)*184≤140737488355328:=by omega
   have hlti:(ps.length:Int)<(ps.length:Int)+1:=by omega
   clear hbd0 hbB;refine wp_region_noPanic ?_;refine wp_region_held_drew (S:=fun w'=>Hp w' w.heap.size #[.int .i64 c.k,.int .i64 c.n,.string c.s,.int .i64 c.d.k,.int .i64 c.d.n,.string c.d.s,.slice b1 n1 q1,.slice b2 n2 q2,.slice b3 n3 q3,.slice b4 c.p.length q4,.slice b5 c.l.length q5] 28) (by kernel_rfl) HSd.out (fun hHeld=> ?_);refine Zm.u 0 ?_ rfl ?_ ?_;rotate_left
   ·intro w9 hSw;clear hSw;go_simp
    try with_reducible rfl
   simp only[Act.put,Zm.a,Zm.b,Zm.c];refine Zm.u 1 ?_ rfl ?_ ?_;rotate_left
   ·intro w9 hSw;clear hSw;go_simp
    try with_reducible rfl
   simp only[Act.put,Zm.a,Zm.b,Zm.c];refine Zm.u 2 ?_ rfl ?_ ?_;rotate_left
   ·intro w9 hSw;clear hSw;go_simp
    try with_reducible rfl
   simp only[Act.put,Zm.a,Zm.b,Zm.c];refine Zm.u 4 ?_ rfl ?_ ?_;rotate_left
   ·intro w9 hSw;have hC:Hp w9 w.heap.size _ _:=hSw;obtain⟨c0,c1,c2,c3,c4,c5,c6,c7,c8,c9,c10⟩:=hC.c11;clear hC;clear hSw;go_simp
    try with_reducible rfl
   simp only[Act.put,Zm.a,Zm.b,Zm.c]
   apply Co.cutG
   ·intro rest;refine Zm.q 3 6 rfl rfl (fun K hK=> ?_) (fun K hK=> ?_)
    ·go_simp;refine hK.out _ _ HSd.out (fun hHeld=> ?_);clear hK K;refine Zm.u 5 ?_ rfl ?_ ?_;rotate_left
     ·intro w9 hSw;clear hSw;go_simp
      try with_reducible rfl
     simp only[Act.put,Zm.a,Zm.b,Zm.c];refine Zm.r 6 rfl (fun K hK=> ?_);go_simp
     try rw[hwB]
     refine hK.out _ _ HSB.out (fun hHeld=> ?_);clear hK K;exact rest
    ·go_simp
     try rw[hwB]
     refine hK.out _ _ HSB.out (fun hHeld=> ?_);clear hK K;refine Zm.r 3 rfl (fun K hK=> ?_);go_simp;refine hK.out _ _ HSB.out (fun hHeld=> ?_);clear hK K;refine Zm.u 5 ?_ rfl ?_ ?_;rotate_left
     ·intro w9 hSw;clear hSw;go_simp
      try with_reducible rfl
     simp only[Act.put,Zm.a,Zm.b,Zm.c];exact rest
   clear z0 z0B hwB;have hHeld:=HSB.out;refine Zm.r 7 rfl (fun K hK=> ?_);refine Ap.step rfl (.tmp 124) (.tmp 127) 26 (by kernel_rfl) base 28 i0 (.agg #[.int .i64 0,.int .i64 0,.string ⟨#[]⟩,.int .i64 0,.int .i64 0,.string ⟨#[]⟩,.slice none 0 0,.slice none 0 0,.slice none 0 0,.slice none 0 0,.slice none 0 0]) 11 184 Tryz.underlying26 HI.out HI0.out HI1.out HI2.out rfl (by decide) (.slice pa ps.length pq) ps.length (Co.flatC ps) (by kernel_rfl) HOWB.out (.slice (some ⟨w6.heap.size,0,none⟩) 1 1) 1 [.int .i64 0,.int .i64 0,.string ⟨#[]⟩,.int .i64 0,.int .i64 0,.string ⟨#[]⟩,.slice none 0 0,.slice none 0 0,.slice none 0 0,.slice none 0 0,.slice none 0 0] (by kernel_rfl) HSRC.out rfl (by simp[Value.oneCell']) hm1 hm2 hbs ?_;intro v' w5 hown hgrow hat;obtain⟨g,cap,rfl⟩:∃g cap,v'=(.slice (some ⟨g,0,none⟩) (ps.length+1) cap):=by
    rcases hown.2 with⟨-,h0⟩|⟨g,cap,-,e,-⟩
    ·omega
    ·exact⟨g,cap,e⟩
   have hg:(Value.slice pa ps.length pq).ownBlock=some g∨g=wB.heap.size:=hat.elim (fun h=> .inl (h.symm.trans rfl)) (fun h=> .inr (by simpa[Value.ownBlock]using h));have hk5:Keep (fun k=>(Value.slice pa ps.length pq).ownBlock=some k) w6 w5:=Co.grown_keep2 HBB.out hgrow;have hnA:¬ (Value.slice pa ps.length pq).ownBlock=some w.heap.size:=fun e=>HNA.out (.inr (.inl e))
   have hAl:=HQ.out.bx.lt;have hgA:g≠w.heap.size:=fun e=>hg.elim (fun h=>hnA (by rw[h,e])) (fun h=>by have:=HBB.out.size;omega)
   have hXl:=HQ.out.rw_.hp.lt;have hgX:g≠X:=fun e=>hg.elim (fun h=>HQ.out.rw_.np (by rw[h,e])) (fun h=>by have:=HBB.out.size;omega)
   have HS5:Hid (Hp w5 w.heap.size #[.int .i64 c.k,.int .i64 c.n,.string c.s,.int .i64 c.d.k,.int .i64 c.d.n,.string c.d.s,.slice b1 n1 q1,.slice b2 n2 q2,.slice b3 n3 q3,.slice b4 c.p.length q4,.slice b5 c.l.length q5] 28):=HQ.out.bx.keep hk5 hnA;have HX5:Hid (Hp w5 X #[(.slice pa ps.length pq),(.slice ba2 bd2.length bq2),.int .i64 0,.bool opn] 66):=HQ.out.rw_.hp.keep hk5 HQ.out.rw_.np;have HTH:Hid (w5.there g (ps.length*11) 11):=Pt.own_there hown (by rw[List.length_append,Co.flatC_length];exact Nat.le_refl _);obtain⟨w7,hw7⟩:∃w7,w5.setCells g (ps.length*11) (#[.int .i64 c.k,.int .i64 c.n,.string c.s,.int .i64 c.d.k,.int .i64 c.d.n,.string c.d.s,.slice b1 n1 q1,.slice b2 n2 q2,.slice b3 n3 q3,.slice b4 c.p.length q4,.slice b5 c.l.length q5]:Array Value).toList=w7:=⟨_,rfl⟩
   have hk7:Keep (fun k=>k=g) w5 w7:=by rw[←hw7];exact Co.setCells_keep _ _ _ _
   have HS7:Hid (Hp w7 w.heap.size #[.int .i64 c.k,.int .i64 c.n,.string c.s,.int .i64 c.d.k,.int .i64 c.d.n,.string c.d.s,.slice b1 n1 q1,.slice b2 n2 q2,.slice b3 n3 q3,.slice b4 c.p.length q4,.slice b5 c.l.length q5] 28):=HS5.out.keep hk7 (fun e=>hgA e.symm);have HX7:Hid (Hp w7 X #[(.slice pa ps.length pq),(.slice ba2 bd2.length bq2),.int .i64 0,.bool opn] 66):=HX5.out.keep hk7 (fun e=>hgX e.symm);obtain⟨w8,hw8⟩:∃w8,w5.setCell ⟨X,0,none⟩ (.slice (some ⟨g,0,none⟩) (ps.length+1) cap)=w8:=⟨_,rfl⟩
   have hk8:Keep (fun k=>k=X) w5 w8:=by rw[←hw8];exact set_keep _ _ _ _
   have HS8:Hid (Hp w8 w.heap.size #[.int .i64 c.k,.int .i64 c.n,.string c.s,.int .i64 c.d.k,.int .i64 c.d.n,.string c.d.s,.slice b1 n1 q1,.slice b2 n2 q2,.slice b3 n3 q3,.slice b4 c.p.length q4,.slice b5 c.l.length q5] 28):=HS5.out.keep hk8 (fun e=>HNA.out (.inl e));have HTH8:Hid (w8.there g (ps.length*11) 11):=fun j hj=>by
    have h:=HTH.out j hj;have e1:w8.heap[g]?=w5.heap[g]?:=hk8.block g (Dt.own_lt hown g rfl).2 hgX;exact⟨by rw[World.cell?_of_block (a:=⟨g,ps.length*11+j,none⟩) e1];exact h.1,by rw[World.frozen?_of_block (a:=⟨g,ps.length*11+j,none⟩) e1];exact h.2⟩
   obtain⟨wF,hwF⟩:∃wF,w7.setCell ⟨X,0,none⟩ (.slice (some ⟨g,0,none⟩) (ps.length+1) cap)=wF:=⟨_,rfl⟩
   have hwF8:w8.setCells g (ps.length*11) (#[.int .i64 c.k,.int .i64 c.n,.string c.s,.int .i64 c.d.k,.int .i64 c.d.n,.string c.d.s,.slice b1 n1 q1,.slice b2 n2 q2,.slice b3 n3 q3,.slice b4 c.p.length q4,.slice b5 c.l.length q5]:Array Value).toList=wF:=by rw[←hwF,←hw7,←hw8];exact Co.setCells_comm hgX _ _ _ _ _
   have hkF:Keep (fun k=>k=X) w7 wF:=by rw[←hwF];exact set_keep _ _ _ _
   have HSF:Hid (Hp wF w.heap.size #[.int .i64 c.k,.int .i64 c.n,.string c.s,.int .i64 c.d.k,.int .i64 c.d.n,.string c.d.s,.slice b1 n1 q1,.slice b2 n2 q2,.slice b3 n3 q3,.slice b4 c.p.length q4,.slice b5 c.l.length q5] 28):=HS7.out.keep hkF (fun e=>HNA.out (.inl e));have HN:Hid (Co.M3 G base X opn (.slice pa ps.length pq) (.slice ba bd.length bq) w w.heap.size #[.int .i64 c.k,.int .i64 c.n,.string c.s,.int .i64 c.d.k,.int .i64 c.d.n,.string c.d.s,.slice b1 n1 q1,.slice b2 n2 q2,.slice b3 n3 q3,.slice b4 c.p.length q4,.slice b5 c.l.length q5] (.slice (some ⟨g,0,none⟩) (ps.length+1) cap) (.slice ba2 bd2.length bq2) (ps++[(⟨c,.slice b1 n1 q1,.slice b2 n2 q2,.slice b3 n3 q3,.slice b4 c.p.length q4,.slice b5 c.l.length q5⟩:Co.PC)]) bd2 wF):=by
    have hp:((⟨c,.slice b1 n1 q1,.slice b2 n2 q2,.slice b3 n3 q3,.slice b4 c.p.length q4,.slice b5 c.l.length q5⟩:Co.PC)).rep G w6:=Co.Rep.keep HQ.out.kp (fun b hb _ h=>by have:=HG.out b hb;have:=HLOW0.out b h;omega) c HR.out;obtain⟨p1,p2,p3⟩:=HQ.out.rw_.pushP HG.out HBB.out rfl hp hown hgrow hg;have ew:(w5.setCells g (ps.length*11) ((⟨c,.slice b1 n1 q1,.slice b2 n2 q2,.slice b3 n3 q3,.slice b4 c.p.length q4,.slice b5 c.l.length q5⟩:Co.PC)).cells).setCell ⟨X,0,none⟩ (.slice (some ⟨g,0,none⟩) (ps.length+1) cap)=wF:=by rw[←hwF,←hw7];rfl
    rw[ew]at p1 p2;refine⟨p1,HSF.out,?_,fun k hk=>(p3 k hk).imp id (fun h=>by omega),HQ.out.rv⟩;refine Keep.mono ((HQ.out.kp.le (T:=fun k=>Co.WS X (.slice pa ps.length pq) (.slice ba bd.length bq) k∨Co.WS X (.slice pa ps.length pq) (.slice ba2 bd2.length bq2) k) fun k h=> .inl h).trans (p2.le fun k h=> .inr h)) (fun k hk h=> ?_);rcases h with h|h|h|h
    ·exact h
    ·exact .inl h
    ·exact .inr (.inl h)
    ·exact(HQ.out.rv k h).elim (fun h=> .inr (.inr h)) (fun h=>by omega)
   clear hown hgrow hat hk5 hk7 hk8 hkF hnA;have hHeld2:=HS5.out;refine hK.out _ _ HS5.out (fun hHeld=> ?_);clear hK K;refine Zm.u 10 ?_ rfl ?_ ?_;rotate_left
   ·intro w9 hSw;clear hSw;go_simp
    try with_reducible rfl
   simp only[Act.put,Zm.a,Zm.b,Zm.c];refine Zm.u 11 ?_ rfl ?_ ?_;rotate_left
   ·intro w9 hSw;clear hSw;go_simp
    try with_reducible rfl
   simp only[Act.put,Zm.a,Zm.b,Zm.c];refine Zm.u 8 ?_ rfl ?_ ?_;rotate_left
   ·intro w9 hSw;clear hSw;go_simp
    try with_reducible rfl
   simp only[Act.put,Zm.a,Zm.b,Zm.c]
   apply Co.cutG
   ·intro rest;refine Zm.q 9 12 rfl rfl (fun K hK=> ?_) (fun K hK=> ?_)
    ·refine wp_store_mid 28 (.tmp 129) (.tmp 125) rfl g (ps.length*11) #[.int .i64 c.k,.int .i64 c.n,.string c.s,.int .i64 c.d.k,.int .i64 c.d.n,.string c.d.s,.slice b1 n1 q1,.slice b2 n2 q2,.slice b3 n3 q3,.slice b4 c.p.length q4,.slice b5 c.l.length q5] (by kernel_rfl) (by kernel_rfl) HTH.out (by kernel_rfl) (by kernel_rfl) ?_;rw[hw7];refine hK.out _ _ HS7.out (fun hHeld=> ?_);clear hK K;have cX7:=HX7.out.cell 0 rfl;have fX7:=HX7.out.frz 0;refine Zm.r 12 rfl (fun K hK=> ?_);go_simp
     try rw[hwF]
     refine hK.out _ _ HSF.out (fun hHeld=> ?_);clear hK K;refine wpAnyH_done (by kernel_rfl) ?_ _;exact rest
    ·have cX5:=HX5.out.cell 0 rfl;have fX5:=HX5.out.frz 0;go_simp
     try rw[hw8]
     refine hK.out _ _ HS8.out (fun hHeld=> ?_);clear hK K;refine Zm.r 9 rfl (fun K hK=> ?_);refine wp_store_mid 28 (.tmp 129) (.tmp 125) rfl g (ps.length*11) #[.int .i64 c.k,.int .i64 c.n,.string c.s,.int .i64 c.d.k,.int .i64 c.d.n,.string c.d.s,.slice b1 n1 q1,.slice b2 n2 q2,.slice b3 n3 q3,.slice b4 c.p.length q4,.slice b5 c.l.length q5] (by kernel_rfl) (by kernel_rfl) HTH8.out (by kernel_rfl) (by kernel_rfl) ?_;rw[hwF8];refine hK.out _ _ HSF.out (fun hHeld=> ?_);clear hK K;refine wpAnyH_done (by kernel_rfl) ?_ _;exact rest
   clear hwF hwF8 hw7 hw8;refine NoPanic.normal ?_;clear HS5 HX5 HTH HS7 HX7 HS8 HTH8 HSB HSd HSRC HOWB HBB;have hcF:Hp wF w.heap.size _ _:=HSF.out;have c0:=hcF.cell 0 rfl;clear hcF;have HLF:Hid (w.heap.size<wF.heap.size):=HSF.out.lt;have HIVF:Hid (Dt.IRow (fun k=>k<wF.heap.size∧¬Co.WS X (.slice (some ⟨g,0,none⟩) (ps.length+1) cap) (.slice ba2 bd2.length bq2) k) wF iv win):=by
    have h1:Dt.IRow (fun k=>k<w.heap.size∧¬Co.WS X (.slice pa ps.length pq) (.slice ba bd.length bq) k) w iv win:=HIVW.out;refine Co.irow_mono (fun b hb hl=>⟨hl,fun e=> ?_⟩) (h1.keep HN.out.kp (fun b hb _=>hb.2));rcases e with e|e|e
    ·exact hb.2 (.inl e)
    ·exact(HN.out.rp b e).elim (fun e=>hb.2 (.inr (.inl e))) (fun e=>by have:=hb.1;omega)
    ·exact(HN.out.rb b e).elim (fun e=>hb.2 (.inr (.inr e))) (fun e=>by have:=hb.1;omega)
   go_upto_if 135 with fail
   go_cut [11] (fun v wx=>∃iv2:Value,iv2=v∧Dt.IRow (fun k=>k<wx.heap.size∧¬Co.WS X (.slice (some ⟨g,0,none⟩) (ps.length+1) cap) (.slice ba2 bd2.length bq2) k) wx iv2 (Co.inner c.k c.p win)∧Below wF.heap.size wF wx)
   case first=>
    by_cases hk8:c.k=8
    case neg=>
     have hkb:(c.k==8)=false:=by simpa using hk8
     have HE:Hid ((fun v wx=>∃iv2:Value,iv2=v∧Dt.IRow (fun k=>k<wx.heap.size∧¬Co.WS X (.slice (some ⟨g,0,none⟩) (ps.length+1) cap) (.slice ba2 bd2.length bq2) k) wx iv2 (Co.inner c.k c.p win)∧Below wF.heap.size wF wx) iv wF):=⟨_,rfl,by unfold Co.inner;rw[if_neg hk8];exact HIVF.out,Below.refl _ _⟩
     clear hk8 c0;go_wp2;go_meet;exact HE.out
    have hkb:(c.k==8)=true:=by simpa using hk8
    have HK8:=hd hk8;clear hk8;go_wp2;clear c0;obtain⟨wD,hwD⟩:∃wD,wF.drew=wD:=⟨_,rfl⟩
    have hbD:=Co.drew_below wF;rw[hwD]at hbD;have HSD:Hid (Hp wD w.heap.size #[.int .i64 c.k,.int .i64 c.n,.string c.s,.int .i64 c.d.k,.int .i64 c.d.n,.string c.d.s,.slice b1 n1 q1,.slice b2 n2 q2,.slice b3 n3 q3,.slice b4 c.p.length q4,.slice b5 c.l.length q5] 28):=HSF.out.below hbD;have HBD:=hd hbD;have HSR1:Hid (Ap.Src2 wD iv win.length (Co.ints win)):=(HIVF.out.below hbD).src2;have HPD:Hid (Dt.IRow G wD (.slice b4 c.p.length q4) c.p):=(HPW.out.keep HN.out.kp (fun b hb _ h=>by have:=HG.out b hb;have:=HLOW0.out b h;omega)).below hbD;have hn1:0+win.length≤maxLen:=by unfold maxLen;omega
    have hn2:(0+win.length)*8≤140737488355328:=by omega
    have hn3:(0+win.length)+c.p.length≤maxLen:=by unfold maxLen;omega
    have hn4:((0+win.length)+c.p.length)*8≤140737488355328:=by omega
    clear hbD;refine wp_region_noPanic ?_;refine wp_region_held_drew (S:=fun w'=>Hp w' w.heap.size #[.int .i64 c.k,.int .i64 c.n,.string c.s,.int .i64 c.d.k,.int .i64 c.d.n,.string c.d.s,.slice b1 n1 q1,.slice b2 n2 q2,.slice b3 n3 q3,.slice b4 c.p.length q4,.slice b5 c.l.length q5] 28) (by kernel_rfl) (by rw[hwD];exact HSD.out) (fun hHeld=> ?_);rw[hwD]at hHeld ⊢;clear hwD;refine Zm.u 0 ?_ rfl ?_ ?_;rotate_left
    ·intro w9 hSw;clear hSw;go_simp
     try with_reducible rfl
    simp only[Act.put,Zm.a,Zm.b,Zm.c];refine Zm.u 2 ?_ rfl ?_ ?_;rotate_left
    ·intro w9 hSw;clear hSw;go_simp
     try with_reducible rfl
    simp only[Act.put,Zm.a,Zm.b,Zm.c];refine Zm.u 3 ?_ rfl ?_ ?_;rotate_left
    ·intro w9 hSw;have hC:Hp w9 w.heap.size _ _:=hSw;have c9:=hC.cell 9 rfl;clear hC;clear hSw;go_simp
     try with_reducible rfl
    simp only[Act.put,Zm.a,Zm.b,Zm.c];refine Zm.r 1 rfl (fun K hK=> ?_);refine Ap.step2 rfl (.const (.slice none 0 0)) (.tmp 136) 22 (by kernel_rfl) wD.heap.size 3 j0 (.int .i64 0) 1 8 Tryz.underlying22 HJ.out HJ0.out HJ1.out HJ2.out rfl (by decide) (.slice none 0 0) 0 [] (by kernel_rfl) (World.ownsRow_nil _ _ _ _) iv win.length (Co.ints win) (by kernel_rfl) HSR1.out (by unfold Co.ints;simp) (by unfold Co.ints;intro u hu;obtain⟨x,-,rfl⟩:=List.mem_map.1 hu;rfl) hn1 hn2 (Nat.le_refl _) ?_;intro v1 wE hown1 hgrow1 hat1;obtain⟨a1',c1',rfl⟩:=Dt.row_form hown1;have hkE:Keep (fun _=>False) wD wE:=(Co.grown_keep2 (Below.refl _ _) hgrow1).le (fun k e=>by simp[Value.ownBlock]at e);have HSE:Hid (Hp wE w.heap.size #[.int .i64 c.k,.int .i64 c.n,.string c.s,.int .i64 c.d.k,.int .i64 c.d.n,.string c.d.s,.slice b1 n1 q1,.slice b2 n2 q2,.slice b3 n3 q3,.slice b4 c.p.length q4,.slice b5 c.l.length q5] 28):=HSD.out.keep hkE id;have HOW1:=hd hown1;have HKE:=hd hkE;have HSR2:Hid (Ap.Src2 wE (.slice b4 c.p.length q4) c.p.length (Co.ints c.p)):=(HPD.out.keep hkE (fun _ _ _ h=>h)).src2;have hbE:wD.heap.size≤wE.heap.size:=hkE.size;clear hown1 hgrow1 hat1 hkE;refine hK.out _ _ HSE.out (fun hHeld=> ?_);clear hK K;refine Zm.r 4 rfl (fun K hK=> ?_);refine Ap.step2 rfl (.tmp 137) (.tmp 139) 22 (by kernel_rfl) wD.heap.size 3 j0 (.int .i64 0) 1 8 Tryz.underlying22 HJ.out HJ0.out HJ1.out HJ2.out rfl (by decide) (.slice a1' (0+win.length) c1') (0+win.length) ([]++Co.ints win) (by kernel_rfl) HOW1.out (.slice b4 c.p.length q4) c.p.length (Co.ints c.p) (by kernel_rfl) HSR2.out (by unfold Co.ints;simp) (by unfold Co.ints;intro u hu;obtain⟨x,-,rfl⟩:=List.mem_map.1 hu;rfl) hn3 hn4 hbE ?_;intro v2 wG hown2 hgrow2 hat2;obtain⟨a2',c2',rfl⟩:=Dt.row_form hown2;have hkG:Keep (fun k=>wD.heap.size≤k) wD wG:=(HKE.out.le fun k e=>e.elim).trans ((Co.grown_keep2 (Below.refl _ _) hgrow2).le (fun k e=>(Dt.own_lt HOW1.out k e).1));have HSG:Hid (Hp wG w.heap.size #[.int .i64 c.k,.int .i64 c.n,.string c.s,.int .i64 c.d.k,.int .i64 c.d.n,.string c.d.s,.slice b1 n1 q1,.slice b2 n2 q2,.slice b3 n3 q3,.slice b4 c.p.length q4,.slice b5 c.l.length q5] 28):=HSD.out.keep hkG (fun e=>by have h1:=HBD.out.size;have h2:=HLF.out;have e:wD.heap.size≤w.heap.size:=e;omega);have HE:Hid ((fun v wx=>∃iv2:Value,iv2=v∧Dt.IRow (fun k=>k<wx.heap.size∧¬Co.WS X (.slice (some ⟨g,0,none⟩) (ps.length+1) cap) (.slice ba2 bd2.length bq2) k) wx iv2 (Co.inner c.k c.p win)∧Below wF.heap.size wF wx) (.slice a2' (0+win.length+c.p.length) c2') wG):=by
     have hbw:Below wF.heap.size wF wG:=HBD.out.trans ((hkG.to_below (n:=wF.heap.size) (fun k e=>by have:=HBD.out.size;omega) (by have:=HBD.out.size;omega)));refine⟨_,rfl,?_,hbw⟩;have hi:Dt.IRow (fun k=>wD.heap.size≤k) wG (.slice a2' (0+win.length+c.p.length) c2') (win++c.p):=Dt.IRow.of_own (by
      have h:=hown2;rw[List.length_append];unfold Co.ints at h;simp only[Nat.zero_add,List.nil_append]at h ⊢;rw[List.map_append];exact h)
     unfold Co.inner;rw[if_pos HK8.out];refine Co.irow_mono (fun b hb hl=>⟨hl,fun e=> ?_⟩) hi;have h1:=HBD.out.size;rcases e with e|e|e
     ·have:=HN.out.rw_.hp.lt;omega
     ·have:=(Dt.own_lt HN.out.rw_.rp b e).2;omega
     ·have:=(Dt.own_lt HN.out.rw_.rb b e).2;omega
    clear hown2 hgrow2 hat2 hkG;refine hK.out _ _ HSG.out (fun hHeld=> ?_);clear hK K;refine Zm.u 5 ?_ rfl ?_ ?_;rotate_left
    ·intro w9 hSw;clear hSw;go_simp
     try with_reducible rfl
    simp only[Act.put,Zm.a,Zm.b,Zm.c];refine wpAnyH_done (by kernel_rfl) ?_ _;refine NoPanic.normal ?_;clear HSD HBD HSR1 HPD HSE HOW1 HKE HSR2 HSG;go_wp2;go_meet;have h:=HE.out;simp only[Nat.zero_add]at h;exact h
   case rest=>
    obtain⟨iv2,rfl,hiv2,hbx⟩:=hcut;obtain⟨wS,rfl⟩:∃wS,wS=wc:=⟨_,rfl⟩
    obtain⟨TB,hTB⟩:∃TB,(top&&decide (c.k=9))=TB:=⟨_,rfl⟩
    have HTB:=hd hTB;have HM4:Hid (Co.M4 G (fun k=>k<wS.heap.size∧¬Co.WS X (.slice (some ⟨g,0,none⟩) (ps.length+1) cap) (.slice ba2 bd2.length bq2) k) base X opn (.slice pa ps.length pq) (.slice ba bd.length bq) w w.heap.size #[.int .i64 c.k,.int .i64 c.n,.string c.s,.int .i64 c.d.k,.int .i64 c.d.n,.string c.d.s,.slice b1 n1 q1,.slice b2 n2 q2,.slice b3 n3 q3,.slice b4 c.p.length q4,.slice b5 c.l.length q5] c (deep+1) (Co.inner c.k c.p win) TB ps bd iv2 0 0 (.slice (some ⟨g,0,none⟩) (ps.length+1) cap) (.slice ba2 bd2.length bq2) (ps++[(⟨c,.slice b1 n1 q1,.slice b2 n2 q2,.slice b3 n3 q3,.slice b4 c.p.length q4,.slice b5 c.l.length q5⟩:Co.PC)]) bd2 wS):=⟨HN.out.rw_.below hbx,HN.out.bx.below hbx,HN.out.kp.below hbx,HN.out.rp,HN.out.rb,hiv2,fun k hk=>hk.2,fun k hk=>hk.1,fun _=>⟨by rw[List.drop_zero,HBD2.out,List.length_append];rfl,by rw[List.map_append,List.take_zero,Co.partsL];rfl,by rw[List.length_append];exact hb2l,by rw[List.length_append];exact hpl⟩,fun h=>absurd rfl h⟩
    have HGOES:Hid (Co.goes opn c deep win top ps.length bd=Co.goesL opn c.l (deep+1) (Co.inner c.k c.p win) TB (ps.length+1) (bd++c.p)):=by
     show _=_;rw[Co.goes_go HH.out,hTB]
    have HWL:Hid (Co.Wfs c.l):=(Co.wf_parts HW.out).2.2.2.2.2.2;have HLL:Hid (c.l.length≤140737488355328):=(Co.wf_parts HW.out).2.2.2.2.2.1;have hll:=HLL.out;have hwin2:(Co.inner c.k c.p win).length≤1000000+32*(deep+1):=by
     unfold Co.inner;split
     ·rw[List.length_append];omega
     ·omega
    clear hTB hiv2 hbx HQ HSF HIVF c0;go_wp2
    go_loopw [12] (fun v wr=>∃(j:Nat) (e:Int) (pvj bvj:Value) (psj:List Co.PC) (bdj:List Int),v= .int .i64 j∧j≤c.l.length∧Hid (Co.M4 G (fun k=>k<wS.heap.size∧¬Co.WS X (.slice (some ⟨g,0,none⟩) (ps.length+1) cap) (.slice ba2 bd2.length bq2) k) base X opn (.slice pa ps.length pq) (.slice ba bd.length bq) w w.heap.size #[.int .i64 c.k,.int .i64 c.n,.string c.s,.int .i64 c.d.k,.int .i64 c.d.n,.string c.d.s,.slice b1 n1 q1,.slice b2 n2 q2,.slice b3 n3 q3,.slice b4 c.p.length q4,.slice b5 c.l.length q5] c (deep+1) (Co.inner c.k c.p win) TB ps bd iv2 j e pvj bvj psj bdj wr)) (fun v _=>c.l.length - (intOf v).toNat)
    case atStart=>exact⟨0,0,_,_,_,_,rfl,Nat.zero_le _,HM4⟩
    case round=>
     clear HM4;obtain⟨j,e,pvj,bvj,psj,bdj,rfl,hj,HL⟩:=hrel;have hcr:Hp wr w.heap.size _ _:=HL.out.bx;have c10:=hcr.cell 10 rfl;clear hcr;by_cases hlt:j<c.l.length
     case neg=>
      have hge:(c.l.length:Int)≤(j:Int):=by omega
      obtain rfl:j=c.l.length:=by omega
      have HF:Hid (Co.RPost G base X opn (.slice pa ps.length pq) (.slice ba bd.length bq) w c deep win top ps bd 0 (.returned (.tuple #[])) wr):=by
       refine⟨rfl,e,pvj,bvj,psj,bdj,HL.out.rw_,HL.out.kp,fun k hk=>(HL.out.rp k hk).imp id (fun h=>by omega),fun k hk=>(HL.out.rb k hk).imp id (fun h=>by omega),fun h=>absurd rfl h,fun _=>⟨?_,fun he=> ?_⟩⟩
       ·rw[HGOES.out];by_cases he:e=0
        ·obtain⟨m1,-⟩:=HL.out.m0 he;rw[m1,List.drop_length,Co.goesL,he]
        ·exact(HL.out.m1 he).symm
       ·obtain⟨m1,m2,m3,m4⟩:=HL.out.m0 he;refine⟨?_,?_,m3,m4⟩
        ·rw[m2,List.take_length];obtain⟨k,n,s,d,p,l⟩:=c;rw[Co.parts]
         rfl
        ·rw[HGOES.out,m1,List.drop_length,Co.goesL]
      go_wp2
      first|go_end0|go_ret2
      exact HF.out
     have hlti:(j:Int)<(c.l.length:Int):=by omega
     obtain⟨wd,hwd⟩:∃wd,wr.drew=wd:=⟨_,rfl⟩
     have hbd:=Co.drew_below wr;rw[hwd]at hbd;have hRj:=Co.Rep.keep HL.out.kp (fun b hb _ h=>by have:=HG.out b hb;have:=HLOW0.out b h;omega) c HR.out;obtain⟨-,-,⟨_,_,he,_,hrow⟩⟩:=(Co.rep_iff _ _ _ _ _ _ _ _).1 (hRj.below hbd);injection he with he1 he2 he3
     subst he1;clear he2 he3;obtain⟨kb,ko,rfl,hGk,hkl,hreps⟩:=hrow (by intro h0;rw[h0]at hlt;simp at hlt);obtain⟨um,ul,ut,up,uk,hel,hry⟩:=hreps.at j hlt;have hmem:c.l[j]∈c.l:=List.getElem_mem hlt;have hwy:Co.Wf c.l[j]:=HWL.out.at j hlt;have hcall:=HCH.out c.l[j] hmem G (fun k=>k<wS.heap.size∧¬Co.WS X (.slice (some ⟨g,0,none⟩) (ps.length+1) cap) (.slice ba2 bd2.length bq2) k) base X opn pvj bvj um ul ut up uk iv2 psj bdj (Co.inner c.k c.p win) wd (deep+1) TB e hwy hry HG.out (HL.out.rw_.below hbd) (HL.out.iv.below hbd) (fun k hk _=>HL.out.ng k hk) hwin2 (by omega) (fun h=>(HL.out.m0 h).2.2);have hnext:=fun x w'=>Co.M4.next (x:=x) (w':=w') HNA.out rfl HL.out hbd hlt
     obtain⟨y,hy⟩:∃y,c.l[j]=y:=⟨_,rfl⟩
     rw[hy]at hel hry hcall hnext hwy;obtain⟨g1,i1,r1,g2,i2,r2,g3,i3,r3,g4,i4,r4,g5,i5,r5,rfl,rfl,rfl,rfl,rfl⟩:=hry.forms5;unfold Co.V at hcall;rw[show((deep+1:Nat):Int)=(deep:Int)+1 from rfl]at hcall;obtain⟨e0,e1',e2,e3,e4,e5,e6,e7,e8,e9,e10⟩:=hel;have hcd:Hp wd w.heap.size _ _:=HL.out.bx.below hbd;have d0:=hcd.cell 0 rfl;have d10:=hcd.cell 10 rfl;have HNX:=hd hnext;obtain⟨K9,hK9⟩:∃K9,(c.k==9)=K9:=⟨_,rfl⟩
     have HTK:Hid (TB=(top&&K9)):=by
      show _=_;rw[←HTB.out,←hK9];by_cases e:c.k=9 <;> simp[e]
     clear hnext hcd hRj hrow hreps hry hwy hmem hGk hkl hy hbd
     cases htop:top with
     |false=>
      have hTB:TB=false:=by rw[HTK.out,htop];rfl
      have hcall2:=hcall;rw[hTB]at hcall2;have HTT:=hd hTB;clear hcall hTB;subst htop;go_wp2;refine wp_region_still_tail 15 (by kernel_rfl) (by kernel_rfl) ?_;change wpStill _ _ wr.drew _ _ _;rw[hwd];have HWD:=hd hwd;clear hwd c10;simp only[List.take_succ_cons,List.take_zero,List.drop_succ_cons,List.drop_zero]
      repeat still_step
      try refine wpStill_nil ?_
      go_wp2_with fail
      rw[HWD.out];refine hcall2.mono ?_;rintro x w9 hp;have hp2:Co.RPost G base X opn pvj bvj wd y (deep+1) (Co.inner c.k c.p win) TB psj bdj e x w9:=by rw[HTT.out];exact hp
      obtain⟨e',pv',bv',ps',bd',hm⟩:=HNX.out x w9 hp2;obtain rfl:x= .returned (.tuple #[]):=hp.1;have HM5:=hd hm;clear hcall2 hp hp2 hm d0 d10 e0 e1' e2 e3 e4 e5 e6 e7 e8 e9 e10 hK9;go_wp2;go_roundw
      case rel=>exact⟨j+1,e',pv',bv',ps',bd',by simp,by omega,HM5⟩
      case measure=>simp[intOf];omega
     |true=>
      have hTB:TB=K9:=by rw[HTK.out,htop];exact Bool.true_and _
      have hcall2:=hcall;rw[hTB]at hcall2;have HTT:=hd hTB;clear hcall hTB;subst htop;go_wp2;refine wp_region_still_tail 15 (by kernel_rfl) (by kernel_rfl) ?_;change wpStill _ _ wr.drew _ _ _;rw[hwd];have HWD:=hd hwd;clear hwd c10;simp only[List.take_succ_cons,List.take_zero,List.drop_succ_cons,List.drop_zero]
      repeat still_step
      try refine wpStill_nil ?_
      go_wp2_with fail
      rw[HWD.out];refine hcall2.mono ?_;rintro x w9 hp;have hp2:Co.RPost G base X opn pvj bvj wd y (deep+1) (Co.inner c.k c.p win) TB psj bdj e x w9:=by rw[HTT.out];exact hp
      obtain⟨e',pv',bv',ps',bd',hm⟩:=HNX.out x w9 hp2;obtain rfl:x= .returned (.tuple #[]):=hp.1;have HM5:=hd hm;clear hcall2 hp hp2 hm d0 d10 e0 e1' e2 e3 e4 e5 e6 e7 e8 e9 e10 hK9;go_wp2;go_roundw
      case rel=>exact⟨j+1,e',pv',bv',ps',bd',by simp,by omega,HM5⟩
      case measure=>simp[intOf];omega
mutual
theorem coRGoes_any:∀c:Co.C,Co.RGoesIs c
 | .mk k n s d p l=>coRGoes_step (.mk k n s d p l) (coRGoesL_any l)
theorem coRGoesL_any:∀(l:List Co.C),∀y∈l,Co.RGoesIs y
 |[],_,h=>absurd h (by simp)
 |c :: r,y,h=>(List.mem_cons.1 h).elim (fun e=>by rw[e];exact coRGoes_any c) (fun h'=>coRGoesL_any r y h')
end
theorem rCheck07_any{G G2:Nat→Prop}(c:Co.C)(vm vl vt vp vk iv:Value)(win:List Int)(w:World)(hW:Co.Wf c)(hR:Co.Rep G w c vm vl vt vp vk)(hI:Dt.IRow G2 w iv win)(hl:win.length≤1000000):
  Calls Tryz.prog 11 #[Co.V c vm vl vt vp vk,iv] w fun e w'=>e= .returned (.int .i64 (Co.check c win))∧Below w.heap.size w w':=by
 obtain⟨b1,n1,q1,b2,n2,q2,b3,n3,q3,b4,n4,q4,b5,n5,q5,rfl,rfl,rfl,rfl,rfl⟩:=hR.forms5;unfold Co.V;obtain⟨w1,hw1⟩:∃w1,w.alloc (.cells #[.int .i64 c.k,.int .i64 c.n,.string c.s,.int .i64 c.d.k,.int .i64 c.d.n,.string c.d.s,.slice b1 n1 q1,.slice b2 n2 q2,.slice b3 n3 q3,.slice b4 n4 q4,.slice b5 n5 q5] 28)=w1:=⟨_,rfl⟩
 obtain⟨hb1,hs1⟩:=new_below hw1;obtain⟨j0,hj,hj0,hj1,hj2⟩:=info_parts Dt.infoI;have hm1:0+win.length≤maxLen:=by unfold maxLen;omega
 have hm2:(0+win.length)*8≤140737488355328:=by omega
 have HSRC:Hid (Ap.Src2 w1 iv win.length (Co.ints win)):=(hI.below hb1).src2;have Hc:=hd (Hp.new hw1);obtain⟨y0,y1,y2,y3,y4,y5,y6,y7,y8,y9,y10⟩:=Hc.out.c11;have HB1:=hd hb1;have HR:=hd (Co.Rep.mono (fun b hb hl=>(⟨hb,hl⟩:G b∧b<w.heap.size)) c hR);have HI:=hd (Co.irow_mono (fun b hb hl=>(⟨hb,hl⟩:G2 b∧b<w.heap.size)) hI);have HW:=hd hW;clear hb1 hR hI hW;go_enter Tryz.func11,Tryz.ntmps11;go_wp2_with(at_builtin;refine Ap.list2 rfl _ _ 22 rfl w1.heap.size 3 j0 (.int .i64 0) 1 8 Tryz.underlying22 hj hj0 hj1 hj2 rfl (by decide) (.slice none 0 0) 0 [] rfl (World.ownsRow_nil _ _ _ _) iv win.length (Co.ints win) rfl HSRC.out (by unfold Co.ints;simp) (by unfold Co.ints;intro u hu;obtain⟨x,_,rfl⟩:=List.mem_map.1 hu;rfl) hm1 hm2 (Nat.le_refl _) ?_;intro v' w5 hown hg hat;simp only[Nat.zero_add,List.nil_append]at hown ⊢;obtain⟨a5,c5,rfl⟩:=Dt.row_form hown;have HOWN:=hd hown;have HG5:=hd hg;clear hown hg hat;have hk5:Keep (fun _=>False) w1 w5:=(Co.grown_keep2 (Below.refl _ _) HG5.out).le (fun k e=>by simp[Value.ownBlock]at e);have Hc5:Hid (Hp w5 w.heap.size _ _):=Hc.out.keep hk5 id;have HK5:=hd hk5;clear hk5 y0 y1 y2 y3 y4 y5 y6 y7 y8 y9 y10;have hW6:w5.alloc (.cells #[.slice none 0 0,.slice a5 win.length c5,.int .i64 0,.bool false] 66)=w5.alloc (.cells #[.slice none 0 0,.slice a5 win.length c5,.int .i64 0,.bool false] 66):=rfl;obtain⟨hb6,hs6⟩:=new_below hW6;have HB6:=hd hb6;have Hx6:=hd (Hp.new hW6);have Hc6:=hd (Hc5.out.below hb6);clear hW6 hb6 hs6;obtain⟨y0,y1,y2,y3,y4,y5,y6,y7,y8,y9,y10⟩:=Hc6.out.c11)
 have HRW:Hid (Co.RW (fun k=>G k∧k<w.heap.size) (w5.alloc (.cells #[.slice none 0 0,.slice a5 win.length c5,.int .i64 0,.bool false] 66)) w1.heap.size w5.heap.size 0 false (.slice none 0 0) (.slice a5 win.length c5) [] win):=by
  have hs:=HK5.out.size;have hle:∀k,(Value.slice a5 win.length c5).ownBlock=some k→k<w5.heap.size:=fun k e=>(Dt.own_lt HOWN.out k e).2
  exact⟨Hx6.out,World.ownsRow_nil _ _ _ _,(fun p hp=>nomatch hp),Dt.own_keep (S:=fun _=>False) HOWN.out (keep_of_below HB6.out) (fun _ _ h=>h),hs,(fun e=>nomatch e),(fun e=>Nat.lt_irrefl _ (hle _ e)),(fun k e=>nomatch e)⟩
 have hbw6:Below w.heap.size w (w5.alloc (.cells #[.slice none 0 0,.slice a5 win.length c5,.int .i64 0,.bool false] 66)):=by
  have h1:Below w.heap.size w w5:=HB1.out.trans (HK5.out.to_below (fun k h=>h.elim) HB1.out.size);exact(btr h1 HB6.out)
 have hcall:=coRGoes_any c (fun k=>G k∧k<w.heap.size) (fun k=>G2 k∧k<w.heap.size) w1.heap.size w5.heap.size false (.slice none 0 0) (.slice a5 win.length c5) _ _ _ _ _ iv [] win win _ 1 true 0 HW.out (HR.out.below hbw6) (fun k hk=>by omega) HRW.out (HI.out.below hbw6) (fun k hk _ e=>by
  have hs:=HK5.out.size;rcases e with e|e|e
  ·omega
  ·cases e
  ·have:=(Dt.own_lt HOWN.out k e).1;omega) (by omega) (by omega) (fun _=>⟨by simpa using hl,by simp⟩)
 unfold Co.V at hcall;have hcall':Calls Tryz.prog 37 #[.pointer (some ⟨w5.heap.size,0,none⟩),.agg #[.int .i64 c.k,.int .i64 c.n,.string c.s,.int .i64 c.d.k,.int .i64 c.d.n,.string c.d.s,.slice b1 n1 q1,.slice b2 n2 q2,.slice b3 n3 q3,.slice b4 n4 q4,.slice b5 n5 q5],.int .i64 1,iv,.bool true] _ _:=hcall;have HBW6:=hd hbw6;clear hcall hbw6 hw1;go_wp2_with fail
 refine hcall'.mono ?_;rintro e w7 ⟨rfl,e',pv',bv',ps',bd',g1,g2,-,-,-,g6⟩;obtain⟨g7,-⟩:=g6 rfl;have HX7:=hd g1.hp;have x2:=HX7.out.cell 2 rfl;have HBF:Hid (Below w.heap.size w w7):=HBW6.out.trans (g2.to_below (fun k h=>by have h1:=Co.WS.low HRW.out h;omega) HBW6.out.size);have he:e'=Co.check c win:=g7;subst he;clear y0 y1 y2 y3 y4 y5 y6 y7 y8 y9 y10 hcall' g1 g2 g6 g7;go_wp2;go_ret;exact⟨rfl,HBF.out⟩
namespace Co
theorem src1p{w wD:World}{a:Value}{t:TypeId}(hw:w.alloc (.cells #[a] t)=wD):Ap.Src wD (.slice (some ⟨w.heap.size,0,none⟩) 1 1) 1 [a]:=
 .inr ⟨_,_,rfl,fun z u hu=>by
  rw[Addr.add_mid,Nat.zero_add];have h2:#[a][z]?=some u:=by rw[←hu];simp
  exact(Hp.new hw).cell z h2⟩
def PutAt(l:List Int)(n:Int)(i:Nat)(done:Bool)(out:List Int):Prop:=if done then out++l.drop i=put l n else(∀x∈l.take i,x<n)∧out=l.take i
theorem put_skip:∀(l:List Int) (n:Int) (i:Nat),(∀x∈l.take i,x<n)→put l n=l.take i++put (l.drop i) n
 |[],n,i,_=>by simp
 |a :: r,n,0,_=>by simp
 |a :: r,n,i+1,h=>by
  have h1:a<n:=h a (by simp);rw[put,if_neg (by omega),if_neg (by omega),List.take_succ_cons,List.drop_succ_cons,put_skip r n i (fun x hx=>h x (by rw[List.take_succ_cons];exact List.mem_cons_of_mem _ hx))]
  rfl
theorem put_len(l:List Int)(n:Int):(put l n).length≤l.length+1:=by
 induction l with
 |nil=>simp[put]
 |cons a r ih=>
  rw[put];split
  ·simp
  split
  ·simp
  ·simp;omega
structure PInv(w:World)(l:List Int)(n:Int)(i:Nat)(done:Bool)(al:Option Addr)(m ql:Nat)(wx:World):Prop where
 row:∃out,m=out.length∧wx.ownsRow w.heap.size 3 1 (.slice al m ql) m (ints out)∧PutAt l n i done out∧m≤i+1
 bl:Below w.heap.size w wx
theorem own_snoc{w:World}{base n:Nat}{v:Value}{out:List Int}{x:Int}(h:w.ownsRow base 3 1 v n (ints out++[.int .i64 x])):w.ownsRow base 3 1 v n (ints (out++[x])):=by
 unfold ints at h ⊢;rw[List.map_append];exact h
theorem grown_bl{w wx wA w5:World}{al:Option Addr}{m ql:Nat}{xs:List Value}(hbl:Below w.heap.size w wx)(ho:wx.ownsRow w.heap.size 3 1 (.slice al m ql) m xs)(hA:Below wx.heap.size wx wA)(hg:wA.grownBy w5 (Value.slice al m ql).ownBlock):Below w.heap.size w w5:=
 hbl.trans ((grown_keep2 hA hg).to_below (fun k e=>(Dt.own_lt ho k e).1) hbl.size)
end Co
theorem putR_any{F:Nat→Prop}(v:Value)(l:List Int)(n:Int)(w:World)(h:Dt.IRow F w v l)(hl:l.length≤1000000):
  Calls Tryz.prog 55 #[v,.int .i64 n] w fun e w'=>∃v',e= .returned v'∧Dt.IRow (fun k=>w.heap.size≤k) w' v' (Co.put l n)∧Below w.heap.size w w':=by
 obtain⟨a,c,rfl,hlc,hpt⟩:=h;have h:Dt.IRow F w (.slice a l.length c) l:=⟨a,c,rfl,hlc,hpt⟩
 obtain⟨j0,hj,hj0,hj1,hj2⟩:=info_parts Dt.infoI;have HJ:=hd hj;have HJ0:=hd hj0;have HJ1:=hd hj1;have HJ2:=hd hj2;have HI:=hd h;have HINV:Hid (Co.PInv w l n 0 false none 0 0 w):=⟨⟨[],rfl,World.ownsRow_nil _ _ _ _,by unfold Co.PutAt;rw[if_neg (by simp)];simp,by omega⟩,Below.refl _ _⟩
 clear hj hj0 hj1 hj2 h hpt hlc;go_enter Tryz.func55,Tryz.ntmps55;go_wp2
 go_loopw [5,6,7] (fun v5 v6 v7 wr=>∃(i m ql:Nat) (al:Option Addr) (dn:Bool),v5= .slice al m ql∧v6= .bool dn∧v7= .int .i64 i∧i≤l.length∧Hid (Co.PInv w l n i dn al m ql wr)) (fun _ _ v7 _=>l.length - (intOf v7).toNat)
 case atStart=>exact⟨0,0,0,none,false,rfl,rfl,rfl,by omega,HINV⟩
 case round=>
  clear HINV;obtain⟨i,m,ql,al,dn,rfl,rfl,rfl,hi,HP⟩:=hrel;obtain⟨out,hm,hown,hput,hmi⟩:=HP.out.row;subst hm;have HO:=hd hown;have HPU:=hd hput;have HB:=hd HP.out.bl;have HWS:Hid (w.heap.size≤wr.heap.size):=HB.out.size;clear hown hput;by_cases hlt:i<l.length
  case neg=>
   have hge:(l.length:Int)≤(i:Int):=by omega
   obtain rfl:i=l.length:=by omega
   cases dn with
   |true=>
    have HF:Hid (Dt.IRow (fun k=>w.heap.size≤k) wr (.slice al out.length ql) (Co.put l n)):=by
     have h:=HPU.out;unfold Co.PutAt at h;rw[if_pos rfl,List.drop_length,List.append_nil]at h;rw[←h];exact Dt.IRow.of_own HO.out
    go_wp2;go_ret;exact⟨_,rfl,HF.out,HB.out⟩
   |false=>
    have HE:Hid (Co.put l n=out++[n]):=by
     have h:=HPU.out;unfold Co.PutAt at h;rw[if_neg (by simp),List.take_length]at h;show _=_;rw[Co.put_skip l n l.length (by rw[List.take_length];exact h.1),List.take_length,List.drop_length,h.2,Co.put]
    have hWA:wr.alloc (.cells #[.int .i64 n] 3)=wr.alloc (.cells #[.int .i64 n] 3):=rfl;obtain⟨hbA,hsA⟩:=new_below hWA;have HS:Hid (Ap.Src (wr.alloc (.cells #[.int .i64 n] 3)) (.slice (some ⟨wr.heap.size,0,none⟩) 1 1) 1 [.int .i64 n]):=Co.src1p hWA;have HRO:Hid ((wr.alloc (.cells #[.int .i64 n] 3)).ownsRow w.heap.size 3 1 (.slice al out.length ql) out.length (Co.ints out)):=Dt.own_keep (S:=fun _=>False) HO.out (keep_of_below hbA) (fun _ _ h=>h);have HBA:=hd hbA;have HSZ:Hid (w.heap.size≤(wr.alloc (.cells #[.int .i64 n] 3)).heap.size):=by have h1:=hbA.size;have h2:=HWS.out;show w.heap.size≤_;omega
    clear hWA hbA hsA;have hm1:out.length+1≤maxLen:=by unfold maxLen;omega
    have hm2:(out.length+1)*8≤140737488355328:=by omega
    go_wp2_with(at_builtin;refine Ap.list rfl _ _ 22 rfl w.heap.size 3 j0 (.int .i64 0) 1 8 Tryz.underlying22 HJ.out HJ0.out HJ1.out HJ2.out rfl (by decide) (.slice al out.length ql) out.length (Co.ints out) rfl HRO.out (.slice (some ⟨wr.heap.size,0,none⟩) 1 1) 1 [.int .i64 n] rfl HS.out rfl (by simp[Value.oneCell']) hm1 hm2 HSZ.out ?_;intro v' w5 hown hg hat;obtain⟨al',ql',rfl⟩:=Dt.row_form hown;have HOWN:=hd hown;have HGR:=hd hg;have HAT:=hd hat;clear hown hg hat)
    have HF:Hid (Dt.IRow (fun k=>w.heap.size≤k) w5 (.slice al' (out.length+1) ql') (Co.put l n)∧Below w.heap.size w w5):=by
     refine⟨?_,Co.grown_bl HB.out HO.out HBA.out HGR.out⟩;rw[HE.out];refine Dt.IRow.of_own ?_;rw[List.length_append,List.map_append];exact HOWN.out
    go_wp2;go_ret;exact⟨_,rfl,HF.out.1,HF.out.2⟩
  have hlti:(i:Int)<(l.length:Int):=by omega
  have hI2:=HI.out.keep (S:=fun _=>False) (keep_of_below HB.out) (fun _ _ _ h=>h);obtain⟨_,_,he,_,hrow⟩:=hI2;injection he with he1 he2 he3
  subst he1;clear he2 he3;obtain⟨pb,po,rfl,hGp,hbl,hcell⟩:=hrow (by intro h0;rw[h0]at hlt;simp at hlt);have p0:=hcell i hlt;obtain⟨x,hx⟩:∃x,l[i]=x:=⟨_,rfl⟩
  rw[hx]at p0;have HXX:=hd hx;clear hrow hcell hx hGp hbl
  cases dn with
  |true=>
   have hWA:wr.alloc (.cells #[.int .i64 x] 3)=wr.alloc (.cells #[.int .i64 x] 3):=rfl;obtain⟨hbA,hsA⟩:=new_below hWA;have HS:Hid (Ap.Src (wr.alloc (.cells #[.int .i64 x] 3)) (.slice (some ⟨wr.heap.size,0,none⟩) 1 1) 1 [.int .i64 x]):=Co.src1p hWA;have HRO:Hid ((wr.alloc (.cells #[.int .i64 x] 3)).ownsRow w.heap.size 3 1 (.slice al out.length ql) out.length (Co.ints out)):=Dt.own_keep (S:=fun _=>False) HO.out (keep_of_below hbA) (fun _ _ h=>h);have HBA:=hd hbA;have HSZ:Hid (w.heap.size≤(wr.alloc (.cells #[.int .i64 x] 3)).heap.size):=by have h1:=hbA.size;have h2:=HWS.out;show w.heap.size≤_;omega
   clear hWA hbA hsA;have hm1:out.length+1≤maxLen:=by unfold maxLen;omega
   have hm2:(out.length+1)*8≤140737488355328:=by omega
   go_wp2_with(at_builtin;refine Ap.list rfl _ _ 22 rfl w.heap.size 3 j0 (.int .i64 0) 1 8 Tryz.underlying22 HJ.out HJ0.out HJ1.out HJ2.out rfl (by decide) (.slice al out.length ql) out.length (Co.ints out) rfl HRO.out (.slice (some ⟨wr.heap.size,0,none⟩) 1 1) 1 [.int .i64 x] rfl HS.out rfl (by simp[Value.oneCell']) hm1 hm2 HSZ.out ?_;intro v' w5 hown hg hat;obtain⟨al',ql',rfl⟩:=Dt.row_form hown;have HOWN:=hd hown;have HGR:=hd hg;have HAT:=hd hat;clear hown hg hat)
   have HB5:=hd (Co.grown_bl HB.out HO.out HBA.out HGR.out);have HOWN2:Hid (w5.ownsRow w.heap.size 3 1 (.slice al' (out.length+1) ql') (out.length+1) (Co.ints (out++[x]))):=by
    have h:=HOWN.out;unfold Co.ints at h ⊢;rw[List.map_append];exact h
   clear p0;have HN:Hid (Co.PInv w l n (i+1) true al' (out.length+1) ql' w5):=by
    refine⟨⟨out++[x],by rw[List.length_append];rfl,HOWN2.out,?_,by omega⟩,HB5.out⟩;have h:=HPU.out;unfold Co.PutAt at h ⊢;rw[if_pos rfl]at h ⊢;rw[List.drop_eq_getElem_cons hlt,HXX.out]at h;rw[←h];simp
   go_wp2;go_roundw
   case rel=>exact⟨i+1,_,ql',al',true,rfl,rfl,by simp,by omega,HN⟩
   case measure=>simp[intOf];omega
  |false=>
   have hpu:(∀y∈l.take i,y<n)∧out=l.take i:=by
    have h:=HPU.out;unfold Co.PutAt at h;rw[if_neg (by simp)]at h;exact h
   have HPP:=hd hpu;clear hpu;have hoi:out.length≤i:=by rw[HPP.out.2,List.length_take];omega
   by_cases hle:n≤x
   case neg=>
    have hb:decide (n≤x)=false:=decide_eq_false hle;have hWA:wr.alloc (.cells #[.int .i64 x] 3)=wr.alloc (.cells #[.int .i64 x] 3):=rfl;obtain⟨hbA,hsA⟩:=new_below hWA;have HS:Hid (Ap.Src (wr.alloc (.cells #[.int .i64 x] 3)) (.slice (some ⟨wr.heap.size,0,none⟩) 1 1) 1 [.int .i64 x]):=Co.src1p hWA;have HRO:Hid ((wr.alloc (.cells #[.int .i64 x] 3)).ownsRow w.heap.size 3 1 (.slice al out.length ql) out.length (Co.ints out)):=Dt.own_keep (S:=fun _=>False) HO.out (keep_of_below hbA) (fun _ _ h=>h);have HBA:=hd hbA;have HSZ:Hid (w.heap.size≤(wr.alloc (.cells #[.int .i64 x] 3)).heap.size):=by have h1:=hbA.size;have h2:=HWS.out;show w.heap.size≤_;omega
    clear hWA hbA hsA;have hm1:out.length+1≤maxLen:=by unfold maxLen;omega
    have hm2:(out.length+1)*8≤140737488355328:=by omega
    go_wp2_with(at_builtin;refine Ap.list rfl _ _ 22 rfl w.heap.size 3 j0 (.int .i64 0) 1 8 Tryz.underlying22 HJ.out HJ0.out HJ1.out HJ2.out rfl (by decide) (.slice al out.length ql) out.length (Co.ints out) rfl HRO.out (.slice (some ⟨wr.heap.size,0,none⟩) 1 1) 1 [.int .i64 x] rfl HS.out rfl (by simp[Value.oneCell']) hm1 hm2 HSZ.out ?_;intro v' w5 hown hg hat;obtain⟨al',ql',rfl⟩:=Dt.row_form hown;have HOWN:=hd hown;have HGR:=hd hg;have HAT:=hd hat;clear hown hg hat)
    have HB5:=hd (Co.grown_bl HB.out HO.out HBA.out HGR.out);have HOWN2:Hid (w5.ownsRow w.heap.size 3 1 (.slice al' (out.length+1) ql') (out.length+1) (Co.ints (out++[x]))):=by
     have h:=HOWN.out;unfold Co.ints at h ⊢;rw[List.map_append];exact h
    clear p0;have HN:Hid (Co.PInv w l n (i+1) false al' (out.length+1) ql' w5):=by
     refine⟨⟨out++[x],by rw[List.length_append];rfl,HOWN2.out,?_,by omega⟩,HB5.out⟩;unfold Co.PutAt;rw[if_neg (by simp),List.take_succ_eq_append_getElem hlt,HXX.out,←HPP.out.2];refine⟨fun y hy=> ?_,rfl⟩;rcases List.mem_append.1 hy with hy|hy
     ·exact HPP.out.1 y (by rw[←HPP.out.2];exact hy)
     ·obtain rfl:y=x:=by simpa using hy
      omega
    go_wp2;go_roundw
    case rel=>exact⟨i+1,_,ql',al',false,rfl,rfl,by simp,by omega,HN⟩
    case measure=>simp[intOf];omega
   have hb:decide (n≤x)=true:=decide_eq_true hle;by_cases hlx:n<x
   ·have hb2:decide (n<x)=true:=decide_eq_true hlx;have HCELL:Hid (∀w4,Below w.heap.size w w4→w4.cell? ⟨pb,po+i,none⟩=some (.int .i64 x)):=fun w4 hb=>by
     have hk:=(HI.out.keep (S:=fun _=>False) (keep_of_below hb) (fun _ _ _ h=>h))
     obtain⟨_,_,he,_,hrow⟩:=hk;injection he with he1 he2 he3
     obtain⟨pb',po',e,hGp,hbl,hcell⟩:=hrow (by intro h0;rw[h0]at hlt;simp at hlt);rw[←he1]at e;cases e;rw[←HXX.out];exact hcell i hlt
    have hWA:wr.alloc (.cells #[.int .i64 n] 3)=wr.alloc (.cells #[.int .i64 n] 3):=rfl;obtain⟨hbA,hsA⟩:=new_below hWA;have HS:Hid (Ap.Src (wr.alloc (.cells #[.int .i64 n] 3)) (.slice (some ⟨wr.heap.size,0,none⟩) 1 1) 1 [.int .i64 n]):=Co.src1p hWA;have HRO:Hid ((wr.alloc (.cells #[.int .i64 n] 3)).ownsRow w.heap.size 3 1 (.slice al out.length ql) out.length (Co.ints out)):=Dt.own_keep (S:=fun _=>False) HO.out (keep_of_below hbA) (fun _ _ h=>h);have HBA:=hd hbA;have HSZ:Hid (w.heap.size≤(wr.alloc (.cells #[.int .i64 n] 3)).heap.size):=by have h1:=hbA.size;have h2:=HWS.out;show w.heap.size≤_;omega
    clear hWA hbA hsA;have hm1:out.length+1≤maxLen:=by unfold maxLen;omega
    have hm2:(out.length+1)*8≤140737488355328:=by omega
    go_wp2_with(first|(at_builtin;refine Ap.list rfl _ _ 22 rfl w.heap.size 3 j0 (.int .i64 0) 1 8 Tryz.underlying22 HJ.out HJ0.out HJ1.out HJ2.out rfl (by decide) (.slice al out.length ql) out.length (Co.ints out) rfl HRO.out (.slice (some ⟨wr.heap.size,0,none⟩) 1 1) 1 [.int .i64 n] rfl HS.out rfl (by simp[Value.oneCell']) hm1 hm2 HSZ.out ?_;intro v' w4 hown hg hat;obtain⟨al',ql',rfl⟩:=Dt.row_form hown;have HOWN:=hd hown;have HGR:=hd hg;have HAT:=hd hat;have HOWN4:Hid (w4.ownsRow w.heap.size 3 1 (.slice al' (out.length+1) ql') (out.length+1) (Co.ints (out++[n]))):=Co.own_snoc hown;have HB4:Hid (Below w.heap.size w w4):=Co.grown_bl HB.out HO.out HBA.out hg;have p4:=HCELL.out _ HB4.out;clear hown hg hat p0 HS HRO HBA HSZ HOWN HGR HAT hm1 hm2;have hWA:(w4.alloc (.cells #[.int .i64 x] 3))=(w4.alloc (.cells #[.int .i64 x] 3)):=rfl;obtain⟨hbA,hsA⟩:=new_below hWA;have HS2:Hid (Ap.Src (w4.alloc (.cells #[.int .i64 x] 3)) (.slice (some ⟨w4.heap.size,0,none⟩) 1 1) 1 [.int .i64 x]):=Co.src1p hWA;have HRO2:Hid ((w4.alloc (.cells #[.int .i64 x] 3)).ownsRow w.heap.size 3 1 (.slice al' (out.length+1) ql') (out.length+1) (Co.ints (out++[n]))):=Dt.own_keep (S:=fun _=>False) HOWN4.out (keep_of_below hbA) (fun _ _ h=>h);have HBA2:=hd hbA;have HSZ2:Hid (w.heap.size≤(w4.alloc (.cells #[.int .i64 x] 3)).heap.size):=hd (Nat.le_trans HB4.out.size hbA.size);clear hWA hbA hsA;have hn1:out.length+1+1≤maxLen:=(by unfold maxLen;omega);have hn2:(out.length+1+1)*8≤140737488355328:=(by omega))|(at_builtin;refine Ap.list rfl _ _ 22 rfl w.heap.size 3 j0 (.int .i64 0) 1 8 Tryz.underlying22 HJ.out HJ0.out HJ1.out HJ2.out rfl (by decide) (.slice al' (out.length+1) ql') (out.length+1) (Co.ints (out++[n])) rfl HRO2.out (.slice (some ⟨w4.heap.size,0,none⟩) 1 1) 1 [.int .i64 x] rfl HS2.out rfl (by simp[Value.oneCell']) hn1 hn2 HSZ2.out ?_;intro v' w5 hown hg hat;obtain⟨al5,ql5,rfl⟩:=Dt.row_form hown;have HOWN:=hd hown;have HGR:=hd hg;have HAT:=hd hat;clear hown hg hat p4))
    have HB5:=hd (Co.grown_bl HB4.out HOWN4.out HBA2.out HGR.out);have HOWN2:Hid (w5.ownsRow w.heap.size 3 1 (.slice al5 (out.length+1+1) ql5) (out.length+1+1) (Co.ints (out++[n]++[x]))):=by
     have h:=HOWN.out;unfold Co.ints at h ⊢;rw[List.map_append (l₁:=out++[n])];exact h
    have HN:Hid (Co.PInv w l n (i+1) true al5 (out.length+1+1) ql5 w5):=by
     refine⟨⟨out++[n]++[x],by rw[List.length_append,List.length_append];rfl,HOWN2.out,?_,by omega⟩,HB5.out⟩;unfold Co.PutAt;rw[if_pos rfl,Co.put_skip l n i HPP.out.1,←HPP.out.2,List.drop_eq_getElem_cons hlt,HXX.out,Co.put,if_pos hlx];simp
    go_wp2;go_roundw
    case rel=>exact⟨i+1,_,ql5,al5,true,rfl,rfl,by simp,by omega,HN⟩
    case measure=>simp[intOf];omega
   ·have hb2:decide (n<x)=false:=decide_eq_false hlx;have hWA:wr.alloc (.cells #[.int .i64 x] 3)=wr.alloc (.cells #[.int .i64 x] 3):=rfl;obtain⟨hbA,hsA⟩:=new_below hWA;have HS:Hid (Ap.Src (wr.alloc (.cells #[.int .i64 x] 3)) (.slice (some ⟨wr.heap.size,0,none⟩) 1 1) 1 [.int .i64 x]):=Co.src1p hWA;have HRO:Hid ((wr.alloc (.cells #[.int .i64 x] 3)).ownsRow w.heap.size 3 1 (.slice al out.length ql) out.length (Co.ints out)):=Dt.own_keep (S:=fun _=>False) HO.out (keep_of_below hbA) (fun _ _ h=>h);have HBA:=hd hbA;have HSZ:Hid (w.heap.size≤(wr.alloc (.cells #[.int .i64 x] 3)).heap.size):=by have h1:=hbA.size;have h2:=HWS.out;show w.heap.size≤_;omega
    clear hWA hbA hsA;have hm1:out.length+1≤maxLen:=by unfold maxLen;omega
    have hm2:(out.length+1)*8≤140737488355328:=by omega
    go_wp2_with(at_builtin;refine Ap.list rfl _ _ 22 rfl w.heap.size 3 j0 (.int .i64 0) 1 8 Tryz.underlying22 HJ.out HJ0.out HJ1.out HJ2.out rfl (by decide) (.slice al out.length ql) out.length (Co.ints out) rfl HRO.out (.slice (some ⟨wr.heap.size,0,none⟩) 1 1) 1 [.int .i64 x] rfl HS.out rfl (by simp[Value.oneCell']) hm1 hm2 HSZ.out ?_;intro v' w5 hown hg hat;obtain⟨al',ql',rfl⟩:=Dt.row_form hown;have HOWN:=hd hown;have HGR:=hd hg;have HAT:=hd hat;clear hown hg hat)
    have HB5:=hd (Co.grown_bl HB.out HO.out HBA.out HGR.out);have HOWN2:Hid (w5.ownsRow w.heap.size 3 1 (.slice al' (out.length+1) ql') (out.length+1) (Co.ints (out++[x]))):=by
     have h:=HOWN.out;unfold Co.ints at h ⊢;rw[List.map_append];exact h
    clear p0;have HN:Hid (Co.PInv w l n (i+1) true al' (out.length+1) ql' w5):=by
     refine⟨⟨out++[x],by rw[List.length_append];rfl,HOWN2.out,?_,by omega⟩,HB5.out⟩;unfold Co.PutAt;rw[if_pos rfl,Co.put_skip l n i HPP.out.1,←HPP.out.2,List.drop_eq_getElem_cons hlt,HXX.out,Co.put,if_neg hlx,if_pos (by omega)];simp
    go_wp2;go_roundw
    case rel=>exact⟨i+1,_,ql',al',true,rfl,rfl,by simp,by omega,HN⟩
    case measure=>simp[intOf];omega
end Go.Proofs.YtfjmlfbohenmfaaGreat
