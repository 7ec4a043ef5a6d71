/-
  CoToldq.
-/
import Derived.Test.YtfjmlfbohenmfaaGreatCoreWithinLawZM11
import Derived.Test.YtfjmlfbohenmfaaGreatCoreWithinLawZM7
import Derived.Test.YtfjmlfbohenmfaaGreatCoreWithinLawZM2
import Derived.RangeFuncBox
set_option maxRecDepth 100000
set_option maxHeartbeats 32000000
namespace Go.Proofs.YtfjmlfbohenmfaaGreat
open Go.RowKit Go.Shelf Go.Maps Go.WideMaps
attribute [local go_sem] Oper.semAt_some
namespace Co
theorem eqlIn_seqC(d:Nat)(f:Fn)(ts lb:Array Value)(w:World):(Op.equalIn (d+1) 38 (.func f ts lb) .nilFunc).run Tryz.prog w= .ok false w:=by
 simp[Op.equalIn,run_underlying Tryz.underlying38]
theorem eql_seqC(f:Fn)(ts lb:Array Value)(w:World):(binOp .eql 38 (.func f ts lb) .nilFunc).run Tryz.prog w= .ok (.bool false) w:=by
 simp only[binOp];simp[Op.equal,Op.maxDepth,eqlIn_seqC 9999 f ts lb w]
def tdn(L Z:Nat)(W:World)(k:Nat):Prop:=k=L∨k=Z∨∃v,W.cell? ⟨L,0,none⟩=some v∧v.ownBlock=some k
theorem tdn_st{L Z n:Nat}(hL:L<n):DSt (tdn L Z) n:=by
 intro A B k hn hb h;rcases h with h|h|⟨v,h1,h2⟩
 ·exact .inl h
 ·exact .inr (.inl h)
 ·exact .inr (.inr ⟨v,(hb.cell (p:=⟨L,0,none⟩) hL).symm.trans h1,h2⟩)
structure TI(w:World)(m:Nat)(O:Nat→Prop)(pre:List PC)(W:World):Prop where
 row:∃v,Boxed W (w.heap.size+1) 26 v∧Rowing W (w.heap.size+2) v pre∧(∀k,v.ownBlock=some k→¬O k)∧∀p∈pre,p.rep (fun k=>w.heap.size+2≤k∧v.ownBlock≠some k∧¬O k) W
 lim:Boxed W w.heap.size 3 (.int .i64 (m:Int))
 bel:Below w.heap.size w W
theorem TI.grown{w W W':World}{m:Nat}{O:Nat→Prop}{pre:List PC}{row:Option Nat}(h:TI w m O pre W)(hg:W.grownBy W' row)(hr:∀r,row=some r→w.heap.size+2≤r∧∃o:Obj,W.heap[r]?=some o∧o.isCells=false):TI w m O pre W':=by
 obtain⟨v,h1,h2,h3,h4⟩:=h.row;have hk:Keep (fun k=>row=some k) W W':=⟨hg.os,hg.tape,hg.output,hg.size,fun k hk hn=>hg.block k hk (fun e=>hn e.symm)⟩
 refine⟨⟨v,h1.kept hg (fun e=>by have:=(hr _ e.symm).1;omega),h2.grown hg (fun r e=>(hr r e).2),h3,fun p hp=> ?_⟩,h.lim.kept hg (fun e=>by have:=(hr _ e.symm).1;omega),Cd.below_grown h.bel (B:=w.heap.size+2) (by omega) hg (fun r e=>(hr r e).1)⟩;exact Rep.mono (fun b hb _=>hb.1) p.c (Rep.keep hk (fun b hb _ e=>by obtain⟨-,o,ho,hc⟩:=hr b e;exact atC_not ho hc hb.2) p.c (rep_at p.c (h4 p hp)))
theorem TI.other{w A B:World}{m:Nat}{O:Nat→Prop}{pre:List PC}(h:TI w m O pre A)(hO:∀k,O k→w.heap.size+2+2≤k)(hk:Keep O A B):TI w m O pre B:=by
 obtain⟨v,h1,h2,h3,h4⟩:=h.row;have hb:Below w.heap.size A B:=hk.to_below (fun k h=>by have:=hO k h;omega) h.bel.size;refine⟨⟨v,(hk.block _ h1.lt (fun e=>by have:=hO _ e;omega)).trans h1,⟨Dt.own_keep h2.row hk h3,fun p hp=> ?_⟩,h3,fun p hp=>Rep.keep hk (fun b hb _=>hb.2.2) p.c (h4 p hp)⟩,(hk.block _ h.lim.lt (fun e=>by have:=hO _ e;omega)).trans h.lim,h.bel.trans hb⟩;exact Rep.mono (fun b hb _=>⟨hb.1,hb.2.1⟩) p.c (Rep.keep hk (fun b hb _=>hb.2.2) p.c (h4 p hp))
def putAll(g:Nat):World→Nat→List Value→World
 |w,_,[]=>w
 |w,o,v :: r=>putAll g (w.setCell ⟨g,o,none⟩ v) (o+1) r
theorem putAll_keep(g:Nat):∀(vs:List Value) (w:World) (o:Nat),Keep (fun k=>k=g) w (putAll g w o vs)
 |[],w,_o=>Keep.refl _ w
 |v :: r,w,o=>(set_keep w g o v).trans (putAll_keep g r _ _)
theorem own_putAll{base size n g cap:Nat}{e:TypeId}:∀(vs zs ys:List Value) (w:World),vs.length=zs.length→w.ownsRow base e size (.slice (some ⟨g,0,none⟩) n cap) n (ys++zs)→
  (putAll g w ys.length vs).ownsRow base e size (.slice (some ⟨g,0,none⟩) n cap) n (ys++vs)
 |[],[],ys,w,_,h=>h
 |[],_ :: _,_,_,hl,_=>by simp at hl
 |_ :: _,[],_,_,hl,_=>by simp at hl
 |v :: vs,z :: zs,ys,w,hl,h=>by
  have h1:=Pt.own_set (v:=v) h;have h2:=own_putAll vs zs (ys++[v]) _ (by simpa using hl) (by simpa using h1);rw[putAll];simpa using h2
theorem store_last{w w5:World}{base g cap:Nat}{v:Value}{ls:List PC}{p:PC}{zs:List Value}{S:Nat→Prop}(h:Rowing w base v ls)(hz:zs.length=11)(hk:Keep S w w5)(hS:∀k,base≤k→S k→v.ownBlock=some k)
  (hown:w5.ownsRow base 28 11 (.slice (some ⟨g,0,none⟩) (ls.length+1) cap) (ls.length+1) (flatC ls++zs)) (hg:v.ownBlock=some g∨w.heap.size≤g) (_hgb:base≤g) (hp:p.rep (fun k=>base≤k∧k<w.heap.size∧v.ownBlock≠some k) w):
  Rowing (putAll g w5 (ls.length*11) p.cells) base (.slice (some ⟨g,0,none⟩) (ls.length+1) cap) (ls++[p]):=by
 have h1:=own_putAll p.cells zs (flatC ls) w5 (by rw[hz];rfl) hown;rw[flatC_length]at h1;have hk2:Keep (fun k=>S k∨k=g) w (putAll g w5 (ls.length*11) p.cells):=(hk.le fun k e=> .inl e).trans ((putAll_keep g p.cells w5 (ls.length*11)).le fun k e=> .inr e);have hno:∀b,base≤b→b<w.heap.size→v.ownBlock≠some b→¬ (S b∨b=g):=fun b h1 h2 h3 h4=>by
  rcases h4 with h4|h4
  ·exact h3 (hS b h1 h4)
  ·rcases hg with hg|hg
   ·rw[h4]at h3;exact h3 hg
   ·omega
 have hng:∀b,b<w.heap.size→v.ownBlock≠some b→(Value.slice (some ⟨g,0,none⟩) (ls.length+1) cap).ownBlock≠some b:=fun b h2 h3 e=>by
  have e:g=b:=by simpa[Value.ownBlock]using e
  rcases hg with hg|hg
  ·rw[e]at hg;exact h3 hg
  ·omega
 refine⟨by rw[List.length_append,flatC_app];exact h1,fun q hq=> ?_⟩;rcases List.mem_append.1 hq with hq|hq
 ·have hr0:q.rep (fun k=>k<w.heap.size∧base≤k∧v.ownBlock≠some k) w:=Rep.mono (fun b hb hl=>⟨hl,hb⟩) q.c (h.rep q hq);exact Rep.mono (fun b hb _=>⟨hb.2.1,hng b hb.1 hb.2.2⟩) q.c (Rep.keep hk2 (fun b hb _=>hno b hb.2.1 hb.1 hb.2.2) q.c hr0)
 ·obtain rfl:q=p:=by simpa using hq
  exact Rep.mono (fun b hb _=>⟨hb.1,hng b hb.2.1 hb.2.2⟩) q.c (Rep.keep hk2 (fun b hb _=>hno b hb.1 hb.2.1 hb.2.2) q.c hp)
theorem cutG(G X:Prop)(m:G→X)(r:G):X:=m r
theorem putAll_eq(g:Nat):∀(vs:List Value) (w:World) (o:Nat),putAll g w o vs=w.setCells g o vs
 |[],_,_=>rfl
 |v :: r,w,o=>by rw[putAll,World.setCells,putAll_eq g r]
theorem setCell_comm{g L:Nat}(hne:g≠L)(w:World)(i j:Nat)(u v:Value):(w.setCell ⟨g,i,none⟩ u).setCell ⟨L,j,none⟩ v=(w.setCell ⟨L,j,none⟩ v).setCell ⟨g,i,none⟩ u:=by
 unfold World.setCell;congr 1;refine Array.ext_getElem? fun k=> ?_
 simp only[Array.getElem?_modify];by_cases h1:g=k
 ·have h2:¬L=k:=fun e=>hne (h1.trans e.symm)
  simp[h1,h2]
 ·by_cases h2:L=k
  ·simp[h1,h2]
  ·simp[h1,h2]
theorem setCells_comm{g L:Nat}(hne:g≠L):∀(vs:List Value) (w:World) (o j:Nat) (v:Value),(w.setCell ⟨L,j,none⟩ v).setCells g o vs=(w.setCells g o vs).setCell ⟨L,j,none⟩ v
 |[],_,_,_,_=>rfl
 |u :: r,w,o,j,v=>by rw[World.setCells,World.setCells,←setCell_comm hne,setCells_comm hne r]
theorem setCells_keep(g:Nat)(vs:List Value)(w:World)(o:Nat):Keep (fun k=>k=g) w (w.setCells g o vs):=by rw[←putAll_eq];exact putAll_keep g vs w o
theorem kr_put{L Z:Nat}(hLZ:L≠Z)(W:World)(o':Obj):KR (tdn L Z) W (W.putObj Z o'):=by
 have hg:=grownBy_putObj' W Z o';refine⟨hg.os,hg.tape,hg.output,hg.size,fun k hk hn=>hg.block k hk (fun e=>by cases e;exact hn (.inr (.inl rfl))),fun k hk=> .inl ?_⟩;rcases hk with h|h|⟨v,h1,h2⟩
 ·exact .inl h
 ·exact .inr (.inl h)
 ·refine .inr (.inr ⟨v,?_,h2⟩);rw[←h1];unfold World.cell?;by_cases hl:L<W.heap.size
  ·rw[hg.block L hl (fun e=>by cases e;exact hLZ rfl)]
  ·have e1:(W.putObj Z o').heap[L]?=W.heap[L]?:=by
    unfold World.putObj;simp[Array.getElem?_eq_none (Nat.le_of_not_lt hl)];omega
   rw[e1]
theorem VCD.grown{L Z lo:Nat}{O:Nat→Prop}{x:PC}{W W':World}{row:Option Nat}(h:VCD (tdn L Z) lo O x W)(hL:L<W.heap.size)(hg:W.grownBy W' row)(hr:∀r,row=some r→L<r∧∃o:Obj,W.heap[r]?=some o∧o.isCells=false):VCD (tdn L Z) lo O x W':=by
 have hk:Keep (fun k=>row=some k) W W':=⟨hg.os,hg.tape,hg.output,hg.size,fun k hk hn=>hg.block k hk (fun e=>hn e.symm)⟩
 have same:∀b,tdn L Z W' b→tdn L Z W b:=fun b hb=>by
  rcases hb with hb|hb|⟨v,h1,h2⟩
  ·exact .inl hb
  ·exact .inr (.inl hb)
  ·exact .inr (.inr ⟨v,(hk.cell 0 hL (fun e=>by have:=(hr _ e).1;omega)).symm.trans h1,h2⟩)
 exact⟨Rep.mono (fun b hb _=>⟨hb.1.1,fun e=>hb.1.2.1 (same b e),hb.1.2.2⟩) _ (Rep.keep hk (fun b hb _ e=>by obtain⟨-,o,ho,hc⟩:=hr b e;exact atC_not ho hc hb.2) _ (rep_at _ h.1)),h.2⟩
theorem rowK_mono{F G:Nat→Prop}{w:World}{v:Value}{l:List C}(hFG:∀b,F b→G b)(h:Row F w v l):Row G w v l:=by
 obtain⟨a,c,e1,e2,e3⟩:=h;refine⟨a,c,e1,e2,fun hn=> ?_⟩;obtain⟨b,o,g1,g2,g3,g4⟩:=e3 hn;exact⟨b,o,g1,hFG b g2,g3,Reps.mono (fun b hb _=>hFG b hb) l g4⟩
theorem take_prefix{α:Type}{pre xs:List α}{m:Nat}(h:pre<+:xs)(hm:m≤pre.length):pre.take m=xs.take m:=by
 obtain⟨r,rfl⟩:=h;rw[List.take_append_of_le_length hm]
def TAx(w:World)(m:Nat)(tm:Nat→PC→Array Value)(O:Nat→Prop)(pre:List PC)(x:PC)(a':Act)(W:World):Prop:=
 (TI w m O pre W∧pre.length≤m)∧(∀k,O k→w.heap.size+2+2≤k∧k<W.heap.size)∧VCD (tdn (w.heap.size+1) (w.heap.size+3)) (w.heap.size+2) O x W∧∃Xb,w.heap.size+2≤Xb∧(∀v,W.cell? ⟨w.heap.size+1,0,none⟩=some v→v.ownBlock≠some Xb)∧Bc W Xb x.c x.vm x.vl x.vt x.vp x.vk∧a'= {tmps:=tm Xb x,defers:=[]}
end Co
theorem coTold_any{F:Nat→Prop}(c:Co.C)(vm vl vt vp vk:Value)(m:Nat)(hm:m≤1048576)(db:Nat)(w:World)(hW:Co.Wf c)(hR:Co.Rep F w c vm vl vt vp vk)(hd:Co.Bc w db c vm vl vt vp vk):
  Calls Tryz.prog 16 #[.func (.func 43) #[] #[.pointer (some ⟨db,0,none⟩)],.int .i64 (m:Int)] w fun e w'=>∃v,e= .returned v∧Co.Row (fun k=>w.heap.size≤k) w' v ((Co.all c).take m)∧Below w.heap.size w w':=by
 refine(callsIn_wide (n:=12)).1 ?_;refine callsIn_of_wp_marks Tryz.func16 rfl trivial ?_ rfl;simp only[Tryz.ntmps16,List.size_toArray,List.length_cons,List.length_nil,Nat.reduceAdd,Nat.reduceSub,Array.replicate_succ,Array.replicate_zero,List.push_toArray,List.append_toArray,List.nil_append,List.cons_append]
 gi_wp2
 simp only[Co.eql_seqC]
 gi_wp2
 have bM:=Boxed.new w 3 (.int .i64 (m:Int));have bL:=Boxed.new (w.alloc (.cells #[.int .i64 (m:Int)] 3)) 26 (.slice none 0 0);rw[World.size_alloc]at bL;have hB0:Below w.heap.size w ((w.alloc (.cells #[.int .i64 (m:Int)] 3)).alloc (.cells #[.slice none 0 0] 26)):=((Below.refl _ w).alloc (Nat.le_refl _) _).alloc (by simp) _;have hsz:((w.alloc (.cells #[.int .i64 (m:Int)] 3)).alloc (.cells #[.slice none 0 0] 26)).heap.size=w.heap.size+2:=by simp
 have bM1:=bM.alloc (.cells #[.slice none 0 0] 26);obtain⟨W0,hW0⟩:∃W0,(w.alloc (.cells #[.int .i64 (m:Int)] 3)).alloc (.cells #[.slice none 0 0] 26)=W0:=⟨_,rfl⟩
 rw[hW0]at bM1 bL hB0 hsz ⊢;clear hW0 bM;have hdb:db<w.heap.size:=hd.lt;have HSZ:=zh hsz;have HB0:=zh hB0;have HLEN:=zh (Co.all_len c);refine Rb.wpIn_rangeO (n:=12) rfl (by omega) (gf:=43) (lb:=#[.pointer (some ⟨db,0,none⟩)]) rfl trivial (enters_of Tryz.func43 (by kernel_rfl) rfl)
  (encs:=Co.encC) (Kp:=Co.KR (Co.tdn (w.heap.size+1) (w.heap.size+3))) (V:=Co.VCD (Co.tdn (w.heap.size+1) (w.heap.size+3)) (w.heap.size+2)) (S:=fun ys=>ys.map Co.PC.c=Co.all c) (Sp:=fun ys=>ys.map Co.PC.c<+:Co.all c) (N:=(Co.all c).length) (w0:=W0)
  (by
   have h:=coAll_stopsD 11 (F:=fun k=>k<w.heap.size) c vm vl vt vp vk W0 (Co.tdn (w.heap.size+1) (w.heap.size+3)) db (Co.tdn_st (by omega)) (fun k hk=>by
     rcases hk with h|h|⟨v,h1,h2⟩
     ·omega
     ·omega
     ·rw[bL.cell]at h1;cases h1;cases h2) hW ((Co.Rep.mono (fun _ _ h=>h) c hR).below hB0) (fun k hk=>⟨by omega,fun h=>by
     rcases h with h|h|⟨v,h1,h2⟩
     ·omega
     ·omega
     ·rw[bL.cell]at h1;cases h1;cases h2⟩) (hd.keep (S:=fun _=>False) (keep_of_below hB0) id)
   rw[hsz]at h;exact h)
  (fun h k=>h.trans k) (fun W o o' ho hc=>by rw[hsz];exact Co.kr_put (by omega) W o') (Below.refl _ _) (fun _=>rfl)
  (fun O pre W=>Co.TI w m O pre W∧pre.length≤m) (fun O cd pre W=>cd= .exit 0∧m≤pre.length∧Co.TI w m O (pre.take m) W)
  (fun O pre W W' row h hg hr=>⟨h.1.grown hg (fun r e=>by rw[←hsz];exact hr r e),h.2⟩)
  (fun O cd pre W W' row h hg hr=>⟨h.1,h.2.1,h.2.2.grown hg (fun r e=>by rw[←hsz];exact hr r e)⟩)
  (fun O pre A B hO h hk=>⟨h.1.other (fun k hk=>by rw[←hsz];exact hO k hk) hk,h.2⟩)
  (fun O cd pre A B hO h hk=>⟨h.1,h.2.1,h.2.2.other (fun k hk=>by rw[←hsz];exact hO k hk) hk⟩)
  (fun O hO=>⟨⟨⟨_,bL,Co.Rowing.nil _ _,(fun k e=>nomatch e),(fun p hp=>nomatch hp)⟩,bM1,hB0⟩,Nat.zero_le _⟩)
  (Co.TAx w m (fun Xb p=>#[.func (.func 43) #[] #[.pointer (some ⟨db,0,none⟩)],.int .i64 (m:Int),undef,.pointer (some ⟨w.heap.size,0,none⟩),.slice none 0 0,.pointer (some ⟨w.heap.size+1,0,none⟩),.pointer (some ⟨Xb,0,none⟩),.func (.func 43) #[] #[.pointer (some ⟨db,0,none⟩)],.bool false,.func (.func 43) #[] #[.pointer (some ⟨db,0,none⟩)],.agg #[.int .i64 p.c.k,.int .i64 p.c.n,.string p.c.s,.int .i64 p.c.d.k,.int .i64 p.c.d.n,.string p.c.d.s,p.vm,p.vl,p.vt,p.vp,p.vk],undef,undef,undef,undef,undef,undef,undef,undef,undef,undef,undef]))
  (fun O pre y a' _ W W' row h hg hr=> ?grown)
  ?assign ?body ?done ?stop
 case grown=>
  obtain⟨h1,h2,h3,Xb,h4,h45,h5,h6⟩:=h;refine⟨⟨h1.1.grown hg (fun r e=>by rw[←hsz];exact hr r e),h1.2⟩,fun k hk=>⟨(h2 k hk).1,Nat.lt_of_lt_of_le (h2 k hk).2 hg.size⟩,?_,Xb,h4,(fun v hv=> ?_),(hg.block Xb h5.lt (fun e=> ?_)).trans h5,h6⟩
  ·obtain⟨v,hb,-⟩:=h1.1.row;exact h3.grown hb.lt hg (fun r e=>⟨by have:=(hr r e).1;omega,(hr r e).2⟩)
  ·obtain⟨v0,hb,-⟩:=h1.1.row;have e1:=(hb.kept hg (fun e=>by have:=(hr _ e.symm).1;omega)).cell;rw[e1]at hv;cases hv;exact h45 _ hb.cell
  ·obtain⟨-,o,ho,hc⟩:=hr Xb e.symm;rw[show W.heap[Xb]?=_ from h5]at ho;cases ho;cases hc
 case assign=>
  rintro O l pre ⟨pc,pm,pl,pt,pp,pk⟩ W K hO ⟨hT,hlm⟩ hV hK;have HV:=zh hV;have HT:=zh hT;have HO:=zh hO;have hwz:=hT.bel.size;obtain⟨b1,n1,q1,b2,n2,q2,b3,n3,q3,b4,n4,q4,b5,n5,q5,e1,e2,e3,e4,e5⟩:=Co.Rep.forms5 (show Co.Rep _ W pc pm pl pt pp pk from hV.1);subst e1 e2 e3 e4 e5;unfold Co.encC Co.V;dsimp only;clear hV hT hO
  gi_wp2
  have hL:w.heap.size+1<W.heap.size:=by obtain⟨v,h1,-⟩:=HT.out.row;exact h1.lt
  refine hK _ _ ?_ ?_ ?_
  ·exact(KeepsOthers.alloc _ _).from _
  ·exact Co.KR.of_below (Co.tdn_st (n:=w.heap.size+2) (by omega)) (by omega) ((Below.refl _ _).alloc (Nat.le_refl _) _)
  refine⟨⟨HT.out.grown (World.grownBy_alloc W _ none) (by simp),hlm⟩,fun k hk=> ?_,?_,W.heap.size,by omega,(fun v hv=> ?_),Hp.new rfl,rfl⟩
  ·have:=HO.out k hk;rw[World.size_alloc];omega
  ·exact Co.VCD.grown HV.out hL (World.grownBy_alloc W _ none) (by simp)
  ·obtain⟨v0,hb,hr0,-⟩:=HT.out.row;have e1:=(hb.alloc (.cells #[.int .i64 pc.k,.int .i64 pc.n,.string pc.s,.int .i64 pc.d.k,.int .i64 pc.d.n,.string pc.d.s,.slice b1 n1 q1,.slice b2 n2 q2,.slice b3 n3 q3,.slice b4 n4 q4,.slice b5 n5 q5] 28)).cell;rw[e1]at hv;cases hv;exact fun e=>Nat.lt_irrefl _ (Dt.own_lt hr0.row _ e).2
 case body=>
  rintro O l pre ⟨pc,pm,pl,pt,pp,pk⟩ a' W hl ⟨r,hr⟩ ⟨⟨hT,hlm⟩,hO,hV,Xb,hXl,hXr,hX,rfl⟩ hlt;dsimp only at hX hV ⊢;have HT:=zh hT;obtain⟨v,hb,hrow,hno,hreps⟩:=hT.row;have cL:=hb.cell;have fL:=hb.frozen;have cM:=hT.lim.cell;obtain⟨a,cp,rfl⟩:=Dt.row_form hrow.row;by_cases hge:m≤pre.length
  ·have hgei:(m:Int)≤(pre.length:Int):=by omega
   have he:(pre++[(⟨pc,pm,pl,pt,pp,pk⟩:Co.PC)]).take m=pre:=by rw[List.take_append_of_le_length hge,List.take_of_length_le hlm]
   have HE:=zh he;clear he hT hb hrow hno hreps hV hX hXr hO
   gi_wp2
   exact⟨KeepsFrom.refl _ _,⟨rfl,rfl,rfl,Nat.le_refl _,fun _ _ _=>rfl,fun _ h=> .inl h⟩,rfl,by simp;omega,by rw[HE.out];exact HT.out⟩
  ·have hgei:¬ (m:Int)≤(pre.length:Int):=by omega
   have HB:=zh hb;have HROW:=zh hrow;have HNO:=zh hno;have HREPS:=zh hreps;have HV:=zh hV;have HX:=zh hX;have HXR:=zh (hXr _ cL);have HO:=zh hO;obtain⟨b1,n1,q1,b2,n2,q2,b3,n3,q3,b4,n4,q4,b5,n5,q5,e1,e2,e3,e4,e5⟩:=Co.Rep.forms5 (show Co.Rep _ W pc pm pl pt pp pk from hV.1);subst e1 e2 e3 e4 e5;clear hT hb hrow hno hreps hV hX hXr hO
   gi_wp2
   refine Li.held (S:=fun W'=>Co.Bc W' Xb pc (.slice b1 n1 q1) (.slice b2 n2 q2) (.slice b3 n3 q3) (.slice b4 n4 q4) (.slice b5 n5 q5)) ?_ (by kernel_rfl) (by kernel_rfl) ?_ (fun hHeld=> ?_)
   ·rintro⟨a9,w9,h9⟩;exact h9
   ·exact HX.out.keep (S:=fun _=>False) (keep_of_below (Co.drew_below W)) id
   ·clear cL fL cM;refine Zm.u 1 ?_ rfl ?_ ?_;rotate_left
    ·intro w9 hSw;have hC:Hp w9 Xb _ _:=hSw;obtain⟨q0,q1,q2,q3,q4,q5,q6,q7,q8,q9,q10⟩:=hC.c11;clear hC;clear hSw;go_simp;try with_reducible rfl
    simp only[Act.put,za,zb,zc];have cLd:=((Co.drew_below W).cell (p:=⟨w.heap.size+1,0,none⟩) HB.out.lt).trans HB.out.cell;have HSd:Hid (Co.Bc W.drew Xb pc (.slice b1 n1 q1) (.slice b2 n2 q2) (.slice b3 n3 q3) (.slice b4 n4 q4) (.slice b5 n5 q5)):=HX.out.keep (S:=fun _=>False) (keep_of_below (Co.drew_below W)) id;obtain⟨wD,hwD⟩:∃wD,W.drew.alloc (.cells #[.int .i64 0,.int .i64 0,.string ⟨#[]⟩,.int .i64 0,.int .i64 0,.string ⟨#[]⟩,.slice none 0 0,.slice none 0 0,.slice none 0 0,.slice none 0 0,.slice none 0 0] 28)=wD:=⟨_,rfl⟩
    have hbD:Below W.heap.size W wD:=by rw[←hwD];exact(Co.drew_below W).alloc (by have:=(Co.drew_below W).size;omega) _
    have hsrc:Ap.Src wD (.slice (some ⟨W.heap.size,0,none⟩) 1 1) 1 [.int .i64 0,.int .i64 0,.string ⟨#[]⟩,.int .i64 0,.int .i64 0,.string ⟨#[]⟩,.slice none 0 0,.slice none 0 0,.slice none 0 0,.slice none 0 0,.slice none 0 0]:=by
     rw[←hwD];have h:=Co.srcNew (w:=W) (t:=28) (a:= .int .i64 0) (b:= .int .i64 0) (c:= .string ⟨#[]⟩) (d:= .int .i64 0) (e:= .int .i64 0) (f:= .string ⟨#[]⟩) (g:= .slice none 0 0) (h:= .slice none 0 0) (i:= .slice none 0 0) (j:= .slice none 0 0) (k:= .slice none 0 0) rfl;exact h
    have HBD:=zh hbD;have HSRC:=zh hsrc;have HWD:=zh hwD;have hSD:Co.Bc wD Xb pc (.slice b1 n1 q1) (.slice b2 n2 q2) (.slice b3 n3 q3) (.slice b4 n4 q4) (.slice b5 n5 q5):=
     HX.out.keep (S:=fun _=>False) (keep_of_below hbD) id
    have HSD:=zh hSD;clear hbD hsrc hSD;have cLD:=(HBD.out.cell (p:=⟨w.heap.size+1,0,none⟩) HB.out.lt).trans HB.out.cell;apply Co.cutG
    ·intro rest;refine Zm.q 0 3 rfl rfl (fun K hK=> ?_) (fun K hK=> ?_)
     ·go_simp;refine hK.out _ _ HSd.out (fun hHeld=> ?_);clear hK K;refine Zm.u 2 ?_ rfl ?_ ?_;rotate_left
      ·intro w9 hSw;clear hSw;go_simp;try with_reducible rfl
      simp only[Act.put,za,zb,zc];refine Zm.r 3 rfl (fun K hK=> ?_);go_simp;try rw[hwD]
      refine hK.out _ _ HSD.out (fun hHeld=> ?_);clear hK K;exact rest
     ·go_simp;try rw[hwD]
      refine hK.out _ _ HSD.out (fun hHeld=> ?_);clear hK K;refine Zm.r 0 rfl (fun K hK=> ?_);go_simp;refine hK.out _ _ HSD.out (fun hHeld=> ?_);clear hK K;refine Zm.u 2 ?_ rfl ?_ ?_;rotate_left
      ·intro w9 hSw;clear hSw;go_simp;try with_reducible rfl
      simp only[Act.put,za,zb,zc];exact rest
    clear cLd cLD hwD;have hHeld:=HSD.out;have hrD:wD.ownsRow (w.heap.size+2) 28 11 (.slice a pre.length cp) pre.length (Co.flatC pre):=(HROW.out.below HBD.out).row;have HRD:=zh hrD;clear hrD;obtain⟨i0,hi,hz0,hz1,hz2⟩:=info_parts Co.infoC;have hwz:=HT.out.bel.size;have hbs:w.heap.size+2≤wD.heap.size:=by have:=HB.out.lt;have:=HBD.out.size;omega
    have hlm2:pre.length+1≤1048577:=by omega
    refine Zm.r 4 rfl (fun K hK=> ?_);refine Ap.step rfl (.tmp 15) (.tmp 18) 26 (by kernel_rfl) (w.heap.size+2) 28 i0 (.agg #[.int .i64 0,.int .i64 0,.string ⟨#[]⟩,.int .i64 0,.int .i64 0,.string ⟨#[]⟩,.slice none 0 0,.slice none 0 0,.slice none 0 0,.slice none 0 0,.slice none 0 0]) 11 184 Tryz.underlying26 hi hz0 hz1 hz2 rfl (by decide) (.slice a pre.length cp) pre.length (Co.flatC pre) (by kernel_rfl) HRD.out (.slice (some ⟨W.heap.size,0,none⟩) 1 1) 1 [.int .i64 0,.int .i64 0,.string ⟨#[]⟩,.int .i64 0,.int .i64 0,.string ⟨#[]⟩,.slice none 0 0,.slice none 0 0,.slice none 0 0,.slice none 0 0,.slice none 0 0] (by kernel_rfl) HSRC.out rfl (by simp[Value.oneCell']) (by unfold maxLen;omega) (by omega) hbs ?_;intro v' w5 hown hgrow hat;obtain⟨g,c5,rfl⟩:∃g c5,v'= .slice (some ⟨g,0,none⟩) (pre.length+1) c5:=by
     rcases hown.2 with⟨-,h0⟩|⟨g,c5,-,e,-⟩
     ·omega
     ·exact⟨g,c5,e⟩
    have hrl:∀k,(Value.slice a pre.length cp).ownBlock=some k→w.heap.size+2≤k∧k<W.heap.size:=fun k e=>Dt.own_lt HROW.out.row k e
    have hS5:Co.Bc w5 Xb pc (.slice b1 n1 q1) (.slice b2 n2 q2) (.slice b3 n3 q3) (.slice b4 n4 q4) (.slice b5 n5 q5):=(hgrow.block Xb (Hp.lt HSD.out) (fun e=>HXR.out e.symm)).trans HSD.out;have HS5:=zh hS5;have HOWN:=zh hown;have HGR:=zh hgrow;have HAT:=zh hat;clear hS5 hown hgrow hat hrl;refine hK.out _ _ HS5.out (fun hHeld=> ?_);clear hK K;have hlti:(pre.length:Int)<(pre.length:Int)+1:=by omega
    have hcell:∀(j:Nat) (u:Value),[Value.int .i64 0,.int .i64 0,.string ⟨#[]⟩,.int .i64 0,.int .i64 0,.string ⟨#[]⟩,.slice none 0 0,.slice none 0 0,.slice none 0 0,.slice none 0 0,.slice none 0 0][j]?=some u→w5.cell? ⟨g,pre.length*11+j,none⟩=some u:=fun j u hu=>by
     have h:=HOWN.out.cells (g:=g) rfl (pre.length*11+j) u (by rw[List.getElem?_append_right (by rw[Co.flatC_length];omega),Co.flatC_length,Nat.add_sub_cancel_left];exact hu);rw[Addr.add_mid,Nat.zero_add]at h;exact h
    have hgb:w.heap.size+2≤g∧g<w5.heap.size:=Dt.own_lt HOWN.out g rfl;have hXg:Xb≠g:=by
     intro e;rcases HAT.out with h|h
     ·exact HXR.out (by rw[←h,e];rfl)
     ·have h:g=wD.heap.size:=by simpa[Value.ownBlock]using h
      have h1:=Hp.lt HX.out;have h2:=HBD.out.size;omega
    have hfz:∀j,w5.frozen? ⟨g,j,none⟩=false:=fun j=>by
     rcases HOWN.out.2 with⟨h1,h0⟩|⟨g',cap',cur',e1,e2,e3,e4⟩
     ·omega
     ·cases e1;exact Lib.frozen_of_heap e3 j
    have HTH:Hid (w5.there g (pre.length*11) 11):=fun j hj=>by
     refine⟨?_,hfz _⟩;rw[hcell j _ (List.getElem?_eq_getElem (by simpa using hj))]
     rfl
    have HBL:Hid (Boxed w5 (w.heap.size+1) 26 (.slice a pre.length cp)):=by
     have h1:wD.heap[w.heap.size+1]?=some (.cells #[.slice a pre.length cp] 26 (0,0)):=(HBD.out.block _ HB.out.lt).trans HB.out;refine(HGR.out.block _ (Array.getElem?_eq_some_iff.1 h1).1 (fun e=> ?_)).trans h1;have:=(Dt.own_lt HROW.out.row _ e.symm).1;omega
    obtain⟨w6,hw6⟩:∃w6,w5.setCells g (pre.length*11) (#[.int .i64 pc.k,.int .i64 pc.n,.string pc.s,.int .i64 pc.d.k,.int .i64 pc.d.n,.string pc.d.s,.slice b1 n1 q1,.slice b2 n2 q2,.slice b3 n3 q3,.slice b4 n4 q4,.slice b5 n5 q5]:Array Value).toList=w6:=⟨_,rfl⟩
    have hk6:Keep (fun k=>k=g) w5 w6:=by rw[←hw6];exact Co.setCells_keep _ _ _ _
    have HBL6:Hid (Boxed w6 (w.heap.size+1) 26 (.slice a pre.length cp)):=(hk6.block _ HBL.out.lt (by omega)).trans HBL.out;have HS6:Hid (Co.Bc w6 Xb pc (.slice b1 n1 q1) (.slice b2 n2 q2) (.slice b3 n3 q3) (.slice b4 n4 q4) (.slice b5 n5 q5)):=HS5.out.keep hk6 hXg;obtain⟨w7,hw7⟩:∃w7,w5.setCell ⟨w.heap.size+1,0,none⟩ (.slice (some ⟨g,0,none⟩) (pre.length+1) c5)=w7:=⟨_,rfl⟩
    have hk7:Keep (fun k=>k=w.heap.size+1) w5 w7:=by rw[←hw7];exact set_keep _ _ _ _
    have HS7:Hid (Co.Bc w7 Xb pc (.slice b1 n1 q1) (.slice b2 n2 q2) (.slice b3 n3 q3) (.slice b4 n4 q4) (.slice b5 n5 q5)):=HS5.out.keep hk7 (by omega);have HTH7:Hid (w7.there g (pre.length*11) 11):=fun j hj=>by
     have h:=HTH.out j hj;have e1:w7.heap[g]?=w5.heap[g]?:=hk7.block g hgb.2 (by omega);exact⟨by rw[World.cell?_of_block (a:=⟨g,pre.length*11+j,none⟩) e1];exact h.1,by rw[World.frozen?_of_block (a:=⟨g,pre.length*11+j,none⟩) e1];exact h.2⟩
    obtain⟨wF,hwF⟩:∃wF,w6.setCell ⟨w.heap.size+1,0,none⟩ (.slice (some ⟨g,0,none⟩) (pre.length+1) c5)=wF:=⟨_,rfl⟩
    have hwF7:w7.setCells g (pre.length*11) (#[.int .i64 pc.k,.int .i64 pc.n,.string pc.s,.int .i64 pc.d.k,.int .i64 pc.d.n,.string pc.d.s,.slice b1 n1 q1,.slice b2 n2 q2,.slice b3 n3 q3,.slice b4 n4 q4,.slice b5 n5 q5]:Array Value).toList=wF:=by rw[←hwF,←hw6,←hw7];exact Co.setCells_comm (by omega) _ _ _ _ _
    have HBF:Hid (Boxed wF (w.heap.size+1) 26 (.slice (some ⟨g,0,none⟩) (pre.length+1) c5)):=by rw[←hwF];exact HBL6.out.set _
    have hkF:Keep (fun k=>k=w.heap.size+1) w6 wF:=by rw[←hwF];exact set_keep _ _ _ _
    have HSF:Hid (Co.Bc wF Xb pc (.slice b1 n1 q1) (.slice b2 n2 q2) (.slice b3 n3 q3) (.slice b4 n4 q4) (.slice b5 n5 q5)):=HS6.out.keep hkF (by omega);have HKF:=zh hkF;have HK6:=zh hk6;have HGB:=zh hgb;clear hcell hfz hkF hk6 hk7 hXg hgb;refine Zm.u 5 ?_ rfl ?_ ?_;rotate_left
    ·intro w9 hSw;clear hSw;go_simp;try with_reducible rfl
    simp only[Act.put,za,zb,zc];apply Co.cutG
    ·intro rest;refine Zm.q 6 7 rfl rfl (fun K hK=> ?_) (fun K hK=> ?_)
     ·refine wp_store_mid 28 (.tmp 20) (.tmp 16) rfl g (pre.length*11) #[.int .i64 pc.k,.int .i64 pc.n,.string pc.s,.int .i64 pc.d.k,.int .i64 pc.d.n,.string pc.d.s,.slice b1 n1 q1,.slice b2 n2 q2,.slice b3 n3 q3,.slice b4 n4 q4,.slice b5 n5 q5] (by kernel_rfl) (by kernel_rfl) HTH.out (by kernel_rfl) (by kernel_rfl) ?_;rw[hw6];refine hK.out _ _ HS6.out (fun hHeld=> ?_);clear hK K;have cL6:=HBL6.out.cell;have fL6:=HBL6.out.frozen;refine Zm.r 7 rfl (fun K hK=> ?_);go_simp;try rw[hwF]
      refine hK.out _ _ HSF.out (fun hHeld=> ?_);clear hK K;refine wpAnyH_done (by kernel_rfl) ?_ _;exact rest
     ·have cL5:=HBL.out.cell;have fL5:=HBL.out.frozen;go_simp;try rw[hw7]
      refine hK.out _ _ HS7.out (fun hHeld=> ?_);clear hK K;refine Zm.r 6 rfl (fun K hK=> ?_);refine wp_store_mid 28 (.tmp 20) (.tmp 16) rfl g (pre.length*11) #[.int .i64 pc.k,.int .i64 pc.n,.string pc.s,.int .i64 pc.d.k,.int .i64 pc.d.n,.string pc.d.s,.slice b1 n1 q1,.slice b2 n2 q2,.slice b3 n3 q3,.slice b4 n4 q4,.slice b5 n5 q5] (by kernel_rfl) (by kernel_rfl) HTH7.out (by kernel_rfl) (by kernel_rfl) ?_;rw[hwF7];refine hK.out _ _ HSF.out (fun hHeld=> ?_);clear hK K;refine wpAnyH_done (by kernel_rfl) ?_ _;exact rest
    clear hwF hwF7;go_wp2;have hsz1:W.heap.size≤wD.heap.size:=HBD.out.size;have hkD5:Keep (fun k=>(Value.slice a pre.length cp).ownBlock=some k) wD w5:=⟨HGR.out.os,HGR.out.tape,HGR.out.output,HGR.out.size,fun k hk hn=>HGR.out.block k hk (fun e=>hn e.symm)⟩
    have hkD6:Keep (fun k=>(Value.slice a pre.length cp).ownBlock=some k∨k=g) wD w6:=(hkD5.le fun k h=> .inl h).trans (HK6.out.le fun k h=> .inr h);have hkWF:Keep (fun k=>(Value.slice a pre.length cp).ownBlock=some k∨k=g∨k=w.heap.size+1) W wF:=((keep_of_below HBD.out).trans (hkD6.le fun k h=>h.elim .inl (fun h=> .inr (.inl h)))).trans (HKF.out.le fun k h=> .inr (.inr h));have hg:(Value.slice a pre.length cp).ownBlock=some g∨g=wD.heap.size:=HAT.out.elim (fun h=> .inl (h.symm.trans rfl)) (fun h=> .inr (by simpa[Value.ownBlock]using h));have hol:∀k,(Value.slice a pre.length cp).ownBlock=some k→w.heap.size+2≤k∧k<W.heap.size:=fun k e=>Dt.own_lt HROW.out.row k e
    have hLW:=HB.out.lt;have hdn:∀k,¬Co.tdn (w.heap.size+1) (w.heap.size+3) W k→(Value.slice a pre.length cp).ownBlock≠some k:=fun k h e=>h (.inr (.inr ⟨_,HB.out.cell,e⟩))
    have hrx:Co.Rep (fun k=>(w.heap.size+2≤k∧(Value.slice a pre.length cp).ownBlock≠some k∧¬O k)∧k<W.heap.size) W pc (.slice b1 n1 q1) (.slice b2 n2 q2) (.slice b3 n3 q3) (.slice b4 n4 q4) (.slice b5 n5 q5):=Co.Rep.mono (fun b hb hl=>⟨⟨hb.1,hdn b hb.2.1,hb.2.2⟩,hl⟩) pc HV.out.1;have hnk:∀k,(w.heap.size+2≤k∧(Value.slice a pre.length cp).ownBlock≠some k∧¬O k)∧k<W.heap.size→¬ ((Value.slice a pre.length cp).ownBlock=some k∨k=g∨k=w.heap.size+1):=fun k hk h=>by
     rcases h with h|h|h
     ·exact hk.1.2.1 h
     ·rcases hg with e|e
      ·exact hk.1.2.1 (by rw[h];exact e)
      ·omega
     ·omega
    have hng:∀k,(w.heap.size+2≤k∧(Value.slice a pre.length cp).ownBlock≠some k∧¬O k)∧k<W.heap.size→(w.heap.size+2≤k∧(Value.slice (some ⟨g,0,none⟩) (pre.length+1) c5).ownBlock≠some k∧¬O k):=fun k hk=>⟨hk.1.1,fun e=>by
     have e:g=k:=by simpa[Value.ownBlock]using e
     rcases hg with h|h
     ·exact hk.1.2.1 (by rw[←e];exact h)
     ·omega,hk.1.2.2⟩
    have hrow6:Co.Rowing w6 (w.heap.size+2) (Value.slice (some ⟨g,0,none⟩) (pre.length+1) c5) (pre++[(⟨pc,.slice b1 n1 q1,.slice b2 n2 q2,.slice b3 n3 q3,.slice b4 n4 q4,.slice b5 n5 q5⟩:Co.PC)]):=by
     have h:=Co.store_last (w:=wD) (w5:=w5) (base:=w.heap.size+2) (p:=(⟨pc,.slice b1 n1 q1,.slice b2 n2 q2,.slice b3 n3 q3,.slice b4 n4 q4,.slice b5 n5 q5⟩:Co.PC)) (HROW.out.below HBD.out) rfl hkD5 (fun k _ h=>h) HOWN.out (hg.elim .inl (fun h=> .inr (Nat.le_of_eq h.symm))) HGB.out.1
      (Co.Rep.mono (fun b hb _=>⟨hb.1.1,Nat.lt_of_lt_of_le hb.2 hsz1,hb.1.2.1⟩) pc (hrx.below HBD.out))
     rw[Co.putAll_eq]at h;rw[←hw6];exact h
    have hlen:pre.length+1≤m:=by omega
    refine⟨⟨hkWF.size,fun k o hk ho hc=> ?_⟩,⟨hkWF.os,hkWF.tape,hkWF.output,hkWF.size,fun k hk hn=>hkWF.block k hk (fun h=> ?_),fun k hk=> ?_⟩,⟨⟨(Value.slice (some ⟨g,0,none⟩) (pre.length+1) c5),HBF.out,?_,fun k e hO=> ?_,fun p hp=> ?_⟩,?_,?_⟩,by rw[List.length_append];exact hlen⟩
    ·have hkl:k<W.heap.size:=(Array.getElem?_eq_some_iff.1 ho).1;have hcell:∀j,(Value.slice a pre.length cp).ownBlock=some j→∃cs ty fr,W.heap[j]?=some (.cells cs ty fr):=fun j e=>by
      rcases HROW.out.row.2 with⟨h1,h0⟩|⟨g',cap',cur',e1,e2,e3,e4⟩
      ·rw[h1]at e;cases e
      ·rw[e1]at e;cases e;exact⟨_,_,_,e3⟩
     refine(hkWF.block k hkl (fun h=> ?_)).trans ho;have hcc:∀j,(Value.slice a pre.length cp).ownBlock=some j→j≠k:=fun j e e2=>by
      obtain⟨cs,ty,fr,h3⟩:=hcell j e;rw[e2,ho]at h3;cases h3;cases hc
     rcases h with h|h|h
     ·exact hcc k h rfl
     ·rcases hg with e|e
      ·exact hcc g e h.symm
      ·omega
     ·omega
    ·rcases h with h|h|h
     ·exact hn (.inr (.inr ⟨_,HB.out.cell,h⟩))
     ·rcases hg with e|e
      ·exact hn (.inr (.inr ⟨_,HB.out.cell,by rw[h];exact e⟩))
      ·omega
     ·exact hn (.inl h)
    ·rcases hk with h|h|⟨v,h1,h2⟩
     ·exact .inl (.inl h)
     ·exact .inl (.inr (.inl h))
     ·rw[HBF.out.cell]at h1;cases h1;have e:g=k:=by simpa[Value.ownBlock]using h2
      rcases hg with e2|e2
      ·exact .inl (.inr (.inr ⟨_,HB.out.cell,by rw[←e];exact e2⟩))
      ·refine .inr ⟨by omega,?_⟩;have h5:=HGB.out.2;have h6:=HK6.out.size;have h7:=HKF.out.size;omega
    ·exact hrow6.keep HKF.out (fun k h1 _=>by omega)
    ·have e:g=k:=by simpa[Value.ownBlock]using e
     rcases hg with e2|e2
     ·exact HNO.out g e2 (by rw[e];exact hO)
     ·have:=(HO.out k hO).2;omega
    ·rcases List.mem_append.1 hp with hp|hp
     ·have h:=Co.Rep.mono (fun b hb hl=>(⟨hb,hl⟩:(w.heap.size+2≤b∧(Value.slice a pre.length cp).ownBlock≠some b∧¬O b)∧b<W.heap.size)) p.c (HREPS.out p hp);exact Co.Rep.mono (fun b hb _=>hng b hb) p.c (Co.Rep.keep hkWF (fun b hb _=>hnk b hb) p.c h)
     ·obtain rfl:p=(⟨pc,.slice b1 n1 q1,.slice b2 n2 q2,.slice b3 n3 q3,.slice b4 n4 q4,.slice b5 n5 q5⟩:Co.PC):=by simpa using hp
      exact Co.Rep.mono (fun b hb _=>hng b hb) pc (Co.Rep.keep hkWF (fun b hb _=>hnk b hb) pc hrx)
    ·exact(hkWF.block _ HT.out.lim.lt (fun h=>by
      rcases h with h|h|h
      ·have:=(hol _ h).1;omega
      ·have:=HGB.out.1;omega
      ·omega)).trans HT.out.lim
    ·exact HT.out.bel.trans (hkWF.to_below (fun k h=>by
      rcases h with h|h|h
      ·have:=(hol _ h).1;omega
      ·have:=HGB.out.1;omega
      ·omega) HT.out.bel.size)
 case done=>
  rintro O D ys W hD hS ⟨hI,hlm⟩ hK;obtain⟨v,h1,h2,h3,h4⟩:=hI.row;have cL:=h1.cell
  gi_wp2
  refine⟨by simp,.inl ⟨_,_,rfl,run_takeDeferred hK,?_⟩⟩;refine⟨_,results_tmp rfl _ _ _,v,rfl,?_,?_⟩
  ·refine Co.rowK_mono (F:=fun k=>w.heap.size+2≤k) (fun b hb=>by omega) ?_;rw[List.take_of_length_le (by rw[←hS,List.length_map];exact hlm),←hS];exact(h2.grown (grownBy_putObj' W D _) (fun r e=>by cases e;exact⟨_,hK,rfl⟩)).to_row
  ·exact hI.bel.trans (belowK_b (w:=w) (Nat.le_refl _) W D _ _ (by omega) hK rfl rfl)
 case stop=>
  rintro O D cd pre W hD hp ⟨rfl,hmp,hI⟩ hK;obtain⟨v,h1,h2,h3,h4⟩:=hI.row;have cL:=h1.cell
  gi_wp2
  refine⟨by simp,.inl ⟨_,_,rfl,run_takeDeferred hK,?_⟩⟩;refine⟨_,results_tmp rfl _ _ _,v,rfl,?_,?_⟩
  ·refine Co.rowK_mono (F:=fun k=>w.heap.size+2≤k) (fun b hb=>by omega) ?_;rw[←Co.take_prefix hp (by rw[List.length_map];exact hmp),←List.map_take];exact(h2.grown (grownBy_putObj' W D _) (fun r e=>by cases e;exact⟨_,hK,rfl⟩)).to_row
  ·exact hI.bel.trans (belowK_b (w:=w) (Nat.le_refl _) W D _ _ (by omega) hK rfl rfl)
end Go.Proofs.YtfjmlfbohenmfaaGreat
