/-
  DtDownSq.
-/
import Derived.Test.YtfjmlfbohenmfaaGreatDtOwnq
import Derived.Test.YtfjmlfbohenmfaaGreatCoreWithinLawZM2
import Derived.OrdersIn
import Derived.BigFrameIn
import Derived.Sort.CutIn
set_option maxRecDepth 100000
set_option maxHeartbeats 32000000
namespace Go.Proofs.YtfjmlfbohenmfaaGreat
open Go.RowKit
namespace Dt
def encP(p:P):Array Value:=#[.agg #[.int .i64 p.d.k,.int .i64 p.d.n,.string p.d.s,p.vm,p.vl,p.vt]]
def VP(p:P)(w:World):Prop:=Rep (fun _=>True) w p.d p.vm p.vl p.vt
theorem round_wide{n m l:Nat}{P:Program}{f:FuncId}{tmps:Array Value}{assign body:Code}{w:World}{R:Ending→World→Prop}(h:RoundIn Fence.wide n P l f tmps assign body w R):RoundIn Fence.wide m P l f tmps assign body w R:=
 ⟨h.1,fun c cs _=>h.2 c cs (room_wide _)⟩
theorem yield_wide{n m l:Nat}{P:Program}{args:Array Value}{w:World}{R:Ending→World→Prop}(h:YieldAt Fence.wide n P l args w R):YieldAt Fence.wide m P l args w R:=by
 obtain⟨fn,tmps,assign,body,hy,hR⟩:=h;exact⟨fn,tmps,assign,body,hy,round_wide hR⟩
abbrev seeF(y:Nat):Value:= .func (.func 151) #[] #[.pointer (some ⟨y,0,none⟩)]
theorem eqlIn_seeF(d y:Nat)(w:World):(Op.equalIn (d+1) 105 (seeF y) .nilFunc).run Tryz.prog w= .ok false w:=by
 simp[Op.equalIn,run_underlying Tryz.underlying105]
theorem neq_seeF(y:Nat)(w:World):(binOp .neq 105 (seeF y) .nilFunc).run Tryz.prog w= .ok (.bool true) w:=by
 have h:=eqlIn_seeF 9999 y w;have h2:(Op.equal 105 (seeF y) .nilFunc).run Tryz.prog w= .ok false w:=h;show((do pure (.bool (!(←Op.equal 105 (seeF y) .nilFunc))):Sem Value)).run _ _=_;rw[Sem.run_bind,h2]
 rfl
def Ch(p d t:Nat)(lb:Nat→Prop)(k:Nat):Prop:=k=p∨k=d∨k=t∨lb k
structure Apt(p d s t u y:Nat)(lb:Nat→Prop)(B0:Nat):Prop where
 pd:p≠d
 ps:p≠s
 pt:p≠t
 pu:p≠u
 py:p≠y
 pb:¬lb p
 ds:d≠s
 dt:d≠t
 du:d≠u
 dy:d≠y
 db:¬lb d
 ts:t≠s
 tu:t≠u
 ty:t≠y
 tb:¬lb t
 sb:¬lb s
 ub:¬lb u
 yb:¬lb y
 gp:B0≤p
 gd:B0≤d
 gt:B0≤t
structure EnvS(w:World)(p d s t u y l a:Nat)(sp:Bool):Prop where
 cp:w.cell? ⟨p,0,none⟩=some (.int .i64 (a:Int))
 cd:∃b:Int,w.cell? ⟨d,0,none⟩=some (.int .i64 b)
 cs:w.cell? ⟨s,0,none⟩=some (seeF y)
 ct:w.cell? ⟨t,0,none⟩=some (.bool sp)
 cu:w.cell? ⟨u,0,none⟩=some (downF p d s t u)
 cy:w.cell? ⟨y,0,none⟩=some (.func (.yield l) #[] #[])
 fp:w.frozen? ⟨p,0,none⟩=false
 fd:w.frozen? ⟨d,0,none⟩=false
 ft:w.frozen? ⟨t,0,none⟩=false
theorem EnvS.keep{S:Nat→Prop}{w w':World}{p d s t u y l a:Nat}{sp:Bool}(h:EnvS w p d s t u y l a sp)(hk:Keep S w w')(hp:¬S p)(hd:¬S d)(hs:¬S s)(ht:¬S t)(hu:¬S u)(hy:¬S y):EnvS w' p d s t u y l a sp:=by
 obtain⟨b,hb⟩:=h.cd;exact⟨(hk.cell 0 (block_lt_of_cell h.cp) hp).trans h.cp,⟨b,(hk.cell 0 (block_lt_of_cell hb) hd).trans hb⟩,(hk.cell 0 (block_lt_of_cell h.cs) hs).trans h.cs,(hk.cell 0 (block_lt_of_cell h.ct) ht).trans h.ct,(hk.cell 0 (block_lt_of_cell h.cu) hu).trans h.cu,(hk.cell 0 (block_lt_of_cell h.cy) hy).trans h.cy,(hk.frozen 0 (block_lt_of_cell h.cp) hp).trans h.fp,(hk.frozen 0 (block_lt_of_cell hb) hd).trans h.fd,(hk.frozen 0 (block_lt_of_cell h.ct) ht).trans h.ft⟩
theorem EnvS.below{w w':World}{p d s t u y l a:Nat}{sp:Bool}(h:EnvS w p d s t u y l a sp)(hb:Below w.heap.size w w'):EnvS w' p d s t u y l a sp:=
 h.keep (S:=fun _=>False) ((Keep.refl _ w).below hb) id id id id id id
theorem EnvS.round{w w':World}{p d s t u y l a:Nat}{lb:Nat→Prop}{B0:Nat}{sp:Bool}(h:EnvS w p d s t u y l a sp)(g:Apt p d s t u y lb B0)(hk:Keep lb w w'):EnvS w' p d s t u y l a sp:=
 h.keep hk g.pb g.db g.sb g.tb g.ub g.yb
theorem EnvS.count{w:World}{p d s t u y l a:Nat}{lb:Nat→Prop}{B0:Nat}{sp:Bool}(h:EnvS w p d s t u y l a sp)(g:Apt p d s t u y lb B0)(a':Nat)(v b':Int)(hv:v=(a':Int)):EnvS ((w.setCell ⟨p,0,none⟩ (.int .i64 v)).setCell ⟨d,0,none⟩ (.int .i64 b')) p d s t u y l a' sp:=by
 subst hv;obtain⟨b,hb⟩:=h.cd;have n:∀ {x y:Nat},x≠y→(⟨x,0,none⟩:Addr)≠⟨y,0,none⟩:=fun hxy e=>by cases e;exact hxy rfl
 have o:∀ {z:Nat} {v:Value},p≠z→d≠z→w.cell? ⟨z,0,none⟩=some v→((w.setCell ⟨p,0,none⟩ (.int .i64 (a':Int))).setCell ⟨d,0,none⟩ (.int .i64 b')).cell? ⟨z,0,none⟩=some v:=fun h1 h2 h3=>
  (World.cell?_setCell_other _ _ _ _ (n h2)).trans ((World.cell?_setCell_other _ _ _ _ (n h1)).trans h3)
 refine⟨?_,⟨b',?_⟩,o g.ps g.ds h.cs,o g.pt g.dt h.ct,o g.pu g.du h.cu,o g.py g.dy h.cy,?_,?_,?_⟩
 ·exact(World.cell?_setCell_other _ _ _ _ (n (Ne.symm g.pd))).trans (World.cell?_setCell_same' _ _ _ (by rw[h.cp];rfl))
 ·exact World.cell?_setCell_same' _ _ _ (by rw[World.cell?_setCell_other _ _ _ _ (n g.pd),hb];rfl)
 ·rw[World.frozen?_setCell,World.frozen?_setCell];exact h.fp
 ·rw[World.frozen?_setCell,World.frozen?_setCell];exact h.fd
 ·rw[World.frozen?_setCell,World.frozen?_setCell];exact h.ft
theorem EnvS.stop{w:World}{p d s t u y l a:Nat}{lb:Nat→Prop}{B0:Nat}{sp:Bool}(h:EnvS w p d s t u y l a sp)(g:Apt p d s t u y lb B0)(sp':Bool):EnvS (w.setCell ⟨t,0,none⟩ (.bool sp')) p d s t u y l a sp':=by
 obtain⟨b,hb⟩:=h.cd;have n:∀ {x y:Nat},x≠y→(⟨x,0,none⟩:Addr)≠⟨y,0,none⟩:=fun hxy e=>by cases e;exact hxy rfl
 have o:∀ {z:Nat} {v:Value},t≠z→w.cell? ⟨z,0,none⟩=some v→(w.setCell ⟨t,0,none⟩ (.bool sp')).cell? ⟨z,0,none⟩=some v:=fun h1 h3=>(World.cell?_setCell_other _ _ _ _ (n h1)).trans h3
 exact⟨o (Ne.symm g.pt) h.cp,⟨b,o (Ne.symm g.dt) hb⟩,o g.ts h.cs,World.cell?_setCell_same' _ _ _ (by rw[h.ct];rfl),o g.tu h.cu,o g.ty h.cy,by rw[World.frozen?_setCell];exact h.fp,by rw[World.frozen?_setCell];exact h.fd,by rw[World.frozen?_setCell];exact h.ft⟩
def Mid(J Jx:List P→World→Prop)(x:D)(pre0:List P)(p d s t u y l:Nat)(lb:Nat→Prop)(done:List D)(q:Nat)(sp:Bool)(w3 wr:World):Prop:=
 Keep (Ch p d t lb) w3 wr∧((sp=false∧EnvS wr p d s t u y l q false∧∃xs:List P,xs.map P.d=done∧J (pre0++xs) wr)∨(sp=true∧(∃a',EnvS wr p d s t u y l a' true)∧∃xs:List P,xs.map P.d<+:pre x∧Jx (pre0++xs) wr))
def DPost(J Jx:List P→World→Prop)(x:D)(pre0:List P)(p d s t u y l:Nat)(lb:Nat→Prop)(q:Nat)(w:World)(e:Ending)(w':World):Prop:=e= .returned (.int .i64 0)∧∃sp,Mid J Jx x pre0 p d s t u y l lb (pre x) q sp w w'
def DownS(n:Nat)(J Jx:List P→World→Prop)(N l:Nat)(lb:Nat→Prop)(B0:Nat)(x:D):Prop:=∀(F:Nat→Prop) (deep a:Nat) (vm vl vt:Value) (w:World) (p d s t u y:Nat) (pre0:List P),Wf x→Fine x→Rep F w x vm vl vt→(∀k,F k→¬Ch p d t lb k)→EnvS w p d s t u y l a false→Apt p d s t u y lb B0→B0≤w.heap.size→deep≤65→a≤4096→(chk x deep a).1=0→J pre0 w→pre0.length+(pre x).length≤N→
 CallsIn Fence.wide n Tryz.prog 104 #[.agg #[.int .i64 x.k,.int .i64 x.n,.string x.s,vm,vl,vt],.int .i64 (deep:Int),.pointer (some ⟨p,0,none⟩),.pointer (some ⟨d,0,none⟩),.pointer (some ⟨s,0,none⟩),.pointer (some ⟨t,0,none⟩),.pointer (some ⟨u,0,none⟩)] w
  (DPost J Jx x pre0 p d s t u y l lb (chk x deep a).2 w)
end Dt
theorem see_in(n m l y:Nat)(hm:1≤m){R:Ending→World→Prop}{F:Nat→Prop}(x:Dt.D)(vm vl vt:Value)(w:World)(hW:Dt.Wf x)(hFi:Dt.Fine x)(hR:Dt.Rep F w x vm vl vt)(hy:w.cell? ⟨y,0,none⟩=some (.func (.yield l) #[] #[]))
  (hY:∀p:Dt.P,p.d=x→∀W1,Below w.heap.size w W1→Dt.VP p W1→YieldAt Fence.wide n Tryz.prog l (Dt.encP p) W1 R) (hB:∀e W,R e W→∃b,e= .returned (.bool b)):
  CallsIn Fence.wide m Tryz.prog 151 #[.agg #[.int .i64 x.k,.int .i64 x.n,.string x.s,vm,vl,vt],.pointer (some ⟨y,0,none⟩)] w R:=by
 obtain⟨a1,n1,q1,a2,n2,q2,a3,n3,q3,rfl,rfl,rfl⟩:=hR.forms;obtain⟨w1,hw1⟩:∃w1,w.alloc (.cells #[.int .i64 x.k,.int .i64 x.n,.string x.s,.slice a1 n1 q1,.slice a2 n2 q2,.slice a3 n3 q3] 25)=w1:=⟨_,rfl⟩
 have hb1:Below w.heap.size w w1:=by rw[←hw1];exact(Below.refl _ _).alloc (Nat.le_refl _) _
 have hbx:=Dt.six_new w x.k x.n x.s (.slice a1 n1 q1) (.slice a2 n2 q2) (.slice a3 n3 q3) 25;rw[hw1]at hbx;have b0:=hbx 0 (by omega);have b1:=hbx 1 (by omega);have b2:=hbx 2 (by omega);have b3:=hbx 3 (by omega);have b4:=hbx 4 (by omega);have b5:=hbx 5 (by omega);simp only[List.getElem?_toArray,List.getElem?_cons_zero,List.getElem?_cons_succ]at b0 b1 b2 b3 b4 b5;have hRR:=hR.below hb1;have hown:=fun u (hu:Below w1.heap.size w1 u)=>Dt.own_any x F _ _ _ u hW hFi (hRR.below hu)
 have HY:=zh hY;have HB:=zh hb1;have HYC:=zh hy;have HBL:=zh hB;clear hY hb1 hy hbx hW hFi hR hB;refine callsIn_of_wp Tryz.func151 rfl trivial ?_ rfl;simp only[Tryz.ntmps151,List.size_toArray,List.length_cons,List.length_nil,Nat.reduceAdd,Nat.reduceSub,Array.replicate_succ,Array.replicate_zero,List.push_toArray,List.append_toArray,List.nil_append,List.cons_append]
 gi_wp2
 have HOW:=zh hown;have HYB:Hid (∀W,Below w1.heap.size w1 W→W.cell? ⟨y,0,none⟩=some (.func (.yield l) #[] #[])):=fun W hb=>(((btr HB.out hb)).cell (p:=⟨y,0,none⟩) (block_lt_of_cell HYC.out)).trans HYC.out
 have yc:=HYB.out w1 (Below.refl _ _);clear hown hw1;refine wpIn_region_any (by kernel_rfl) ?_;have HBD:Hid (Below w1.heap.size w1 w1.drew):=(Below.refl _ w1).drew;refine wpAnyIn_ready (rs:=[0,1]) (by kernel_rfl) (by simp) ?_;refine AllReadyIn.cons rfl (fun K hK=> ?_) ?_
 ·go_simp;first|(refine hK _ _ ?_;clear hK K)|skip
  try simp only[Act.put,za,zb,zc]
  refine wpAnyIn_ready (rs:=[1]) (by kernel_rfl) (by simp) ?_;refine AllReadyIn.cons rfl (fun K hK=> ?_) AllReadyIn.nil;go_simp;first|(refine hK _ _ ?_;clear hK K)|skip
  try simp only[Act.put,za,zb,zc]
  refine wpAnyIn_ready (rs:=[2]) (by kernel_rfl) (by simp) ?_;refine AllReadyIn.cons rfl (fun K hK=> ?_) AllReadyIn.nil;go_simp;refine⟨trivial,?_⟩
  gi_at_call 81
  refine(callsIn_wide.2 (HOW.out _ HBD.out)).mono ?_;rintro e W5 ⟨⟨um,ul,ut,rfl,hr2⟩,hb5⟩;obtain⟨c1,m1,r1,c2,m2,r2,c3,m3,r3,rfl,rfl,rfl⟩:=hr2.forms;have hb15:=btr HBD.out hb5;have yc5:=HYB.out W5 hb15;obtain⟨fn,tmps,assign,body,hy,hR⟩:=Dt.yield_wide (m:=m) (HY.out ⟨x,.slice c1 m1 r1,.slice c2 m2 r2,.slice c3 m3 r3⟩ rfl W5 ((btr HB.out hb15)) (Dt.Rep.mono (fun _ _ _=>trivial) _ hr2));unfold Dt.encP at hy;dsimp only at hy;clear hb15 hb5 hr2;dsimp only;first|(refine hK _ _ ?_;clear hK K)|skip
  try simp only[Act.put,za,zb,zc]
  refine wpAnyIn_ready (rs:=[3]) (by kernel_rfl) (by simp) ?_;refine AllReadyIn.cons rfl (fun K hK=> ?_) AllReadyIn.nil;go_simp;refine(Dt.round_wide hR).mono ?_;rintro e W6 hRW;obtain⟨b6,rfl⟩:=HBL.out _ _ hRW;have HRW:=zh hRW;clear hR hy hRW;dsimp only;first|(refine hK _ _ ?_;clear hK K)|skip
  try simp only[Act.put,za,zb,zc]
  refine wpAnyIn_ready (rs:=[4]) (by kernel_rfl) (by simp) ?_;refine AllReadyIn.cons rfl (fun K hK=> ?_) AllReadyIn.nil;go_simp;first|(refine hK _ _ ?_;clear hK K)|skip
  try simp only[Act.put,za,zb,zc]
  refine wpAnyIn_done (by kernel_rfl) ?_ _
  gi_wp2
  exact HRW.out
 refine AllReadyIn.cons rfl (fun K hK=> ?_) AllReadyIn.nil;go_simp;first|(refine hK _ _ ?_;clear hK K)|skip
 try simp only[Act.put,za,zb,zc]
 refine wpAnyIn_ready (rs:=[0,2]) (by kernel_rfl) (by simp) ?_;refine AllReadyIn.cons rfl (fun K hK=> ?_) ?_
 ·go_simp;first|(refine hK _ _ ?_;clear hK K)|skip
  try simp only[Act.put,za,zb,zc]
  refine wpAnyIn_ready (rs:=[2]) (by kernel_rfl) (by simp) ?_;refine AllReadyIn.cons rfl (fun K hK=> ?_) AllReadyIn.nil;go_simp;refine⟨trivial,?_⟩
  gi_at_call 81
  refine(callsIn_wide.2 (HOW.out _ HBD.out)).mono ?_;rintro e W5 ⟨⟨um,ul,ut,rfl,hr2⟩,hb5⟩;obtain⟨c1,m1,r1,c2,m2,r2,c3,m3,r3,rfl,rfl,rfl⟩:=hr2.forms;have hb15:=btr HBD.out hb5;have yc5:=HYB.out W5 hb15;obtain⟨fn,tmps,assign,body,hy,hR⟩:=Dt.yield_wide (m:=m) (HY.out ⟨x,.slice c1 m1 r1,.slice c2 m2 r2,.slice c3 m3 r3⟩ rfl W5 ((btr HB.out hb15)) (Dt.Rep.mono (fun _ _ _=>trivial) _ hr2));unfold Dt.encP at hy;dsimp only at hy;clear hb15 hb5 hr2;dsimp only;first|(refine hK _ _ ?_;clear hK K)|skip
  try simp only[Act.put,za,zb,zc]
  refine wpAnyIn_ready (rs:=[3]) (by kernel_rfl) (by simp) ?_;refine AllReadyIn.cons rfl (fun K hK=> ?_) AllReadyIn.nil;go_simp;refine(Dt.round_wide hR).mono ?_;rintro e W6 hRW;obtain⟨b6,rfl⟩:=HBL.out _ _ hRW;have HRW:=zh hRW;clear hR hy hRW;dsimp only;first|(refine hK _ _ ?_;clear hK K)|skip
  try simp only[Act.put,za,zb,zc]
  refine wpAnyIn_ready (rs:=[4]) (by kernel_rfl) (by simp) ?_;refine AllReadyIn.cons rfl (fun K hK=> ?_) AllReadyIn.nil;go_simp;first|(refine hK _ _ ?_;clear hK K)|skip
  try simp only[Act.put,za,zb,zc]
  refine wpAnyIn_done (by kernel_rfl) ?_ _
  gi_wp2
  exact HRW.out
 refine AllReadyIn.cons rfl (fun K hK=> ?_) AllReadyIn.nil;go_simp;refine⟨trivial,?_⟩
 gi_at_call 81
 refine(callsIn_wide.2 (HOW.out _ HBD.out)).mono ?_;rintro e W5 ⟨⟨um,ul,ut,rfl,hr2⟩,hb5⟩;obtain⟨c1,m1,r1,c2,m2,r2,c3,m3,r3,rfl,rfl,rfl⟩:=hr2.forms;have hb15:=btr HBD.out hb5;have yc5:=HYB.out W5 hb15;obtain⟨fn,tmps,assign,body,hy,hR⟩:=Dt.yield_wide (m:=m) (HY.out ⟨x,.slice c1 m1 r1,.slice c2 m2 r2,.slice c3 m3 r3⟩ rfl W5 ((btr HB.out hb15)) (Dt.Rep.mono (fun _ _ _=>trivial) _ hr2));unfold Dt.encP at hy;dsimp only at hy;clear hb15 hb5 hr2;dsimp only;first|(refine hK _ _ ?_;clear hK K)|skip
 try simp only[Act.put,za,zb,zc]
 refine wpAnyIn_ready (rs:=[0]) (by kernel_rfl) (by simp) ?_;refine AllReadyIn.cons rfl (fun K hK=> ?_) AllReadyIn.nil;go_simp;first|(refine hK _ _ ?_;clear hK K)|skip
 try simp only[Act.put,za,zb,zc]
 refine wpAnyIn_ready (rs:=[3]) (by kernel_rfl) (by simp) ?_;refine AllReadyIn.cons rfl (fun K hK=> ?_) AllReadyIn.nil;go_simp;refine(Dt.round_wide hR).mono ?_;rintro e W6 hRW;obtain⟨b6,rfl⟩:=HBL.out _ _ hRW;have HRW:=zh hRW;clear hR hy hRW;dsimp only;first|(refine hK _ _ ?_;clear hK K)|skip
 try simp only[Act.put,za,zb,zc]
 refine wpAnyIn_ready (rs:=[4]) (by kernel_rfl) (by simp) ?_;refine AllReadyIn.cons rfl (fun K hK=> ?_) AllReadyIn.nil;go_simp;first|(refine hK _ _ ?_;clear hK K)|skip
 try simp only[Act.put,za,zb,zc]
 refine wpAnyIn_done (by kernel_rfl) ?_ _
 gi_wp2
 exact HRW.out
namespace Dt
theorem chks_head{L:List D}{deep q j:Nat}(hj:j<L.length)(h:(chks (L.drop j) deep q).1=0):(chk L[j] deep q).1=0∧chks (L.drop j) deep q=chks (L.drop (j+1)) deep (chk L[j] deep q).2:=by
 have h2:=chks_drop (deep:=deep) (q:=q) hj;by_cases e:(chk L[j] deep q).1=0
 ·rw[if_pos e]at h2;exact⟨e,h2⟩
 ·rw[if_neg e]at h2;rw[h2]at h;exact absurd h e
theorem fine_l{d:D}(h:Fine d):Fines d.l:=by cases d;rw[Fine]at h;exact h.2.2.2.1
theorem fine_t{d:D}(h:Fine d):Fines d.t:=by cases d;rw[Fine]at h;exact h.2.2.2.2
def AtS(x:D)(deep a:Nat)(M:Int×Nat)(i q:Nat):Prop:=(i=0∧q=a+1∧(chks x.l (deep+1) q).1=0)∨(i=1∧chks x.l (deep+1) (a+1)=(0,q)∧(chks x.t (deep+1) q).1=0)∨(i=2∧M=(0,q))
theorem genS2{w2:World}{p d s t u y l a:Nat}{lb:Nat→Prop}{B0:Nat}{v b':Int}{sp:Bool}(h:EnvS w2 p d s t u y l a sp)(g:Apt p d s t u y lb B0)(hv:v=((a+1:Nat):Int)):
  Hid (EnvS ((w2.setCell ⟨p,0,none⟩ (.int .i64 v)).setCell ⟨d,0,none⟩ (.int .i64 b')) p d s t u y l (a+1) sp∧Keep (Ch p d t lb) w2 ((w2.setCell ⟨p,0,none⟩ (.int .i64 v)).setCell ⟨d,0,none⟩ (.int .i64 b'))∧
   ((w2.setCell ⟨p,0,none⟩ (.int .i64 v)).setCell ⟨d,0,none⟩ (.int .i64 b')).heap.size=w2.heap.size∧Below B0 w2 ((w2.setCell ⟨p,0,none⟩ (.int .i64 v)).setCell ⟨d,0,none⟩ (.int .i64 b'))):=
 ⟨h.count g (a+1) v b' hv,((Keep.refl (Ch p d t lb) w2).setCell (B:=p) (.inl rfl) 0 _).setCell (B:=d) (.inr (.inl rfl)) 0 _,by simp[World.setCell],((Below.refl B0 w2).setCell (p:=⟨p,0,none⟩) g.gp _).setCell (p:=⟨d,0,none⟩) g.gd _⟩
def doneS(x:D)(i:Nat):List D:=if i=0 then [x]else if i=1 then x :: pres x.l else x :: (pres x.l++pres x.t)
theorem doneS_two(x:D):doneS x 2=pre x:=by simp[doneS,pre_eq]
theorem pres_take_all{l:List D}{j:Nat}(h:l.length≤j):pres (l.take j)=pres l:=by rw[List.take_of_length_le h]
theorem preOne(y:D):0<(pre y).length:=by simp[pre_eq]
theorem mid_see{J Jx:List P→World→Prop}{x:D}{pre0:List P}{p d s t u y l:Nat}{lb:Nat→Prop}{B0 q:Nat}{w w3 W1:World}{hx:P}(sp:Bool)(hE:EnvS w3 p d s t u y l q false)(g:Apt p d s t u y lb B0)(hK:Keep (Ch p d t lb) w w3)(hk1:Keep lb w3 W1)
  (hd:hx.d=x) (hz:B0≤w3.heap.size) (hJ:Rb.BelFrom B0 J) (hJx:Rb.BelFrom B0 Jx) (h:if sp then Jx (pre0++[hx]) W1 else J (pre0++[hx]) W1):
  Mid J Jx x pre0 p d s t u y l lb [x] q sp w (W1.setCell ⟨t,0,none⟩ (.bool sp)):=by
 have hz1:B0≤W1.heap.size:=Nat.le_trans hz hk1.size;have hb:Below B0 W1 (W1.setCell ⟨t,0,none⟩ (.bool sp)):=(Below.refl B0 W1).setCell (p:=⟨t,0,none⟩) g.gt _;have hE':=(hE.round g hk1).stop g sp;have hk:Keep (Ch p d t lb) w (W1.setCell ⟨t,0,none⟩ (.bool sp)):=(hK.trans (hk1.mono (fun k _ h=> .inr (.inr (.inr h))))).setCell (B:=t) (.inr (.inr (.inl rfl))) 0 _
 cases sp with
 |false=>exact⟨hk,.inl ⟨rfl,hE',[hx],by simp[hd],hJ _ _ _ h hz1 hb⟩⟩
 |true=>exact⟨hk,.inr ⟨rfl,⟨q,hE'⟩,[hx],by rw[pre_eq];simp[hd],hJx _ _ _ h hz1 hb⟩⟩
theorem Mid.below{J Jx:List P→World→Prop}{x:D}{pre0:List P}{p d s t u y l:Nat}{lb:Nat→Prop}{B0 q:Nat}{sp:Bool}{done:List D}{w3 wr w':World}(h:Mid J Jx x pre0 p d s t u y l lb done q sp w3 wr)(hJ:Rb.BelFrom B0 J)(hJx:Rb.BelFrom B0 Jx)(hz:B0≤wr.heap.size)(hb:Below wr.heap.size wr w'):
  Mid J Jx x pre0 p d s t u y l lb done q sp w3 w':=by
 obtain⟨hk,⟨hs,hE,xs,hm,hj⟩|⟨hs,⟨a',hE⟩,xs,hm,hj⟩⟩:=h
 ·exact⟨hk.below hb,.inl ⟨hs,hE.below hb,xs,hm,hJ _ _ _ hj hz (hb.mono hz)⟩⟩
 ·exact⟨hk.below hb,.inr ⟨hs,⟨a',hE.below hb⟩,xs,hm,hJx _ _ _ hj hz (hb.mono hz)⟩⟩
theorem Mid.child{J Jx:List P→World→Prop}{x y:D}{pre0 xs:List P}{p d s t u yb l:Nat}{lb:Nat→Prop}{q':Nat}{sp':Bool}{done:List D}{w3 wc w7:World}(hK:Keep (Ch p d t lb) w3 wc)(hxs:xs.map P.d=done)(hpre:done++pre y<+:pre x)
  (h:Mid J Jx y (pre0++xs) p d s t u yb l lb (pre y) q' sp' wc w7):Mid J Jx x pre0 p d s t u yb l lb (done++pre y) q' sp' w3 w7:=by
 obtain⟨hk,⟨hs,hE,ys,hm,hj⟩|⟨hs,hE,ys,hm,hj⟩⟩:=h
 ·exact⟨hK.trans hk,.inl ⟨hs,hE,xs++ys,by rw[List.map_append,hxs,hm],by rw[←List.append_assoc];exact hj⟩⟩
 ·refine⟨hK.trans hk,.inr ⟨hs,hE,xs++ys,?_,by rw[←List.append_assoc];exact hj⟩⟩;rw[List.map_append,hxs];exact List.IsPrefix.trans ((List.prefix_append_right_inj _).2 hm) hpre
theorem Mid.stopped{J Jx:List P→World→Prop}{x:D}{pre0:List P}{p d s t u y l:Nat}{lb:Nat→Prop}{q q':Nat}{done done':List D}{w3 wr:World}(h:Mid J Jx x pre0 p d s t u y l lb done q true w3 wr):Mid J Jx x pre0 p d s t u y l lb done' q' true w3 wr:=by
 obtain⟨hk,⟨hs,_⟩|h⟩:=h
 ·exact absurd hs (by simp)
 ·exact⟨hk,.inr h⟩
theorem Mid.cell{J Jx:List P→World→Prop}{x:D}{pre0:List P}{p d s t u y l:Nat}{lb:Nat→Prop}{q:Nat}{sp:Bool}{done:List D}{w3 wr:World}(h:Mid J Jx x pre0 p d s t u y l lb done q sp w3 wr):wr.cell? ⟨t,0,none⟩=some (.bool sp):=by
 obtain⟨_,⟨hs,hE,_⟩|⟨hs,⟨a',hE⟩,_⟩⟩:=h
 ·rw[hs];exact hE.ct
 ·rw[hs];exact hE.ct
theorem Mid.going{J Jx:List P→World→Prop}{x:D}{pre0:List P}{p d s t u y l:Nat}{lb:Nat→Prop}{q:Nat}{done:List D}{w3 wr:World}(h:Mid J Jx x pre0 p d s t u y l lb done q false w3 wr):EnvS wr p d s t u y l q false∧∃xs:List P,xs.map P.d=done∧J (pre0++xs) wr:=by
 obtain⟨_,⟨_,h⟩|⟨hs,_⟩⟩:=h
 ·exact h
 ·exact absurd hs (by simp)
theorem pres_append:∀(a b:List D),pres (a++b)=pres a++pres b
 |[],_=>by rw[pres];rfl
 |y :: a,b=>by rw[List.cons_append,pres,pres,pres_append a b,List.append_assoc]
theorem prefix_l{x:D}{j:Nat}(hj:j<x.l.length):doneS x 0++pres (x.l.take j)++pre x.l[j]<+:pre x:=by
 have h:=pres_snoc x.l j hj;rw[List.append_assoc,←h,pre_eq];have h2:pres x.l=pres (x.l.take (j+1))++pres (x.l.drop (j+1)):=by rw[←pres_append,List.take_append_drop]
 rw[h2];exact⟨pres (x.l.drop (j+1))++pres x.t,by simp[doneS]⟩
theorem prefix_t{x:D}{j:Nat}(hj:j<x.t.length):doneS x 1++pres (x.t.take j)++pre x.t[j]<+:pre x:=by
 have h:=pres_snoc x.t j hj;rw[List.append_assoc,←h,pre_eq];have h2:pres x.t=pres (x.t.take (j+1))++pres (x.t.drop (j+1)):=by rw[←pres_append,List.take_append_drop]
 rw[h2];exact⟨pres (x.t.drop (j+1)),by simp[doneS]⟩
theorem doneS_l(x:D){j:Nat}(h:x.l.length≤j):doneS x 0++pres (x.l.take j)=doneS x 1:=by rw[pres_take_all h];simp[doneS]
theorem doneS_t(x:D){j:Nat}(h:x.t.length≤j):doneS x 1++pres (x.t.take j)=doneS x 2:=by rw[pres_take_all h];simp[doneS]
def InL(x:D)(deep a j q:Nat):Prop:=(chks (x.l.drop j) (deep+1) q).1=0∧chks x.l (deep+1) (a+1)=chks (x.l.drop j) (deep+1) q
def InT(x:D)(deep a j q:Nat):Prop:=(chks (x.t.drop j) (deep+1) q).1=0∧∃q1,chks x.l (deep+1) (a+1)=(0,q1)∧chks x.t (deep+1) q1=chks (x.t.drop j) (deep+1) q
theorem inl_start{x:D}{deep a q:Nat}{M:Int×Nat}(h:AtS x deep a M 0 q):InL x deep a 0 q:=by
 rcases h with⟨_,rfl,h⟩|⟨h,_⟩|⟨h,_⟩
 ·exact⟨h,rfl⟩
 ·exact absurd h (by simp)
 ·exact absurd h (by simp)
theorem int_start{x:D}{deep a q:Nat}{M:Int×Nat}(h:AtS x deep a M 1 q):InT x deep a 0 q:=by
 rcases h with⟨h,_⟩|⟨_,h1,h2⟩|⟨h,_⟩
 ·exact absurd h (by simp)
 ·exact⟨h2,q,h1,rfl⟩
 ·exact absurd h (by simp)
theorem inl_step{x:D}{deep a j q:Nat}(hj:j<x.l.length)(h:InL x deep a j q):(chk x.l[j] (deep+1) q).1=0∧InL x deep a (j+1) (chk x.l[j] (deep+1) q).2:=by
 obtain⟨h1,h2⟩:=chks_head hj h.1;exact⟨h1,by rw[←h2];exact h.1,h.2.trans h2⟩
theorem int_step{x:D}{deep a j q:Nat}(hj:j<x.t.length)(h:InT x deep a j q):(chk x.t[j] (deep+1) q).1=0∧InT x deep a (j+1) (chk x.t[j] (deep+1) q).2:=by
 obtain⟨h0,q1,h3,h4⟩:=h;obtain⟨h1,h2⟩:=chks_head hj h0;exact⟨h1,by rw[←h2];exact h0,q1,h3,h4.trans h2⟩
theorem inl_end{x:D}{deep a j q:Nat}{M:Int×Nat}(hj:x.l.length≤j)(h:InL x deep a j q)(hM:M=chks x.t (deep+1) (chks x.l (deep+1) (a+1)).2)(h0:M.1=0):AtS x deep a M 1 q:=by
 have h2:=h.2;rw[List.drop_eq_nil_of_le hj,chks]at h2;rw[hM,h2]at h0;exact .inr (.inl ⟨rfl,h2,h0⟩)
theorem int_end{x:D}{deep a j q:Nat}{M:Int×Nat}(hj:x.t.length≤j)(h:InT x deep a j q)(hM:M=chks x.t (deep+1) (chks x.l (deep+1) (a+1)).2):AtS x deep a M 2 q:=by
 obtain⟨_,q1,h3,h4⟩:=h;rw[List.drop_eq_nil_of_le hj,chks]at h4;rw[h3,h4]at hM;exact .inr (.inr ⟨rfl,hM⟩)
theorem ats_two{x:D}{deep a q:Nat}{M:Int×Nat}(h:AtS x deep a M 2 q):M.2=q:=by
 rcases h with⟨h,_⟩|⟨h,_⟩|⟨_,h⟩
 ·exact absurd h (by simp)
 ·exact absurd h (by simp)
 ·rw[h]
theorem calls_wide{n m f:Nat}{P:Program}{args:Array Value}{w:World}{Q:Ending→World→Prop}(h:CallsIn Fence.wide n P f args w Q):CallsIn Fence.wide m P f args w Q:=callsIn_wide.2 (callsIn_wide.1 h)
theorem fines_at:∀ {l:List D},Fines l→∀(j:Nat) (h:j<l.length),Fine l[j]
 |[],_,j,h=>by simp at h
 |y :: r,hf,0,_=>by rw[Fines]at hf;exact hf.1
 |y :: r,hf,j+1,h=>by rw[Fines]at hf;exact fines_at (l:=r) hf.2 j (by simpa using h)
end Dt
end Go.Proofs.YtfjmlfbohenmfaaGreat
