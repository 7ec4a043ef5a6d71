/-
 The reference's walk of a datum's parts, at whatever datum.
-/
import Derived.Test.YtfjmlfbohenmfaaGreatCoreBBM5
import Derived.Deep.Draws
import Derived.Deep.RegionHeld3
import Derived.Deep.DeepCutAuto
import Derived.Test.YtfjmlfbohenmfaaGreatCoreBBM2
namespace Go.Proofs.YtfjmlfbohenmfaaGreat
open Go.RowKit
namespace Dt
def Goes(x:D):Prop:=∀(deep base B:Nat) (vp vd vm vl vt:Value) (ls:List P) (ds:List Int) (w:World),Wf x→Rep (fun k=>k<base) w x vm vl vt→Wk w base B 0 vp vd ls ds→deep≤65→
 Calls Tryz.prog 107 #[.pointer (some ⟨B,0,none⟩),.agg #[.int .i64 x.k,.int .i64 x.n,.string x.s,vm,vl,vt],.int .i64 (deep:Int)] w
  fun r w'=>r= .returned (.tuple #[])∧GoPost w base B vp vd (chk x deep ls.length) (ls.map P.d++pre x) w'
theorem infoD:(Tryz.prog.info? 25).map (fun i=>(i.zero,i.size,i.bytes))=some (some (.agg #[.int .i64 0,.int .i64 0,.string ⟨#[]⟩,.slice none 0 0,.slice none 0 0,.slice none 0 0]),6,104):=by kernel_rfl
theorem infoI:(Tryz.prog.info? 3).map (fun i=>(i.zero,i.size,i.bytes))=some (some (.int .i64 0),1,8):=by kernel_rfl
def Box(w:World)(X:Nat)(d:D)(vm vl vt:Value):Prop:=w.cell? ⟨X,0,none⟩=some (.int .i64 d.k)∧w.cell? ⟨X,1,none⟩=some (.int .i64 d.n)∧w.cell? ⟨X,2,none⟩=some (.string d.s)∧w.cell? ⟨X,3,none⟩=some vm∧w.cell? ⟨X,4,none⟩=some vl∧w.cell? ⟨X,5,none⟩=some vt
def Pushed(w:World)(base B:Nat)(vp vd:Value)(ls:List P)(ds:List Int)(p:P)(w':World):Prop:=
 ∃vp',Wk w' base B 0 vp' vd (ls++[p]) ds∧Keep (WS B vp vd) w w'∧RV w vp vp'
theorem GoPost.fail{w w1:World}{base B:Nat}{vp vd:Value}{ls:List P}{ds:List Int}{L:List D}(h:Wk w base B 0 vp vd ls ds)(hb:Below w.heap.size w w1)(e:Int)(he:e≠0):GoPost w base B vp vd (e,ls.length) L (w1.setCell ⟨B,2,none⟩ (.int .i64 e)):=
 ⟨vp,vd,ls,ds,(h.below hb).fail e,rfl,fun h=>absurd h he,((Keep.refl _ w).below hb).setCell (.inl rfl) 2 _,fun _ h=> .inl h,fun _ h=> .inl h⟩
end Dt
set_option maxRecDepth 100000 in
set_option maxHeartbeats 8000000 in
theorem goes_bad(x:Dt.D)(deep base B:Nat)(vp vd vm vl vt:Value)(ls:List Dt.P)(ds:List Int)(w:World)(hW:Dt.Wf x)(hR:Dt.Rep (fun k=>k<base) w x vm vl vt)(hK:Dt.Wk w base B 0 vp vd ls ds)(hd:deep≤65)
  (hbad:64<deep∨4096≤ls.length∨Dt.single x=false):
  Calls Tryz.prog 107 #[.pointer (some ⟨B,0,none⟩),.agg #[.int .i64 x.k,.int .i64 x.n,.string x.s,vm,vl,vt],.int .i64 (deep:Int)] w
   fun r w'=>r= .returned (.tuple #[])∧Dt.GoPost w base B vp vd (Dt.chk x deep ls.length) (ls.map Dt.P.d++Dt.pre x) w':=by
 obtain⟨a1,n1,q1,a2,n2,q2,a3,n3,q3,rfl,rfl,rfl⟩:=hR.forms;obtain⟨w1,hw1⟩:∃w1,w.alloc (.cells #[.int .i64 x.k,.int .i64 x.n,.string x.s,.slice a1 n1 q1,.slice a2 n2 q2,.slice a3 n3 q3] 25)=w1:=⟨_,rfl⟩
 have hb1:Below w.heap.size w w1:=by rw[←hw1];exact(Below.refl _ _).alloc (Nat.le_refl _) _
 have hK1:=hK.below hb1;have hsix:=Dt.six_new w x.k x.n x.s (.slice a1 n1 q1) (.slice a2 n2 q2) (.slice a3 n3 q3) 25;rw[hw1]at hsix;have d0:w1.cell? ⟨w.heap.size,0,none⟩=some (.int .i64 x.k):=hsix 0 (by omega);have d1:w1.cell? ⟨w.heap.size,1,none⟩=some (.int .i64 x.n):=hsix 1 (by omega);have d2:w1.cell? ⟨w.heap.size,2,none⟩=some (.string x.s):=hsix 2 (by omega);have d3:w1.cell? ⟨w.heap.size,3,none⟩=some (.slice a1 n1 q1):=hsix 3 (by omega);have d4:w1.cell? ⟨w.heap.size,4,none⟩=some (.slice a2 n2 q2):=hsix 4 (by omega);have d5:w1.cell? ⟨w.heap.size,5,none⟩=some (.slice a3 n3 q3):=hsix 5 (by omega);obtain⟨ap,cp,rfl⟩:=Dt.row_form hK.rp;have c0:=hK1.c0;have c2:=hK1.c2;have f2:=hK1.fz 2;have hll:=hK.len;have hlen:(ls.length:Int)≤4096:=by omega
 have hal:=alone_x x (.slice a1 n1 q1) (.slice a2 n2 q2) (.slice a3 n3 q3) w1 hW (hR.below hb1);obtain⟨M,hM⟩:∃M,M=Dt.chk x deep ls.length:=⟨_,rfl⟩
 rw[←hM];have HK:=zh hK;have HB:=zh hb1;have hbl:B<w1.heap.size:=block_lt_of_cell c0;clear hsix hR hW hK1 hK;by_cases h1:64<deep
 ·have hdi:(64:Int)<(deep:Int):=by omega
  have HM:Hid (M=(4,ls.length)):=by show _=_;rw[hM,Dt.chk_deep h1]
  clear hM hbad hal;go_enter Tryz.func107,Tryz.ntmps107;go_wp2;refine bodyPost_ret (v:= .tuple #[]) (by simp[results,Tryz.results107,go_sem]) rfl ?_;rw[HM.out];exact⟨rfl,Dt.GoPost.fail HK.out HB.out 4 (by omega)⟩
 have hdi:(deep:Int)≤64:=by omega
 by_cases h2:4096≤ls.length
 ·have hli:(4096:Int)≤(ls.length:Int):=by omega
  have HM:Hid (M=(3,ls.length)):=by show _=_;rw[hM,Dt.chk_long h1 h2]
  clear hM hbad hal h2;go_enter Tryz.func107,Tryz.ntmps107;go_wp2;refine bodyPost_ret (v:= .tuple #[]) (by simp[results,Tryz.results107,go_sem]) rfl ?_;rw[HM.out];exact⟨rfl,Dt.GoPost.fail HK.out HB.out 3 (by omega)⟩
 have hli:(ls.length:Int)<4096:=by omega
 have hs:Dt.single x=false:=by
  rcases hbad with h|h|h
  ·exact absurd h h1
  ·exact absurd h h2
  ·exact h
 have HM:Hid (M=(20,ls.length)):=by show _=_;rw[hM,Dt.chk_bad h1 h2 hs]
 rw[hs]at hal;clear hM hbad hs h2;go_enter Tryz.func107,Tryz.ntmps107;go_wp2_with fail
 refine hal.mono ?_;rintro e w2 ⟨rfl,hb2⟩;have c0':=(hb2.cell (p:=⟨B,0,none⟩) hbl).trans c0;have c2':=(hb2.cell (p:=⟨B,2,none⟩) hbl).trans c2;have f2':=(hb2.frozen (p:=⟨B,2,none⟩) hbl).trans f2;have HB2:=zh ((btr HB.out hb2));clear hal c0 c2 f2 d0 d1 d2 d3 d4 d5 hb2;go_wp2;refine bodyPost_ret (v:= .tuple #[]) (by simp[results,Tryz.results107,go_sem]) rfl ?_;rw[HM.out];exact⟨rfl,Dt.GoPost.fail HK.out HB2.out 20 (by omega)⟩
namespace Dt
def Inv(w2:World)(base B:Nat)(vp vd:Value)(L:List D)(l0:List D)(deep:Nat)(r0:Int×Nat)(j:Nat)(wr:World):Prop:=
 ∃e vpj vdj lsj dsj,Wk wr base B e vpj vdj lsj dsj∧chksE L deep r0=chksE (L.drop j) deep (e,lsj.length)∧(e=0→lsj.map P.d=l0++pres (L.take j))∧Keep (WS B vp vd) w2 wr∧RV w2 vp vpj∧RV w2 vd vdj
theorem Inv.keep{w2:World}{base B:Nat}{vp vd:Value}{L l0:List D}{deep:Nat}{r0:Int×Nat}{j:Nat}{wr:World}(h:Inv w2 base B vp vd L l0 deep r0 j wr):Keep (WS B vp vd) w2 wr:=by
 obtain⟨_,_,_,_,_,_,_,_,h,_⟩:=h;exact h
theorem inv_step{w w2 wr:World}{base B c:Nat}{a:Option Addr}{vp vd:Value}{L l0:List D}{deep:Nat}{r0:Int×Nat}{j:Nat}(hRow:Row (fun k=>k<base) w (.slice a L.length c) L)(hW:Wfs L)(hB:Below w.heap.size w w2)(hvp:∀k,vp.ownBlock=some k→base≤k)(hvd:∀k,vd.ownBlock=some k→base≤k)(hG:∀y∈L,Goes y)
  (hI:Inv w2 base B vp vd L l0 deep r0 j wr) (hd:deep≤65) (hlt:j<L.length):
  ∃(y:D) (g o:Nat) (vm vl vt:Value),a=some ⟨g,o,none⟩∧Six wr g (o+j*6) y vm vl vt∧Hid (Calls Tryz.prog 107 #[.pointer (some ⟨B,0,none⟩),.agg #[.int .i64 y.k,.int .i64 y.n,.string y.s,vm,vl,vt],.int .i64 (deep:Int)] wr
   fun r w'=>r= .returned (.tuple #[])∧Inv w2 base B vp vd L l0 deep r0 (j+1) w'):=by
 obtain⟨a',c',h1,h2,h3⟩:=hRow;obtain⟨g,o,h4,h5,h6,h7⟩:=h3 (by intro e;rw[e]at hlt;simp at hlt);have ea:a=a':=by cases h1;rfl
 obtain⟨e,vpj,vdj,lsj,dsj,k1,k2,k3,k4,k5,k6⟩:=hI;have hbase:=k1.le;have hk:Keep (WS B vp vd) w wr:=((Keep.refl _ w).below hB).trans k4;have hr:=Reps.keep (F:=fun k=>k<base) hk (fun b hb _ hs=>by
  rcases hs with hs|hs|hs
  ·omega
  ·have:=hvp b hs;omega
  ·have:=hvd b hs;omega) L h5 h6 h7
 obtain⟨vm,vl,vt,hs,hp⟩:=hr.at j hlt;refine⟨L[j],g,o,vm,vl,vt,ea.trans h4,hs,?_⟩;have hy:=hG L[j] (List.getElem_mem hlt);by_cases he:e=0
 ·subst he;refine Calls.mono (hy deep base B vpj vdj vm vl vt lsj dsj wr (hW.at j hlt) hp k1 hd) ?_;rintro r w' ⟨hr1,vp',vd',ls',ds',m1,m2,m3,m4,m5,m6⟩;obtain⟨q1,q2,q3⟩:=WS.step k4 k5 k6 m4 m5 m6;refine⟨hr1,_,vp',vd',ls',ds',m1,?_,fun h0=> ?_,q1,q2,q3⟩
  ·rw[k2,chksE_drop hlt,m2];unfold chkE;rw[if_pos rfl]
  ·rw[m3 h0,k3 rfl,pres_snoc L j hlt,List.append_assoc]
 ·refine Calls.mono (goes_done k1 he L[j] vm vl vt deep) ?_;rintro r w' ⟨hr1,hb⟩;refine⟨hr1,e,vpj,vdj,lsj,dsj,k1.below hb,?_,fun h0=>absurd h0 he,k4.below hb,k5,k6⟩;rw[k2,chksE_drop hlt];unfold chkE;rw[if_neg he]
end Dt
set_option maxRecDepth 100000 in
set_option maxHeartbeats 8000000 in
theorem goes_good(x:Dt.D)(hl:∀y∈x.l,Dt.Goes y)(ht:∀y∈x.t,Dt.Goes y)(deep base B:Nat)(vp vd vm vl vt:Value)(ls:List Dt.P)(ds:List Int)(w:World)(hW:Dt.Wf x)(hR:Dt.Rep (fun k=>k<base) w x vm vl vt)(hK:Dt.Wk w base B 0 vp vd ls ds)(hd:deep≤65)
  (h1:¬64<deep) (h2:¬4096≤ls.length) (hs:Dt.single x=true):
  Calls Tryz.prog 107 #[.pointer (some ⟨B,0,none⟩),.agg #[.int .i64 x.k,.int .i64 x.n,.string x.s,vm,vl,vt],.int .i64 (deep:Int)] w
   fun r w'=>r= .returned (.tuple #[])∧Dt.GoPost w base B vp vd (Dt.chk x deep ls.length) (ls.map Dt.P.d++Dt.pre x) w':=by
 obtain⟨⟨a1,q1,rfl,_⟩,⟨a2,q2,rfl,_⟩,⟨a3,q3,rfl,_⟩⟩:=(Dt.rep_iff _ _ _ _ _ _).1 hR;obtain⟨w1,hw1⟩:∃w1,w.alloc (.cells #[.int .i64 x.k,.int .i64 x.n,.string x.s,.slice a1 x.m.length q1,.slice a2 x.l.length q2,.slice a3 x.t.length q3] 25)=w1:=⟨_,rfl⟩
 have hb1:Below w.heap.size w w1:=by rw[←hw1];exact(Below.refl _ _).alloc (Nat.le_refl _) _
 have hK1:=hK.below hb1;have hsix:=Dt.six_new w x.k x.n x.s (.slice a1 x.m.length q1) (.slice a2 x.l.length q2) (.slice a3 x.t.length q3) 25;rw[hw1]at hsix;have d0:w1.cell? ⟨w.heap.size,0,none⟩=some (.int .i64 x.k):=hsix 0 (by omega);have d1:w1.cell? ⟨w.heap.size,1,none⟩=some (.int .i64 x.n):=hsix 1 (by omega);have d2:w1.cell? ⟨w.heap.size,2,none⟩=some (.string x.s):=hsix 2 (by omega);have d3:w1.cell? ⟨w.heap.size,3,none⟩=some (.slice a1 x.m.length q1):=hsix 3 (by omega);have d4:w1.cell? ⟨w.heap.size,4,none⟩=some (.slice a2 x.l.length q2):=hsix 4 (by omega);have d5:w1.cell? ⟨w.heap.size,5,none⟩=some (.slice a3 x.t.length q3):=hsix 5 (by omega);obtain⟨ap,cp,rfl⟩:=Dt.row_form hK.rp;obtain⟨ad,cd,rfl⟩:=Dt.row_form hK.rd;have c0:=hK1.c0;have c2:=hK1.c2;have hll:=hK.len;have hlen:(ls.length:Int)<4096:=by omega
 have hal:=alone_x x (.slice a1 x.m.length q1) (.slice a2 x.l.length q2) (.slice a3 x.t.length q3) w1 hW (hR.below hb1);rw[hs]at hal;have hdi:(deep:Int)≤64:=by omega
 have hX1:w.heap.size<w1.heap.size:=by rw[←hw1];simp
 have HDP:Hid (Dt.chk x deep ls.length=Dt.chksE x.t (deep+1) (Dt.chksE x.l (deep+1) (0,ls.length+1))):=Dt.chk_goodE h1 h2 hs;have HPR:Hid (Dt.pre x=x :: (Dt.pres x.l++Dt.pres x.t)):=Dt.pre_eq x;have HW:=zh hW;have HR:=zh hR;have HK:=zh hK;have HB:=zh hb1;have HL:=zh hl;have HT:=zh ht;have h2':ls.length<4096:=by omega
 have hbl:B<w1.heap.size:=block_lt_of_cell c0;have hbw:B<w.heap.size:=block_lt_of_cell hK.c0;have hl64:=(Dt.wf_len hW).1;have ht64:=(Dt.wf_len hW).2;have HXW:Hid (w.heap.size=w.heap.size):=rfl;obtain⟨X,hX⟩:∃X,w.heap.size=X:=⟨_,rfl⟩
 rw[hX]at d0 d1 d2 d3 d4 d5 hX1;clear hsix hR hW hK1 hK hs hl ht h2 HXW;obtain⟨i0,hi,hz0,hz1,hz2⟩:=info_parts Dt.infoD;go_enter Tryz.func107,Tryz.ntmps107;go_wp2_with fail
 refine hal.mono ?_;rintro e w2 ⟨rfl,hb2⟩;clear hal hw1;have HX:=zh hX;clear hX;have e0:=(hb2.cell (p:=⟨X,0,none⟩) hX1).trans d0;have e1:=(hb2.cell (p:=⟨X,1,none⟩) hX1).trans d1;have e2:=(hb2.cell (p:=⟨X,2,none⟩) hX1).trans d2;have e3:=(hb2.cell (p:=⟨X,3,none⟩) hX1).trans d3;have e4:=(hb2.cell (p:=⟨X,4,none⟩) hX1).trans d4;have e5:=(hb2.cell (p:=⟨X,5,none⟩) hX1).trans d5;have hB2:=btr HB.out hb2;have HK2:=zh (HK.out.below hB2);have HB2:=zh hB2;have z0:=HK2.out.c0;have hX2:X<w2.heap.size:=Nat.lt_of_lt_of_le hX1 hb2.size;have HS6:Hid (∀w',Keep (fun k=>k=B∨(Value.slice ap ls.length cp).ownBlock=some k) w2 w'→Dt.Box w' X x (.slice a1 x.m.length q1) (.slice a2 x.l.length q2) (.slice a3 x.t.length q3)):=by
  intro w' hk;have hn:¬ (X=B∨(Value.slice ap ls.length cp).ownBlock=some X):=by
   intro e;rcases e with e|e
   ·have:=HX.out;omega
   ·have:=(Dt.own_lt HK.out.rp X e).2;have:=HX.out;omega
  exact⟨(hk.cell 0 hX2 hn).trans e0,(hk.cell 1 hX2 hn).trans e1,(hk.cell 2 hX2 hn).trans e2,(hk.cell 3 hX2 hn).trans e3,(hk.cell 4 hX2 hn).trans e4,(hk.cell 5 hX2 hn).trans e5⟩
 have hB2l:B<w2.heap.size:=block_lt_of_cell z0;clear hb2 hB2 c0 c2 d0 d1 d2 d3 d4 d5 HB hX1 hbl;go_upto_region 8 with fail
 go_cut [] (fun wx=>Dt.Pushed w2 base B (.slice ap ls.length cp) (.slice ad ds.length cd) ls ds ⟨x,.slice a1 x.m.length q1,.slice a2 x.l.length q2,.slice a3 x.t.length q3⟩ wx)
 case first=>
  have hmx:ls.length+1≤maxLen:=by unfold maxLen;omega
  have hby:(ls.length+1)*104≤140737488355328:=by omega
  obtain⟨wA,hwA⟩:∃wA,w2.drew.alloc (.cells #[.int .i64 0,.int .i64 0,.string ⟨#[]⟩,.slice none 0 0,.slice none 0 0,.slice none 0 0] 25)=wA:=⟨_,rfl⟩
  have hbA:Below w2.heap.size w2 wA:=by rw[←hwA];exact(Below.refl _ w2).drew.alloc (Nat.le_refl _) _
  have z0A:wA.cell? ⟨B,0,none⟩=some (.slice ap ls.length cp):=(hbA.cell (p:=⟨B,0,none⟩) hB2l).trans z0;have HWA:=zh hbA;have HOW:Hid (wA.ownsRow base 25 6 (.slice ap ls.length cp) ls.length (Dt.flatP ls)):=Dt.own_keep (S:=fun _=>False) HK2.out.rp ((Keep.refl _ w2).below hbA) (fun _ _ h=>h);have HNEW:=zh (World.news_of_block (w:=wA) (B:=w2.heap.size) (cs:=#[.int .i64 0,.int .i64 0,.string ⟨#[]⟩,.slice none 0 0,.slice none 0 0,.slice none 0 0]) (t:=25) (fr:=(0,0)) (by rw[←hwA];exact heap_alloc_new w2.drew _));have HONE:Hid (∀u∈[Value.int .i64 0,.int .i64 0,.string ⟨#[]⟩,.slice none 0 0,.slice none 0 0,.slice none 0 0],u.oneCell'=true):=by show ∀u∈_,_;simp[Value.oneCell']
  have HBS:Hid (base≤wA.heap.size):=by show _≤_;have:=HK2.out.le;have:=hbA.size;omega
  have hsA:wA.heap.size=w2.heap.size+1:=by rw[←hwA];simp
  have HinfoS:Hid ((Tryz.prog.info? 25).map (·.size)=some 6):=by show _=_;rw[hi];simp[hz1]
  have hx:Dt.Box w2.drew X x (.slice a1 x.m.length q1) (.slice a2 x.l.length q2) (.slice a3 x.t.length q3):=⟨e0,e1,e2,e3,e4,e5⟩
  have hxA:Dt.Box wA X x (.slice a1 x.m.length q1) (.slice a2 x.l.length q2) (.slice a3 x.t.length q3):=HS6.out _ ((Keep.refl _ w2).below hbA);have hli0:(0:Int)≤(ls.length:Int):=by omega
  have hli1:(ls.length:Int)<(ls.length:Int)+1:=by omega
  have HPU:Hid (∀g cap w5,w5.ownsRow base 25 6 (.slice (some ⟨g,0,none⟩) (ls.length+1) cap) (ls.length+1) (Dt.flatP ls++[.int .i64 0,.int .i64 0,.string ⟨#[]⟩,.slice none 0 0,.slice none 0 0,.slice none 0 0])→wA.grownBy w5 (Value.slice ap ls.length cp).ownBlock→((Value.slice ap ls.length cp).ownBlock=some g∨g=wA.heap.size)→
    Dt.Pushed w2 base B (.slice ap ls.length cp) (.slice ad ds.length cd) ls ds ⟨x,.slice a1 x.m.length q1,.slice a2 x.l.length q2,.slice a3 x.t.length q3⟩ ((w5.setCells g (ls.length*6) [.int .i64 x.k,.int .i64 x.n,.string x.s,.slice a1 x.m.length q1,.slice a2 x.l.length q2,.slice a3 x.t.length q3]).setCell ⟨B,0,none⟩ (.slice (some ⟨g,0,none⟩) (ls.length+1) cap))):=by
   intro g cap w5 hown hgrow hat;obtain⟨k1,k2,k3⟩:=HK2.out.push h2' ⟨x,.slice a1 x.m.length q1,.slice a2 x.l.length q2,.slice a3 x.t.length q3⟩ (HR.out.keep2 HB2.out) HWA.out rfl hown hgrow (hat.imp id (fun e=>by rw[e];exact HWA.out.size));exact⟨_,k1,k2,k3⟩
  have HTA:Hid (∀g cap w5,w5.ownsRow base 25 6 (.slice (some ⟨g,0,none⟩) (ls.length+1) cap) (ls.length+1) (Dt.flatP ls++[.int .i64 0,.int .i64 0,.string ⟨#[]⟩,.slice none 0 0,.slice none 0 0,.slice none 0 0])→wA.grownBy w5 (Value.slice ap ls.length cp).ownBlock→((Value.slice ap ls.length cp).ownBlock=some g∨g=wA.heap.size)→
    w5.there g (ls.length*6) 6∧Hid (B≠g)∧Hid (∀w',Keep (fun k=>k=g∨k=B) w5 w'→Dt.Box w' X x (.slice a1 x.m.length q1) (.slice a2 x.l.length q2) (.slice a3 x.t.length q3))∧(∀vv,((w5.setCells g (ls.length*6) vv).cell? ⟨B,0,none⟩=some (.slice ap ls.length cp)∧(w5.setCells g (ls.length*6) vv).frozen? ⟨B,0,none⟩=false))∧w5.frozen? ⟨B,0,none⟩=false∧w5.cell? ⟨B,0,none⟩=some (.slice ap ls.length cp)):=by
   intro g cap w5 hown hgrow hat;have hkg:Keep (fun k=>k=B∨(Value.slice ap ls.length cp).ownBlock=some k) w2 w5:=Dt.grown_keep HWA.out hgrow;have hgB:B≠g:=by
    rcases hat with e|e
    ·intro e';exact HK2.out.np (by rw[e,e'])
    ·omega
   have hnB:¬ (Value.slice ap ls.length cp).ownBlock=some B:=HK2.out.np;have hk5:Keep (fun k=>(Value.slice ap ls.length cp).ownBlock=some k) w2 w5:=⟨hkg.os,hkg.tape,hkg.output,hkg.size,fun k hk hn=>(hgrow.block k (by omega) (fun e=>hn e.symm)).trans (HWA.out.block k hk)⟩
   refine⟨Pt.own_there hown (by rw[List.length_append,Dt.flatP_length];exact Nat.le_refl _),zh hgB,zh (fun w' hk=>HS6.out w' (((hkg.mono (T:=fun k=>(k=B∨(Value.slice ap ls.length cp).ownBlock=some k)∨k=g) (fun k _ e=> .inl e)).trans (hk.mono (fun k _ e=>e.elim .inr (fun e=> .inl (.inl e))))).mono (fun k hk e=> ?_))),fun vv=>⟨?_,?_⟩,(hk5.frozen 0 hB2l hnB).trans (HK2.out.fz 0),(hk5.cell 0 hB2l hnB).trans z0⟩
   ·rcases e with e|e
    ·exact e
    ·subst e;rcases hat with e'|e'
     ·exact .inr e'
     ·omega
   ·rw[World.cell?_setCells_out g vv _ w5 ⟨B,0,none⟩ (fun h=>absurd h hgB)];exact(hk5.cell 0 hB2l hnB).trans z0
   ·rw[World.frozen?_setCells];exact(hk5.frozen 0 hB2l hnB).trans (HK2.out.fz 0)
  clear e0 e1 e2 e3 e4 e5 hbA;refine wp_region_noPanic ?_;refine wp_region_held_drew (S:=fun w'=>Dt.Box w' X x (.slice a1 x.m.length q1) (.slice a2 x.l.length q2) (.slice a3 x.t.length q3)) (by kernel_rfl) hx (fun hHeld=> ?_);refine Zm.u 0 ?_ rfl ?_ ?_;rotate_left
  ·intro w hSw;try dsimp only at hSw
   go_simp;try with_reducible rfl
  simp only[Act.put,za,zb,zc];refine Zm.u 1 ?_ rfl ?_ ?_;rotate_left
  ·intro w hSw;try dsimp only at hSw
   go_simp;try with_reducible rfl
  simp only[Act.put,za,zb,zc];refine Zm.u 2 ?_ rfl ?_ ?_;rotate_left
  ·intro w hSw;try dsimp only at hSw
   go_simp;try with_reducible rfl
  simp only[Act.put,za,zb,zc];refine Zm.u 4 ?_ rfl ?_ ?_;rotate_left
  ·intro w hSw;obtain⟨g0,g1,g2,g3,g4,g5⟩:=hSw;go_simp;try with_reducible rfl
  simp only[Act.put,za,zb,zc];refine wpAnyH_ready (rs:=[3,6]) (by kernel_rfl) (by simp) ?_;refine AllReadyH.cons (o:=⟨_,_,_,_,_,_⟩) rfl (fun K hK=> ?_) ?_
  ·go_simp;refine hK.out _ _ ?_ (fun hHeld=> ?_)
   ·exact hx
   clear hK K;try simp only[Act.put,za,zb,zc]
   refine Zm.u 5 ?_ rfl ?_ ?_;rotate_left
   ·intro w hSw;try dsimp only at hSw
    go_simp;try with_reducible rfl
   simp only[Act.put,za,zb,zc];refine Zm.r 6 rfl (fun K hK=> ?_);go_simp;refine hK.out _ _ ?_ (fun hHeld=> ?_)
   ·exact hxA
   clear hK K;try simp only[Act.put,za,zb,zc]
   refine Zm.r 7 rfl (fun K hK=> ?_);refine step_append_lies _ (by rfl) _ _ 23 (by rfl) base 25 i0 (.agg #[.int .i64 0,.int .i64 0,.string ⟨#[]⟩,.slice none 0 0,.slice none 0 0,.slice none 0 0]) 6 104 Tryz.underlying23 hi hz0 hz1 hz2 rfl (by decide) (.slice ap ls.length cp) ls.length (Dt.flatP ls) (by rfl) HOW.out ⟨w2.heap.size,0,none⟩ 1 1 [.int .i64 0,.int .i64 0,.string ⟨#[]⟩,.slice none 0 0,.slice none 0 0,.slice none 0 0] (by rfl) rfl HNEW.out HONE.out (by omega) hmx hby HBS.out _ rfl ?_;intro g cap w5 hown hgrow hat hlt;refine hK.out _ _ ?_ (fun hHeld=> ?_)
   ·exact HS6.out _ (Dt.grown_keep HWA.out hgrow)
   clear hK K;try simp only[Act.put,za,zb,zc]
   obtain⟨hthere,HgB,HBX2,hbc⟩:=HTA.out g cap w5 hown hgrow hat;have hsb:=hbc.1;have hfb:=hbc.2;refine Zm.u 10 ?_ rfl ?_ ?_;rotate_left
   ·intro w hSw;try dsimp only at hSw
    go_simp;try with_reducible rfl
   simp only[Act.put,za,zb,zc];refine Zm.u 11 ?_ rfl ?_ ?_;rotate_left
   ·intro w hSw;try dsimp only at hSw
    go_simp;try with_reducible rfl
   simp only[Act.put,za,zb,zc];refine Zm.u 8 ?_ rfl ?_ ?_;rotate_left
   ·intro w hSw;try dsimp only at hSw
    go_simp;try with_reducible rfl
   simp only[Act.put,za,zb,zc];refine wpAnyH_ready (rs:=[9,12]) (by kernel_rfl) (by simp) ?_;refine AllReadyH.cons (o:=⟨_,_,_,_,_,_⟩) rfl (fun K hK=> ?_) ?_
   ·rw[if_pos (by rfl)];refine wp_store_mid _ _ _ rfl g (ls.length*6) #[.int .i64 x.k,.int .i64 x.n,.string x.s,.slice a1 x.m.length q1,.slice a2 x.l.length q2,.slice a3 x.t.length q3] rfl rfl hthere HinfoS.out (by simp[Value.oneCell']) ?_;refine hK.out _ _ ?_ (fun hHeld=> ?_)
    ·exact HBX2.out _ (Pt.keep_setCells (.inl rfl) _ _ (Keep.refl _ _))
    clear hK K;try simp only[Act.put]
    refine Zm.r 12 rfl (fun K hK=> ?_);go_simp;refine hK.out _ _ ?_ (fun hHeld=> ?_)
    ·exact HBX2.out _ ((Pt.keep_setCells (.inl rfl) _ _ (Keep.refl _ _)).setCell (.inr rfl) _ _)
    clear hK K;try simp only[Act.put,za,zb,zc]
    refine wpAnyH_done (by kernel_rfl) ?_ _;refine NoPanic.normal ?_;go_wp2_with fail
    go_meet;exact HPU.out _ _ _ hown hgrow hat
   refine AllReadyH.cons (o:=⟨_,_,_,_,_,_⟩) rfl (fun K hK=> ?_) AllReadyH.nil;go_simp;refine hK.out _ _ ?_ (fun hHeld=> ?_)
   ·exact HBX2.out _ ((Keep.refl _ _).setCell (.inr rfl) _ _)
   clear hK K;try simp only[Act.put,za,zb,zc]
   refine Zm.r 9 rfl (fun K hK=> ?_);rw[if_pos (by rfl)];refine wp_store_mid _ _ _ rfl g (ls.length*6) #[.int .i64 x.k,.int .i64 x.n,.string x.s,.slice a1 x.m.length q1,.slice a2 x.l.length q2,.slice a3 x.t.length q3] rfl rfl (Pt.there_setCell hthere _ _ _) HinfoS.out (by simp[Value.oneCell']) ?_;refine hK.out _ _ ?_ (fun hHeld=> ?_)
   ·exact HBX2.out _ (Pt.keep_setCells (.inl rfl) _ _ ((Keep.refl _ _).setCell (.inr rfl) _ _))
   clear hK K;try simp only[Act.put]
   refine wpAnyH_done (by kernel_rfl) ?_ _;refine NoPanic.normal ?_;rw[Pt.setCells_comm _ _ _ _ HgB.out];go_wp2_with fail
   go_meet;exact HPU.out _ _ _ hown hgrow hat
  refine AllReadyH.cons (o:=⟨_,_,_,_,_,_⟩) rfl (fun K hK=> ?_) AllReadyH.nil;go_simp;refine hK.out _ _ ?_ (fun hHeld=> ?_)
  ·exact hxA
  clear hK K;try simp only[Act.put,za,zb,zc]
  refine Zm.r 3 rfl (fun K hK=> ?_);go_simp;refine hK.out _ _ ?_ (fun hHeld=> ?_)
  ·exact hxA
  clear hK K;try simp only[Act.put,za,zb,zc]
  refine Zm.u 5 ?_ rfl ?_ ?_;rotate_left
  ·intro w hSw;try dsimp only at hSw
   go_simp;try with_reducible rfl
  simp only[Act.put,za,zb,zc];refine Zm.r 7 rfl (fun K hK=> ?_);refine step_append_lies _ (by rfl) _ _ 23 (by rfl) base 25 i0 (.agg #[.int .i64 0,.int .i64 0,.string ⟨#[]⟩,.slice none 0 0,.slice none 0 0,.slice none 0 0]) 6 104 Tryz.underlying23 hi hz0 hz1 hz2 rfl (by decide) (.slice ap ls.length cp) ls.length (Dt.flatP ls) (by rfl) HOW.out ⟨w2.heap.size,0,none⟩ 1 1 [.int .i64 0,.int .i64 0,.string ⟨#[]⟩,.slice none 0 0,.slice none 0 0,.slice none 0 0] (by rfl) rfl HNEW.out HONE.out (by omega) hmx hby HBS.out _ rfl ?_;intro g cap w5 hown hgrow hat hlt;refine hK.out _ _ ?_ (fun hHeld=> ?_)
  ·exact HS6.out _ (Dt.grown_keep HWA.out hgrow)
  clear hK K;try simp only[Act.put,za,zb,zc]
  obtain⟨hthere,HgB,HBX2,hbc⟩:=HTA.out g cap w5 hown hgrow hat;have hsb:=hbc.1;have hfb:=hbc.2;refine Zm.u 10 ?_ rfl ?_ ?_;rotate_left
  ·intro w hSw;try dsimp only at hSw
   go_simp;try with_reducible rfl
  simp only[Act.put,za,zb,zc];refine Zm.u 11 ?_ rfl ?_ ?_;rotate_left
  ·intro w hSw;try dsimp only at hSw
   go_simp;try with_reducible rfl
  simp only[Act.put,za,zb,zc];refine Zm.u 8 ?_ rfl ?_ ?_;rotate_left
  ·intro w hSw;try dsimp only at hSw
   go_simp;try with_reducible rfl
  simp only[Act.put,za,zb,zc];refine wpAnyH_ready (rs:=[9,12]) (by kernel_rfl) (by simp) ?_;refine AllReadyH.cons (o:=⟨_,_,_,_,_,_⟩) rfl (fun K hK=> ?_) ?_
  ·rw[if_pos (by rfl)];refine wp_store_mid _ _ _ rfl g (ls.length*6) #[.int .i64 x.k,.int .i64 x.n,.string x.s,.slice a1 x.m.length q1,.slice a2 x.l.length q2,.slice a3 x.t.length q3] rfl rfl hthere HinfoS.out (by simp[Value.oneCell']) ?_;refine hK.out _ _ ?_ (fun hHeld=> ?_)
   ·exact HBX2.out _ (Pt.keep_setCells (.inl rfl) _ _ (Keep.refl _ _))
   clear hK K;try simp only[Act.put]
   refine Zm.r 12 rfl (fun K hK=> ?_);go_simp;refine hK.out _ _ ?_ (fun hHeld=> ?_)
   ·exact HBX2.out _ ((Pt.keep_setCells (.inl rfl) _ _ (Keep.refl _ _)).setCell (.inr rfl) _ _)
   clear hK K;try simp only[Act.put,za,zb,zc]
   refine wpAnyH_done (by kernel_rfl) ?_ _;refine NoPanic.normal ?_;go_wp2_with fail
   go_meet;exact HPU.out _ _ _ hown hgrow hat
  refine AllReadyH.cons (o:=⟨_,_,_,_,_,_⟩) rfl (fun K hK=> ?_) AllReadyH.nil;go_simp;refine hK.out _ _ ?_ (fun hHeld=> ?_)
  ·exact HBX2.out _ ((Keep.refl _ _).setCell (.inr rfl) _ _)
  clear hK K;try simp only[Act.put,za,zb,zc]
  refine Zm.r 9 rfl (fun K hK=> ?_);rw[if_pos (by rfl)];refine wp_store_mid _ _ _ rfl g (ls.length*6) #[.int .i64 x.k,.int .i64 x.n,.string x.s,.slice a1 x.m.length q1,.slice a2 x.l.length q2,.slice a3 x.t.length q3] rfl rfl (Pt.there_setCell hthere _ _ _) HinfoS.out (by simp[Value.oneCell']) ?_;refine hK.out _ _ ?_ (fun hHeld=> ?_)
  ·exact HBX2.out _ (Pt.keep_setCells (.inl rfl) _ _ ((Keep.refl _ _).setCell (.inr rfl) _ _))
  clear hK K;try simp only[Act.put]
  refine wpAnyH_done (by kernel_rfl) ?_ _;refine NoPanic.normal ?_;rw[Pt.setCells_comm _ _ _ _ HgB.out];go_wp2_with fail
  go_meet;exact HPU.out _ _ _ hown hgrow hat
 case rest=>
  obtain⟨vp',hK3,hk3,hr3⟩:=hcut;have z1:=hK3.c1;have f1:=hK3.fz 1;have hds:=HK.out.eq;obtain⟨i1,hi1,hy0,hy1,hy2⟩:=info_parts Dt.infoI;have hm1:ds.length+1≤maxLen:=by unfold maxLen;omega
  have hm2:(ds.length+1)*8≤140737488355328:=by omega
  have hBc:B<wc.heap.size:=block_lt_of_cell z1;have HOD:=zh hK3.rd;have hm3:base≤wc.heap.size+1:=by have:=hK3.le;omega
  have HPD:Hid (∀v' w5,w5.ownsRow base 3 1 v' (ds.length+1) (ds.map (Value.int .i64)++[.int .i64 (deep:Int)])→(wc.alloc (.cells #[.int .i64 (deep:Int)] 3)).grownBy w5 (Value.slice ad ds.length cd).ownBlock→(v'.ownBlock=(Value.slice ad ds.length cd).ownBlock∨v'.ownBlock=some (wc.heap.size+1))→
    Hid (Dt.Inv w2 base B (.slice ap ls.length cp) (.slice ad ds.length cd) x.l (ls.map Dt.P.d++[x]) (deep+1) (0,ls.length+1) 0 (w5.setCell ⟨B,1,none⟩ v'))∧w5.cell? ⟨B,1,none⟩=some (.slice ad ds.length cd)∧w5.frozen? ⟨B,1,none⟩=false):=by
   intro v' w5 hown hg hat;have hA:Below wc.heap.size wc (wc.alloc (.cells #[.int .i64 (deep:Int)] 3)):=(Below.refl _ _).alloc (Nat.le_refl _) _;obtain⟨k1,k2,k3⟩:=hK3.pushD (by rw[List.length_append];show ds.length+1≤ls.length+1;omega) (deep:Int) hA hown hg (by rw[World.size_alloc];exact hat);obtain⟨q1,q2,q3⟩:=Dt.WS.step hk3 hr3 (fun _ h=> .inl h) k2 (fun _ h=> .inl h) k3;have hk5:Keep (fun k=>(Value.slice ad ds.length cd).ownBlock=some k) wc w5:=⟨hg.os.trans hA.os,hg.tape.trans hA.tape,hg.output.trans hA.output,Nat.le_trans hA.size hg.size,fun k hk hn=>(hg.block k (by have:=hA.size;omega) (fun e=>hn e.symm)).trans (hA.block k hk)⟩
   refine⟨⟨0,vp',v',_,_,k1,?_,fun _=>by simp[Dt.pres],q1,q2,q3⟩,(hk5.cell 1 hBc hK3.nd).trans z1,(hk5.frozen 1 hBc hK3.nd).trans f1⟩;rw[List.drop_zero,List.length_append]
   rfl
  have HBX:Hid (∀w',Keep (Dt.WS B (.slice ap ls.length cp) (.slice ad ds.length cd)) w2 w'→Dt.Box w' X x (.slice a1 x.m.length q1) (.slice a2 x.l.length q2) (.slice a3 x.t.length q3)):=by
   have hb0:=HS6.out w2 (Keep.refl _ _);intro w' hk;have hn:¬Dt.WS B (.slice ap ls.length cp) (.slice ad ds.length cd) X:=by
    intro e;have hx:=HX.out;rcases e with e|e|e
    ·omega
    ·have:=(Dt.own_lt HK.out.rp X e).2;omega
    ·have:=(Dt.own_lt HK.out.rd X e).2;omega
   obtain⟨g0,g1,g2,g3,g4,g5⟩:=hb0;exact⟨(hk.cell 0 hX2 hn).trans g0,(hk.cell 1 hX2 hn).trans g1,(hk.cell 2 hX2 hn).trans g2,(hk.cell 3 hX2 hn).trans g3,(hk.cell 4 hX2 hn).trans g4,(hk.cell 5 hX2 hn).trans g5⟩
  have HVP:=zh (fun k h=>(Dt.own_lt HK.out.rp k h).1);have HVD:=zh (fun k h=>(Dt.own_lt HK.out.rd k h).1);have HRL:=zh ((Dt.rep_iff _ _ _ _ _ _).1 HR.out).2.1;have HRT:=zh ((Dt.rep_iff _ _ _ _ _ _).1 HR.out).2.2;clear hK3 hk3 hr3 hds;go_wp2_with(at_builtin;refine Ap.list rfl _ _ 22 rfl base 3 i1 (.int .i64 0) 1 8 Tryz.underlying22 hi1 hy0 hy1 hy2 rfl (by decide) (.slice ad ds.length cd) ds.length (ds.map (Value.int .i64)) rfl (HOD.out.alloc _) (.slice (some ⟨wc.heap.size,0,none⟩) 1 1) 1 [.int .i64 (deep:Int)] rfl (.inr ⟨_,_,rfl,World.news_of_block (cs:=#[.int .i64 (deep:Int)]) (t:=3) (fr:=(0,0)) (heap_alloc_new wc _)⟩) rfl (by simp[Value.oneCell']) hm1 hm2 (by simpa using hm3) ?_;intro v' w5 hown hg hat;obtain⟨a5,c5,rfl⟩:=Dt.row_form hown;obtain⟨HI0,g1,g2⟩:=HPD.out _ w5 hown hg (by simpa using hat);clear hown hg hat)
  obtain⟨w6,hw6⟩:∃w6,w5.setCell ⟨B,1,none⟩ (.slice a5 (ds.length+1) c5)=w6:=⟨_,rfl⟩
  rw[hw6]at HI0 ⊢;clear hw6 g1 g2 z1 f1 z0 HPD HOD
  go_loopw [6] (fun v wr=>∃j:Nat,v= .int .i64 j∧j≤x.l.length∧Hid (Dt.Inv w2 base B (.slice ap ls.length cp) (.slice ad ds.length cd) x.l (ls.map Dt.P.d++[x]) (deep+1) (0,ls.length+1) j wr)) (fun v _=>x.l.length - (intOf v).toNat)
  case atStart=>exact⟨0,rfl,Nat.zero_le _,HI0⟩
  case round=>
   obtain⟨j,rfl,hj,HI⟩:=hrel;obtain⟨b0,b1,b2,b3,b4,b5⟩:=HBX.out wr HI.out.keep;by_cases hlt:j<x.l.length
   ·have hlti:(j:Int)<(x.l.length:Int):=by omega
    obtain⟨y,g,o,vmj,vlj,vtj,hag,hsx,HC⟩:=Dt.inv_step HRL.out (Dt.wf_l HW.out) HB2.out HVP.out HVD.out HL.out HI.out (by omega) hlt;have HAG:=zh hag;obtain⟨y0,y1,y2,y3,y4,y5⟩:=hsx;rw[show(((deep+1:Nat):Int))=(deep:Int)+1 by omega]at HC;subst hag;clear HI;go_wp2_with fail
    refine HC.out.mono ?_;rintro e w7 ⟨rfl,hI7⟩;have HI7:=zh hI7;clear hI7 HC b0 b1 b2 b3 b4 b5 y0 y1 y2 y3 y4 y5;go_wp2;go_roundw
    case rel=>first|exact⟨j+1,by simp,by omega,HI7⟩|exact⟨_,_,_,_,_,_,_,_,_,_,_,_,⟨j+1,by simp,by omega,HI7⟩,rfl⟩
    case measure=>simp[intOf];omega
   ·obtain rfl:j=x.l.length:=by omega
    have hgei:(x.l.length:Int)≤(x.l.length:Int):=by omega
    have HI0':Hid (Dt.Inv w2 base B (.slice ap ls.length cp) (.slice ad ds.length cd) x.t (ls.map Dt.P.d++[x]++Dt.pres x.l) (deep+1) (Dt.chksE x.l (deep+1) (0,ls.length+1)) 0 wr):=by
     obtain⟨e,vpj,vdj,lsj,dsj,k1,k2,k3,k4,k5,k6⟩:=HI.out;refine⟨e,vpj,vdj,lsj,dsj,k1,?_,fun h0=> ?_,k4,k5,k6⟩
     ·rw[k2,List.drop_length,Dt.chksE_nil,List.drop_zero]
     ·rw[k3 h0,List.take_length,List.take_zero];simp[Dt.pres]
    clear HI;go_wp2;obtain⟨wo,hwo⟩:∃wo,wo=wr:=⟨_,rfl⟩
    rw[←hwo]at HI0' b0 b1 b2 b3 b4 b5 ⊢;clear hwo
    go_loopw [7] (fun v wr=>∃j:Nat,v= .int .i64 j∧j≤x.t.length∧Hid (Dt.Inv w2 base B (.slice ap ls.length cp) (.slice ad ds.length cd) x.t (ls.map Dt.P.d++[x]++Dt.pres x.l) (deep+1) (Dt.chksE x.l (deep+1) (0,ls.length+1)) j wr)) (fun v _=>x.t.length - (intOf v).toNat)
    case atStart=>exact⟨0,rfl,Nat.zero_le _,HI0'⟩
    case round=>
     obtain⟨j,rfl,hj,HI⟩:=hrel;obtain⟨b0,b1,b2,b3,b4,b5⟩:=HBX.out wr HI.out.keep;by_cases hlt:j<x.t.length
     ·have hlti:(j:Int)<(x.t.length:Int):=by omega
      obtain⟨y,g,o,vmj,vlj,vtj,hag,hsx,HC⟩:=Dt.inv_step HRT.out (Dt.wf_t HW.out) HB2.out HVP.out HVD.out HT.out HI.out (by omega) hlt;have HAG:=zh hag;obtain⟨y0,y1,y2,y3,y4,y5⟩:=hsx;rw[show(((deep+1:Nat):Int))=(deep:Int)+1 by omega]at HC;subst hag;clear HI;go_wp2_with fail
      refine HC.out.mono ?_;rintro e w7 ⟨rfl,hI7⟩;have HI7:=zh hI7;clear hI7 HC b0 b1 b2 b3 b4 b5 y0 y1 y2 y3 y4 y5;go_wp2;go_roundw
      case rel=>first|exact⟨j+1,by simp,by omega,HI7⟩|exact⟨_,_,_,_,_,_,_,_,_,_,_,_,⟨j+1,by simp,by omega,HI7⟩,rfl⟩
      case measure=>simp[intOf];omega
     ·obtain rfl:j=x.t.length:=by omega
      have hgei:(x.t.length:Int)≤(x.t.length:Int):=by omega
      go_wp2
      go_end0
      refine⟨rfl,?_⟩;obtain⟨e,vpj,vdj,lsj,dsj,k1,k2,k3,k4,k5,k6⟩:=HI.out;rw[List.drop_length,Dt.chksE_nil]at k2;have hb2:=HB2.out;refine⟨vpj,vdj,lsj,dsj,by rw[HDP.out,k2];exact k1,by rw[HDP.out,k2],fun h0=> ?_,((Keep.refl _ w).below hb2).trans k4,fun k hk=> ?_,fun k hk=> ?_⟩
      ·rw[HDP.out,k2]at h0;rw[k3 h0,List.take_length,HPR.out];simp
      ·rcases k5 k hk with h|h
       ·exact .inl h
       ·have:=hb2.size;exact .inr (by omega)
      ·rcases k6 k hk with h|h
       ·exact .inl h
       ·have:=hb2.size;exact .inr (by omega)
mutual
theorem Dt.goes_any:∀x:Dt.D,Dt.Goes x
 | .mk k n s m l t=>by
  intro deep base B vp vd vm vl vt ls ds w hW hR hK hd;by_cases h1:64<deep
  ·exact goes_bad (.mk k n s m l t) deep base B vp vd vm vl vt ls ds w hW hR hK hd (.inl h1)
  by_cases h2:4096≤ls.length
  ·exact goes_bad (.mk k n s m l t) deep base B vp vd vm vl vt ls ds w hW hR hK hd (.inr (.inl h2))
  by_cases hs:Dt.single (.mk k n s m l t)=true
  ·exact goes_good (.mk k n s m l t) (Dt.goess_any l) (Dt.goess_any t) deep base B vp vd vm vl vt ls ds w hW hR hK hd h1 h2 hs
  ·exact goes_bad (.mk k n s m l t) deep base B vp vd vm vl vt ls ds w hW hR hK hd (.inr (.inr (by simpa using hs)))
theorem Dt.goess_any:∀(l:List Dt.D) (y:Dt.D),y∈l→Dt.Goes y
 |[],_,h=>absurd h (by simp)
 |x :: r,y,h=>(List.mem_cons.1 h).elim (fun e=>by rw[e];exact Dt.goes_any x) (fun h'=>Dt.goess_any r y h')
end
end Go.Proofs.YtfjmlfbohenmfaaGreat
