/-
 shuttlelaw07.small and few: they answer, whatever that is. (Printed by genCoLess.py, expanded by pp.py.)
-/
import Derived.Test.YtfjmlfbohenmfaaGreatCoreBBM10
import Derived.Test.YtfjmlfbohenmfaaGreatCoreBBM8
import Derived.Test.YtfjmlfbohenmfaaGreatCoreBBM7
import Derived.StillTailTactics
import Derived.Test.YtfjmlfbohenmfaaGreatCoreBBM2
namespace Go.Proofs.YtfjmlfbohenmfaaGreat
open Go.RowKit
attribute [local go_sem] Oper.semAt_some
namespace Co
def LBs(w:World)(L:Nat)(left:Int):Prop:=Hp w L #[.int .i64 left] 3
def SPost(L:Nat)(w:World)(e:Ending)(w':World):Prop:=∃b:Bool,e= .returned (.bool b)∧Keep (fun k=>k=L) w w'∧(b=true→∃l',LBs w' L l'∧0≤l'∧l'≤1000)
def SmallIs(L:Nat)(a:C):Prop:=∀(F:Nat→Prop) (vm vl vt vp vk:Value) (w:World) (left:Int),Wf a→(∀k,F k→k≠L)→Rep F w a vm vl vt vp vk→LBs w L left→0≤left→left≤1000→
  Calls Tryz.prog 34 #[V a vm vl vt vp vk,.pointer (some ⟨L,0,none⟩)] w (SPost L w)
structure QS(L:Nat)(a:C)(w:World)(A0:Nat)(F:Nat→Prop)(vm vl vt vp vk:Value)(wx:World):Prop where
 bx:Bc wx A0 a vm vl vt vp vk
 rp:Rep F wx a vm vl vt vp vk
 kp:Keep (fun k=>k=L) w wx
 ms:∃lj,LBs wx L lj∧0≤lj∧lj≤1000
end Co
set_option maxRecDepth 100000 in
set_option maxHeartbeats 16000000 in
theorem coLess_step(L:Nat)(a:Co.C)(hch:∀y∈a.l,Co.SmallIs L y):Co.SmallIs L a:=by
 intro F vm vl vt vp vk w left hWa hF hRa hLB hl0 hl1;obtain⟨b1,n1,q1,b2,n2,q2,b3,n3,q3,b4,n4,q4,b5,n5,q5,e1,e2,e3,e4,e5⟩:=Co.Rep.forms5 hRa;subst e1 e2 e3 e4 e5;unfold Co.V;obtain⟨w1,hw1⟩:∃w1,w.alloc (.cells #[.int .i64 a.k,.int .i64 a.n,.string a.s,.int .i64 a.d.k,.int .i64 a.d.n,.string a.d.s,.slice b1 n1 q1,.slice b2 n2 q2,.slice b3 n3 q3,.slice b4 n4 q4,.slice b5 n5 q5] 28)=w1:=⟨_,rfl⟩
 obtain⟨hb1,hs1⟩:=new_below hw1;have ha0:Co.Bc w1 w.heap.size a (.slice b1 n1 q1) (.slice b2 n2 q2) (.slice b3 n3 q3) (.slice b4 n4 q4) (.slice b5 n5 q5):=Hp.new hw1;have hll:L<w.heap.size:=hLB.lt;have hl2:Co.LBs w1 L left:=Hp.below hLB hb1;obtain⟨w3,hw3⟩:∃w3,w1.setCell ⟨L,0,none⟩ (.int .i64 (left - 1))=w3:=⟨_,rfl⟩
 have hk3:Keep (fun k=>k=L) w1 w3:=by rw[←hw3];exact set_keep _ _ _ _
 have hl3:Co.LBs w3 L (left - 1):=by
  rw[←hw3];exact Hp.set hl2 0 _
 have HA:Hid (Co.Bc w3 w.heap.size a (.slice b1 n1 q1) (.slice b2 n2 q2) (.slice b3 n3 q3) (.slice b4 n4 q4) (.slice b5 n5 q5)):=ha0.keep hk3 (by omega);have HKP:Hid (Keep (fun k=>k=L) w w3):=((Keep.refl _ w).below hb1).trans hk3;have HRP:Hid (Co.Rep F w3 a (.slice b1 n1 q1) (.slice b2 n2 q2) (.slice b3 n3 q3) (.slice b4 n4 q4) (.slice b5 n5 q5)):=Co.Rep.keep hk3 (fun k hk _=>hF k hk) a (hRa.below hb1);have HNOT:Hid (∀wx,Keep (fun k=>k=L) w wx→Co.SPost L w (.returned (.bool false)) wx):=fun wx hk=>⟨false,rfl,hk,fun h=>by cases h⟩
 have HX:Hid (Co.LBs w1 L left):=hl2;have x0:=HX.out.cell 0 rfl;have xf0:=HX.out.frz 0;have HY:Hid (Co.LBs w3 L (left - 1)):=hl3;have y0:=HY.out.cell 0 rfl;obtain⟨a0,a1,a2,a3,a4,a5,a6,a7,a8,a9,a10⟩:=HA.out.c11;have HCH:=zh hch;have HWA:=zh hWa;have HF:=zh hF;have hka:a.l.length≤140737488355328:=(Co.wf_parts hWa).2.2.2.2.2.1;clear hch hWa hF hRa hLB hb1 ha0 hl2 hk3 hl3 hs1;by_cases g1:left - 1<0
 ·have t1:decide (left - 1<0)=true:=decide_eq_true g1;have HR:=zh (HNOT.out w3 HKP.out);clear g1;go_enter Tryz.func34,Tryz.ntmps34;go_wp2;go_ret;exact HR.out
 have t1:decide (left - 1<0)=false:=decide_eq_false g1;by_cases g2:200<n4
 ·have t2:decide ((200:Int)<(n4:Int))=true:=decide_eq_true (by omega);have HR:=zh (HNOT.out w3 HKP.out);clear g2;go_enter Tryz.func34,Tryz.ntmps34;go_wp2;go_ret;exact HR.out
 have t2:decide ((200:Int)<(n4:Int))=false:=decide_eq_false (by omega);by_cases g3:400<n5
 ·have t3:decide ((400:Int)<(n5:Int))=true:=decide_eq_true (by omega);have HR:=zh (HNOT.out w3 HKP.out);clear g3;go_enter Tryz.func34,Tryz.ntmps34;go_wp2;go_ret;exact HR.out
 have t3:decide ((400:Int)<(n5:Int))=false:=decide_eq_false (by omega);by_cases g4:1000<a.s.size
 ·have t4:decide ((1000:Int)<(a.s.size:Int))=true:=decide_eq_true (by omega);have HR:=zh (HNOT.out w3 HKP.out);clear g4;go_enter Tryz.func34,Tryz.ntmps34;go_wp2;go_ret;exact HR.out
 have t4:decide ((1000:Int)<(a.s.size:Int))=false:=decide_eq_false (by omega);by_cases g5:1000<a.d.s.size
 ·have t5:decide ((1000:Int)<(a.d.s.size:Int))=true:=decide_eq_true (by omega);have HR:=zh (HNOT.out w3 HKP.out);clear g5;go_enter Tryz.func34,Tryz.ntmps34;go_wp2;go_ret;exact HR.out
 have t5:decide ((1000:Int)<(a.d.s.size:Int))=false:=decide_eq_false (by omega);by_cases g6:100<n1
 ·have t6:decide ((100:Int)<(n1:Int))=true:=decide_eq_true (by omega);have HR:=zh (HNOT.out w3 HKP.out);clear g6;go_enter Tryz.func34,Tryz.ntmps34;go_wp2;go_ret;exact HR.out
 have t6:decide ((100:Int)<(n1:Int))=false:=decide_eq_false (by omega);by_cases g7:300<n2
 ·have t7:decide ((300:Int)<(n2:Int))=true:=decide_eq_true (by omega);have HR:=zh (HNOT.out w3 HKP.out);clear g7;go_enter Tryz.func34,Tryz.ntmps34;go_wp2;go_ret;exact HR.out
 have t7:decide ((300:Int)<(n2:Int))=false:=decide_eq_false (by omega);by_cases g8:300<n3
 ·have t8:decide ((300:Int)<(n3:Int))=true:=decide_eq_true (by omega);have HR:=zh (HNOT.out w3 HKP.out);clear g8;go_enter Tryz.func34,Tryz.ntmps34;go_wp2;go_ret;exact HR.out
 have t8:decide ((300:Int)<(n3:Int))=false:=decide_eq_false (by omega);have HQ0:Hid (Co.QS L a w w.heap.size F (.slice b1 n1 q1) (.slice b2 n2 q2) (.slice b3 n3 q3) (.slice b4 n4 q4) (.slice b5 n5 q5) w3):=⟨HA.out,HRP.out,HKP.out,left - 1,HY.out,by omega,by omega⟩
 have hn5:n5=a.l.length:=by
  obtain⟨-,-,⟨_,_,he,-⟩⟩:=(Co.rep_iff _ _ _ _ _ _ _ _).1 HRP.out;injection he
 subst hn5;go_enter Tryz.func34,Tryz.ntmps34;go_wp2;clear x0 xf0 y0 t1 t2 t3 t4 t5 t6 t7 t8 g2 g3 g4 g5 g6 g7 g8 hw1 hw3 HKP HRP HX HY HA;clear a0 a1 a2 a3 a4 a5 a6 a7 a8 a9 a10
 go_loopw [65] (fun v wr=>∃j:Nat,v= .int .i64 j∧j≤a.l.length∧Hid (Co.QS L a w w.heap.size F (.slice b1 n1 q1) (.slice b2 n2 q2) (.slice b3 n3 q3) (.slice b4 n4 q4) (.slice b5 a.l.length q5) wr)) (fun v _=>a.l.length - (intOf v).toNat)
 case atStart=>exact⟨0,rfl,by omega,HQ0⟩
 case round=>
  clear HQ0;obtain⟨j,rfl,hj,HQ⟩:=hrel;by_cases hlt:j<a.l.length
  case neg=>
   have hge:(a.l.length:Int)≤(j:Int):=by omega
   have HE1:Hid (Co.SPost L w (.returned (.bool true)) wr):=⟨true,rfl,HQ.out.kp,fun _=>HQ.out.ms⟩
   go_wp2;go_ret;exact HE1.out
  have hlti:(j:Int)<(a.l.length:Int):=by omega
  obtain⟨hbx,hrp,hkp,lj,h1,h2,h3⟩:=HQ.out;have HBX:=zh hbx;have HRPX:=zh hrp;have HKPX:=zh hkp;obtain⟨-,-,⟨_,_,he,_,hrow⟩⟩:=(Co.rep_iff _ _ _ _ _ _ _ _).1 hrp;injection he with he1 he2 he3
  subst he1;clear he2 he3;obtain⟨ba,oa,rfl,hGa,hbla,hrepsa⟩:=hrow (by intro h0;rw[h0]at hlt;simp at hlt);obtain⟨xm,xl,xt,xp,xk,hela,hrx⟩:=hrepsa.at j hlt;have hWx:Co.Wf a.l[j]:=Co.Wfs.at (Co.wf_parts HWA.out).2.2.2.2.2.2 j hlt;have hchx:=HCH.out a.l[j] (List.getElem_mem hlt);obtain⟨x,hx⟩:∃x,a.l[j]=x:=⟨_,rfl⟩
  rw[hx]at hela hrx hWx hchx;obtain⟨c1,m1,p1,c2,m2,p2,c3,m3,p3,c4,m4,p4,c5,m5,p5,f1,f2,f3,f4,f5⟩:=Co.Rep.forms5 hrx;subst f1 f2 f3 f4 f5;obtain⟨wd,hwd⟩:∃wd,wr.alloc (.cells #[.int .i64 x.k,.int .i64 x.n,.string x.s,.int .i64 x.d.k,.int .i64 x.d.n,.string x.d.s,.slice c1 m1 p1,.slice c2 m2 p2,.slice c3 m3 p3,.slice c4 m4 p4,.slice c5 m5 p5] 28)=wd:=⟨_,rfl⟩
  obtain⟨hbd,hsd⟩:=new_below hwd;have hcall:=hchx F _ _ _ _ _ wd lj hWx HF.out (hrx.below hbd) (Hp.below h1 hbd) h2 h3;have HD:Hid (Co.Bc wd wr.heap.size x (.slice c1 m1 p1) (.slice c2 m2 p2) (.slice c3 m3 p3) (.slice c4 m4 p4) (.slice c5 m5 p5)):=Hp.new hwd;obtain⟨d0,d1,d2,d3,d4,d5,d6,d7,d8,d9,d10⟩:=HD.out.c11;unfold Co.V at hcall;obtain⟨e0,e1,e2,e3,e4,e5,e6,e7,e8,e9,e10⟩:=hela;have HBD:=zh hbd;have HLT:Hid (L<w.heap.size):=hll;clear hbx hrp hkp h1 h2 h3 hrow hrepsa hrx hWx hchx hx hbd hsd hll;go_wp2_with fail
  refine hcall.mono ?_;rintro e w9 ⟨R,rfl,hk9,ht9⟩;clear e0 e1 e2 e3 e4 e5 e6 e7 e8 e9 e10 hcall hwd;clear d0 d1 d2 d3 d4 d5 d6 d7 d8 d9 d10;have hkd:Keep (fun k=>k=L) wr w9:=(keep_of_below HBD.out).trans hk9;have HK9:Hid (Keep (fun k=>k=L) w w9):=HKPX.out.trans hkd
  cases R with
  |false=>
   have HR:=zh (HNOT.out w9 HK9.out);clear hk9 ht9 hkd;go_wp2;go_ret;exact HR.out
  |true=>
   have HL9:Hid (Co.QS L a w w.heap.size F (.slice b1 n1 q1) (.slice b2 n2 q2) (.slice b3 n3 q3) (.slice b4 n4 q4) (.slice (some ⟨ba,oa,none⟩) a.l.length q5) w9):=
    ⟨HBX.out.keep hkd (by have:=HLT.out;omega),Co.Rep.keep hkd (fun k hk _=>HF.out k hk) a HRPX.out,HK9.out,ht9 rfl⟩
   clear hk9 ht9 hkd;go_wp2;go_roundw
   case rel=>exact⟨j+1,by simp,by omega,HL9⟩
   case measure=>simp[intOf];omega
mutual
theorem coLess_any(L:Nat):∀a:Co.C,Co.SmallIs L a
 | .mk k n s d p l=>coLess_step L (.mk k n s d p l) (coLessL_any L l)
theorem coLessL_any(L:Nat):∀(l:List Co.C),∀y∈l,Co.SmallIs L y
 |[],_,h=>absurd h (by simp)
 |c :: r,y,h=>(List.mem_cons.1 h).elim (fun e=>by rw[e];exact coLess_any L c) (fun h'=>coLessL_any L r y h')
end
namespace Co
structure QW(w:World)(F:Nat→Prop)(v:Value)(l:List C)(wx:World):Prop where
 rw_:Row F wx v l
 bl:Below w.heap.size w wx
 ms:∃lj,LBs wx w.heap.size lj∧0≤lj∧lj≤1000
end Co
set_option maxRecDepth 100000 in
set_option maxHeartbeats 16000000 in
theorem coFew_any{F:Nat→Prop}(l:List Co.C)(v:Value)(w:World)(hWa:Co.Wfs l)(hF:∀k,F k→k<w.heap.size)(hln:l.length≤1000000)(hR:Co.Row F w v l):
  Calls Tryz.prog 9 #[v] w fun e w'=>∃b:Bool,e= .returned (.bool b)∧Below w.heap.size w w':=by
 obtain⟨a0,cap0,rfl,hcap,hrow0⟩:=hR;have hR:Co.Row F w (.slice a0 l.length cap0) l:=⟨a0,cap0,rfl,hcap,hrow0⟩
 obtain⟨w1,hw1⟩:∃w1,w.alloc (.cells #[.int .i64 1000] 3)=w1:=⟨_,rfl⟩
 obtain⟨hb1,hs1⟩:=new_below hw1;have hl1:Co.LBs w1 w.heap.size 1000:=Hp.new hw1;have HQ0:Hid (Co.QW w F (.slice a0 l.length cap0) l w1):=⟨hR.below hb1,hb1,1000,hl1,by decide,by decide⟩
 have HW:=zh hWa;have HF:=zh hF;clear hWa hF hR hb1 hs1 hl1 hrow0;go_enter Tryz.func9,Tryz.ntmps9;go_wp2
 go_loopw [8] (fun v wr=>∃j:Nat,v= .int .i64 j∧j≤l.length∧Hid (Co.QW w F (.slice a0 l.length cap0) l wr)) (fun v _=>l.length - (intOf v).toNat)
 case atStart=>exact⟨0,rfl,by omega,HQ0⟩
 case round=>
  clear HQ0 hw1;obtain⟨j,rfl,hj,HQ⟩:=hrel;by_cases hlt:j<l.length
  case neg=>
   have hge:(l.length:Int)≤(j:Int):=by omega
   have HE1:Hid (Below w.heap.size w wr):=HQ.out.bl;go_wp2;go_ret;exact⟨_,rfl,HE1.out⟩
  have hlti:(j:Int)<(l.length:Int):=by omega
  obtain⟨hrw,hbl,lj,h1,h2,h3⟩:=HQ.out;have HRW:=zh hrw;have HBL:=zh hbl;obtain⟨_,_,he,_,hrow⟩:=hrw;injection he with he1 he2 he3
  subst he1;clear he2 he3;obtain⟨ba,oa,rfl,hGa,hbla,hrepsa⟩:=hrow (by intro h0;rw[h0]at hlt;simp at hlt);obtain⟨xm,xl,xt,xp,xk,hela,hrx⟩:=hrepsa.at j hlt;have hWx:Co.Wf l[j]:=Co.Wfs.at HW.out j hlt;obtain⟨x,hx⟩:∃x,l[j]=x:=⟨_,rfl⟩
  rw[hx]at hela hrx hWx;obtain⟨c1,m1,p1,c2,m2,p2,c3,m3,p3,c4,m4,p4,c5,m5,p5,f1,f2,f3,f4,f5⟩:=Co.Rep.forms5 hrx;subst f1 f2 f3 f4 f5;obtain⟨wd,hwd⟩:∃wd,wr.alloc (.cells #[.int .i64 x.k,.int .i64 x.n,.string x.s,.int .i64 x.d.k,.int .i64 x.d.n,.string x.d.s,.slice c1 m1 p1,.slice c2 m2 p2,.slice c3 m3 p3,.slice c4 m4 p4,.slice c5 m5 p5] 28)=wd:=⟨_,rfl⟩
  obtain⟨hbd,hsd⟩:=new_below hwd;have hcall:=coLess_any w.heap.size x F _ _ _ _ _ wd lj hWx (fun k hk e=>by have:=HF.out k hk;omega) (hrx.below hbd) (Hp.below h1 hbd) h2 h3;have HD:Hid (Co.Bc wd wr.heap.size x (.slice c1 m1 p1) (.slice c2 m2 p2) (.slice c3 m3 p3) (.slice c4 m4 p4) (.slice c5 m5 p5)):=Hp.new hwd;obtain⟨d0,d1,d2,d3,d4,d5,d6,d7,d8,d9,d10⟩:=HD.out.c11;unfold Co.V at hcall;obtain⟨e0,e1,e2,e3,e4,e5,e6,e7,e8,e9,e10⟩:=hela;have HBD:=zh hbd;clear hbl h1 h2 h3 hrow hrepsa hrx hWx hx hbd hsd;go_wp2_with fail
  refine hcall.mono ?_;rintro e w9 ⟨R,rfl,hk9,ht9⟩;clear e0 e1 e2 e3 e4 e5 e6 e7 e8 e9 e10 hcall hwd;clear d0 d1 d2 d3 d4 d5 d6 d7 d8 d9 d10;have hkd:Keep (fun k=>k=w.heap.size) wr w9:=(keep_of_below HBD.out).trans hk9;have HB9:Hid (Below w.heap.size w w9):=HBL.out.trans (hkd.to_below (fun k h=>by omega) HBL.out.size)
  cases R with
  |false=>
   clear hk9 ht9 hkd;go_wp2;go_ret;exact⟨_,rfl,HB9.out⟩
  |true=>
   have HL9:Hid (Co.QW w F (.slice (some ⟨ba,oa,none⟩) l.length cap0) l w9):=
    ⟨HRW.out.keep hkd (fun k hk _ e=>by have:=HF.out k hk;omega),HB9.out,ht9 rfl⟩
   clear hk9 ht9 hkd;go_wp2;go_roundw
   case rel=>exact⟨j+1,by simp,by omega,HL9⟩
   case measure=>simp[intOf];omega
end Go.Proofs.YtfjmlfbohenmfaaGreat
