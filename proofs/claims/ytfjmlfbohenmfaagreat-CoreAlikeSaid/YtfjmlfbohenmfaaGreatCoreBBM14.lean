/-
  CoROfb, CoAwMb.
-/
import Derived.Test.YtfjmlfbohenmfaaGreatCoRAsb
import Derived.Test.YtfjmlfbohenmfaaGreatCoreBBM9
import Derived.Test.YtfjmlfbohenmfaaGreatCoreBBM2
import Derived.Test.YtfjmlfbohenmfaaGreatCoSdb
import Derived.Test.YtfjmlfbohenmfaaGreatCoreBBM13
import Derived.Test.YtfjmlfbohenmfaaGreatCoreBBM12
import Derived.Test.YtfjmlfbohenmfaaGreatCoreBBM7
import Derived.Test.YtfjmlfbohenmfaaGreatCoreBBM3
set_option maxRecDepth 100000
set_option maxHeartbeats 32000000
namespace Go.Proofs.YtfjmlfbohenmfaaGreat
open Go.RowKit
attribute [local go_sem] Oper.semAt_some
theorem rOf_any{F:Nat→Prop}(f:Nat)(d:Dt.D)(vm vl vt:Value)(w:World)(hW:Dt.Wf d)(hR:Dt.Rep F w d vm vl vt)(hck:Dt.check d=0)(hFi:Dt.Fine d)(hg:Co.goodF f d=true)(hWc:Co.Wf (Co.asC d))(hall:Co.all (Co.asC d)≠[]):
  Calls Tryz.prog 64 #[.agg #[.int .i64 d.k,.int .i64 d.n,.string d.s,vm,vl,vt]] w fun e w'=>∃um ul ut up uk,e= .returned (.tuple #[Co.V (Co.asC d) um ul ut up uk,.int .i64 0])∧Co.Rep (fun k=>w.heap.size≤k) w' (Co.asC d) um ul ut up uk∧Below w.heap.size w w':=by
 obtain⟨a1,n1,q1,a2,n2,q2,a3,n3,q3,rfl,rfl,rfl⟩:=hR.forms;obtain⟨w1,hw1⟩:∃w1,w.alloc (.cells #[.int .i64 d.k,.int .i64 d.n,.string d.s,.slice a1 n1 q1,.slice a2 n2 q2,.slice a3 n3 q3] 25)=w1:=⟨_,rfl⟩
 obtain⟨w2,hw2⟩:∃w2,w1.alloc (.cells #[.int .i64 0,.int .i64 0,.string ⟨#[]⟩,.int .i64 0,.int .i64 0,.string ⟨#[]⟩,.slice none 0 0,.slice none 0 0,.slice none 0 0,.slice none 0 0,.slice none 0 0] 28)=w2:=⟨_,rfl⟩
 obtain⟨hb1,hs1⟩:=new_below hw1;obtain⟨hb2,hs2⟩:=new_below hw2;have hb12:Below w.heap.size w w2:=btr hb1 hb2;obtain⟨R0,hR0⟩:∃R0,w1.heap.size=R0:=⟨_,rfl⟩
 have Hd:Hid (Hp w2 w.heap.size _ _):=(Hp.new hw1).below hb2;have hr2:=Hp.new hw2;rw[hR0]at hr2 hs1 hs2;have Hr:=zh hr2;have HR0:Hid (R0=w.heap.size+1∧w2.heap.size=R0+1):=⟨hs1,hs2⟩
 have HB2:=zh hb12;have hrc:=rCheck_any d _ _ _ w2 hW (hR.below hb12);rw[hck]at hrc;have HR:=zh (hR.below hb12);have HW:=zh hW;have HFI:=zh hFi;have HGD:=zh hg;have HWC:=zh hWc;have HAL:=zh hall;have HCK:=zh hck;obtain⟨y0,y1,y2,y3,y4,y5⟩:=Hd.out.c6;clear hb1 hb2 hs1 hs2 hb12 hr2 hR hW hFi hg hWc hall hck;go_enter Tryz.func64,Tryz.ntmps64;go_wp2_with fail
 refine hrc.mono ?_;rintro e w3 ⟨rfl,hb3⟩;have HD3:Hid (Hp w3 w.heap.size _ _):=Hd.out.below hb3;have HB3:Hid (Below w.heap.size w w3):=btr HB2.out hb3;have HR3:=zh (Hr.out.below hb3);have HZ3:=zh hb3.size;have hcl:=rClone_any d _ _ _ w3 HW.out (HR.out.below hb3);rw[show Dt.clone d=d from if_pos HCK.out]at hcl;clear y0 y1 y2 y3 y4 y5;obtain⟨y0,y1,y2,y3,y4,y5⟩:=HD3.out.c6;clear hrc hb3 hw1 hw2;go_wp2_with fail
 refine hcl.mono ?_;rintro e w4 ⟨⟨um,ul,ut,rfl,hr4⟩,hb4⟩;obtain⟨e1,f1,g1,e2,f2,g2,e3,f3,g3,rfl,rfl,rfl⟩:=hr4.forms;have HB4:Hid (Below w.heap.size w w4):=btr HB3.out hb4;have HR4:=zh (HR3.out.below hb4);have HZ4:=zh hb4.size;have has:=coRAs_any f d HGD.out (fun k=>w3.heap.size≤k) _ _ _ w4 HFI.out hr4;clear y0 y1 y2 y3 y4 y5;clear hcl hr4 hb4;go_wp2_with fail
 refine has.mono ?_;rintro e w5 ⟨um,ul,ut,up,uk,rfl,hr5,hb5⟩;obtain⟨h1,k1,s1,h2,k2,s2,h3,k3,s3,h4,k4,s4,h5,k5,s5,rfl,rfl,rfl,rfl,rfl⟩:=hr5.forms5;have HB5:Hid (Below w.heap.size w w5):=btr HB4.out hb5;have HR5:=zh (HR4.out.below hb5);obtain⟨c,hc⟩:∃c,Co.asC d=c:=⟨_,rfl⟩
 rw[hc]at hr5 HWC HAL ⊢;unfold Co.V;obtain⟨w6,hw6⟩:∃w6,w5.alloc (.cells #[.int .i64 c.k,.int .i64 c.n,.string c.s,.int .i64 c.d.k,.int .i64 c.d.n,.string c.d.s,.slice h1 k1 s1,.slice h2 k2 s2,.slice h3 k3 s3,.slice h4 k4 s4,.slice h5 k5 s5] 28)=w6:=⟨_,rfl⟩
 obtain⟨hb6,hs6⟩:=new_below hw6;have HC6:=zh (Hp.new hw6);have HB6:Hid (Below w.heap.size w w6):=btr HB5.out hb6;have HR6:=zh (HR5.out.below hb6);have HRC:Hid (Co.Rep (fun k=>w2.heap.size≤k) w6 c (.slice h1 k1 s1) (.slice h2 k2 s2) (.slice h3 k3 s3) (.slice h4 k4 s4) (.slice h5 k5 s5)):=Co.Rep.mono (fun b hb _=>by have h1:=HZ3.out;have h2:=HZ4.out;rcases hb with hb|hb <;> omega) c (hr5.below hb6);have hal:=rAll07_any c _ _ _ _ _ w6 HWC.out HRC.out;unfold Co.V at hal;obtain⟨c0,c1,c2,c3,c4,c5,c6,c7,c8,c9,c10⟩:=HC6.out.c11;have HS5:=zh hs6;clear has hr5 hb5 hb6 hs6;go_wp2_with fail
 refine hal.mono ?_;rintro e w7 ⟨v,ps,rfl,hown,hmap,-,-,hb7⟩;have hps:ps≠[]:=fun e=>HAL.out (by rw[←hmap,e];rfl)
 obtain⟨vg,vc,rfl⟩:=Co.nil_none hown hps;have hn:=fun W=>Lib.run_eql_slice_nil (P:=Tryz.prog) W 26 28 (some ⟨vg,0,none⟩) ps.length vc 0 0 Tryz.underlying26
 have HC7:=zh (HC6.out.below hb7);have HR7:=zh (HR6.out.below hb7);have HB7:Hid (Below w.heap.size w w7):=btr HB6.out hb7;have k11:=Co.set11_keep w7 R0 (.int .i64 c.k) (.int .i64 c.n) (.string c.s) (.int .i64 c.d.k) (.int .i64 c.d.n) (.string c.d.s) (.slice h1 k1 s1) (.slice h2 k2 s2) (.slice h3 k3 s3) (.slice h4 k4 s4) (.slice h5 k5 s5);have hr0:=HR0.out;have HF:Hid (Co.Rep (fun k=>w.heap.size≤k) (Co.set11 w7 R0 (.int .i64 c.k) (.int .i64 c.n) (.string c.s) (.int .i64 c.d.k) (.int .i64 c.d.n) (.string c.d.s) (.slice h1 k1 s1) (.slice h2 k2 s2) (.slice h3 k3 s3) (.slice h4 k4 s4) (.slice h5 k5 s5)) c (.slice h1 k1 s1) (.slice h2 k2 s2) (.slice h3 k3 s3) (.slice h4 k4 s4) (.slice h5 k5 s5)∧Below w.heap.size w (Co.set11 w7 R0 (.int .i64 c.k) (.int .i64 c.n) (.string c.s) (.int .i64 c.d.k) (.int .i64 c.d.n) (.string c.d.s) (.slice h1 k1 s1) (.slice h2 k2 s2) (.slice h3 k3 s3) (.slice h4 k4 s4) (.slice h5 k5 s5))):=
  ⟨Co.Rep.mono (fun b hb _=>by omega) c (Co.Rep.keep k11 (fun b hb _ e=>by omega) c (HRC.out.below hb7)),HB7.out.trans (k11.to_below (fun k e=>by omega) HB7.out.size)⟩
 clear c0 c1 c2 c3 c4 c5 c6 c7 c8 c9 c10;clear hal hown hmap hb7 hps k11 hr0 hw6;obtain⟨c0,c1,c2,c3,c4,c5,c6,c7,c8,c9,c10⟩:=HC7.out.c11;obtain⟨rr0,rr1,rr2,rr3,rr4,rr5,rr6,rr7,rr8,rr9,rr10⟩:=HR7.out.c11;have rrf0:=HR7.out.frz 0;have rrf1:=HR7.out.frz 1;have rrf2:=HR7.out.frz 2;have rrf3:=HR7.out.frz 3;have rrf4:=HR7.out.frz 4;have rrf5:=HR7.out.frz 5;have rrf6:=HR7.out.frz 6;have rrf7:=HR7.out.frz 7;have rrf8:=HR7.out.frz 8;have rrf9:=HR7.out.frz 9;have rrf10:=HR7.out.frz 10;go_wp2;refine bodyPost_ret (v:= .tuple #[.agg #[.int .i64 c.k,.int .i64 c.n,.string c.s,.int .i64 c.d.k,.int .i64 c.d.n,.string c.d.s,.slice h1 k1 s1,.slice h2 k2 s2,.slice h3 k3 s3,.slice h4 k4 s4,.slice h5 k5 s5],.int .i64 0]) (by simp[results,Tryz.results64,go_sem, *]) rfl ?_;rw[hc];exact⟨_,_,_,_,_,rfl,HF.out.1,HF.out.2⟩
end Go.Proofs.YtfjmlfbohenmfaaGreat
namespace Go.Proofs.YtfjmlfbohenmfaaGreat
open Go.RowKit
namespace Co
open Dt Lx
def awTA:ByteArray:=⟨#[40,108,97,109,98,100,97,32,40,49,41,32,40,99,97,108,108,32,40,103,108,111,98,97,108,32,99,97,114,41,32,40,108,111,99,97,108,32,49,41,41,41]⟩
def awTB:ByteArray:=⟨#[40,108,97,109,98,100,97,32,40,50,41,32,40,99,97,108,108,32,40,103,108,111,98,97,108,32,99,97,114,41,32,40,108,111,99,97,108,32,50,41,41,41]⟩
def awD(n:Int):D:=lstD [symD ⟨#[108,97,109,98,100,97]⟩,lstD [fixD n],lstD [symD ⟨#[99,97,108,108]⟩,lstD [symD ⟨#[103,108,111,98,97,108]⟩,symD ⟨#[99,97,114]⟩],lstD [symD ⟨#[108,111,99,97,108]⟩,fixD n]]]
def awC(n:Int):C:=asC (awD n)
theorem aw_lexA:Lx.lex awTA.data.toList=((Lx.lex awTA.data.toList).1,0,0):=by kernel_rfl
theorem aw_lexB:Lx.lex awTB.data.toList=((Lx.lex awTB.data.toList).1,0,0):=by kernel_rfl
theorem aw_lenA:(Lx.lex awTA.data.toList).1.length=17:=by kernel_rfl
theorem aw_lenB:(Lx.lex awTB.data.toList).1.length=17:=by kernel_rfl
theorem aw_rdA:rdD 30 (Lx.lex awTA.data.toList).1=some (awD 1,[]):=by kernel_rfl
theorem aw_rdB:rdD 30 (Lx.lex awTB.data.toList).1=some (awD 2,[]):=by kernel_rfl
theorem aw_wf(n:Int)(h: -100≤n∧n≤100):Dt.Wf (awD n):=by
 unfold awD;simp[symD,fixD,lstD,Dt.Wf,Dt.Wfs,ByteArray.size];omega
theorem aw_fine(n:Int):Dt.Fine (awD n):=by
 unfold awD;simp[symD,fixD,lstD,Dt.Fine,Dt.Fines]
theorem aw_ckA:Dt.check (awD 1)=0:=by kernel_rfl
theorem aw_ckB:Dt.check (awD 2)=0:=by kernel_rfl
theorem aw_gdA:goodF 9 (awD 1)=true:=by kernel_rfl
theorem aw_gdB:goodF 9 (awD 2)=true:=by kernel_rfl
theorem aw_datum:datumC (awC 1)=(awD 1,0):=by kernel_rfl
theorem aw_size:Cd.sizeD (awD 1)=12:=by kernel_rfl
theorem aw_check:check (awC 1) []=0:=by kernel_rfl
theorem aw_alike:alike (awC 1) (awC 2)=true:=by kernel_rfl
theorem aw_same:same (awC 1) (awC 2)=false:=by kernel_rfl
theorem aw_glob:globV (awC 1)=[[99,97,114]]:=by kernel_rfl
theorem aw_allA:(all (awC 1)).isEmpty=false:=by kernel_rfl
theorem aw_allB:(all (awC 2)).isEmpty=false:=by kernel_rfl
def awE(n:Int):C:= .mk 8 0 ⟨#[]⟩ zD [n] [.mk 10 0 ⟨#[]⟩ zD [] [.mk 3 0 ⟨#[99,97,114]⟩ zD [] [],.mk 2 n ⟨#[]⟩ zD [] []]]
theorem aw_eqA:awC 1=awE 1:=by kernel_rfl
theorem aw_eqB:awC 2=awE 2:=by kernel_rfl
theorem aw_cwf(n:Int)(h: -100≤n∧n≤100):Wf (awE n):=by
 unfold awE zD;simp[Wf,Wfs,Dt.Wf,Dt.Wfs,ByteArray.size];omega
end Co
end Go.Proofs.YtfjmlfbohenmfaaGreat
