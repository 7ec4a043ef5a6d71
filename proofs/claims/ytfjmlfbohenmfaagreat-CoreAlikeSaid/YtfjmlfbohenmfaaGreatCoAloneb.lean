/-
 core.single: may a core be by itself? (Printed by genCoAlone.py.)
-/
import Derived.Test.YtfjmlfbohenmfaaGreatCoParamsb
import Derived.Test.YtfjmlfbohenmfaaGreatCoreBBM5
import Derived.Test.YtfjmlfbohenmfaaGreatCoreBBM9
import Derived.Test.YtfjmlfbohenmfaaGreatDtSingleKb
import Derived.Test.YtfjmlfbohenmfaaGreatCoreBBM2
namespace Go.Proofs.YtfjmlfbohenmfaaGreat
open Go.RowKit
attribute [local go_sem] Oper.semAt_some
namespace Co
theorem len0(P:Nat):((P:Int)==0)=(P==0):=by rw[Bool.eq_iff_iff];simp
theorem empty_list(s:ByteArray):empty s=s.toList.isEmpty:=by unfold empty;rw[ByteArray.toList_eq]
end Co
set_option maxRecDepth 100000 in
set_option maxHeartbeats 4000000 in
theorem single1_any{F:Nat→Prop}(n:Int)(s:ByteArray)(d:Dt.D)(p:List Int)(L:Nat)(al:Option Addr)(cl:Nat)(vm vl vt vp:Value)(w:World)(_hs:s.size≤140737488355328)(hL:L≤140737488355328)(hp:p.length≤140737488355328)(hW:Dt.Wf d)(hD:Dt.Rep F w d vm vl vt)(hP:Dt.IRow F w vp p):
  Calls Tryz.prog 65 #[.agg #[.int .i64 1,.int .i64 n,.string s,.int .i64 d.k,.int .i64 d.n,.string d.s,vm,vl,vt,vp,.slice al L cl]] w fun e w'=>e= .returned (.bool (decide (L=0)&&((n==0)&&(s.toList.isEmpty&&(p.isEmpty&&(Co.const d))))))∧Below w.heap.size w w':=by
 obtain⟨a1,n1,q1,a2,n2,q2,a3,n3,q3,rfl,rfl,rfl⟩:=hD.forms;obtain⟨ap,cp,rfl,hlc,hcc⟩:=hP;have hP:Dt.IRow F w (.slice ap p.length cp) p:=⟨ap,cp,rfl,hlc,hcc⟩
 have HP:=zh hP;have HD:=zh hD;obtain⟨K,hK⟩:∃K,Co.const d=K:=⟨_,rfl⟩
 obtain⟨R,hR⟩:∃R,R=(decide (L=0)&&((n==0)&&(s.toList.isEmpty&&(p.isEmpty&&(Co.const d))))):=⟨_,rfl⟩
 rw[←hR];have hE:p.isEmpty=(p.length==0):=by cases p <;> rfl
 rw[hE,hK]at hR;have hE2:=Co.len0 p.length;obtain⟨E,hE3⟩:∃E,E=(p.length==0):=⟨_,rfl⟩
 rw[←hE3]at hR hE2;obtain⟨P,hPn⟩:∃P,p.length=P:=⟨_,rfl⟩
 have HPN:=zh hPn;have HR:=zh hR;have HK:=zh (fun W (hb:Below w.heap.size w W)=>constC_any d _ _ _ W hW (hD.below hb));rw[hK]at HK;have hfm:=fun W=>forms_any 1 W
 have hfv:Co.fmV 1= .agg #[.string ⟨#[99,111,110,115,116]⟩,.int .i64 4,.int .i64 0,.int .i64 0]:=rfl;have hik:Co.isKind 1=true:=rfl;rw[hfv,hik]at hfm;clear hfv hik;obtain⟨w1,hw1⟩:∃w1,w.alloc (.cells #[.int .i64 1,.int .i64 n,.string s,.int .i64 d.k,.int .i64 d.n,.string d.s,.slice a1 n1 q1,.slice a2 n2 q2,.slice a3 n3 q3,.slice ap p.length cp,.slice al L cl] 28)=w1:=⟨_,rfl⟩
 obtain⟨hb1,hs1⟩:=new_below hw1;have Hc_0:=zh (Hp.new hw1);rw[hPn]at hw1 Hc_0 hE2 hp hP;rw[hPn];obtain⟨c0,c1,c2,c3,c4,c5,c6,c7,c8,c9,c10⟩:=Hc_0.out.c11;have HB1:=zh hb1;clear hb1 hs1 hK hR hE hE3 hPn hP hD hW hlc hcc;go_enter Tryz.func65,Tryz.ntmps65;go_wp2_with fail
 refine(hfm _).mono ?_;rintro e w2 ⟨rfl,hb2⟩;clear hw1;clear c0 c1 c2 c3 c4 c5 c6 c7 c8 c9 c10;have hw3:w2.alloc (.cells #[.string ⟨#[99,111,110,115,116]⟩,.int .i64 4,.int .i64 0,.int .i64 0] 88)=w2.alloc (.cells #[.string ⟨#[99,111,110,115,116]⟩,.int .i64 4,.int .i64 0,.int .i64 0] 88):=rfl;obtain⟨hb3,hs3⟩:=new_below hw3;have Hc_1:=zh ((Hc_0.out.below hb2).below hb3);have Hf_0:=zh (Hp.new hw3);obtain⟨c0,c1,c2,c3,c4,c5,c6,c7,c8,c9,c10⟩:=Hc_1.out.c11;obtain⟨f0,f1,f2,f3⟩:=Hf_0.out.c4;have HB2:=zh (((btr HB1.out hb2)).trans (hb3.mono (Nat.le_trans HB1.out.size hb2.size)));clear hb2 hb3 hs3 hfm hw3;have b1:decide ((L:Int)<0)=false:=decide_eq_false (by omega);by_cases g2:0<L
 ·have b2:decide (0<(L:Int))=true:=decide_eq_true (by omega);have HF:Hid (R=false):=by show R=false;rw[HR.out,decide_eq_false (by omega)];rfl
  have b2n:decide (0<L)=true:=decide_eq_true g2
  skip
  go_wp2;go_ret;exact⟨by rw[HF.out];rfl,HB2.out⟩
 have b2:decide (0<(L:Int))=false:=decide_eq_false (by omega);have b2n:decide (0<L)=false:=decide_eq_false (by omega);have HRR:Hid (R=((n==0)&&(s.toList.isEmpty&&(E&&K)))):=by show R=_;rw[HR.out,decide_eq_true (by omega),Bool.true_and]
 clear g2;go_wp2_with(first
   |(go_at_call 89;refine(HK.out _ HB2.out).mono ?_;rintro e w4 ⟨rfl,hb3⟩;have HB3:=zh ((btr HB2.out hb3));clear hb3)
   |fail)
 all_goals
  go_ret;first
   |exact⟨by rw[HRR.out];simp_all,HB4.out⟩
   |exact⟨by rw[HRR.out];simp_all,HB3.out⟩
   |exact⟨by rw[HRR.out];simp_all,HB2.out⟩
set_option maxRecDepth 100000 in
set_option maxHeartbeats 4000000 in
theorem single2_any{F:Nat→Prop}(n:Int)(s:ByteArray)(d:Dt.D)(p:List Int)(L:Nat)(al:Option Addr)(cl:Nat)(vm vl vt vp:Value)(w:World)(_hs:s.size≤140737488355328)(hL:L≤140737488355328)(hp:p.length≤140737488355328)(hW:Dt.Wf d)(hD:Dt.Rep F w d vm vl vt)(hP:Dt.IRow F w vp p):
  Calls Tryz.prog 65 #[.agg #[.int .i64 2,.int .i64 n,.string s,.int .i64 d.k,.int .i64 d.n,.string d.s,vm,vl,vt,vp,.slice al L cl]] w fun e w'=>e= .returned (.bool (decide (L=0)&&((Co.var n)&&(s.toList.isEmpty&&(p.isEmpty&&(Co.none_ d))))))∧Below w.heap.size w w':=by
 obtain⟨a1,n1,q1,a2,n2,q2,a3,n3,q3,rfl,rfl,rfl⟩:=hD.forms;obtain⟨ap,cp,rfl,hlc,hcc⟩:=hP;have hP:Dt.IRow F w (.slice ap p.length cp) p:=⟨ap,cp,rfl,hlc,hcc⟩
 have HP:=zh hP;have HD:=zh hD;obtain⟨K,hK⟩:∃K,Co.none_ d=K:=⟨_,rfl⟩
 obtain⟨V,hV⟩:∃V,Co.var n=V:=⟨_,rfl⟩
 obtain⟨R,hR⟩:∃R,R=(decide (L=0)&&((Co.var n)&&(s.toList.isEmpty&&(p.isEmpty&&(Co.none_ d))))):=⟨_,rfl⟩
 rw[←hR];have hE:p.isEmpty=(p.length==0):=by cases p <;> rfl
 rw[hE,hK,hV]at hR;have hE2:=Co.len0 p.length;obtain⟨E,hE3⟩:∃E,E=(p.length==0):=⟨_,rfl⟩
 rw[←hE3]at hR hE2;obtain⟨P,hPn⟩:∃P,p.length=P:=⟨_,rfl⟩
 have HPN:=zh hPn;have HR:=zh hR;have HK:=zh (fun W (hb:Below w.heap.size w W)=>zeroC_any d _ _ _ W hW (hD.below hb));rw[hK]at HK;have HV:=fun W=>varC_any n W
 rw[hV]at HV;have hfm:=fun W=>forms_any 2 W
 have hfv:Co.fmV 2= .agg #[.string ⟨#[108,111,99,97,108]⟩,.int .i64 1,.int .i64 0,.int .i64 0]:=rfl;have hik:Co.isKind 2=true:=rfl;rw[hfv,hik]at hfm;clear hfv hik;obtain⟨w1,hw1⟩:∃w1,w.alloc (.cells #[.int .i64 2,.int .i64 n,.string s,.int .i64 d.k,.int .i64 d.n,.string d.s,.slice a1 n1 q1,.slice a2 n2 q2,.slice a3 n3 q3,.slice ap p.length cp,.slice al L cl] 28)=w1:=⟨_,rfl⟩
 obtain⟨hb1,hs1⟩:=new_below hw1;have Hc_0:=zh (Hp.new hw1);rw[hPn]at hw1 Hc_0 hE2 hp hP;rw[hPn];obtain⟨c0,c1,c2,c3,c4,c5,c6,c7,c8,c9,c10⟩:=Hc_0.out.c11;have HB1:=zh hb1;clear hb1 hs1 hK hR hE hE3 hPn hP hD hW hlc hcc hV;go_enter Tryz.func65,Tryz.ntmps65;go_wp2_with fail
 refine(hfm _).mono ?_;rintro e w2 ⟨rfl,hb2⟩;clear hw1;clear c0 c1 c2 c3 c4 c5 c6 c7 c8 c9 c10;have hw3:w2.alloc (.cells #[.string ⟨#[108,111,99,97,108]⟩,.int .i64 1,.int .i64 0,.int .i64 0] 88)=w2.alloc (.cells #[.string ⟨#[108,111,99,97,108]⟩,.int .i64 1,.int .i64 0,.int .i64 0] 88):=rfl;obtain⟨hb3,hs3⟩:=new_below hw3;have Hc_1:=zh ((Hc_0.out.below hb2).below hb3);have Hf_0:=zh (Hp.new hw3);obtain⟨c0,c1,c2,c3,c4,c5,c6,c7,c8,c9,c10⟩:=Hc_1.out.c11;obtain⟨f0,f1,f2,f3⟩:=Hf_0.out.c4;have HB2:=zh (((btr HB1.out hb2)).trans (hb3.mono (Nat.le_trans HB1.out.size hb2.size)));clear hb2 hb3 hs3 hfm hw3;have b1:decide ((L:Int)<0)=false:=decide_eq_false (by omega);by_cases g2:0<L
 ·have b2:decide (0<(L:Int))=true:=decide_eq_true (by omega);have HF:Hid (R=false):=by show R=false;rw[HR.out,decide_eq_false (by omega)];rfl
  have b2n:decide (0<L)=true:=decide_eq_true g2
  skip
  go_wp2;go_ret;exact⟨by rw[HF.out];rfl,HB2.out⟩
 have b2:decide (0<(L:Int))=false:=decide_eq_false (by omega);have b2n:decide (0<L)=false:=decide_eq_false (by omega);have HRR:Hid (R=(V&&(s.toList.isEmpty&&(E&&K)))):=by show R=_;rw[HR.out,decide_eq_true (by omega),Bool.true_and]
 clear g2;go_wp2_with(first
   |(go_at_call 68;refine(HK.out _ HB2.out).mono ?_;rintro e w4 ⟨rfl,hb3⟩;have HB3:=zh ((btr HB2.out hb3));clear hb3)
   |(go_at_call 83;refine(HV _).mono ?_;rintro e w5 ⟨rfl,rfl⟩)
   |fail)
 all_goals
  go_ret;first
   |exact⟨by rw[HRR.out];simp_all,HB4.out⟩
   |exact⟨by rw[HRR.out];simp_all,HB3.out⟩
   |exact⟨by rw[HRR.out];simp_all,HB2.out⟩
set_option maxRecDepth 100000 in
set_option maxHeartbeats 4000000 in
theorem single3_any{F:Nat→Prop}(n:Int)(s:ByteArray)(d:Dt.D)(p:List Int)(L:Nat)(al:Option Addr)(cl:Nat)(vm vl vt vp:Value)(w:World)(hs:s.size≤140737488355328)(hL:L≤140737488355328)(hp:p.length≤140737488355328)(hW:Dt.Wf d)(hD:Dt.Rep F w d vm vl vt)(hP:Dt.IRow F w vp p):
  Calls Tryz.prog 65 #[.agg #[.int .i64 3,.int .i64 n,.string s,.int .i64 d.k,.int .i64 d.n,.string d.s,vm,vl,vt,vp,.slice al L cl]] w fun e w'=>e= .returned (.bool (decide (L=0)&&((n==0)&&((Lx.symbol s.data.toList)&&(p.isEmpty&&(Co.none_ d))))))∧Below w.heap.size w w':=by
 obtain⟨a1,n1,q1,a2,n2,q2,a3,n3,q3,rfl,rfl,rfl⟩:=hD.forms;obtain⟨ap,cp,rfl,hlc,hcc⟩:=hP;have hP:Dt.IRow F w (.slice ap p.length cp) p:=⟨ap,cp,rfl,hlc,hcc⟩
 have HP:=zh hP;have HD:=zh hD;obtain⟨K,hK⟩:∃K,Co.none_ d=K:=⟨_,rfl⟩
 obtain⟨V,hV⟩:∃V,Lx.symbol s.data.toList=V:=⟨_,rfl⟩
 obtain⟨R,hR⟩:∃R,R=(decide (L=0)&&((n==0)&&((Lx.symbol s.data.toList)&&(p.isEmpty&&(Co.none_ d))))):=⟨_,rfl⟩
 rw[←hR];have hE:p.isEmpty=(p.length==0):=by cases p <;> rfl
 rw[hE,hK,hV]at hR;have hE2:=Co.len0 p.length;obtain⟨E,hE3⟩:∃E,E=(p.length==0):=⟨_,rfl⟩
 rw[←hE3]at hR hE2;obtain⟨P,hPn⟩:∃P,p.length=P:=⟨_,rfl⟩
 have HPN:=zh hPn;have HR:=zh hR;have HK:=zh (fun W (hb:Below w.heap.size w W)=>zeroC_any d _ _ _ W hW (hD.below hb));rw[hK]at HK;have HV:=fun W=>dSymbol_any s W hs
 rw[hV]at HV;have hfm:=fun W=>forms_any 3 W
 have hfv:Co.fmV 3= .agg #[.string ⟨#[103,108,111,98,97,108]⟩,.int .i64 2,.int .i64 0,.int .i64 0]:=rfl;have hik:Co.isKind 3=true:=rfl;rw[hfv,hik]at hfm;clear hfv hik;obtain⟨w1,hw1⟩:∃w1,w.alloc (.cells #[.int .i64 3,.int .i64 n,.string s,.int .i64 d.k,.int .i64 d.n,.string d.s,.slice a1 n1 q1,.slice a2 n2 q2,.slice a3 n3 q3,.slice ap p.length cp,.slice al L cl] 28)=w1:=⟨_,rfl⟩
 obtain⟨hb1,hs1⟩:=new_below hw1;have Hc_0:=zh (Hp.new hw1);rw[hPn]at hw1 Hc_0 hE2 hp hP;rw[hPn];obtain⟨c0,c1,c2,c3,c4,c5,c6,c7,c8,c9,c10⟩:=Hc_0.out.c11;have HB1:=zh hb1;clear hb1 hs1 hK hR hE hE3 hPn hP hD hW hlc hcc hV;go_enter Tryz.func65,Tryz.ntmps65;go_wp2_with fail
 refine(hfm _).mono ?_;rintro e w2 ⟨rfl,hb2⟩;clear hw1;clear c0 c1 c2 c3 c4 c5 c6 c7 c8 c9 c10;have hw3:w2.alloc (.cells #[.string ⟨#[103,108,111,98,97,108]⟩,.int .i64 2,.int .i64 0,.int .i64 0] 88)=w2.alloc (.cells #[.string ⟨#[103,108,111,98,97,108]⟩,.int .i64 2,.int .i64 0,.int .i64 0] 88):=rfl;obtain⟨hb3,hs3⟩:=new_below hw3;have Hc_1:=zh ((Hc_0.out.below hb2).below hb3);have Hf_0:=zh (Hp.new hw3);obtain⟨c0,c1,c2,c3,c4,c5,c6,c7,c8,c9,c10⟩:=Hc_1.out.c11;obtain⟨f0,f1,f2,f3⟩:=Hf_0.out.c4;have HB2:=zh (((btr HB1.out hb2)).trans (hb3.mono (Nat.le_trans HB1.out.size hb2.size)));clear hb2 hb3 hs3 hfm hw3;have b1:decide ((L:Int)<0)=false:=decide_eq_false (by omega);by_cases g2:0<L
 ·have b2:decide (0<(L:Int))=true:=decide_eq_true (by omega);have HF:Hid (R=false):=by show R=false;rw[HR.out,decide_eq_false (by omega)];rfl
  have b2n:decide (0<L)=true:=decide_eq_true g2
  skip
  go_wp2;go_ret;exact⟨by rw[HF.out];rfl,HB2.out⟩
 have b2:decide (0<(L:Int))=false:=decide_eq_false (by omega);have b2n:decide (0<L)=false:=decide_eq_false (by omega);have HRR:Hid (R=((n==0)&&(V&&(E&&K)))):=by show R=_;rw[HR.out,decide_eq_true (by omega),Bool.true_and]
 clear g2;go_wp2_with(first
   |(go_at_call 68;refine(HK.out _ HB2.out).mono ?_;rintro e w4 ⟨rfl,hb3⟩;have HB3:=zh ((btr HB2.out hb3));clear hb3)
   |(go_at_call 90;refine(HV _).mono ?_;rintro e w5 ⟨rfl,rfl⟩)
   |fail)
 all_goals
  go_ret;first
   |exact⟨by rw[HRR.out];simp_all,HB4.out⟩
   |exact⟨by rw[HRR.out];simp_all,HB3.out⟩
   |exact⟨by rw[HRR.out];simp_all,HB2.out⟩
set_option maxRecDepth 100000 in
set_option maxHeartbeats 4000000 in
theorem single4_any{F:Nat→Prop}(n:Int)(s:ByteArray)(d:Dt.D)(p:List Int)(L:Nat)(al:Option Addr)(cl:Nat)(vm vl vt vp:Value)(w:World)(_hs:s.size≤140737488355328)(hL:L≤140737488355328)(hp:p.length≤140737488355328)(hW:Dt.Wf d)(hD:Dt.Rep F w d vm vl vt)(hP:Dt.IRow F w vp p):
  Calls Tryz.prog 65 #[.agg #[.int .i64 4,.int .i64 n,.string s,.int .i64 d.k,.int .i64 d.n,.string d.s,vm,vl,vt,vp,.slice al L cl]] w fun e w'=>e= .returned (.bool (decide (L=1)&&((Co.var n)&&(s.toList.isEmpty&&(p.isEmpty&&(Co.none_ d))))))∧Below w.heap.size w w':=by
 obtain⟨a1,n1,q1,a2,n2,q2,a3,n3,q3,rfl,rfl,rfl⟩:=hD.forms;obtain⟨ap,cp,rfl,hlc,hcc⟩:=hP;have hP:Dt.IRow F w (.slice ap p.length cp) p:=⟨ap,cp,rfl,hlc,hcc⟩
 have HP:=zh hP;have HD:=zh hD;obtain⟨K,hK⟩:∃K,Co.none_ d=K:=⟨_,rfl⟩
 obtain⟨V,hV⟩:∃V,Co.var n=V:=⟨_,rfl⟩
 obtain⟨R,hR⟩:∃R,R=(decide (L=1)&&((Co.var n)&&(s.toList.isEmpty&&(p.isEmpty&&(Co.none_ d))))):=⟨_,rfl⟩
 rw[←hR];have hE:p.isEmpty=(p.length==0):=by cases p <;> rfl
 rw[hE,hK,hV]at hR;have hE2:=Co.len0 p.length;obtain⟨E,hE3⟩:∃E,E=(p.length==0):=⟨_,rfl⟩
 rw[←hE3]at hR hE2;obtain⟨P,hPn⟩:∃P,p.length=P:=⟨_,rfl⟩
 have HPN:=zh hPn;have HR:=zh hR;have HK:=zh (fun W (hb:Below w.heap.size w W)=>zeroC_any d _ _ _ W hW (hD.below hb));rw[hK]at HK;have HV:=fun W=>varC_any n W
 rw[hV]at HV;have hfm:=fun W=>forms_any 4 W
 have hfv:Co.fmV 4= .agg #[.string ⟨#[115,101,116]⟩,.int .i64 1,.int .i64 1,.int .i64 1]:=rfl;have hik:Co.isKind 4=true:=rfl;rw[hfv,hik]at hfm;clear hfv hik;obtain⟨w1,hw1⟩:∃w1,w.alloc (.cells #[.int .i64 4,.int .i64 n,.string s,.int .i64 d.k,.int .i64 d.n,.string d.s,.slice a1 n1 q1,.slice a2 n2 q2,.slice a3 n3 q3,.slice ap p.length cp,.slice al L cl] 28)=w1:=⟨_,rfl⟩
 obtain⟨hb1,hs1⟩:=new_below hw1;have Hc_0:=zh (Hp.new hw1);rw[hPn]at hw1 Hc_0 hE2 hp hP;rw[hPn];obtain⟨c0,c1,c2,c3,c4,c5,c6,c7,c8,c9,c10⟩:=Hc_0.out.c11;have HB1:=zh hb1;clear hb1 hs1 hK hR hE hE3 hPn hP hD hW hlc hcc hV;go_enter Tryz.func65,Tryz.ntmps65;go_wp2_with fail
 refine(hfm _).mono ?_;rintro e w2 ⟨rfl,hb2⟩;clear hw1;clear c0 c1 c2 c3 c4 c5 c6 c7 c8 c9 c10;have hw3:w2.alloc (.cells #[.string ⟨#[115,101,116]⟩,.int .i64 1,.int .i64 1,.int .i64 1] 88)=w2.alloc (.cells #[.string ⟨#[115,101,116]⟩,.int .i64 1,.int .i64 1,.int .i64 1] 88):=rfl;obtain⟨hb3,hs3⟩:=new_below hw3;have Hc_1:=zh ((Hc_0.out.below hb2).below hb3);have Hf_0:=zh (Hp.new hw3);obtain⟨c0,c1,c2,c3,c4,c5,c6,c7,c8,c9,c10⟩:=Hc_1.out.c11;obtain⟨f0,f1,f2,f3⟩:=Hf_0.out.c4;have HB2:=zh (((btr HB1.out hb2)).trans (hb3.mono (Nat.le_trans HB1.out.size hb2.size)));clear hb2 hb3 hs3 hfm hw3;by_cases g1:L<1
 ·have b1:decide ((L:Int)<1)=true:=decide_eq_true (by omega);have HF:Hid (R=false):=by show R=false;rw[HR.out,decide_eq_false (by omega)];rfl
  clear g1;go_wp2;go_ret;exact⟨by rw[HF.out];rfl,HB2.out⟩
 have b1:decide ((L:Int)<1)=false:=decide_eq_false (by omega);by_cases g2:1<L
 ·have b2:decide (1<(L:Int))=true:=decide_eq_true (by omega);have HF:Hid (R=false):=by show R=false;rw[HR.out,decide_eq_false (by omega)];rfl
  clear g2;clear g1;go_wp2;go_ret;exact⟨by rw[HF.out];rfl,HB2.out⟩
 have b2:decide (1<(L:Int))=false:=decide_eq_false (by omega)
 skip
 have HRR:Hid (R=(V&&(s.toList.isEmpty&&(E&&K)))):=by show R=_;rw[HR.out,decide_eq_true (by omega),Bool.true_and]
 clear g1 g2;go_wp2_with(first
   |(go_at_call 68;refine(HK.out _ HB2.out).mono ?_;rintro e w4 ⟨rfl,hb3⟩;have HB3:=zh ((btr HB2.out hb3));clear hb3)
   |(go_at_call 83;refine(HV _).mono ?_;rintro e w5 ⟨rfl,rfl⟩)
   |fail)
 all_goals
  go_ret;first
   |exact⟨by rw[HRR.out];simp_all,HB4.out⟩
   |exact⟨by rw[HRR.out];simp_all,HB3.out⟩
   |exact⟨by rw[HRR.out];simp_all,HB2.out⟩
set_option maxRecDepth 100000 in
set_option maxHeartbeats 4000000 in
theorem single5_any{F:Nat→Prop}(n:Int)(s:ByteArray)(d:Dt.D)(p:List Int)(L:Nat)(al:Option Addr)(cl:Nat)(vm vl vt vp:Value)(w:World)(hs:s.size≤140737488355328)(hL:L≤140737488355328)(hp:p.length≤140737488355328)(hW:Dt.Wf d)(hD:Dt.Rep F w d vm vl vt)(hP:Dt.IRow F w vp p):
  Calls Tryz.prog 65 #[.agg #[.int .i64 5,.int .i64 n,.string s,.int .i64 d.k,.int .i64 d.n,.string d.s,vm,vl,vt,vp,.slice al L cl]] w fun e w'=>e= .returned (.bool (decide (L=1)&&((n==0)&&((Lx.symbol s.data.toList)&&(p.isEmpty&&(Co.none_ d))))))∧Below w.heap.size w w':=by
 obtain⟨a1,n1,q1,a2,n2,q2,a3,n3,q3,rfl,rfl,rfl⟩:=hD.forms;obtain⟨ap,cp,rfl,hlc,hcc⟩:=hP;have hP:Dt.IRow F w (.slice ap p.length cp) p:=⟨ap,cp,rfl,hlc,hcc⟩
 have HP:=zh hP;have HD:=zh hD;obtain⟨K,hK⟩:∃K,Co.none_ d=K:=⟨_,rfl⟩
 obtain⟨V,hV⟩:∃V,Lx.symbol s.data.toList=V:=⟨_,rfl⟩
 obtain⟨R,hR⟩:∃R,R=(decide (L=1)&&((n==0)&&((Lx.symbol s.data.toList)&&(p.isEmpty&&(Co.none_ d))))):=⟨_,rfl⟩
 rw[←hR];have hE:p.isEmpty=(p.length==0):=by cases p <;> rfl
 rw[hE,hK,hV]at hR;have hE2:=Co.len0 p.length;obtain⟨E,hE3⟩:∃E,E=(p.length==0):=⟨_,rfl⟩
 rw[←hE3]at hR hE2;obtain⟨P,hPn⟩:∃P,p.length=P:=⟨_,rfl⟩
 have HPN:=zh hPn;have HR:=zh hR;have HK:=zh (fun W (hb:Below w.heap.size w W)=>zeroC_any d _ _ _ W hW (hD.below hb));rw[hK]at HK;have HV:=fun W=>dSymbol_any s W hs
 rw[hV]at HV;have hfm:=fun W=>forms_any 5 W
 have hfv:Co.fmV 5= .agg #[.string ⟨#[97,115,115,105,103,110]⟩,.int .i64 2,.int .i64 1,.int .i64 1]:=rfl;have hik:Co.isKind 5=true:=rfl;rw[hfv,hik]at hfm;clear hfv hik;obtain⟨w1,hw1⟩:∃w1,w.alloc (.cells #[.int .i64 5,.int .i64 n,.string s,.int .i64 d.k,.int .i64 d.n,.string d.s,.slice a1 n1 q1,.slice a2 n2 q2,.slice a3 n3 q3,.slice ap p.length cp,.slice al L cl] 28)=w1:=⟨_,rfl⟩
 obtain⟨hb1,hs1⟩:=new_below hw1;have Hc_0:=zh (Hp.new hw1);rw[hPn]at hw1 Hc_0 hE2 hp hP;rw[hPn];obtain⟨c0,c1,c2,c3,c4,c5,c6,c7,c8,c9,c10⟩:=Hc_0.out.c11;have HB1:=zh hb1;clear hb1 hs1 hK hR hE hE3 hPn hP hD hW hlc hcc hV;go_enter Tryz.func65,Tryz.ntmps65;go_wp2_with fail
 refine(hfm _).mono ?_;rintro e w2 ⟨rfl,hb2⟩;clear hw1;clear c0 c1 c2 c3 c4 c5 c6 c7 c8 c9 c10;have hw3:w2.alloc (.cells #[.string ⟨#[97,115,115,105,103,110]⟩,.int .i64 2,.int .i64 1,.int .i64 1] 88)=w2.alloc (.cells #[.string ⟨#[97,115,115,105,103,110]⟩,.int .i64 2,.int .i64 1,.int .i64 1] 88):=rfl;obtain⟨hb3,hs3⟩:=new_below hw3;have Hc_1:=zh ((Hc_0.out.below hb2).below hb3);have Hf_0:=zh (Hp.new hw3);obtain⟨c0,c1,c2,c3,c4,c5,c6,c7,c8,c9,c10⟩:=Hc_1.out.c11;obtain⟨f0,f1,f2,f3⟩:=Hf_0.out.c4;have HB2:=zh (((btr HB1.out hb2)).trans (hb3.mono (Nat.le_trans HB1.out.size hb2.size)));clear hb2 hb3 hs3 hfm hw3;by_cases g1:L<1
 ·have b1:decide ((L:Int)<1)=true:=decide_eq_true (by omega);have HF:Hid (R=false):=by show R=false;rw[HR.out,decide_eq_false (by omega)];rfl
  clear g1;go_wp2;go_ret;exact⟨by rw[HF.out];rfl,HB2.out⟩
 have b1:decide ((L:Int)<1)=false:=decide_eq_false (by omega);by_cases g2:1<L
 ·have b2:decide (1<(L:Int))=true:=decide_eq_true (by omega);have HF:Hid (R=false):=by show R=false;rw[HR.out,decide_eq_false (by omega)];rfl
  clear g2;clear g1;go_wp2;go_ret;exact⟨by rw[HF.out];rfl,HB2.out⟩
 have b2:decide (1<(L:Int))=false:=decide_eq_false (by omega)
 skip
 have HRR:Hid (R=((n==0)&&(V&&(E&&K)))):=by show R=_;rw[HR.out,decide_eq_true (by omega),Bool.true_and]
 clear g1 g2;go_wp2_with(first
   |(go_at_call 68;refine(HK.out _ HB2.out).mono ?_;rintro e w4 ⟨rfl,hb3⟩;have HB3:=zh ((btr HB2.out hb3));clear hb3)
   |(go_at_call 90;refine(HV _).mono ?_;rintro e w5 ⟨rfl,rfl⟩)
   |fail)
 all_goals
  go_ret;first
   |exact⟨by rw[HRR.out];simp_all,HB4.out⟩
   |exact⟨by rw[HRR.out];simp_all,HB3.out⟩
   |exact⟨by rw[HRR.out];simp_all,HB2.out⟩
set_option maxRecDepth 100000 in
set_option maxHeartbeats 4000000 in
theorem single6_any{F:Nat→Prop}(n:Int)(s:ByteArray)(d:Dt.D)(p:List Int)(L:Nat)(al:Option Addr)(cl:Nat)(vm vl vt vp:Value)(w:World)(hs:s.size≤140737488355328)(hL:L≤140737488355328)(hp:p.length≤140737488355328)(hW:Dt.Wf d)(hD:Dt.Rep F w d vm vl vt)(hP:Dt.IRow F w vp p):
  Calls Tryz.prog 65 #[.agg #[.int .i64 6,.int .i64 n,.string s,.int .i64 d.k,.int .i64 d.n,.string d.s,vm,vl,vt,vp,.slice al L cl]] w fun e w'=>e= .returned (.bool (decide (L=1)&&((n==0)&&((Lx.symbol s.data.toList)&&(p.isEmpty&&(Co.none_ d))))))∧Below w.heap.size w w':=by
 obtain⟨a1,n1,q1,a2,n2,q2,a3,n3,q3,rfl,rfl,rfl⟩:=hD.forms;obtain⟨ap,cp,rfl,hlc,hcc⟩:=hP;have hP:Dt.IRow F w (.slice ap p.length cp) p:=⟨ap,cp,rfl,hlc,hcc⟩
 have HP:=zh hP;have HD:=zh hD;obtain⟨K,hK⟩:∃K,Co.none_ d=K:=⟨_,rfl⟩
 obtain⟨V,hV⟩:∃V,Lx.symbol s.data.toList=V:=⟨_,rfl⟩
 obtain⟨R,hR⟩:∃R,R=(decide (L=1)&&((n==0)&&((Lx.symbol s.data.toList)&&(p.isEmpty&&(Co.none_ d))))):=⟨_,rfl⟩
 rw[←hR];have hE:p.isEmpty=(p.length==0):=by cases p <;> rfl
 rw[hE,hK,hV]at hR;have hE2:=Co.len0 p.length;obtain⟨E,hE3⟩:∃E,E=(p.length==0):=⟨_,rfl⟩
 rw[←hE3]at hR hE2;obtain⟨P,hPn⟩:∃P,p.length=P:=⟨_,rfl⟩
 have HPN:=zh hPn;have HR:=zh hR;have HK:=zh (fun W (hb:Below w.heap.size w W)=>zeroC_any d _ _ _ W hW (hD.below hb));rw[hK]at HK;have HV:=fun W=>dSymbol_any s W hs
 rw[hV]at HV;have hfm:=fun W=>forms_any 6 W
 have hfv:Co.fmV 6= .agg #[.string ⟨#[100,101,102,105,110,101]⟩,.int .i64 2,.int .i64 1,.int .i64 1]:=rfl;have hik:Co.isKind 6=true:=rfl;rw[hfv,hik]at hfm;clear hfv hik;obtain⟨w1,hw1⟩:∃w1,w.alloc (.cells #[.int .i64 6,.int .i64 n,.string s,.int .i64 d.k,.int .i64 d.n,.string d.s,.slice a1 n1 q1,.slice a2 n2 q2,.slice a3 n3 q3,.slice ap p.length cp,.slice al L cl] 28)=w1:=⟨_,rfl⟩
 obtain⟨hb1,hs1⟩:=new_below hw1;have Hc_0:=zh (Hp.new hw1);rw[hPn]at hw1 Hc_0 hE2 hp hP;rw[hPn];obtain⟨c0,c1,c2,c3,c4,c5,c6,c7,c8,c9,c10⟩:=Hc_0.out.c11;have HB1:=zh hb1;clear hb1 hs1 hK hR hE hE3 hPn hP hD hW hlc hcc hV;go_enter Tryz.func65,Tryz.ntmps65;go_wp2_with fail
 refine(hfm _).mono ?_;rintro e w2 ⟨rfl,hb2⟩;clear hw1;clear c0 c1 c2 c3 c4 c5 c6 c7 c8 c9 c10;have hw3:w2.alloc (.cells #[.string ⟨#[100,101,102,105,110,101]⟩,.int .i64 2,.int .i64 1,.int .i64 1] 88)=w2.alloc (.cells #[.string ⟨#[100,101,102,105,110,101]⟩,.int .i64 2,.int .i64 1,.int .i64 1] 88):=rfl;obtain⟨hb3,hs3⟩:=new_below hw3;have Hc_1:=zh ((Hc_0.out.below hb2).below hb3);have Hf_0:=zh (Hp.new hw3);obtain⟨c0,c1,c2,c3,c4,c5,c6,c7,c8,c9,c10⟩:=Hc_1.out.c11;obtain⟨f0,f1,f2,f3⟩:=Hf_0.out.c4;have HB2:=zh (((btr HB1.out hb2)).trans (hb3.mono (Nat.le_trans HB1.out.size hb2.size)));clear hb2 hb3 hs3 hfm hw3;by_cases g1:L<1
 ·have b1:decide ((L:Int)<1)=true:=decide_eq_true (by omega);have HF:Hid (R=false):=by show R=false;rw[HR.out,decide_eq_false (by omega)];rfl
  clear g1;go_wp2;go_ret;exact⟨by rw[HF.out];rfl,HB2.out⟩
 have b1:decide ((L:Int)<1)=false:=decide_eq_false (by omega);by_cases g2:1<L
 ·have b2:decide (1<(L:Int))=true:=decide_eq_true (by omega);have HF:Hid (R=false):=by show R=false;rw[HR.out,decide_eq_false (by omega)];rfl
  clear g2;clear g1;go_wp2;go_ret;exact⟨by rw[HF.out];rfl,HB2.out⟩
 have b2:decide (1<(L:Int))=false:=decide_eq_false (by omega)
 skip
 have HRR:Hid (R=((n==0)&&(V&&(E&&K)))):=by show R=_;rw[HR.out,decide_eq_true (by omega),Bool.true_and]
 clear g1 g2;go_wp2_with(first
   |(go_at_call 68;refine(HK.out _ HB2.out).mono ?_;rintro e w4 ⟨rfl,hb3⟩;have HB3:=zh ((btr HB2.out hb3));clear hb3)
   |(go_at_call 90;refine(HV _).mono ?_;rintro e w5 ⟨rfl,rfl⟩)
   |fail)
 all_goals
  go_ret;first
   |exact⟨by rw[HRR.out];simp_all,HB4.out⟩
   |exact⟨by rw[HRR.out];simp_all,HB3.out⟩
   |exact⟨by rw[HRR.out];simp_all,HB2.out⟩
set_option maxRecDepth 100000 in
set_option maxHeartbeats 4000000 in
theorem single7_any{F:Nat→Prop}(n:Int)(s:ByteArray)(d:Dt.D)(p:List Int)(L:Nat)(al:Option Addr)(cl:Nat)(vm vl vt vp:Value)(w:World)(_hs:s.size≤140737488355328)(hL:L≤140737488355328)(hp:p.length≤140737488355328)(hW:Dt.Wf d)(hD:Dt.Rep F w d vm vl vt)(hP:Dt.IRow F w vp p):
  Calls Tryz.prog 65 #[.agg #[.int .i64 7,.int .i64 n,.string s,.int .i64 d.k,.int .i64 d.n,.string d.s,vm,vl,vt,vp,.slice al L cl]] w fun e w'=>e= .returned (.bool (decide (L=3)&&((n==0)&&(s.toList.isEmpty&&(p.isEmpty&&(Co.none_ d))))))∧Below w.heap.size w w':=by
 obtain⟨a1,n1,q1,a2,n2,q2,a3,n3,q3,rfl,rfl,rfl⟩:=hD.forms;obtain⟨ap,cp,rfl,hlc,hcc⟩:=hP;have hP:Dt.IRow F w (.slice ap p.length cp) p:=⟨ap,cp,rfl,hlc,hcc⟩
 have HP:=zh hP;have HD:=zh hD;obtain⟨K,hK⟩:∃K,Co.none_ d=K:=⟨_,rfl⟩
 obtain⟨R,hR⟩:∃R,R=(decide (L=3)&&((n==0)&&(s.toList.isEmpty&&(p.isEmpty&&(Co.none_ d))))):=⟨_,rfl⟩
 rw[←hR];have hE:p.isEmpty=(p.length==0):=by cases p <;> rfl
 rw[hE,hK]at hR;have hE2:=Co.len0 p.length;obtain⟨E,hE3⟩:∃E,E=(p.length==0):=⟨_,rfl⟩
 rw[←hE3]at hR hE2;obtain⟨P,hPn⟩:∃P,p.length=P:=⟨_,rfl⟩
 have HPN:=zh hPn;have HR:=zh hR;have HK:=zh (fun W (hb:Below w.heap.size w W)=>zeroC_any d _ _ _ W hW (hD.below hb));rw[hK]at HK;have hfm:=fun W=>forms_any 7 W
 have hfv:Co.fmV 7= .agg #[.string ⟨#[105,102]⟩,.int .i64 0,.int .i64 3,.int .i64 3]:=rfl;have hik:Co.isKind 7=true:=rfl;rw[hfv,hik]at hfm;clear hfv hik;obtain⟨w1,hw1⟩:∃w1,w.alloc (.cells #[.int .i64 7,.int .i64 n,.string s,.int .i64 d.k,.int .i64 d.n,.string d.s,.slice a1 n1 q1,.slice a2 n2 q2,.slice a3 n3 q3,.slice ap p.length cp,.slice al L cl] 28)=w1:=⟨_,rfl⟩
 obtain⟨hb1,hs1⟩:=new_below hw1;have Hc_0:=zh (Hp.new hw1);rw[hPn]at hw1 Hc_0 hE2 hp hP;rw[hPn];obtain⟨c0,c1,c2,c3,c4,c5,c6,c7,c8,c9,c10⟩:=Hc_0.out.c11;have HB1:=zh hb1;clear hb1 hs1 hK hR hE hE3 hPn hP hD hW hlc hcc;go_enter Tryz.func65,Tryz.ntmps65;go_wp2_with fail
 refine(hfm _).mono ?_;rintro e w2 ⟨rfl,hb2⟩;clear hw1;clear c0 c1 c2 c3 c4 c5 c6 c7 c8 c9 c10;have hw3:w2.alloc (.cells #[.string ⟨#[105,102]⟩,.int .i64 0,.int .i64 3,.int .i64 3] 88)=w2.alloc (.cells #[.string ⟨#[105,102]⟩,.int .i64 0,.int .i64 3,.int .i64 3] 88):=rfl;obtain⟨hb3,hs3⟩:=new_below hw3;have Hc_1:=zh ((Hc_0.out.below hb2).below hb3);have Hf_0:=zh (Hp.new hw3);obtain⟨c0,c1,c2,c3,c4,c5,c6,c7,c8,c9,c10⟩:=Hc_1.out.c11;obtain⟨f0,f1,f2,f3⟩:=Hf_0.out.c4;have HB2:=zh (((btr HB1.out hb2)).trans (hb3.mono (Nat.le_trans HB1.out.size hb2.size)));clear hb2 hb3 hs3 hfm hw3;by_cases g1:L<3
 ·have b1:decide ((L:Int)<3)=true:=decide_eq_true (by omega);have HF:Hid (R=false):=by show R=false;rw[HR.out,decide_eq_false (by omega)];rfl
  clear g1;go_wp2;go_ret;exact⟨by rw[HF.out];rfl,HB2.out⟩
 have b1:decide ((L:Int)<3)=false:=decide_eq_false (by omega);by_cases g2:3<L
 ·have b2:decide (3<(L:Int))=true:=decide_eq_true (by omega);have HF:Hid (R=false):=by show R=false;rw[HR.out,decide_eq_false (by omega)];rfl
  clear g2;clear g1;go_wp2;go_ret;exact⟨by rw[HF.out];rfl,HB2.out⟩
 have b2:decide (3<(L:Int))=false:=decide_eq_false (by omega)
 skip
 have HRR:Hid (R=((n==0)&&(s.toList.isEmpty&&(E&&K)))):=by show R=_;rw[HR.out,decide_eq_true (by omega),Bool.true_and]
 clear g1 g2;go_wp2_with(first
   |(go_at_call 68;refine(HK.out _ HB2.out).mono ?_;rintro e w4 ⟨rfl,hb3⟩;have HB3:=zh ((btr HB2.out hb3));clear hb3)
   |fail)
 all_goals
  go_ret;first
   |exact⟨by rw[HRR.out];simp_all,HB4.out⟩
   |exact⟨by rw[HRR.out];simp_all,HB3.out⟩
   |exact⟨by rw[HRR.out];simp_all,HB2.out⟩
set_option maxRecDepth 100000 in
set_option maxHeartbeats 4000000 in
theorem single8_any{F:Nat→Prop}(n:Int)(s:ByteArray)(d:Dt.D)(p:List Int)(L:Nat)(al:Option Addr)(cl:Nat)(vm vl vt vp:Value)(w:World)(_hs:s.size≤140737488355328)(hL:L≤140737488355328)(hp:p.length≤140737488355328)(hW:Dt.Wf d)(hD:Dt.Rep F w d vm vl vt)(hP:Dt.IRow F w vp p):
  Calls Tryz.prog 65 #[.agg #[.int .i64 8,.int .i64 n,.string s,.int .i64 d.k,.int .i64 d.n,.string d.s,vm,vl,vt,vp,.slice al L cl]] w fun e w'=>e= .returned (.bool (decide (L=1)&&(s.toList.isEmpty&&((Co.none_ d)&&(Co.params n p)))))∧Below w.heap.size w w':=by
 obtain⟨a1,n1,q1,a2,n2,q2,a3,n3,q3,rfl,rfl,rfl⟩:=hD.forms;obtain⟨ap,cp,rfl,hlc,hcc⟩:=hP;have hP:Dt.IRow F w (.slice ap p.length cp) p:=⟨ap,cp,rfl,hlc,hcc⟩
 have HP:=zh hP;have HD:=zh hD;obtain⟨K,hK⟩:∃K,Co.none_ d=K:=⟨_,rfl⟩
 obtain⟨V,hV⟩:∃V,Co.params n p=V:=⟨_,rfl⟩
 obtain⟨R,hR⟩:∃R,R=(decide (L=1)&&(s.toList.isEmpty&&((Co.none_ d)&&(Co.params n p)))):=⟨_,rfl⟩
 rw[←hR];have hE:p.isEmpty=(p.length==0):=by cases p <;> rfl
 rw[hK,hV]at hR;have hE2:=Co.len0 p.length;obtain⟨E,hE3⟩:∃E,E=(p.length==0):=⟨_,rfl⟩
 rw[←hE3]at hE2;obtain⟨P,hPn⟩:∃P,p.length=P:=⟨_,rfl⟩
 have HPN:=zh hPn;have HR:=zh hR;have HK:=zh (fun W (hb:Below w.heap.size w W)=>zeroC_any d _ _ _ W hW (hD.below hb));rw[hK]at HK;have HV:=zh (fun W (hb:Below w.heap.size w W)=>paramsC_any 8 n d.k d.n s d.s (.slice a1 n1 q1) (.slice a2 n2 q2) (.slice a3 n3 q3) (.slice ap p.length cp) (.slice al L cl) p W (HP.out.keep (keep_of_below (S:=fun _=>False) hb) (fun _ _ _ h=>h)) hp);rw[hV,hPn]at HV;have hfm:=fun W=>forms_any 8 W
 have hfv:Co.fmV 8= .agg #[.string ⟨#[108,97,109,98,100,97]⟩,.int .i64 8,.int .i64 1,.int .i64 1]:=rfl;have hik:Co.isKind 8=true:=rfl;rw[hfv,hik]at hfm;clear hfv hik;obtain⟨w1,hw1⟩:∃w1,w.alloc (.cells #[.int .i64 8,.int .i64 n,.string s,.int .i64 d.k,.int .i64 d.n,.string d.s,.slice a1 n1 q1,.slice a2 n2 q2,.slice a3 n3 q3,.slice ap p.length cp,.slice al L cl] 28)=w1:=⟨_,rfl⟩
 obtain⟨hb1,hs1⟩:=new_below hw1;have Hc_0:=zh (Hp.new hw1);rw[hPn]at hw1 Hc_0 hE2 hp hP;rw[hPn];obtain⟨c0,c1,c2,c3,c4,c5,c6,c7,c8,c9,c10⟩:=Hc_0.out.c11;have HB1:=zh hb1;clear hb1 hs1 hK hR hE hE3 hPn hP hD hW hlc hcc hV;go_enter Tryz.func65,Tryz.ntmps65;go_wp2_with fail
 refine(hfm _).mono ?_;rintro e w2 ⟨rfl,hb2⟩;clear hw1;clear c0 c1 c2 c3 c4 c5 c6 c7 c8 c9 c10;have hw3:w2.alloc (.cells #[.string ⟨#[108,97,109,98,100,97]⟩,.int .i64 8,.int .i64 1,.int .i64 1] 88)=w2.alloc (.cells #[.string ⟨#[108,97,109,98,100,97]⟩,.int .i64 8,.int .i64 1,.int .i64 1] 88):=rfl;obtain⟨hb3,hs3⟩:=new_below hw3;have Hc_1:=zh ((Hc_0.out.below hb2).below hb3);have Hf_0:=zh (Hp.new hw3);obtain⟨c0,c1,c2,c3,c4,c5,c6,c7,c8,c9,c10⟩:=Hc_1.out.c11;obtain⟨f0,f1,f2,f3⟩:=Hf_0.out.c4;have HB2:=zh (((btr HB1.out hb2)).trans (hb3.mono (Nat.le_trans HB1.out.size hb2.size)));clear hb2 hb3 hs3 hfm hw3;by_cases g1:L<1
 ·have b1:decide ((L:Int)<1)=true:=decide_eq_true (by omega);have HF:Hid (R=false):=by show R=false;rw[HR.out,decide_eq_false (by omega)];rfl
  clear g1;go_wp2;go_ret;exact⟨by rw[HF.out];rfl,HB2.out⟩
 have b1:decide ((L:Int)<1)=false:=decide_eq_false (by omega);by_cases g2:1<L
 ·have b2:decide (1<(L:Int))=true:=decide_eq_true (by omega);have HF:Hid (R=false):=by show R=false;rw[HR.out,decide_eq_false (by omega)];rfl
  clear g2;clear g1;go_wp2;go_ret;exact⟨by rw[HF.out];rfl,HB2.out⟩
 have b2:decide (1<(L:Int))=false:=decide_eq_false (by omega)
 skip
 have HRR:Hid (R=(s.toList.isEmpty&&(K&&V))):=by show R=_;rw[HR.out,decide_eq_true (by omega),Bool.true_and]
 clear g1 g2;go_wp2_with(first
   |(go_at_call 68;refine(HK.out _ HB2.out).mono ?_;rintro e w4 ⟨rfl,hb3⟩;have HB3:=zh ((btr HB2.out hb3));clear c0 c1 c2 c3 c4 c5 c6 c7 c8 c9 c10;have Hc_2:=zh (Hc_1.out.below hb3);obtain⟨c0,c1,c2,c3,c4,c5,c6,c7,c8,c9,c10⟩:=Hc_2.out.c11;clear hb3)
   |(go_at_call 91;refine(HV.out _ HB3.out).mono ?_;rintro e w5 ⟨rfl,hb4⟩;have HB4:=zh ((btr HB3.out hb4));clear hb4)
   |fail)
 all_goals
  go_ret;first
   |exact⟨by rw[HRR.out];simp_all,HB4.out⟩
   |exact⟨by rw[HRR.out];simp_all,HB3.out⟩
   |exact⟨by rw[HRR.out];simp_all,HB2.out⟩
set_option maxRecDepth 100000 in
set_option maxHeartbeats 4000000 in
theorem single9_any{F:Nat→Prop}(n:Int)(s:ByteArray)(d:Dt.D)(p:List Int)(L:Nat)(al:Option Addr)(cl:Nat)(vm vl vt vp:Value)(w:World)(_hs:s.size≤140737488355328)(hL:L≤140737488355328)(hp:p.length≤140737488355328)(hW:Dt.Wf d)(hD:Dt.Rep F w d vm vl vt)(hP:Dt.IRow F w vp p):
  Calls Tryz.prog 65 #[.agg #[.int .i64 9,.int .i64 n,.string s,.int .i64 d.k,.int .i64 d.n,.string d.s,vm,vl,vt,vp,.slice al L cl]] w fun e w'=>e= .returned (.bool (decide (1≤L)&&((n==0)&&(s.toList.isEmpty&&(p.isEmpty&&(Co.none_ d))))))∧Below w.heap.size w w':=by
 obtain⟨a1,n1,q1,a2,n2,q2,a3,n3,q3,rfl,rfl,rfl⟩:=hD.forms;obtain⟨ap,cp,rfl,hlc,hcc⟩:=hP;have hP:Dt.IRow F w (.slice ap p.length cp) p:=⟨ap,cp,rfl,hlc,hcc⟩
 have HP:=zh hP;have HD:=zh hD;obtain⟨K,hK⟩:∃K,Co.none_ d=K:=⟨_,rfl⟩
 obtain⟨R,hR⟩:∃R,R=(decide (1≤L)&&((n==0)&&(s.toList.isEmpty&&(p.isEmpty&&(Co.none_ d))))):=⟨_,rfl⟩
 rw[←hR];have hE:p.isEmpty=(p.length==0):=by cases p <;> rfl
 rw[hE,hK]at hR;have hE2:=Co.len0 p.length;obtain⟨E,hE3⟩:∃E,E=(p.length==0):=⟨_,rfl⟩
 rw[←hE3]at hR hE2;obtain⟨P,hPn⟩:∃P,p.length=P:=⟨_,rfl⟩
 have HPN:=zh hPn;have HR:=zh hR;have HK:=zh (fun W (hb:Below w.heap.size w W)=>zeroC_any d _ _ _ W hW (hD.below hb));rw[hK]at HK;have hfm:=fun W=>forms_any 9 W
 have hfv:Co.fmV 9= .agg #[.string ⟨#[115,101,113]⟩,.int .i64 0,.int .i64 1,.int .i64 (-1)]:=rfl;have hik:Co.isKind 9=true:=rfl;rw[hfv,hik]at hfm;clear hfv hik;obtain⟨w1,hw1⟩:∃w1,w.alloc (.cells #[.int .i64 9,.int .i64 n,.string s,.int .i64 d.k,.int .i64 d.n,.string d.s,.slice a1 n1 q1,.slice a2 n2 q2,.slice a3 n3 q3,.slice ap p.length cp,.slice al L cl] 28)=w1:=⟨_,rfl⟩
 obtain⟨hb1,hs1⟩:=new_below hw1;have Hc_0:=zh (Hp.new hw1);rw[hPn]at hw1 Hc_0 hE2 hp hP;rw[hPn];obtain⟨c0,c1,c2,c3,c4,c5,c6,c7,c8,c9,c10⟩:=Hc_0.out.c11;have HB1:=zh hb1;clear hb1 hs1 hK hR hE hE3 hPn hP hD hW hlc hcc;go_enter Tryz.func65,Tryz.ntmps65;go_wp2_with fail
 refine(hfm _).mono ?_;rintro e w2 ⟨rfl,hb2⟩;clear hw1;clear c0 c1 c2 c3 c4 c5 c6 c7 c8 c9 c10;have hw3:w2.alloc (.cells #[.string ⟨#[115,101,113]⟩,.int .i64 0,.int .i64 1,.int .i64 (-1)] 88)=w2.alloc (.cells #[.string ⟨#[115,101,113]⟩,.int .i64 0,.int .i64 1,.int .i64 (-1)] 88):=rfl;obtain⟨hb3,hs3⟩:=new_below hw3;have Hc_1:=zh ((Hc_0.out.below hb2).below hb3);have Hf_0:=zh (Hp.new hw3);obtain⟨c0,c1,c2,c3,c4,c5,c6,c7,c8,c9,c10⟩:=Hc_1.out.c11;obtain⟨f0,f1,f2,f3⟩:=Hf_0.out.c4;have HB2:=zh (((btr HB1.out hb2)).trans (hb3.mono (Nat.le_trans HB1.out.size hb2.size)));clear hb2 hb3 hs3 hfm hw3;by_cases g1:L<1
 ·have b1:decide ((L:Int)<1)=true:=decide_eq_true (by omega);have HF:Hid (R=false):=by show R=false;rw[HR.out,decide_eq_false (by omega)];rfl
  clear g1;go_wp2;go_ret;exact⟨by rw[HF.out];rfl,HB2.out⟩
 have b1:decide ((L:Int)<1)=false:=decide_eq_false (by omega);have HRR:Hid (R=((n==0)&&(s.toList.isEmpty&&(E&&K)))):=by show R=_;rw[HR.out,decide_eq_true (by omega),Bool.true_and]
 clear g1;go_wp2_with(first
   |(go_at_call 68;refine(HK.out _ HB2.out).mono ?_;rintro e w4 ⟨rfl,hb3⟩;have HB3:=zh ((btr HB2.out hb3));clear hb3)
   |fail)
 all_goals
  go_ret;first
   |exact⟨by rw[HRR.out];simp_all,HB4.out⟩
   |exact⟨by rw[HRR.out];simp_all,HB3.out⟩
   |exact⟨by rw[HRR.out];simp_all,HB2.out⟩
set_option maxRecDepth 100000 in
set_option maxHeartbeats 4000000 in
theorem single10_any{F:Nat→Prop}(n:Int)(s:ByteArray)(d:Dt.D)(p:List Int)(L:Nat)(al:Option Addr)(cl:Nat)(vm vl vt vp:Value)(w:World)(_hs:s.size≤140737488355328)(hL:L≤140737488355328)(hp:p.length≤140737488355328)(hW:Dt.Wf d)(hD:Dt.Rep F w d vm vl vt)(hP:Dt.IRow F w vp p):
  Calls Tryz.prog 65 #[.agg #[.int .i64 10,.int .i64 n,.string s,.int .i64 d.k,.int .i64 d.n,.string d.s,vm,vl,vt,vp,.slice al L cl]] w fun e w'=>e= .returned (.bool (decide (1≤L)&&((n==0)&&(s.toList.isEmpty&&(p.isEmpty&&(Co.none_ d))))))∧Below w.heap.size w w':=by
 obtain⟨a1,n1,q1,a2,n2,q2,a3,n3,q3,rfl,rfl,rfl⟩:=hD.forms;obtain⟨ap,cp,rfl,hlc,hcc⟩:=hP;have hP:Dt.IRow F w (.slice ap p.length cp) p:=⟨ap,cp,rfl,hlc,hcc⟩
 have HP:=zh hP;have HD:=zh hD;obtain⟨K,hK⟩:∃K,Co.none_ d=K:=⟨_,rfl⟩
 obtain⟨R,hR⟩:∃R,R=(decide (1≤L)&&((n==0)&&(s.toList.isEmpty&&(p.isEmpty&&(Co.none_ d))))):=⟨_,rfl⟩
 rw[←hR];have hE:p.isEmpty=(p.length==0):=by cases p <;> rfl
 rw[hE,hK]at hR;have hE2:=Co.len0 p.length;obtain⟨E,hE3⟩:∃E,E=(p.length==0):=⟨_,rfl⟩
 rw[←hE3]at hR hE2;obtain⟨P,hPn⟩:∃P,p.length=P:=⟨_,rfl⟩
 have HPN:=zh hPn;have HR:=zh hR;have HK:=zh (fun W (hb:Below w.heap.size w W)=>zeroC_any d _ _ _ W hW (hD.below hb));rw[hK]at HK;have hfm:=fun W=>forms_any 10 W
 have hfv:Co.fmV 10= .agg #[.string ⟨#[99,97,108,108]⟩,.int .i64 0,.int .i64 1,.int .i64 (-1)]:=rfl;have hik:Co.isKind 10=true:=rfl;rw[hfv,hik]at hfm;clear hfv hik;obtain⟨w1,hw1⟩:∃w1,w.alloc (.cells #[.int .i64 10,.int .i64 n,.string s,.int .i64 d.k,.int .i64 d.n,.string d.s,.slice a1 n1 q1,.slice a2 n2 q2,.slice a3 n3 q3,.slice ap p.length cp,.slice al L cl] 28)=w1:=⟨_,rfl⟩
 obtain⟨hb1,hs1⟩:=new_below hw1;have Hc_0:=zh (Hp.new hw1);rw[hPn]at hw1 Hc_0 hE2 hp hP;rw[hPn];obtain⟨c0,c1,c2,c3,c4,c5,c6,c7,c8,c9,c10⟩:=Hc_0.out.c11;have HB1:=zh hb1;clear hb1 hs1 hK hR hE hE3 hPn hP hD hW hlc hcc;go_enter Tryz.func65,Tryz.ntmps65;go_wp2_with fail
 refine(hfm _).mono ?_;rintro e w2 ⟨rfl,hb2⟩;clear hw1;clear c0 c1 c2 c3 c4 c5 c6 c7 c8 c9 c10;have hw3:w2.alloc (.cells #[.string ⟨#[99,97,108,108]⟩,.int .i64 0,.int .i64 1,.int .i64 (-1)] 88)=w2.alloc (.cells #[.string ⟨#[99,97,108,108]⟩,.int .i64 0,.int .i64 1,.int .i64 (-1)] 88):=rfl;obtain⟨hb3,hs3⟩:=new_below hw3;have Hc_1:=zh ((Hc_0.out.below hb2).below hb3);have Hf_0:=zh (Hp.new hw3);obtain⟨c0,c1,c2,c3,c4,c5,c6,c7,c8,c9,c10⟩:=Hc_1.out.c11;obtain⟨f0,f1,f2,f3⟩:=Hf_0.out.c4;have HB2:=zh (((btr HB1.out hb2)).trans (hb3.mono (Nat.le_trans HB1.out.size hb2.size)));clear hb2 hb3 hs3 hfm hw3;by_cases g1:L<1
 ·have b1:decide ((L:Int)<1)=true:=decide_eq_true (by omega);have HF:Hid (R=false):=by show R=false;rw[HR.out,decide_eq_false (by omega)];rfl
  clear g1;go_wp2;go_ret;exact⟨by rw[HF.out];rfl,HB2.out⟩
 have b1:decide ((L:Int)<1)=false:=decide_eq_false (by omega);have HRR:Hid (R=((n==0)&&(s.toList.isEmpty&&(E&&K)))):=by show R=_;rw[HR.out,decide_eq_true (by omega),Bool.true_and]
 clear g1;go_wp2_with(first
   |(go_at_call 68;refine(HK.out _ HB2.out).mono ?_;rintro e w4 ⟨rfl,hb3⟩;have HB3:=zh ((btr HB2.out hb3));clear hb3)
   |fail)
 all_goals
  go_ret;first
   |exact⟨by rw[HRR.out];simp_all,HB4.out⟩
   |exact⟨by rw[HRR.out];simp_all,HB3.out⟩
   |exact⟨by rw[HRR.out];simp_all,HB2.out⟩
end Go.Proofs.YtfjmlfbohenmfaaGreat
