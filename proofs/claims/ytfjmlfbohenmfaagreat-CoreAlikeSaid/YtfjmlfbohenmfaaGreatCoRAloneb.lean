/-
 shuttleref07.alone: may a core be by itself? (Printed by genCoRAlone.py, expanded by pp.py.)
-/
import Derived.Test.YtfjmlfbohenmfaaGreatCoreBBM10
import Derived.Test.YtfjmlfbohenmfaaGreatCoreBBM7
import Derived.Test.YtfjmlfbohenmfaaGreatCoreBBM4
import Derived.Deep.CutBlock
import Derived.Test.YtfjmlfbohenmfaaGreatCoreBBM2
namespace Go.Proofs.YtfjmlfbohenmfaaGreat
open Go.RowKit
attribute [local go_sem] Oper.semAt_some
set_option maxRecDepth 100000 in
set_option maxHeartbeats 16000000 in
theorem coRAlone_any{F:Nat→Prop}(c:Co.C)(vm vl vt vp vk:Value)(w:World)(hWf:Co.Wf c)(h:Co.Rep F w c vm vl vt vp vk):
  Calls Tryz.prog 66 #[Co.V c vm vl vt vp vk] w fun e w'=>e= .returned (.bool (Co.alone c))∧Below w.heap.size w w':=by
 obtain⟨k,n,s,d,p,l⟩:=c;obtain⟨hD,⟨ap,cp,rfl,hlc,-⟩,⟨al,cl,rfl,hll,-⟩⟩:=(Co.rep_iff _ _ _ _ _ _ _ _).1 h;have hD:Dt.Rep F w d vm vl vt:=hD;have hP:Dt.IRow F w (.slice ap p.length cp) p:=((Co.rep_iff _ _ _ _ _ _ _ _).1 h).2.1;obtain⟨a1,n1,q1,a2,n2,q2,a3,n3,q3,rfl,rfl,rfl⟩:=hD.forms;obtain⟨-,hs,hW,hp,-,hL,-⟩:=Co.wf_parts hWf;have hs:s.size≤140737488355328:=hs;have hW:Dt.Wf d:=hW;have hp:p.length≤140737488355328:=hp;have hL:l.length≤140737488355328:=hL;obtain⟨R,hR⟩:∃R,Co.alone (.mk k n s d p l)=R:=⟨_,rfl⟩
 rw[hR];unfold Co.V;show Calls Tryz.prog 66 #[.agg #[.int .i64 k,.int .i64 n,.string s,.int .i64 d.k,.int .i64 d.n,.string d.s,.slice a1 n1 q1,.slice a2 n2 q2,.slice a3 n3 q3,.slice ap p.length cp,.slice al l.length cl]] w _;obtain⟨w1,hw1⟩:∃w1,w.alloc (.cells #[.int .i64 k,.int .i64 n,.string s,.int .i64 d.k,.int .i64 d.n,.string d.s,.slice a1 n1 q1,.slice a2 n2 q2,.slice a3 n3 q3,.slice ap p.length cp,.slice al l.length cl] 28)=w1:=⟨_,rfl⟩
 obtain⟨hb1,hs1⟩:=new_below hw1;have Hc:=zh (Hp.new hw1);have HB1:=zh hb1;have HD:=zh hD;have HWD:=zh hW;have HP:=zh hP;have HPL:Hid (p.isEmpty=decide (p.length=0)):=by show _=_;cases p <;> simp
 have HR:=zh hR;obtain⟨c0,c1,c2,c3,c4,c5,c6,c7,c8,c9,c10⟩:=Hc.out.c11;clear hb1 hs1 hD hP h hWf hlc hll hR;by_cases gk:k=1
 ·subst gk;by_cases gN:n=0
  case neg=>
   have hN:(n==0)=false:=by simpa using gN
   have HF:Hid (R=false):=by show _=_;rw[←HR.out,←Co.alone1,hN];simp
   clear gN HR;go_enter Tryz.func66,Tryz.ntmps66;go_wp2_with fail
   go_ret;exact⟨by rw[HF.out];rfl,HB1.out⟩
  have hN:(n==0)=true:=by simpa using gN
  by_cases gS:s.toList.isEmpty=true
  case neg=>
   have hS:s.toList.isEmpty=false:=by simpa using gS
   have hS2:¬s.toList=[]:=by simpa using gS
   have HF:Hid (R=false):=by show _=_;rw[←HR.out,←Co.alone1,hS];simp
   clear gS gN HR;go_enter Tryz.func66,Tryz.ntmps66;go_wp2_with fail
   go_ret;exact⟨by rw[HF.out];rfl,HB1.out⟩
  have hS2:s.toList=[]:=by simpa using gS
  by_cases gL:p.length+l.length=0
  case neg=>
   have hPL:((p.length:Int)+(l.length:Int)==0)=false:=by rw[beq_eq_false_iff_ne];omega
   have HF:Hid (R=false):=by
    show _=_;rw[←HR.out,←Co.alone1,HPL.out];by_cases e:l.length=0
    ·rw[decide_eq_false (p:=p.length=0) (by omega)];simp
    ·rw[decide_eq_false (p:=l.length=0) e];simp
   clear gL gS gN HR;go_enter Tryz.func66,Tryz.ntmps66;go_wp2_with fail
   go_ret;exact⟨by rw[HF.out];rfl,HB1.out⟩
  have hPL:((p.length:Int)+(l.length:Int)==0)=true:=by rw[beq_iff_eq];omega
  have HA:Hid (R=Co.const d):=by
   show _=_;rw[←HR.out,←Co.alone1,HPL.out,hN,gS,decide_eq_true (p:=p.length=0) (by omega),decide_eq_true (p:=l.length=0) (by omega)];simp
  have hck:=rCheck_any d _ _ _ w1 HWD.out (HD.out.below HB1.out);obtain⟨E,hE⟩:∃E,Dt.check d=E:=⟨_,rfl⟩
  rw[hE]at hck;have HE:=zh hE;clear hE;by_cases gE:E=0
  case neg=>
   have hEb:(E==0)=false:=by simpa using gE
   have HF:Hid (R=false):=by show _=_;rw[HA.out,Co.const_marked,decide_eq_false (by rw[HE.out];exact gE)];rfl
   clear gE gL gS gN HR HA;go_enter Tryz.func66,Tryz.ntmps66;go_wp2_with(first
     |(go_at_call 86;refine hck.mono ?_;rintro e w2 ⟨rfl,hb2⟩;clear c0 c1 c2 c3 c4 c5 c6 c7 c8 c9 c10;clear hck hw1;have HB2:=zh ((btr HB1.out hb2));clear hb2)
     |fail)
   go_ret;exact⟨by rw[HF.out];rfl,HB2.out⟩
  have hEb:(E==0)=true:=by simpa using gE
  have hmk:=fun W (hb:Below w.heap.size w W)=>coMarks_any d _ _ _ W HWD.out (HD.out.below hb)
  obtain⟨M,hM⟩:∃M,Co.marked d=M:=⟨_,rfl⟩
  have HF:Hid (R= !M):=by show _=_;rw[HA.out,Co.const_marked,decide_eq_true (by rw[HE.out];exact gE),hM];rfl
  rw[hM]at hmk;have HMK:=zh hmk;clear hM hmk gE gL gS gN HR HA;go_enter Tryz.func66,Tryz.ntmps66;go_wp2_with(first
    |(go_at_call 86;refine hck.mono ?_;rintro e w2 ⟨rfl,hb2⟩;clear c0 c1 c2 c3 c4 c5 c6 c7 c8 c9 c10;have Hc2:=zh (Hc.out.below hb2);obtain⟨c0,c1,c2,c3,c4,c5,c6,c7,c8,c9,c10⟩:=Hc2.out.c11;clear hck hw1;have HB2:=zh ((btr HB1.out hb2));clear hb2)
    |(go_at_call 92;refine(HMK.out _ HB2.out).mono ?_;rintro e w3 ⟨rfl,hb3⟩;clear c0 c1 c2 c3 c4 c5 c6 c7 c8 c9 c10;have HB3:=zh ((btr HB2.out hb3));clear hb3)
    |fail)
  go_ret;exact⟨by rw[HF.out];rfl,HB3.out⟩
 have hk1:(k==1)=false:=by simpa using gk
 have hno:=noneC_any d _ _ _ w1 HWD.out (HD.out.below HB1.out);obtain⟨K,hK⟩:∃K,Co.none_ d=K:=⟨_,rfl⟩
 rw[hK]at hno;have HK:=zh hK;clear hK
 cases K with
 |false=>
  have HF:Hid (R=false):=by
   show _=_;rw[←HR.out];unfold Co.alone;dsimp only;rw[if_neg gk,if_pos HK.out]
  clear gk HR;go_enter Tryz.func66,Tryz.ntmps66;go_wp2_with(first
    |(go_at_call 93;refine hno.mono ?_;rintro e w2 ⟨rfl,hb2⟩;clear c0 c1 c2 c3 c4 c5 c6 c7 c8 c9 c10;clear hno hw1;have HB2:=zh ((btr HB1.out hb2));clear hb2)
    |fail)
  go_ret;exact⟨by rw[HF.out];rfl,HB2.out⟩
 |true=>
 have HR2:Hid (R=(if k=8 then Co.empty s&&decide (l.length=1)&&Co.params n p
  else if p.isEmpty=false then false
  else if k=2 then Co.empty s&&Co.var n&&l.isEmpty
  else if k=3 then decide (n=0)&&Lx.symbol s.data.toList&&l.isEmpty
  else if k=4 then Co.empty s&&Co.var n&&decide (l.length=1)
  else if k=5∨k=6 then decide (n=0)&&Lx.symbol s.data.toList&&decide (l.length=1)
  else if k=7 then decide (n=0)&&Co.empty s&&decide (l.length=3)
  else if k=9∨k=10 then decide (n=0)&&Co.empty s&&decide (0<l.length)
  else false)):=by
  show _=_;rw[←HR.out];conv=>lhs;unfold Co.alone
  dsimp only;rw[if_neg gk,if_neg (by rw[HK.out];simp)]
 rw[Co.empty_list]at HR2;rw[Co.len_is]at HR2;go_enter Tryz.func66,Tryz.ntmps66;go_upto_region 5 with((go_at_call 93;refine hno.mono ?_;rintro e w2 ⟨rfl,hb2⟩;clear c0 c1 c2 c3 c4 c5 c6 c7 c8 c9 c10;have Hc2:=zh (Hc.out.below hb2);obtain⟨c0,c1,c2,c3,c4,c5,c6,c7,c8,c9,c10⟩:=Hc2.out.c11;clear hno hw1;have HB2:=zh ((btr HB1.out hb2));clear hb2))
 clear Hc HB1;by_cases g8:k=8
 ·subst g8;rw[if_pos rfl]at HR2;by_cases gS:s.toList.isEmpty=true
  case neg=>
   have hS:s.toList.isEmpty=false:=by simpa using gS
   have hS2:¬s.toList=[]:=by simpa using gS
   have HF:Hid (R=false):=by show _=_;rw[HR2.out,hS];rfl
   clear gS HR HR2;go_wp2;go_ret;exact⟨by rw[HF.out];rfl,HB2.out⟩
  have hS2:s.toList=[]:=by simpa using gS
  by_cases gL:l.length=1
  case neg=>
   have hL1:((l.length:Int)==1)=false:=by rw[beq_eq_false_iff_ne];omega
   have HF:Hid (R=false):=by show _=_;rw[HR2.out,gS,decide_eq_false gL];rfl
   clear gS gL HR HR2;go_wp2;go_ret;exact⟨by rw[HF.out];rfl,HB2.out⟩
  have hL1:((l.length:Int)==1)=true:=by rw[beq_iff_eq];omega
  have hpa:=paramsR_any 8 n d.k d.n s d.s (.slice a1 n1 q1) (.slice a2 n2 q2) (.slice a3 n3 q3) (.slice ap p.length cp) (.slice al l.length cl) p w2 (HP.out.below HB2.out) hp;have HF:Hid (R=Co.params n p):=by show _=_;rw[HR2.out,gS,decide_eq_true gL];rfl
  obtain⟨V,hV⟩:∃V,Co.params n p=V:=⟨_,rfl⟩
  rw[hV]at hpa HF;clear gS gL HR HR2 hV;go_wp2_with fail
  refine hpa.mono ?_;rintro e w3 ⟨rfl,hb3⟩;have HB3:=zh ((btr HB2.out hb3));clear c0 c1 c2 c3 c4 c5 c6 c7 c8 c9 c10;clear hb3 hpa;go_wp2;go_ret;exact⟨by rw[HF.out];rfl,HB3.out⟩
 have hk8:(k==8)=false:=by simpa using g8
 rw[if_neg g8]at HR2;by_cases gP:0<p.length
 ·have hPb:decide ((0:Int)<(p.length:Int))=true:=decide_eq_true (by omega);have hPn:decide (0<p.length)=true:=decide_eq_true gP;have HF:Hid (R=false):=by show _=_;rw[HR2.out,HPL.out,decide_eq_false (by omega),if_pos rfl]
  clear gP HR HR2 gk g8;go_wp2;go_ret;exact⟨by rw[HF.out];rfl,HB2.out⟩
 have hPb:decide ((0:Int)<(p.length:Int))=false:=decide_eq_false (by omega);have hPn:decide (0<p.length)=false:=decide_eq_false gP;have HR3:=zh HR2.out;rw[HPL.out,if_neg (by rw[decide_eq_true (by omega)];simp)]at HR3;clear gP HR HR2;have hsy:=fun W=>SymbolR2_any s W hs
 have hnu:=fun W=>numC_any n W
 obtain⟨V,hV⟩:∃V,Co.var n=V:=⟨_,rfl⟩
 obtain⟨Y,hY⟩:∃Y,Lx.symbol s.data.toList=Y:=⟨_,rfl⟩
 obtain⟨N,hN⟩:∃N,(n==0)=N:=⟨_,rfl⟩
 have hNd:decide (n=0)=N:=by rw[←hN];by_cases e:n=0 <;> simp[e]
 rw[hV,hY,hNd]at HR3;rw[hV]at hnu;rw[hY]at hsy;clear hV hY hNd;go_upto_region 9 with fail
 go_cut [3] (fun v wx=>v= .bool (N&&Y)∧wx=w2)
 case first=>
  cases N with
  |false=>
   go_wp2;go_meet;exact⟨rfl,rfl⟩
  |true=>
   go_wp2_with((go_at_call 95;refine(hsy _).mono ?_;rintro e w5 ⟨rfl,rfl⟩))
   go_meet;exact⟨rfl,rfl⟩
 case rest=>
  obtain⟨rfl,rfl⟩:=hcut;obtain⟨Z,hZ⟩:∃Z,(N&&Y)=Z:=⟨_,rfl⟩
  rw[hZ]at HR3 ⊢;clear hZ hsy hk1 hk8 hPb hPn;by_cases g2:k=2
  ·rw[if_pos g2]at HR3;subst g2;by_cases gS:s.toList.isEmpty=true
   case neg=>
    have hS:s.toList.isEmpty=false:=by simpa using gS
    have hS2:¬s.toList=[]:=by simpa using gS
    have HF:Hid (R=false):=by show _=_;rw[HR3.out];simp[*]
    clear gk g8 HR3 HD HWD HP HPL;go_wp2_with(first|(go_at_call 96;refine(hnu _).mono ?_;rintro e w5 ⟨rfl,rfl⟩)|fail)
    go_ret;exact⟨by rw[HF.out];rfl,HB2.out⟩
   have hS2:s.toList=[]:=by simpa using gS
   by_cases gV:V=true
   case neg=>
    have hV:V=false:=by simpa using gV
    subst hV;have HF:Hid (R=false):=by show _=_;rw[HR3.out];simp[*]
    clear gk g8 HR3 HD HWD HP HPL;go_wp2_with(first|(go_at_call 96;refine(hnu _).mono ?_;rintro e w5 ⟨rfl,rfl⟩)|fail)
    go_ret;exact⟨by rw[HF.out];rfl,HB2.out⟩
   subst gV;by_cases gL:l.length=0
   ·have hLb:((l.length:Int)==0)=true:=by rw[beq_iff_eq];omega
    have HF:Hid (R=true):=by show _=_;rw[HR3.out];simp[*]
    clear gk g8 gL HR3 HD HWD HP HPL;go_wp2_with(first|(go_at_call 96;refine(hnu _).mono ?_;rintro e w5 ⟨rfl,rfl⟩)|fail)
    go_ret;exact⟨by rw[HF.out];rfl,HB2.out⟩
   ·have hLb:((l.length:Int)==0)=false:=by rw[beq_eq_false_iff_ne];omega
    have HF:Hid (R=false):=by show _=_;rw[HR3.out];simp[*]
    clear gk g8 gL HR3 HD HWD HP HPL;go_wp2_with(first|(go_at_call 96;refine(hnu _).mono ?_;rintro e w5 ⟨rfl,rfl⟩)|fail)
    go_ret;exact⟨by rw[HF.out];rfl,HB2.out⟩
  rw[if_neg g2]at HR3;have hk2:(k==2)=false:=by rw[beq_eq_false_iff_ne];omega
  by_cases g3:k=3
  ·rw[if_pos g3]at HR3;subst g3;by_cases gZ:Z=true
   case neg=>
    have hZ:Z=false:=by simpa using gZ
    subst hZ;have HF:Hid (R=false):=by show _=_;rw[HR3.out];simp[*]
    clear gk g8 HR3 HD HWD HP HPL;go_wp2_with(first|(go_at_call 96;refine(hnu _).mono ?_;rintro e w5 ⟨rfl,rfl⟩)|fail)
    go_ret;exact⟨by rw[HF.out];rfl,HB2.out⟩
   subst gZ;by_cases gL:l.length=0
   ·have hLb:((l.length:Int)==0)=true:=by rw[beq_iff_eq];omega
    have HF:Hid (R=true):=by show _=_;rw[HR3.out];simp[*]
    clear gk g8 gL HR3 HD HWD HP HPL;go_wp2_with(first|(go_at_call 96;refine(hnu _).mono ?_;rintro e w5 ⟨rfl,rfl⟩)|fail)
    go_ret;exact⟨by rw[HF.out];rfl,HB2.out⟩
   ·have hLb:((l.length:Int)==0)=false:=by rw[beq_eq_false_iff_ne];omega
    have HF:Hid (R=false):=by show _=_;rw[HR3.out];simp[*]
    clear gk g8 gL HR3 HD HWD HP HPL;go_wp2_with(first|(go_at_call 96;refine(hnu _).mono ?_;rintro e w5 ⟨rfl,rfl⟩)|fail)
    go_ret;exact⟨by rw[HF.out];rfl,HB2.out⟩
  rw[if_neg g3]at HR3;have hk3:(k==3)=false:=by rw[beq_eq_false_iff_ne];omega
  by_cases g4:k=4
  ·rw[if_pos g4]at HR3;subst g4;by_cases gS:s.toList.isEmpty=true
   case neg=>
    have hS:s.toList.isEmpty=false:=by simpa using gS
    have hS2:¬s.toList=[]:=by simpa using gS
    have HF:Hid (R=false):=by show _=_;rw[HR3.out];simp[*]
    clear gk g8 HR3 HD HWD HP HPL;go_wp2_with(first|(go_at_call 96;refine(hnu _).mono ?_;rintro e w5 ⟨rfl,rfl⟩)|fail)
    go_ret;exact⟨by rw[HF.out];rfl,HB2.out⟩
   have hS2:s.toList=[]:=by simpa using gS
   by_cases gV:V=true
   case neg=>
    have hV:V=false:=by simpa using gV
    subst hV;have HF:Hid (R=false):=by show _=_;rw[HR3.out];simp[*]
    clear gk g8 HR3 HD HWD HP HPL;go_wp2_with(first|(go_at_call 96;refine(hnu _).mono ?_;rintro e w5 ⟨rfl,rfl⟩)|fail)
    go_ret;exact⟨by rw[HF.out];rfl,HB2.out⟩
   subst gV;by_cases gL:l.length=1
   ·have hLb:((l.length:Int)==1)=true:=by rw[beq_iff_eq];omega
    have HF:Hid (R=true):=by show _=_;rw[HR3.out];simp[*]
    clear gk g8 gL HR3 HD HWD HP HPL;go_wp2_with(first|(go_at_call 96;refine(hnu _).mono ?_;rintro e w5 ⟨rfl,rfl⟩)|fail)
    go_ret;exact⟨by rw[HF.out];rfl,HB2.out⟩
   ·have hLb:((l.length:Int)==1)=false:=by rw[beq_eq_false_iff_ne];omega
    have HF:Hid (R=false):=by show _=_;rw[HR3.out];simp[*]
    clear gk g8 gL HR3 HD HWD HP HPL;go_wp2_with(first|(go_at_call 96;refine(hnu _).mono ?_;rintro e w5 ⟨rfl,rfl⟩)|fail)
    go_ret;exact⟨by rw[HF.out];rfl,HB2.out⟩
  rw[if_neg g4]at HR3;have hk4:(k==4)=false:=by rw[beq_eq_false_iff_ne];omega
  by_cases g5:k=5∨k=6
  ·rw[if_pos g5]at HR3;rcases g5 with rfl|rfl
   all_goals
    by_cases gZ:Z=true
    case neg=>
     have hZ:Z=false:=by simpa using gZ
     subst hZ;have HF:Hid (R=false):=by show _=_;rw[HR3.out];simp[*]
     clear gk g8 HR3 HD HWD HP HPL;go_wp2_with(first|(go_at_call 96;refine(hnu _).mono ?_;rintro e w5 ⟨rfl,rfl⟩)|fail)
     go_ret;exact⟨by rw[HF.out];rfl,HB2.out⟩
    subst gZ;by_cases gL:l.length=1
    ·have hLb:((l.length:Int)==1)=true:=by rw[beq_iff_eq];omega
     have HF:Hid (R=true):=by show _=_;rw[HR3.out];simp[*]
     clear gk g8 gL HR3 HD HWD HP HPL;go_wp2_with(first|(go_at_call 96;refine(hnu _).mono ?_;rintro e w5 ⟨rfl,rfl⟩)|fail)
     go_ret;exact⟨by rw[HF.out];rfl,HB2.out⟩
    ·have hLb:((l.length:Int)==1)=false:=by rw[beq_eq_false_iff_ne];omega
     have HF:Hid (R=false):=by show _=_;rw[HR3.out];simp[*]
     clear gk g8 gL HR3 HD HWD HP HPL;go_wp2_with(first|(go_at_call 96;refine(hnu _).mono ?_;rintro e w5 ⟨rfl,rfl⟩)|fail)
     go_ret;exact⟨by rw[HF.out];rfl,HB2.out⟩
  rw[if_neg g5]at HR3;have hk5:(k==5)=false:=by rw[beq_eq_false_iff_ne];omega
  have hk6:(k==6)=false:=by rw[beq_eq_false_iff_ne];omega
  by_cases g7:k=7
  ·rw[if_pos g7]at HR3;subst g7;by_cases gN:N=true
   case neg=>
    have hN2:N=false:=by simpa using gN
    subst hN2;have HF:Hid (R=false):=by show _=_;rw[HR3.out];simp[*]
    clear gk g8 HR3 HD HWD HP HPL;go_wp2_with(first|(go_at_call 96;refine(hnu _).mono ?_;rintro e w5 ⟨rfl,rfl⟩)|fail)
    go_ret;exact⟨by rw[HF.out];rfl,HB2.out⟩
   subst gN;by_cases gS:s.toList.isEmpty=true
   case neg=>
    have hS:s.toList.isEmpty=false:=by simpa using gS
    have hS2:¬s.toList=[]:=by simpa using gS
    have HF:Hid (R=false):=by show _=_;rw[HR3.out];simp[*]
    clear gk g8 HR3 HD HWD HP HPL;go_wp2_with(first|(go_at_call 96;refine(hnu _).mono ?_;rintro e w5 ⟨rfl,rfl⟩)|fail)
    go_ret;exact⟨by rw[HF.out];rfl,HB2.out⟩
   have hS2:s.toList=[]:=by simpa using gS
   by_cases gL:l.length=3
   ·have hLb:((l.length:Int)==3)=true:=by rw[beq_iff_eq];omega
    have HF:Hid (R=true):=by show _=_;rw[HR3.out];simp[*]
    clear gk g8 gL HR3 HD HWD HP HPL;go_wp2_with(first|(go_at_call 96;refine(hnu _).mono ?_;rintro e w5 ⟨rfl,rfl⟩)|fail)
    go_ret;exact⟨by rw[HF.out];rfl,HB2.out⟩
   ·have hLb:((l.length:Int)==3)=false:=by rw[beq_eq_false_iff_ne];omega
    have HF:Hid (R=false):=by show _=_;rw[HR3.out];simp[*]
    clear gk g8 gL HR3 HD HWD HP HPL;go_wp2_with(first|(go_at_call 96;refine(hnu _).mono ?_;rintro e w5 ⟨rfl,rfl⟩)|fail)
    go_ret;exact⟨by rw[HF.out];rfl,HB2.out⟩
  rw[if_neg g7]at HR3;have hk7:(k==7)=false:=by rw[beq_eq_false_iff_ne];omega
  by_cases g9:k=9∨k=10
  ·rw[if_pos g9]at HR3;rcases g9 with rfl|rfl
   all_goals
    by_cases gN:N=true
    case neg=>
     have hN2:N=false:=by simpa using gN
     subst hN2;have HF:Hid (R=false):=by show _=_;rw[HR3.out];simp[*]
     clear gk g8 HR3 HD HWD HP HPL;go_wp2_with(first|(go_at_call 96;refine(hnu _).mono ?_;rintro e w5 ⟨rfl,rfl⟩)|fail)
     go_ret;exact⟨by rw[HF.out];rfl,HB2.out⟩
    subst gN;by_cases gS:s.toList.isEmpty=true
    case neg=>
     have hS:s.toList.isEmpty=false:=by simpa using gS
     have hS2:¬s.toList=[]:=by simpa using gS
     have HF:Hid (R=false):=by show _=_;rw[HR3.out];simp[*]
     clear gk g8 HR3 HD HWD HP HPL;go_wp2_with(first|(go_at_call 96;refine(hnu _).mono ?_;rintro e w5 ⟨rfl,rfl⟩)|fail)
     go_ret;exact⟨by rw[HF.out];rfl,HB2.out⟩
    have hS2:s.toList=[]:=by simpa using gS
    by_cases gL:0<l.length
    ·have hLb:decide ((0:Int)<(l.length:Int))=true:=decide_eq_true (by omega);have hLn:decide (0<l.length)=true:=decide_eq_true gL;have HF:Hid (R=true):=by show _=_;rw[HR3.out];simp[*]
     clear gk g8 gL HR3 HD HWD HP HPL;go_wp2_with(first|(go_at_call 96;refine(hnu _).mono ?_;rintro e w5 ⟨rfl,rfl⟩)|fail)
     go_ret;exact⟨by rw[HF.out];rfl,HB2.out⟩
    ·have hLb:decide ((0:Int)<(l.length:Int))=false:=decide_eq_false (by omega);have hLn:decide (0<l.length)=false:=decide_eq_false gL;have HF:Hid (R=false):=by show _=_;rw[HR3.out];simp[*]
     clear gk g8 gL HR3 HD HWD HP HPL;go_wp2_with(first|(go_at_call 96;refine(hnu _).mono ?_;rintro e w5 ⟨rfl,rfl⟩)|fail)
     go_ret;exact⟨by rw[HF.out];rfl,HB2.out⟩
  rw[if_neg g9]at HR3;have hk9:(k==9)=false:=by rw[beq_eq_false_iff_ne];omega
  have hk10:(k==10)=false:=by rw[beq_eq_false_iff_ne];omega
  have HF:Hid (R=false):=HR3.out;clear gk g8 g2 g3 g4 g5 g7 g9 HR3 HD HWD HP HPL;go_wp2;go_ret;exact⟨by rw[HF.out];rfl,HB2.out⟩
end Go.Proofs.YtfjmlfbohenmfaaGreat
