/-
 CoreAlike: the walk. (Printed by genCoAlikeW.py, expanded by pp.py.)
-/
import Derived.Test.YtfjmlfbohenmfaaGreatCoLawPb
import Derived.Test.YtfjmlfbohenmfaaGreatCoAwakeb
import Derived.Test.YtfjmlfbohenmfaaGreatCoAlikeSb
import Derived.Test.YtfjmlfbohenmfaaGreatCoreBBM12
import Derived.Test.YtfjmlfbohenmfaaGreatCoLessb
import Derived.Test.YtfjmlfbohenmfaaGreatCoreBBM7
import Derived.Lib.QuietBelow
import Derived.Test.YtfjmlfbohenmfaaGreatCoreBBM2
namespace Go.Proofs.YtfjmlfbohenmfaaGreat
open Go.RowKit Go.Sort
attribute [local go_sem] Oper.semAt_some
set_option maxRecDepth 100000 in
set_option maxHeartbeats 16000000 in
theorem CoreAlike_walk{F:Nat→Prop}(a b c:Co.C)(am al at_ ap ak bm bl bt bp bk cm cl ct cp ck:Value)(w:World)(hWa:Co.Wf a)(hWb:Co.Wf b)(hWc:Co.Wf c)(hRa:Co.Rep F w a am al at_ ap ak)(hRb:Co.Rep F w b bm bl bt bp bk)(hRc:Co.Rep F w c cm cl ct cp ck):
  Calls Tryz.prog 4 #[Co.V a am al at_ ap ak,Co.V b bm bl bt bp bk,Co.V c cm cl ct cp ck] w fun e w'=>e= .returned (.bool true)∧Below w.heap.size w w':=by
 obtain⟨w1,hw1⟩:∃w1,w.alloc (.cells #[.int .i64 a.k,.int .i64 a.n,.string a.s,.int .i64 a.d.k,.int .i64 a.d.n,.string a.d.s,am,al,at_,ap,ak] 28)=w1:=⟨_,rfl⟩
 obtain⟨w2,hw2⟩:∃w2,w1.alloc (.cells #[.int .i64 b.k,.int .i64 b.n,.string b.s,.int .i64 b.d.k,.int .i64 b.d.n,.string b.d.s,bm,bl,bt,bp,bk] 28)=w2:=⟨_,rfl⟩
 obtain⟨w3,hw3⟩:∃w3,w2.alloc (.cells #[.int .i64 c.k,.int .i64 c.n,.string c.s,.int .i64 c.d.k,.int .i64 c.d.n,.string c.d.s,cm,cl,ct,cp,ck] 28)=w3:=⟨_,rfl⟩
 obtain⟨hb1,hs1⟩:=new_below hw1;obtain⟨hb2,hs2⟩:=new_below hw2;obtain⟨hb3,hs3⟩:=new_below hw3;have hqa:Co.Bc w1 w.heap.size a am al at_ ap ak:=Hp.new hw1;obtain⟨YB,hYB⟩:∃YB,w1.heap.size=YB:=⟨_,rfl⟩
 obtain⟨YC,hYC⟩:∃YC,w2.heap.size=YC:=⟨_,rfl⟩
 have hqb:Co.Bc w2 YB b bm bl bt bp bk:=by rw[←hYB];exact Hp.new hw2
 have hqc:Co.Bc w3 YC c cm cl ct cp ck:=by rw[←hYC];exact Hp.new hw3
 have hb12:Below w.heap.size w w2:=btr hb1 hb2;have hb13:Below w.heap.size w w3:=btr hb12 hb3;have HQ:Hid (∀W,Below w3.heap.size w3 W→Co.Bc W w.heap.size a am al at_ ap ak∧Co.Bc W YB b bm bl bt bp bk∧Co.Bc W YC c cm cl ct cp ck∧Co.Rep (fun k=>k<w3.heap.size) W a am al at_ ap ak∧Co.Rep (fun k=>k<w3.heap.size) W b bm bl bt bp bk∧Co.Rep (fun k=>k<w3.heap.size) W c cm cl ct cp ck):=fun W hW=>
  ⟨Hp.below hqa (((btr hb2 hb3)).trans (hW.mono (by omega))),Hp.below hqb ((btr hb3 hW)),Hp.below hqc hW,((Co.Rep.mono (fun _ _ h=>by omega) a hRa).below hb13).below hW,((Co.Rep.mono (fun _ _ h=>by omega) b hRb).below hb13).below hW,((Co.Rep.mono (fun _ _ h=>by omega) c hRc).below hb13).below hW⟩
 have HW:Hid (Co.Wf a∧Co.Wf b∧Co.Wf c):=⟨hWa,hWb,hWc⟩
 have HB3:=zh hb13;have hLa:∀(ev:Operand→Value) (y:Operand) (d:Option Tmp) (ty:TypeId) (po:String) (af:Array Edge) (gu:Option (Nat×Bool)),ev y= .pointer (some ⟨w.heap.size,0,none⟩)→∀W,Below w3.heap.size w3 W→(execOp ev ⟨d,.load 28 y,ty,po,af,gu⟩).run Tryz.prog W= .ok (.value (Co.V a am al at_ ap ak)) W:=by
  intro ev y d ty po af gu hy W hW;obtain⟨hqa,hqb,hqc,-,-,-⟩:=HQ.out W hW;have HQx:=zh hqa;clear hqa hqb hqc hW;obtain⟨xx0,xx1,xx2,xx3,xx4,xx5,xx6,xx7,xx8,xx9,xx10⟩:=HQx.out.c11;clear HQx;unfold Co.V;go_simp
 have hLb:∀(ev:Operand→Value) (y:Operand) (d:Option Tmp) (ty:TypeId) (po:String) (af:Array Edge) (gu:Option (Nat×Bool)),ev y= .pointer (some ⟨YB,0,none⟩)→∀W,Below w3.heap.size w3 W→(execOp ev ⟨d,.load 28 y,ty,po,af,gu⟩).run Tryz.prog W= .ok (.value (Co.V b bm bl bt bp bk)) W:=by
  intro ev y d ty po af gu hy W hW;obtain⟨hqa,hqb,hqc,-,-,-⟩:=HQ.out W hW;have HQx:=zh hqb;clear hqa hqb hqc hW;obtain⟨xx0,xx1,xx2,xx3,xx4,xx5,xx6,xx7,xx8,xx9,xx10⟩:=HQx.out.c11;clear HQx;unfold Co.V;go_simp
 have hLc:∀(ev:Operand→Value) (y:Operand) (d:Option Tmp) (ty:TypeId) (po:String) (af:Array Edge) (gu:Option (Nat×Bool)),ev y= .pointer (some ⟨YC,0,none⟩)→∀W,Below w3.heap.size w3 W→(execOp ev ⟨d,.load 28 y,ty,po,af,gu⟩).run Tryz.prog W= .ok (.value (Co.V c cm cl ct cp ck)) W:=by
  intro ev y d ty po af gu hy W hW;obtain⟨hqa,hqb,hqc,-,-,-⟩:=HQ.out W hW;have HQx:=zh hqc;clear hqa hqb hqc hW;obtain⟨xx0,xx1,xx2,xx3,xx4,xx5,xx6,xx7,xx8,xx9,xx10⟩:=HQx.out.c11;clear HQx;unfold Co.V;go_simp
 have HLa:=zh hLa;have HLb:=zh hLb;have HLc:=zh hLc;clear hLa hLb hLc;have haw:=coAwake_any w3;clear hb1 hb2 hb3 hs1 hs2 hs3 hqa hqb hqc hb12 hb13 hWa hWb hWc hRa hRb hRc;unfold Co.V;go_enter Tryz.func4,Tryz.ntmps4;go_wp2_with fail
 try rw[hw1,hw2,hw3]
 refine haw.mono ?_;rintro e w4 ⟨rfl,hb4⟩;have HB34:=zh hb4;obtain⟨hqa,hqb,hqc,hra,hrb,hrc⟩:=HQ.out w4 hb4;have HQa:=zh hqa;obtain⟨xa0,xa1,xa2,xa3,xa4,xa5,xa6,xa7,xa8,xa9,xa10⟩:=HQa.out.c11;have HQb:=zh hqb;obtain⟨xb0,xb1,xb2,xb3,xb4,xb5,xb6,xb7,xb8,xb9,xb10⟩:=HQb.out.c11;have HQc:=zh hqc;obtain⟨xc0,xc1,xc2,xc3,xc4,xc5,xc6,xc7,xc8,xc9,xc10⟩:=HQc.out.c11;clear hqa hqb hqc HQa HQb HQc;obtain⟨w5,hw5⟩:∃w5,w4.alloc (.cells #[.int .i64 a.k,.int .i64 a.n,.string a.s,.int .i64 a.d.k,.int .i64 a.d.n,.string a.d.s,am,al,at_,ap,ak,.int .i64 b.k,.int .i64 b.n,.string b.s,.int .i64 b.d.k,.int .i64 b.d.n,.string b.d.s,bm,bl,bt,bp,bk,.int .i64 c.k,.int .i64 c.n,.string c.s,.int .i64 c.d.k,.int .i64 c.d.n,.string c.d.s,cm,cl,ct,cp,ck] 28)=w5:=⟨_,rfl⟩
 obtain⟨hb5,hs5⟩:=new_below hw5;have hp5:=Hp.new hw5;have hz4:=hb4.size;have hfew:=coFew_any (F:=fun k=>k<w5.heap.size) [a,b,c] (.slice (some ⟨w4.heap.size,0,none⟩) 3 3) w5 (by rw[Co.Wfs,Co.Wfs,Co.Wfs,Co.Wfs];exact⟨HW.out.1,HW.out.2.1,HW.out.2.2,trivial⟩) (fun _ h=>h) (by simp) ⟨some ⟨w4.heap.size,0,none⟩,3,rfl,by simp,fun _=>⟨w4.heap.size,0,rfl,by omega,by omega,by
  rw[Co.Reps,Co.Reps,Co.Reps,Co.Reps];exact⟨⟨am,al,at_,ap,ak,Co.El.ofHp hp5 rfl rfl rfl rfl rfl rfl rfl rfl rfl rfl rfl,Co.Rep.mono (fun _ _ h=>h) a (hra.below hb5)⟩,⟨bm,bl,bt,bp,bk,Co.El.ofHp hp5 rfl rfl rfl rfl rfl rfl rfl rfl rfl rfl rfl,Co.Rep.mono (fun _ _ h=>h) b (hrb.below hb5)⟩,⟨cm,cl,ct,cp,ck,Co.El.ofHp hp5 rfl rfl rfl rfl rfl rfl rfl rfl rfl rfl rfl,Co.Rep.mono (fun _ _ h=>h) c (hrc.below hb5)⟩,trivial⟩⟩⟩
 have HB35:Hid (Below w3.heap.size w3 w5):=btr hb4 hb5;clear haw hw1 hw2 hw3 hYB hYC hb4 hra hrb hrc hb5 hs5 hp5 hz4;go_wp2_with fail
 try rw[hw5]
 refine hfew.mono ?_;rintro e w6 ⟨fb,rfl,hb6⟩;have HB36:Hid (Below w3.heap.size w3 w6):=btr HB35.out hb6;clear xa0 xa1 xa2 xa3 xa4 xa5 xa6 xa7 xa8 xa9 xa10 xb0 xb1 xb2 xb3 xb4 xb5 xb6 xb7 xb8 xb9 xb10 xc0 xc1 xc2 xc3 xc4 xc5 xc6 xc7 xc8 xc9 xc10;clear hfew hw5 hb6 HB35 HB34
 cases fb with
 |false=>
  have haw:=coAwake_any w6;go_wp2_with fail
  refine haw.mono ?_;rintro e w7 ⟨rfl,hb7⟩;have HB7:Hid (Below w.heap.size w w7):=HB3.out.trans (((btr HB36.out hb7)).mono HB3.out.size);clear haw hb7;go_wp2;go_ret;exact⟨rfl,HB7.out⟩
 |true=>
  obtain⟨hqa,hqb,hqc,hra,hrb,hrc⟩:=HQ.out w6 HB36.out;have HQa:=zh hqa;obtain⟨xa0,xa1,xa2,xa3,xa4,xa5,xa6,xa7,xa8,xa9,xa10⟩:=HQa.out.c11;have HQb:=zh hqb;obtain⟨xb0,xb1,xb2,xb3,xb4,xb5,xb6,xb7,xb8,xb9,xb10⟩:=HQb.out.c11;clear hqa hqb hqc HQa HQb;have hal:=coAlike_any a b _ _ _ _ _ _ _ _ _ _ w6 HW.out.1 HW.out.2.1 hra hrb;unfold Co.V at hal;clear hra hrb hrc;go_upto_region 4 with(refine hal.mono ?_;clear hal;rintro e w7 ⟨rfl,hb7⟩;have HB37:=zh (btr HB36.out hb7);clear hb7;clear xa0 xa1 xa2 xa3 xa4 xa5 xa6 xa7 xa8 xa9 xa10 xb0 xb1 xb2 xb3 xb4 xb5 xb6 xb7 xb8 xb9 xb10)
  clear HB36;obtain⟨x,hx⟩:∃x,Co.alike a b=x:=⟨_,rfl⟩
  rw[hx]
  go_cut [63]from 22 to 63 (fun v wx=>v= .bool false∧Hid (Below w3.heap.size w3 wx))
  case first=>
   obtain⟨hqa,hqb,hqc,hra,hrb,hrc⟩:=HQ.out w7 HB37.out;have HQa:=zh hqa;obtain⟨xa0,xa1,xa2,xa3,xa4,xa5,xa6,xa7,xa8,xa9,xa10⟩:=HQa.out.c11;have HQb:=zh hqb;obtain⟨xb0,xb1,xb2,xb3,xb4,xb5,xb6,xb7,xb8,xb9,xb10⟩:=HQb.out.c11;have HQc:=zh hqc;obtain⟨xc0,xc1,xc2,xc3,xc4,xc5,xc6,xc7,xc8,xc9,xc10⟩:=HQc.out.c11;have HR:Hid (Co.Rep (fun k=>k<w3.heap.size) w7 a am al at_ ap ak∧Co.Rep (fun k=>k<w3.heap.size) w7 b bm bl bt bp bk∧Co.Rep (fun k=>k<w3.heap.size) w7 c cm cl ct cp ck):=⟨hra,hrb,hrc⟩
   clear hra hrb hrc hqa hqb hqc HQa HQb HQc;have ya0:=cell_regrown xa0;have ya1:=cell_regrown xa1;have ya2:=cell_regrown xa2;have ya3:=cell_regrown xa3;have ya4:=cell_regrown xa4;have ya5:=cell_regrown xa5;have ya6:=cell_regrown xa6;have ya7:=cell_regrown xa7;have ya8:=cell_regrown xa8;have ya9:=cell_regrown xa9;have ya10:=cell_regrown xa10;have yb0:=cell_regrown xb0;have yb1:=cell_regrown xb1;have yb2:=cell_regrown xb2;have yb3:=cell_regrown xb3;have yb4:=cell_regrown xb4;have yb5:=cell_regrown xb5;have yb6:=cell_regrown xb6;have yb7:=cell_regrown xb7;have yb8:=cell_regrown xb8;have yb9:=cell_regrown xb9;have yb10:=cell_regrown xb10;have yc0:=cell_regrown xc0;have yc1:=cell_regrown xc1;have yc2:=cell_regrown xc2;have yc3:=cell_regrown xc3;have yc4:=cell_regrown xc4;have yc5:=cell_regrown xc5;have yc6:=cell_regrown xc6;have yc7:=cell_regrown xc7;have yc8:=cell_regrown xc8;have yc9:=cell_regrown xc9;have yc10:=cell_regrown xc10;obtain⟨q,hq⟩:∃q,Co.alike b c=q:=⟨_,rfl⟩
   obtain⟨r,hr⟩:∃r,Co.alike a c=r:=⟨_,rfl⟩
   obtain⟨s,hs⟩:∃s,Co.same a b=s:=⟨_,rfl⟩
   obtain⟨E,hE⟩:∃E,Co.check a []=E:=⟨_,rfl⟩
   obtain⟨t,ht⟩:∃t,decide (E=0)=t:=⟨_,rfl⟩
   have hL1:x=true→q=true→r=true:=by rw[←hx,←hq,←hr];exact Co.alike_trans
   have hL2:s=true→E=0→x=true:=by rw[←hx,←hs,←hE];exact Co.same_alike
   have hL3:x=true→E=0:=by rw[←hx,←hE];exact fun h=>((Co.alike_iff a b).1 h).1
   have hT1:(E==0)=t:=by rw[←ht];by_cases e:E=0 <;> simp[e]
   have HL:Hid ((x=true→q=true→r=true)∧(s=true→t=true→x=true)∧(x=true→t=true)):=⟨hL1,fun e1 e2=>hL2 e1 (by rw[←ht]at e2;exact of_decide_eq_true e2),fun e=>by rw[←ht];exact decide_eq_true (hL3 e)⟩
   have hq0:Co.alike b a=x:=by rw[Co.alike_symm];exact hx
   have hq2:Co.alike a a=t:=by rw[Co.alike_self,hE];exact ht
   have HCba:Hid (∀W,Below w3.heap.size w3 W→Calls Tryz.prog 14 #[Co.V b bm bl bt bp bk,Co.V a am al at_ ap ak] W fun e w'=>e= .returned (.bool x)∧Below W.heap.size W w'):=fun W hW=>by
    have h:=coAlike_any b a _ _ _ _ _ _ _ _ _ _ W HW.out.2.1 HW.out.1 (HQ.out W hW).2.2.2.2.1 (HQ.out W hW).2.2.2.1;rw[hq0]at h;exact h
   have HCaa:Hid (∀W,Below w3.heap.size w3 W→Calls Tryz.prog 14 #[Co.V a am al at_ ap ak,Co.V a am al at_ ap ak] W fun e w'=>e= .returned (.bool t)∧Below W.heap.size W w'):=fun W hW=>by
    have h:=coAlike_any a a _ _ _ _ _ _ _ _ _ _ W HW.out.1 HW.out.1 (HQ.out W hW).2.2.2.1 (HQ.out W hW).2.2.2.1;rw[hq2]at h;exact h
   have HCbc:Hid (∀W,Below w3.heap.size w3 W→Calls Tryz.prog 14 #[Co.V b bm bl bt bp bk,Co.V c cm cl ct cp ck] W fun e w'=>e= .returned (.bool q)∧Below W.heap.size W w'):=fun W hW=>by
    have h:=coAlike_any b c _ _ _ _ _ _ _ _ _ _ W HW.out.2.1 HW.out.2.2 (HQ.out W hW).2.2.2.2.1 (HQ.out W hW).2.2.2.2.2;rw[hq]at h;exact h
   have HCac:Hid (∀W,Below w3.heap.size w3 W→Calls Tryz.prog 14 #[Co.V a am al at_ ap ak,Co.V c cm cl ct cp ck] W fun e w'=>e= .returned (.bool r)∧Below W.heap.size W w'):=fun W hW=>by
    have h:=coAlike_any a c _ _ _ _ _ _ _ _ _ _ W HW.out.1 HW.out.2.2 (HQ.out W hW).2.2.2.1 (HQ.out W hW).2.2.2.2.2;rw[hr]at h;exact h
   have HCs:Hid (∀W,Below w3.heap.size w3 W→Calls Tryz.prog 12 #[Co.V a am al at_ ap ak,Co.V b bm bl bt bp bk] W fun e w'=>e= .returned (.bool s)∧Below W.heap.size W w'):=fun W hW=>by
    have h:=coSame_any a b _ _ _ _ _ _ _ _ _ _ W HW.out.1 HW.out.2.1 (HQ.out W hW).2.2.2.1 (HQ.out W hW).2.2.2.2.1;rw[hs]at h;exact h
   have HCk:Hid (∀W,Below w3.heap.size w3 W→Calls Tryz.prog 10 #[Co.V a am al at_ ap ak,.slice none 0 0] W fun e w'=>e= .returned (.int .i64 E)∧Below W.heap.size W w'):=fun W hW=>by
    have h:=checkC_any (F':=fun _=>False) a _ _ _ _ _ (.slice none 0 0) [] W HW.out.1 (HQ.out W hW).2.2.2.1 ⟨none,0,rfl,by decide,fun h=>absurd rfl h⟩ (by decide) (by simp);rw[hE]at h;exact h
   have HS0:Below w3.heap.size w3 w7.drew:=HB37.out.drew;have HB8:=zh HS0;clear hq hr hs hE hx hL1 hL2 hL3 hq0 hq2;refine wp_region_noPanic ?_;refine wp_region_held_drew (S:=fun W=>Below w3.heap.size w3 W) (by kernel_rfl) HS0 (fun hHeld=> ?_);refine Zm.u 0 ?_ rfl ?_ ?_;rotate_left
   ·intro w hSw;clear hSw;go_simp;try with_reducible rfl
   simp only[Act.put,za,zb,zc];refine Zm.u 1 (Co.V b bm bl bt bp bk) rfl (HLb.out _ _ _ _ _ _ _ rfl) ?_;simp only[Act.put,za,zb,zc];refine Zm.u 2 (Co.V a am al at_ ap ak) rfl (HLa.out _ _ _ _ _ _ _ rfl) ?_;simp only[Act.put,za,zb,zc];refine Zm.r 3 rfl (fun K hK=> ?_);go_simp;try unfold Co.V
   refine(HCba.out _ HB8.out).mono ?_;rintro e w9 ⟨rfl,hb9⟩;have HB9:Hid (Below w3.heap.size w3 w9):=btr HB8.out hb9;clear hb9;dsimp only;refine hK.out _ _ ?_ (fun hHeld=> ?_)
   ·exact HB9.out
   clear hK K;try simp only[Act.put,za,zb,zc]
   refine Zm.u 4 (.bool false) rfl ?_ ?_
   ·intro w hSw;clear hSw;go_simp;try with_reducible rfl
   simp only[Act.put,za,zb,zc];refine Zm.u 5 ?_ rfl ?_ ?_;rotate_left
   ·intro w hSw;clear hSw;go_simp;try with_reducible rfl
   simp only[Act.put,za,zb,zc];refine Zm.u 6 (Co.V a am al at_ ap ak) rfl (HLa.out _ _ _ _ _ _ _ rfl) ?_;simp only[Act.put,za,zb,zc];refine Zm.u 7 (Co.V a am al at_ ap ak) rfl (HLa.out _ _ _ _ _ _ _ rfl) ?_;simp only[Act.put,za,zb,zc];refine Zm.u 9 (Co.V a am al at_ ap ak) rfl (HLa.out _ _ _ _ _ _ _ rfl) ?_;simp only[Act.put,za,zb,zc];refine Zm.r 8 rfl (fun K hK=> ?_);go_simp;try unfold Co.V
   refine(HCaa.out _ HB9.out).mono ?_;rintro e w10 ⟨rfl,hb10⟩;have HB10:Hid (Below w3.heap.size w3 w10):=btr HB9.out hb10;clear hb10;dsimp only;refine hK.out _ _ ?_ (fun hHeld=> ?_)
   ·exact HB10.out
   clear hK K;try simp only[Act.put,za,zb,zc]
   refine Zm.r 10 rfl (fun K hK=> ?_);go_simp;try unfold Co.V
   refine(HCk.out _ HB10.out).mono ?_;rintro e w11 ⟨rfl,hb11⟩;have HB11:Hid (Below w3.heap.size w3 w11):=btr HB10.out hb11;clear hb11;dsimp only;refine hK.out _ _ ?_ (fun hHeld=> ?_)
   ·exact HB11.out
   clear hK K;try simp only[Act.put,za,zb,zc]
   refine Zm.u 11 (.bool t) rfl ?_ ?_
   ·intro w hSw;clear hSw;go_simp;try with_reducible rfl
   simp only[Act.put,za,zb,zc];refine Zm.u 12 (.bool false) rfl ?_ ?_
   ·intro w hSw;clear hSw;go_simp;try with_reducible rfl
   simp only[Act.put,za,zb,zc];refine Zm.u 13 (.bool false) rfl ?_ ?_
   ·intro w hSw;clear hSw;go_simp;try with_reducible rfl
   simp only[Act.put,za,zb,zc];refine Zm.u 14 ?_ rfl ?_ ?_;rotate_left
   ·intro w hSw;clear hSw;go_simp;try with_reducible rfl
   simp only[Act.put,za,zb,zc];refine Zm.u 15 ?_ rfl ?_ ?_;rotate_left
   ·intro w hSw;clear hSw;go_simp;try with_reducible rfl
   simp only[Act.put,za,zb,zc];refine Zm.u 16 ?_ rfl ?_ ?_;rotate_left
   ·intro w hSw;clear hSw;go_simp;try with_reducible rfl
   simp only[Act.put,za,zb,zc]
   cases x with
   |false=>
    refine Zm.s 17 rfl ?_;simp only[Act.put,za,zb,zc];refine Zm.s 18 rfl ?_;simp only[Act.put,za,zb,zc];refine Zm.s 19 rfl ?_;simp only[Act.put,za,zb,zc];refine Zm.u 20 (.bool false) rfl ?_ ?_
    ·intro w hSw;clear hSw;go_simp;try with_reducible rfl
    simp only[Act.put,za,zb,zc];refine Zm.u 21 ?_ rfl ?_ ?_;rotate_left
    ·intro w hSw;clear hSw;go_simp;try with_reducible rfl
    simp only[Act.put,za,zb,zc];refine Zm.s 22 rfl ?_;simp only[Act.put,za,zb,zc];refine Zm.s 23 rfl ?_;simp only[Act.put,za,zb,zc];refine Zm.s 24 rfl ?_;simp only[Act.put,za,zb,zc];refine Zm.s 25 rfl ?_;simp only[Act.put,za,zb,zc];refine Zm.u 26 (.bool false) rfl ?_ ?_
    ·intro w hSw;clear hSw;go_simp;try with_reducible rfl
    simp only[Act.put,za,zb,zc];refine Zm.u 27 (.bool false) rfl ?_ ?_
    ·intro w hSw;clear hSw;go_simp;try with_reducible rfl
    simp only[Act.put,za,zb,zc];refine Zm.u 28 ?_ rfl ?_ ?_;rotate_left
    ·intro w hSw;clear hSw;go_simp;try with_reducible rfl
    simp only[Act.put,za,zb,zc];refine Zm.u 29 (Co.V a am al at_ ap ak) rfl (HLa.out _ _ _ _ _ _ _ rfl) ?_;simp only[Act.put,za,zb,zc];refine Zm.u 30 (Co.V b bm bl bt bp bk) rfl (HLb.out _ _ _ _ _ _ _ rfl) ?_;simp only[Act.put,za,zb,zc];refine Zm.r 31 rfl (fun K hK=> ?_);go_simp;try unfold Co.V
    refine(HCs.out _ HB11.out).mono ?_;rintro e w12 ⟨rfl,hb12⟩;have HB12:Hid (Below w3.heap.size w3 w12):=btr HB11.out hb12;clear hb12;dsimp only;refine hK.out _ _ ?_ (fun hHeld=> ?_)
    ·exact HB12.out
    clear hK K;try simp only[Act.put,za,zb,zc]
    refine Zm.u 32 ?_ rfl ?_ ?_;rotate_left
    ·intro w hSw;clear hSw;go_simp;try with_reducible rfl
    simp only[Act.put,za,zb,zc]
    cases s with
    |false=>
     refine Zm.s 33 rfl ?_;simp only[Act.put,za,zb,zc];refine Zm.s 34 rfl ?_;simp only[Act.put,za,zb,zc];refine Zm.s 35 rfl ?_;simp only[Act.put,za,zb,zc];refine Zm.u 36 (.bool false) rfl ?_ ?_
     ·intro w hSw;clear hSw;go_simp;try with_reducible rfl
     simp only[Act.put,za,zb,zc];refine Zm.u 37 ?_ rfl ?_ ?_;rotate_left
     ·intro w hSw;clear hSw;go_simp;try with_reducible rfl
     simp only[Act.put,za,zb,zc];refine Zm.s 38 rfl ?_;simp only[Act.put,za,zb,zc];refine Zm.s 39 rfl ?_;simp only[Act.put,za,zb,zc];refine Zm.u 40 (.bool false) rfl ?_ ?_
     ·intro w hSw;clear hSw;go_simp;try with_reducible rfl
     simp only[Act.put,za,zb,zc];refine Zm.u 41 (.bool false) rfl ?_ ?_
     ·intro w hSw;clear hSw;go_simp;try with_reducible rfl
     simp only[Act.put,za,zb,zc];refine wpAnyH_done (by kernel_rfl) ?_ _;refine NoPanic.normal ?_;go_wp2;go_meet;exact⟨rfl,HB12⟩
    |true=>
     refine Zm.u 33 (Co.V a am al at_ ap ak) rfl (HLa.out _ _ _ _ _ _ _ rfl) ?_;simp only[Act.put,za,zb,zc];refine Zm.r 34 rfl (fun K hK=> ?_);go_simp;try unfold Co.V
     refine(HCk.out _ HB12.out).mono ?_;rintro e w13 ⟨rfl,hb13⟩;have HB13:Hid (Below w3.heap.size w3 w13):=btr HB12.out hb13;clear hb13;dsimp only;refine hK.out _ _ ?_ (fun hHeld=> ?_)
     ·exact HB13.out
     clear hK K;try simp only[Act.put,za,zb,zc]
     refine Zm.u 35 (.bool t) rfl ?_ ?_
     ·intro w hSw;clear hSw;go_simp;try with_reducible rfl
     simp only[Act.put,za,zb,zc];obtain rfl:t=false:=by
      cases t with
      |false=>rfl
      |true=>exact absurd (HL.out.2.1 rfl rfl) (by simp)
     refine Zm.u 36 (.bool false) rfl ?_ ?_
     ·intro w hSw;clear hSw;go_simp;try with_reducible rfl
     simp only[Act.put,za,zb,zc];refine Zm.u 37 ?_ rfl ?_ ?_;rotate_left
     ·intro w hSw;clear hSw;go_simp;try with_reducible rfl
     simp only[Act.put,za,zb,zc];refine Zm.s 38 rfl ?_;simp only[Act.put,za,zb,zc];refine Zm.s 39 rfl ?_;simp only[Act.put,za,zb,zc];refine Zm.u 40 (.bool false) rfl ?_ ?_
     ·intro w hSw;clear hSw;go_simp;try with_reducible rfl
     simp only[Act.put,za,zb,zc];refine Zm.u 41 (.bool false) rfl ?_ ?_
     ·intro w hSw;clear hSw;go_simp;try with_reducible rfl
     simp only[Act.put,za,zb,zc];refine wpAnyH_done (by kernel_rfl) ?_ _;refine NoPanic.normal ?_;go_wp2;go_meet;exact⟨rfl,HB13⟩
   |true=>
    obtain rfl:t=true:=HL.out.2.2 rfl;refine Zm.u 17 (Co.V b bm bl bt bp bk) rfl (HLb.out _ _ _ _ _ _ _ rfl) ?_;simp only[Act.put,za,zb,zc];refine Zm.u 18 (Co.V c cm cl ct cp ck) rfl (HLc.out _ _ _ _ _ _ _ rfl) ?_;simp only[Act.put,za,zb,zc];refine Zm.r 19 rfl (fun K hK=> ?_);go_simp;try unfold Co.V
    refine(HCbc.out _ HB11.out).mono ?_;rintro e w14 ⟨rfl,hb14⟩;have HB14:Hid (Below w3.heap.size w3 w14):=btr HB11.out hb14;clear hb14;dsimp only;refine hK.out _ _ ?_ (fun hHeld=> ?_)
    ·exact HB14.out
    clear hK K;try simp only[Act.put,za,zb,zc]
    cases q with
    |false=>
     refine Zm.u 20 (.bool false) rfl ?_ ?_
     ·intro w hSw;clear hSw;go_simp;try with_reducible rfl
     simp only[Act.put,za,zb,zc];refine Zm.u 21 ?_ rfl ?_ ?_;rotate_left
     ·intro w hSw;clear hSw;go_simp;try with_reducible rfl
     simp only[Act.put,za,zb,zc];refine Zm.s 22 rfl ?_;simp only[Act.put,za,zb,zc];refine Zm.s 23 rfl ?_;simp only[Act.put,za,zb,zc];refine Zm.s 24 rfl ?_;simp only[Act.put,za,zb,zc];refine Zm.s 25 rfl ?_;simp only[Act.put,za,zb,zc];refine Zm.u 26 (.bool false) rfl ?_ ?_
     ·intro w hSw;clear hSw;go_simp;try with_reducible rfl
     simp only[Act.put,za,zb,zc];refine Zm.u 27 (.bool false) rfl ?_ ?_
     ·intro w hSw;clear hSw;go_simp;try with_reducible rfl
     simp only[Act.put,za,zb,zc];refine Zm.u 28 ?_ rfl ?_ ?_;rotate_left
     ·intro w hSw;clear hSw;go_simp;try with_reducible rfl
     simp only[Act.put,za,zb,zc];refine Zm.u 29 (Co.V a am al at_ ap ak) rfl (HLa.out _ _ _ _ _ _ _ rfl) ?_;simp only[Act.put,za,zb,zc];refine Zm.u 30 (Co.V b bm bl bt bp bk) rfl (HLb.out _ _ _ _ _ _ _ rfl) ?_;simp only[Act.put,za,zb,zc];refine Zm.r 31 rfl (fun K hK=> ?_);go_simp;try unfold Co.V
     refine(HCs.out _ HB14.out).mono ?_;rintro e w15 ⟨rfl,hb15⟩;have HB15:Hid (Below w3.heap.size w3 w15):=btr HB14.out hb15;clear hb15;dsimp only;refine hK.out _ _ ?_ (fun hHeld=> ?_)
     ·exact HB15.out
     clear hK K;try simp only[Act.put,za,zb,zc]
     refine Zm.u 32 ?_ rfl ?_ ?_;rotate_left
     ·intro w hSw;clear hSw;go_simp;try with_reducible rfl
     simp only[Act.put,za,zb,zc]
     cases s with
     |false=>
      refine Zm.s 33 rfl ?_;simp only[Act.put,za,zb,zc];refine Zm.s 34 rfl ?_;simp only[Act.put,za,zb,zc];refine Zm.s 35 rfl ?_;simp only[Act.put,za,zb,zc];refine Zm.u 36 (.bool false) rfl ?_ ?_
      ·intro w hSw;clear hSw;go_simp;try with_reducible rfl
      simp only[Act.put,za,zb,zc];refine Zm.u 37 ?_ rfl ?_ ?_;rotate_left
      ·intro w hSw;clear hSw;go_simp;try with_reducible rfl
      simp only[Act.put,za,zb,zc];refine Zm.s 38 rfl ?_;simp only[Act.put,za,zb,zc];refine Zm.s 39 rfl ?_;simp only[Act.put,za,zb,zc];refine Zm.u 40 (.bool false) rfl ?_ ?_
      ·intro w hSw;clear hSw;go_simp;try with_reducible rfl
      simp only[Act.put,za,zb,zc];refine Zm.u 41 (.bool false) rfl ?_ ?_
      ·intro w hSw;clear hSw;go_simp;try with_reducible rfl
      simp only[Act.put,za,zb,zc];refine wpAnyH_done (by kernel_rfl) ?_ _;refine NoPanic.normal ?_;go_wp2;go_meet;exact⟨rfl,HB15⟩
     |true=>
      refine Zm.u 33 (Co.V a am al at_ ap ak) rfl (HLa.out _ _ _ _ _ _ _ rfl) ?_;simp only[Act.put,za,zb,zc];refine Zm.r 34 rfl (fun K hK=> ?_);go_simp;try unfold Co.V
      refine(HCk.out _ HB15.out).mono ?_;rintro e w16 ⟨rfl,hb16⟩;have HB16:Hid (Below w3.heap.size w3 w16):=btr HB15.out hb16;clear hb16;dsimp only;refine hK.out _ _ ?_ (fun hHeld=> ?_)
      ·exact HB16.out
      clear hK K;try simp only[Act.put,za,zb,zc]
      refine Zm.u 35 (.bool true) rfl ?_ ?_
      ·intro w hSw;clear hSw;go_simp;try with_reducible rfl
      simp only[Act.put,za,zb,zc];refine Zm.u 36 (.bool true) rfl ?_ ?_
      ·intro w hSw;clear hSw;go_simp;try with_reducible rfl
      simp only[Act.put,za,zb,zc];refine Zm.u 37 ?_ rfl ?_ ?_;rotate_left
      ·intro w hSw;clear hSw;go_simp;try with_reducible rfl
      simp only[Act.put,za,zb,zc];refine Zm.u 38 ?_ rfl ?_ ?_;rotate_left
      ·intro w hSw;clear hSw;go_simp;try with_reducible rfl
      simp only[Act.put,za,zb,zc];refine Zm.u 39 (.bool false) rfl ?_ ?_
      ·intro w hSw;clear hSw;go_simp;try with_reducible rfl
      simp only[Act.put,za,zb,zc];refine Zm.u 40 (.bool false) rfl ?_ ?_
      ·intro w hSw;clear hSw;go_simp;try with_reducible rfl
      simp only[Act.put,za,zb,zc];refine Zm.u 41 (.bool false) rfl ?_ ?_
      ·intro w hSw;clear hSw;go_simp;try with_reducible rfl
      simp only[Act.put,za,zb,zc];refine wpAnyH_done (by kernel_rfl) ?_ _;refine NoPanic.normal ?_;go_wp2;go_meet;exact⟨rfl,HB16⟩
    |true=>
     obtain rfl:r=true:=HL.out.1 rfl rfl;refine Zm.u 20 (.bool true) rfl ?_ ?_
     ·intro w hSw;clear hSw;go_simp;try with_reducible rfl
     simp only[Act.put,za,zb,zc];refine Zm.u 21 ?_ rfl ?_ ?_;rotate_left
     ·intro w hSw;clear hSw;go_simp;try with_reducible rfl
     simp only[Act.put,za,zb,zc];refine Zm.u 22 (Co.V a am al at_ ap ak) rfl (HLa.out _ _ _ _ _ _ _ rfl) ?_;simp only[Act.put,za,zb,zc];refine Zm.u 23 (Co.V c cm cl ct cp ck) rfl (HLc.out _ _ _ _ _ _ _ rfl) ?_;simp only[Act.put,za,zb,zc];refine Zm.r 24 rfl (fun K hK=> ?_);go_simp;try unfold Co.V
     refine(HCac.out _ HB14.out).mono ?_;rintro e w17 ⟨rfl,hb17⟩;have HB17:Hid (Below w3.heap.size w3 w17):=btr HB14.out hb17;clear hb17;dsimp only;refine hK.out _ _ ?_ (fun hHeld=> ?_)
     ·exact HB17.out
     clear hK K;try simp only[Act.put,za,zb,zc]
     refine Zm.u 25 (.bool false) rfl ?_ ?_
     ·intro w hSw;clear hSw;go_simp;try with_reducible rfl
     simp only[Act.put,za,zb,zc];refine Zm.u 26 (.bool false) rfl ?_ ?_
     ·intro w hSw;clear hSw;go_simp;try with_reducible rfl
     simp only[Act.put,za,zb,zc];refine Zm.u 27 (.bool false) rfl ?_ ?_
     ·intro w hSw;clear hSw;go_simp;try with_reducible rfl
     simp only[Act.put,za,zb,zc];refine Zm.u 28 ?_ rfl ?_ ?_;rotate_left
     ·intro w hSw;clear hSw;go_simp;try with_reducible rfl
     simp only[Act.put,za,zb,zc];refine Zm.u 29 (Co.V a am al at_ ap ak) rfl (HLa.out _ _ _ _ _ _ _ rfl) ?_;simp only[Act.put,za,zb,zc];refine Zm.u 30 (Co.V b bm bl bt bp bk) rfl (HLb.out _ _ _ _ _ _ _ rfl) ?_;simp only[Act.put,za,zb,zc];refine Zm.r 31 rfl (fun K hK=> ?_);go_simp;try unfold Co.V
     refine(HCs.out _ HB17.out).mono ?_;rintro e w18 ⟨rfl,hb18⟩;have HB18:Hid (Below w3.heap.size w3 w18):=btr HB17.out hb18;clear hb18;dsimp only;refine hK.out _ _ ?_ (fun hHeld=> ?_)
     ·exact HB18.out
     clear hK K;try simp only[Act.put,za,zb,zc]
     refine Zm.u 32 ?_ rfl ?_ ?_;rotate_left
     ·intro w hSw;clear hSw;go_simp;try with_reducible rfl
     simp only[Act.put,za,zb,zc]
     cases s with
     |false=>
      refine Zm.s 33 rfl ?_;simp only[Act.put,za,zb,zc];refine Zm.s 34 rfl ?_;simp only[Act.put,za,zb,zc];refine Zm.s 35 rfl ?_;simp only[Act.put,za,zb,zc];refine Zm.u 36 (.bool false) rfl ?_ ?_
      ·intro w hSw;clear hSw;go_simp;try with_reducible rfl
      simp only[Act.put,za,zb,zc];refine Zm.u 37 ?_ rfl ?_ ?_;rotate_left
      ·intro w hSw;clear hSw;go_simp;try with_reducible rfl
      simp only[Act.put,za,zb,zc];refine Zm.s 38 rfl ?_;simp only[Act.put,za,zb,zc];refine Zm.s 39 rfl ?_;simp only[Act.put,za,zb,zc];refine Zm.u 40 (.bool false) rfl ?_ ?_
      ·intro w hSw;clear hSw;go_simp;try with_reducible rfl
      simp only[Act.put,za,zb,zc];refine Zm.u 41 (.bool false) rfl ?_ ?_
      ·intro w hSw;clear hSw;go_simp;try with_reducible rfl
      simp only[Act.put,za,zb,zc];refine wpAnyH_done (by kernel_rfl) ?_ _;refine NoPanic.normal ?_;go_wp2;go_meet;exact⟨rfl,HB18⟩
     |true=>
      refine Zm.u 33 (Co.V a am al at_ ap ak) rfl (HLa.out _ _ _ _ _ _ _ rfl) ?_;simp only[Act.put,za,zb,zc];refine Zm.r 34 rfl (fun K hK=> ?_);go_simp;try unfold Co.V
      refine(HCk.out _ HB18.out).mono ?_;rintro e w19 ⟨rfl,hb19⟩;have HB19:Hid (Below w3.heap.size w3 w19):=btr HB18.out hb19;clear hb19;dsimp only;refine hK.out _ _ ?_ (fun hHeld=> ?_)
      ·exact HB19.out
      clear hK K;try simp only[Act.put,za,zb,zc]
      refine Zm.u 35 (.bool true) rfl ?_ ?_
      ·intro w hSw;clear hSw;go_simp;try with_reducible rfl
      simp only[Act.put,za,zb,zc];refine Zm.u 36 (.bool true) rfl ?_ ?_
      ·intro w hSw;clear hSw;go_simp;try with_reducible rfl
      simp only[Act.put,za,zb,zc];refine Zm.u 37 ?_ rfl ?_ ?_;rotate_left
      ·intro w hSw;clear hSw;go_simp;try with_reducible rfl
      simp only[Act.put,za,zb,zc];refine Zm.u 38 ?_ rfl ?_ ?_;rotate_left
      ·intro w hSw;clear hSw;go_simp;try with_reducible rfl
      simp only[Act.put,za,zb,zc];refine Zm.u 39 (.bool false) rfl ?_ ?_
      ·intro w hSw;clear hSw;go_simp;try with_reducible rfl
      simp only[Act.put,za,zb,zc];refine Zm.u 40 (.bool false) rfl ?_ ?_
      ·intro w hSw;clear hSw;go_simp;try with_reducible rfl
      simp only[Act.put,za,zb,zc];refine Zm.u 41 (.bool false) rfl ?_ ?_
      ·intro w hSw;clear hSw;go_simp;try with_reducible rfl
      simp only[Act.put,za,zb,zc];refine wpAnyH_done (by kernel_rfl) ?_ _;refine NoPanic.normal ?_;go_wp2;go_meet;exact⟨rfl,HB19⟩
  case rest=>
   obtain⟨rfl,HBc⟩:=hcut;obtain⟨w8,rfl⟩:∃w8,w8=wc:=⟨_,rfl⟩
   go_upto_region 6 with fail
   cases x with
   |false=>
    clear hx;refine wp_region_quiet_below (by kernel_rfl) (by kernel_rfl) ?_;repeat(go_big_quiet_step (fail))
    refine wpQuiet_nil ?_;intro _ hw1;obtain⟨⟨dq,osq⟩,hw2⟩:=hw1;subst hw2;have HBQ:Hid (Below w3.heap.size w3 (grow (redrawn w8 dq) osq)):=HBc.out.trans ((below_regrown w8 dq osq).mono HBc.out.size);go_wp2;go_ret;exact⟨rfl,(btr HB3.out HBQ.out)⟩
   |true=>
    have HS0:Below w3.heap.size w3 w8.drew:=HBc.out.drew;have HB8:=zh HS0;obtain⟨NA,hNA⟩:∃NA:Nat,(Co.all a).length=NA:=⟨_,rfl⟩
    have hNB:(Co.all b).length=NA:=by rw[←hNA];exact(Co.alike_all hx).symm
    obtain⟨SA,hSA⟩:∃SA:Nat,(Co.setV a).length=SA:=⟨_,rfl⟩
    have hSB:(Co.setV b).length=SA:=by rw[←hSA];exact(Co.alike_sets hx).symm
    obtain⟨GL,hGL⟩:∃GL:List ByteArray,(Co.globV a).map (fun x=>(⟨x.toArray⟩:ByteArray))=GL:=⟨_,rfl⟩
    have hGB:(Co.globV b).map (fun x=>(⟨x.toArray⟩:ByteArray))=GL:=by rw[←hGL,Co.alike_globs hx]
    have hgl:GL.length≤8192:=by rw[←hGL,List.length_map];exact Co.globV_len a
    have hAlla:=fun W=>coAll_any a am al at_ ap ak W
    have hAllb:=fun W=>coAll_any b bm bl bt bp bk W
    have HTa:Hid (∀W db,Below w3.heap.size w3 W→Co.Bc W db a am al at_ ap ak→Calls Tryz.prog 16 #[.func (.func 43) #[] #[.pointer (some ⟨db,0,none⟩)],.int .i64 1048576] W fun e w'=>∃v c,e= .returned (.slice v NA c)∧Below W.heap.size W w'):=fun W db hW hbc=>by
     obtain⟨-,-,-,hra,-,-⟩:=HQ.out W hW;refine(coTold_any a _ _ _ _ _ 1048576 (by decide) db W HW.out.1 hra hbc).mono ?_;rintro e w' ⟨v,rfl,⟨v1,c1,rfl,-,-⟩,hb⟩;have hl:((Co.all a).take 1048576).length=NA:=by
      have:=Co.all_len a;rw[List.length_take];omega
     rw[hl];exact⟨v1,c1,rfl,hb⟩
    have HTb:Hid (∀W db,Below w3.heap.size w3 W→Co.Bc W db b bm bl bt bp bk→Calls Tryz.prog 16 #[.func (.func 43) #[] #[.pointer (some ⟨db,0,none⟩)],.int .i64 1048576] W fun e w'=>∃v c,e= .returned (.slice v NA c)∧Below W.heap.size W w'):=fun W db hW hbc=>by
     obtain⟨-,-,-,-,hrb,-⟩:=HQ.out W hW;refine(coTold_any b _ _ _ _ _ 1048576 (by decide) db W HW.out.2.1 hrb hbc).mono ?_;rintro e w' ⟨v,rfl,⟨v1,c1,rfl,-,-⟩,hb⟩;have hl:((Co.all b).take 1048576).length=NA:=by
      have:=Co.all_len b;rw[List.length_take];omega
     rw[hl];exact⟨v1,c1,rfl,hb⟩
    have HSa:Hid (∀W,Below w3.heap.size w3 W→Calls Tryz.prog 18 #[Co.V a am al at_ ap ak] W fun e w'=>∃v c,e= .returned (.slice v SA c)∧Below W.heap.size W w'):=fun W hW=>by
     obtain⟨-,-,-,hra,-,-⟩:=HQ.out W hW;refine(setC_any a _ _ _ _ _ W HW.out.1 hra).mono ?_;rintro e w' ⟨v,rfl,⟨v1,c1,rfl,-,-⟩,hb⟩;rw[hSA];exact⟨v1,c1,rfl,hb⟩
    have HSb:Hid (∀W,Below w3.heap.size w3 W→Calls Tryz.prog 18 #[Co.V b bm bl bt bp bk] W fun e w'=>∃v c,e= .returned (.slice v SA c)∧Below W.heap.size W w'):=fun W hW=>by
     obtain⟨-,-,-,-,hrb,-⟩:=HQ.out W hW;refine(setC_any b _ _ _ _ _ W HW.out.2.1 hrb).mono ?_;rintro e w' ⟨v,rfl,⟨v1,c1,rfl,-,-⟩,hb⟩;rw[hSB];exact⟨v1,c1,rfl,hb⟩
    have HGa:Hid (∀W,Below w3.heap.size w3 W→Calls Tryz.prog 20 #[Co.V a am al at_ ap ak] W fun e w'=>∃v,e= .returned v∧Cd.NameRow (fun k=>W.heap.size≤k) w' v GL∧Below W.heap.size W w'):=fun W hW=>by
     obtain⟨-,-,-,hra,-,-⟩:=HQ.out W hW;have h:=globC_any a _ _ _ _ _ W HW.out.1 hra;rw[hGL]at h;exact h
    have HGb:Hid (∀W,Below w3.heap.size w3 W→Calls Tryz.prog 20 #[Co.V b bm bl bt bp bk] W fun e w'=>∃v,e= .returned v∧Cd.NameRow (fun k=>W.heap.size≤k) w' v GL∧Below W.heap.size W w'):=fun W hW=>by
     obtain⟨-,-,-,-,hrb,-⟩:=HQ.out W hW;have h:=globC_any b _ _ _ _ _ W HW.out.2.1 hrb;rw[hGB]at h;exact h
    clear hNA hNB hSA hSB hGL hGB hx;refine wp_region_noPanic ?_;refine wp_region_held_drew (S:=fun W=>Below w3.heap.size w3 W) (by kernel_rfl) HS0 (fun hHeld=> ?_);refine Zm.u 0 ?_ rfl ?_ ?_;rotate_left
    ·intro w hSw;clear hSw;go_simp;try with_reducible rfl
    simp only[Act.put,za,zb,zc];refine Zm.u 1 (.bool false) rfl ?_ ?_
    ·intro w hSw;clear hSw;go_simp;try with_reducible rfl
    simp only[Act.put,za,zb,zc];refine Zm.u 2 ?_ rfl ?_ ?_;rotate_left
    ·intro w hSw;clear hSw;go_simp;try with_reducible rfl
    simp only[Act.put,za,zb,zc];refine Zm.u 3 (Co.V a am al at_ ap ak) rfl (HLa.out _ _ _ _ _ _ _ rfl) ?_;simp only[Act.put,za,zb,zc];refine Zm.u 7 (Co.V b bm bl bt bp bk) rfl (HLb.out _ _ _ _ _ _ _ rfl) ?_;simp only[Act.put,za,zb,zc];refine Zm.r 4 rfl (fun K hK=> ?_);go_simp;try unfold Co.V
    refine(hAlla _).mono ?_;rintro e w9 ⟨rfl,hb9,hbca,-⟩;have HBCa:=zh hbca;clear hbca;have HB9:Hid (Below w3.heap.size w3 w9):=btr HB8.out hb9;clear hb9;dsimp only;refine hK.out _ _ ?_ (fun hHeld=> ?_)
    ·exact HB9.out
    clear hK K;try simp only[Act.put,za,zb,zc]
    refine Zm.r 5 rfl (fun K hK=> ?_);go_simp;refine(HTa.out _ _ HB9.out HBCa.out).mono ?_;rintro e w10 ⟨va,ca,rfl,hb10⟩;have HB10:Hid (Below w3.heap.size w3 w10):=btr HB9.out hb10;clear hb10;dsimp only;refine hK.out _ _ ?_ (fun hHeld=> ?_)
    ·exact HB10.out
    clear hK K;try simp only[Act.put,za,zb,zc]
    refine Zm.u 6 ?_ rfl ?_ ?_;rotate_left
    ·intro w hSw;clear hSw;go_simp;try with_reducible rfl
    simp only[Act.put,za,zb,zc];refine Zm.r 8 rfl (fun K hK=> ?_);go_simp;try unfold Co.V
    refine(hAllb _).mono ?_;rintro e w11 ⟨rfl,hb11,hbcb,-⟩;have HBCb:=zh hbcb;clear hbcb;have HB11:Hid (Below w3.heap.size w3 w11):=btr HB10.out hb11;clear hb11;dsimp only;refine hK.out _ _ ?_ (fun hHeld=> ?_)
    ·exact HB11.out
    clear hK K;try simp only[Act.put,za,zb,zc]
    refine Zm.r 9 rfl (fun K hK=> ?_);go_simp;refine(HTb.out _ _ HB11.out HBCb.out).mono ?_;rintro e w12 ⟨vb,cb,rfl,hb12⟩;have HB12:Hid (Below w3.heap.size w3 w12):=btr HB11.out hb12;clear hb12;dsimp only;refine hK.out _ _ ?_ (fun hHeld=> ?_)
    ·exact HB12.out
    clear hK K;try simp only[Act.put,za,zb,zc]
    refine Zm.u 10 ?_ rfl ?_ ?_;rotate_left
    ·intro w hSw;clear hSw;go_simp;try with_reducible rfl
    simp only[Act.put,za,zb,zc];refine Zm.u 11 (.bool true) rfl ?_ ?_
    ·intro w hSw;clear hSw;go_simp;try with_reducible rfl
    simp only[Act.put,za,zb,zc];refine Zm.u 12 ?_ rfl ?_ ?_;rotate_left
    ·intro w hSw;clear hSw;go_simp;try with_reducible rfl
    simp only[Act.put,za,zb,zc];refine Zm.u 13 (Co.V a am al at_ ap ak) rfl (HLa.out _ _ _ _ _ _ _ rfl) ?_;simp only[Act.put,za,zb,zc];refine Zm.u 16 (Co.V b bm bl bt bp bk) rfl (HLb.out _ _ _ _ _ _ _ rfl) ?_;simp only[Act.put,za,zb,zc];refine Zm.r 14 rfl (fun K hK=> ?_);go_simp;refine(HSa.out _ HB12.out).mono ?_;rintro e w13 ⟨va2,ca2,rfl,hb13⟩;have HB13:Hid (Below w3.heap.size w3 w13):=btr HB12.out hb13;clear hb13;dsimp only;refine hK.out _ _ ?_ (fun hHeld=> ?_)
    ·exact HB13.out
    clear hK K;try simp only[Act.put,za,zb,zc]
    refine Zm.u 15 ?_ rfl ?_ ?_;rotate_left
    ·intro w hSw;clear hSw;go_simp;try with_reducible rfl
    simp only[Act.put,za,zb,zc];refine Zm.r 17 rfl (fun K hK=> ?_);go_simp;refine(HSb.out _ HB13.out).mono ?_;rintro e w14 ⟨vb2,cb2,rfl,hb14⟩;have HB14:Hid (Below w3.heap.size w3 w14):=btr HB13.out hb14;clear hb14;dsimp only;refine hK.out _ _ ?_ (fun hHeld=> ?_)
    ·exact HB14.out
    clear hK K;try simp only[Act.put,za,zb,zc]
    refine Zm.u 18 ?_ rfl ?_ ?_;rotate_left
    ·intro w hSw;clear hSw;go_simp;try with_reducible rfl
    simp only[Act.put,za,zb,zc];refine Zm.u 19 (.bool true) rfl ?_ ?_
    ·intro w hSw;clear hSw;go_simp;try with_reducible rfl
    simp only[Act.put,za,zb,zc];refine Zm.u 20 (.bool true) rfl ?_ ?_
    ·intro w hSw;clear hSw;go_simp;try with_reducible rfl
    simp only[Act.put,za,zb,zc];refine Zm.u 21 ?_ rfl ?_ ?_;rotate_left
    ·intro w hSw;clear hSw;go_simp;try with_reducible rfl
    simp only[Act.put,za,zb,zc];refine Zm.u 22 (Co.V a am al at_ ap ak) rfl (HLa.out _ _ _ _ _ _ _ rfl) ?_;simp only[Act.put,za,zb,zc];refine Zm.u 24 (Co.V b bm bl bt bp bk) rfl (HLb.out _ _ _ _ _ _ _ rfl) ?_;simp only[Act.put,za,zb,zc];refine Zm.r 23 rfl (fun K hK=> ?_);go_simp;refine(HGa.out _ HB14.out).mono ?_;rintro e w15 ⟨ga,rfl,hna,hb15⟩;have HNa:=zh hna;clear hna;have HB15:Hid (Below w3.heap.size w3 w15):=btr HB14.out hb15;clear hb15;dsimp only;refine hK.out _ _ ?_ (fun hHeld=> ?_)
    ·exact HB15.out
    clear hK K;try simp only[Act.put,za,zb,zc]
    refine Zm.r 25 rfl (fun K hK=> ?_);go_simp;refine(HGb.out _ HB15.out).mono ?_;rintro e w16 ⟨gb,rfl,hnb,hb16⟩;have HB1516:=zh hb16;have HNb:=zh hnb;clear hnb;have HB16:Hid (Below w3.heap.size w3 w16):=btr HB15.out hb16;clear hb16;dsimp only;refine hK.out _ _ ?_ (fun hHeld=> ?_)
    ·exact HB16.out
    clear hK K;try simp only[Act.put,za,zb,zc]
    refine Zm.r 26 rfl (fun K hK=> ?_);go_simp;refine(sEqual_any _ _ GL GL _ (Cd.NameRow.below HNa.out HB1516.out) (HNb.out) (by omega) (by omega)).mono ?_;rintro e w17 ⟨rfl,hb17⟩;rw[decide_eq_true rfl];have HB17:Hid (Below w3.heap.size w3 w17):=btr HB16.out hb17;clear hb17;dsimp only;refine hK.out _ _ ?_ (fun hHeld=> ?_)
    ·exact HB17.out
    clear hK K;try simp only[Act.put,za,zb,zc]
    refine Zm.u 27 (.bool true) rfl ?_ ?_
    ·intro w hSw;clear hSw;go_simp;try with_reducible rfl
    simp only[Act.put,za,zb,zc];refine Zm.u 28 (.bool true) rfl ?_ ?_
    ·intro w hSw;clear hSw;go_simp;try with_reducible rfl
    simp only[Act.put,za,zb,zc];refine Zm.u 29 ?_ rfl ?_ ?_;rotate_left
    ·intro w hSw;clear hSw;go_simp;try with_reducible rfl
    simp only[Act.put,za,zb,zc];refine wpAnyH_done (by kernel_rfl) ?_ _;refine NoPanic.normal ?_;go_wp2;go_ret;exact⟨rfl,(btr HB3.out HB17.out)⟩
theorem CoreAlike_law{F1 F2 F3:Nat→Prop}(a:Co.C)(am al at_ ap ak:Value)(b:Co.C)(bm bl bt bp bk:Value)(c:Co.C)(cm cl ct cp ck:Value)(w:World)(hWa:Co.Wf a)(hRa:Co.Rep F1 w a am al at_ ap ak)(hWb:Co.Wf b)(hRb:Co.Rep F2 w b bm bl bt bp bk)(hWc:Co.Wf c)(hRc:Co.Rep F3 w c cm cl ct cp ck):
  Calls Tryz.prog 4 #[Co.V a am al at_ ap ak,Co.V b bm bl bt bp bk,Co.V c cm cl ct cp ck] w fun e w'=>e= .returned (.bool true)∧Below w.heap.size w w':=
 CoreAlike_walk (F:=fun _=>True) a b c am al at_ ap ak bm bl bt bp bk cm cl ct cp ck w hWa hWb hWc (Co.Rep.mono (fun _ _ _=>trivial) a hRa) (Co.Rep.mono (fun _ _ _=>trivial) b hRb) (Co.Rep.mono (fun _ _ _=>trivial) c hRc)
end Go.Proofs.YtfjmlfbohenmfaaGreat
