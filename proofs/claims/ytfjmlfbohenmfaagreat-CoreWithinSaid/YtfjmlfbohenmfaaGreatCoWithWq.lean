/-
  CoWithWq.
-/
import Derived.Test.YtfjmlfbohenmfaaGreatCoLawPq
import Derived.Test.YtfjmlfbohenmfaaGreatCoAwakeq
import Derived.Test.YtfjmlfbohenmfaaGreatCoreWithinLawZM11
import Derived.Test.YtfjmlfbohenmfaaGreatCoToldq
import Derived.Test.YtfjmlfbohenmfaaGreatCoLessq
import Derived.Test.YtfjmlfbohenmfaaGreatCoSmallq
import Derived.Lib.QuietBelow
import Derived.Deep.CutBlock
import Derived.Test.YtfjmlfbohenmfaaGreatCoreWithinLawZM2
set_option maxRecDepth 100000
set_option maxHeartbeats 32000000
namespace Go.Proofs.YtfjmlfbohenmfaaGreat
open Go.RowKit
attribute [local go_sem] Oper.semAt_some
theorem CoreWithin_walk{F G:Nat→Prop}(c:Co.C)(cm cl ct cp ck vi:Value)(win:List Int)(more:Int)(w:World)(hWc:Co.Wf c)(hRc:Co.Rep F w c cm cl ct cp ck)(hI:Dt.IRow G w vi win)(hwl:win.length≤140737488355328)(hwr:∀x∈win,-9223372036854775808≤x∧x≤9223372036854775807)(hmr: -9223372036854775808≤more∧more≤9223372036854775807):
  Calls Tryz.prog 5 #[Co.V c cm cl ct cp ck,vi,.int .i64 more] w fun e w'=>e= .returned (.bool true)∧Below w.heap.size w w':=by
 have HIV:Hid (Dt.IRow G w vi win):=zh hI;obtain⟨ai,qi,rfl,hqi,-⟩:=hI;obtain⟨w1,hw1⟩:∃w1,w.alloc (.cells #[.int .i64 c.k,.int .i64 c.n,.string c.s,.int .i64 c.d.k,.int .i64 c.d.n,.string c.d.s,cm,cl,ct,cp,ck] 28)=w1:=⟨_,rfl⟩
 obtain⟨hb1,hs1⟩:=new_below hw1;have hq1:Co.Bc w1 w.heap.size c cm cl ct cp ck:=Hp.new hw1;have HQ:Hid (∀W,Below w1.heap.size w1 W→Co.Bc W w.heap.size c cm cl ct cp ck∧Co.Rep (fun k=>k<w1.heap.size) W c cm cl ct cp ck∧Dt.IRow (fun k=>k<w1.heap.size) W (.slice ai win.length qi) win):=fun W hW=>
  ⟨Hp.below hq1 hW,((Co.Rep.mono (fun _ _ h=>by omega) c hRc).below hb1).below hW,((Co.irow_mono (fun _ _ h=>by omega) HIV.out).below hb1).below hW⟩
 have HW:=zh hWc;have HWR:=zh hwr;have HMR:=zh hmr;have HB1:=zh hb1;have haw:=coAwake_any w1;clear hb1 hs1 hq1 hRc hWc HIV hqi hwr hmr;unfold Co.V;go_enter Tryz.func5,Tryz.ntmps5;go_wp2_with fail
 try rw[hw1]
 refine haw.mono ?_;rintro e w4 ⟨rfl,hb4⟩;have HB4:=zh hb4;obtain⟨hqc,hrc,hic⟩:=HQ.out w4 hb4;have HQc:=zh hqc;obtain⟨xc0,xc1,xc2,xc3,xc4,xc5,xc6,xc7,xc8,xc9,xc10⟩:=HQc.out.c11;clear hqc HQc;obtain⟨w5,hw5⟩:∃w5,w4.alloc (.cells #[.int .i64 c.k,.int .i64 c.n,.string c.s,.int .i64 c.d.k,.int .i64 c.d.n,.string c.d.s,cm,cl,ct,cp,ck] 28)=w5:=⟨_,rfl⟩
 obtain⟨hb5,hs5⟩:=new_below hw5;have hp5:=Hp.new hw5;have hz4:=hb4.size;have hfew:=coFew_any (F:=fun k=>k<w5.heap.size) [c] (.slice (some ⟨w4.heap.size,0,none⟩) 1 1) w5 (by rw[Co.Wfs,Co.Wfs];exact⟨HW.out,trivial⟩) (fun _ h=>h) (by simp) ⟨some ⟨w4.heap.size,0,none⟩,1,rfl,by simp,fun _=>⟨w4.heap.size,0,rfl,by omega,by omega,by
  rw[Co.Reps,Co.Reps];exact⟨⟨cm,cl,ct,cp,ck,Co.El.ofHp hp5 rfl rfl rfl rfl rfl rfl rfl rfl rfl rfl rfl,Co.Rep.mono (fun _ _ h=>h) c (hrc.below hb5)⟩,trivial⟩⟩⟩
 have HB5:Hid (Below w1.heap.size w1 w5):=btr hb4 hb5;clear haw hw1 hb4 hrc hic hb5 hs5 hp5 hz4;go_wp2_with fail
 try rw[hw5]
 refine hfew.mono ?_;rintro e w6 ⟨fb,rfl,hb6⟩;have HB6:Hid (Below w1.heap.size w1 w6):=btr HB5.out hb6;clear xc0 xc1 xc2 xc3 xc4 xc5 xc6 xc7 xc8 xc9 xc10;clear hfew hw5 hb6 HB5 HB4
 cases fb with
 |false=>
  have haw:=coAwake_any w6;go_wp2_with fail
  refine haw.mono ?_;rintro e w7 ⟨rfl,hb7⟩;have HB7:Hid (Below w1.heap.size w1 w7):=btr HB6.out hb7;clear haw hb7;go_wp2;go_ret;exact⟨rfl,(btr HB1.out HB7.out)⟩
 |true=>
  by_cases hgt:(100:Int)<(win.length:Int)
  ·have haw:=coAwake_any w6;go_wp2_with fail
   refine haw.mono ?_;rintro e w7 ⟨rfl,hb7⟩;have HB7:Hid (Below w1.heap.size w1 w7):=btr HB6.out hb7;clear haw hb7;go_wp2;go_ret;exact⟨rfl,(btr HB1.out HB7.out)⟩
  have hle:(win.length:Int)≤100:=by omega
  clear hgt hwl;go_upto_region 3 with fail
  go_cut [31]from 23 to 31 (fun v wx=>v= .bool false∧Hid (Below w1.heap.size w1 wx))
  case first=>
   obtain⟨hqc,hrc,hic⟩:=HQ.out w6 HB6.out;have HQc:=zh hqc;obtain⟨xc0,xc1,xc2,xc3,xc4,xc5,xc6,xc7,xc8,xc9,xc10⟩:=HQc.out.c11;clear hqc HQc;have hck:=checkC_any (F':=fun _=>False) c _ _ _ _ _ (.slice none 0 0) [] w6 HW.out hrc ⟨none,0,rfl,by decide,fun h=>absurd rfl h⟩ (by decide) (by simp);unfold Co.V at hck;obtain⟨E,hE⟩:∃E,Co.check c []=E:=⟨_,rfl⟩
   rw[hE]at hck;have HE:=zh hE;clear hrc hic hE;go_wp2_with fail
   refine hck.mono ?_;rintro e w7 ⟨rfl,hb7⟩;have HB7:Hid (Below w1.heap.size w1 w7):=btr HB6.out hb7;clear hck hb7;clear xc0 xc1 xc2 xc3 xc4 xc5 xc6 xc7 xc8 xc9 xc10;obtain⟨hqc,hrc,hic⟩:=HQ.out w7 HB7.out;have HQc:=zh hqc;obtain⟨xc0,xc1,xc2,xc3,xc4,xc5,xc6,xc7,xc8,xc9,xc10⟩:=HQc.out.c11;clear hqc HQc;by_cases h0:E=0
   ·subst h0;have hfr:=freeC_any c _ _ _ _ _ w7 HW.out hrc;have hnil:Co.freeV c=[]:=by
     obtain⟨h1,h2,h3⟩:=Co.check_closed HE.out;have h4:=(Co.outE_ok c).2 h3;unfold Co.freeV Co.outL;rw[if_pos h4,if_neg (by rw[h1];simp)];exact h2
    rw[hnil]at hfr;unfold Co.V at hfr;clear hnil hrc hic;go_wp2_with fail
    refine hfr.mono ?_;rintro e w8 ⟨v,rfl,⟨v1,c1,rfl,-,-⟩,hb8⟩;have HB8:Hid (Below w1.heap.size w1 w8):=btr HB7.out hb8;clear hfr hb8;clear xc0 xc1 xc2 xc3 xc4 xc5 xc6 xc7 xc8 xc9 xc10;go_wp2;go_meet;exact⟨rfl,HB8⟩
   ·have hEb:(E==0)=false:=by simpa using h0
    clear hrc hic;go_wp2;go_meet;exact⟨rfl,HB7⟩
  case rest=>
   obtain⟨rfl,HB7⟩:=hcut;obtain⟨w7,rfl⟩:∃w7,w7=wc:=⟨_,rfl⟩
   clear HB6;obtain⟨hqc,hrc,hic⟩:=HQ.out w7 HB7.out;have HQc:=zh hqc;obtain⟨xc0,xc1,xc2,xc3,xc4,xc5,xc6,xc7,xc8,xc9,xc10⟩:=HQc.out.c11;clear hqc HQc;have hck:=checkC_any c _ _ _ _ _ _ win w7 HW.out hrc hic (by omega) HWR.out;unfold Co.V at hck;obtain⟨E,hE⟩:∃E,Co.check c win=E:=⟨_,rfl⟩
   rw[hE]at hck;have HE:=zh hE;clear hrc hic hE;go_wp2_with fail
   refine hck.mono ?_;rintro e w8 ⟨rfl,hb8⟩;have HB8:Hid (Below w1.heap.size w1 w8):=btr HB7.out hb8;clear hck hb8 HB7;clear xc0 xc1 xc2 xc3 xc4 xc5 xc6 xc7 xc8 xc9 xc10;by_cases h0:E=0
   case neg=>
    have hEb:(E==0)=false:=by simpa using h0
    clear HE;go_wp2;go_ret;exact⟨rfl,(btr HB1.out HB8.out)⟩
   subst h0;obtain⟨hqc,hrc,hic⟩:=HQ.out w8 HB8.out;have HQc:=zh hqc;obtain⟨xc0,xc1,xc2,xc3,xc4,xc5,xc6,xc7,xc8,xc9,xc10⟩:=HQc.out.c11;clear hqc HQc;have hall:=coAll_any c cm cl ct cp ck w8;unfold Co.V at hall;clear hrc hic;go_wp2_with fail
   refine hall.mono ?_;rintro e w9 ⟨rfl,hb9,hbc9,-⟩;have HB9:Hid (Below w1.heap.size w1 w9):=btr HB8.out hb9;clear xc0 xc1 xc2 xc3 xc4 xc5 xc6 xc7 xc8 xc9 xc10;have hto:=coTold_any c _ _ _ _ _ 1048576 (by decide) w8.heap.size w9 HW.out (HQ.out w9 HB9.out).2.1 hbc9;obtain⟨PS,hPS⟩:∃PS,(Co.all c).take 1048576=PS:=⟨_,rfl⟩
   rw[hPS]at hto;have HPA:Hid (PS=Co.parts c):=by
    have h1:=(Co.all_within HW.out HE.out).1;have h2:=Co.all_len c;show PS=Co.parts c;rw[←hPS,List.take_of_length_le (by omega),h1]
   have HPL:Hid (PS.length≤8192):=by
    have h2:=Co.all_len c;show PS.length≤8192;rw[←hPS,List.length_take];omega
   clear hall hb9 hbc9 hPS;go_wp2_with fail
   refine hto.mono ?_;rintro e wA ⟨v,rfl,hrow,hbA⟩;obtain⟨at_,qt,rfl,hqt,hpt⟩:=hrow;have HRW:Hid (Co.Row (fun k=>k<wA.heap.size) wA (.slice at_ PS.length qt) PS):=⟨at_,qt,rfl,hqt,fun hn=>by
    obtain⟨b,o,e1,e2,e3,e4⟩:=hpt hn;exact⟨b,o,e1,e3,e3,Co.Reps.mono (fun b hb hl=>hl) PS e4⟩⟩
   have HBA:Hid (Below w1.heap.size w1 wA):=btr HB9.out hbA;have HRWA:Hid (∀W,Below wA.heap.size wA W→Co.Row (fun k=>k<wA.heap.size) W (.slice at_ PS.length qt) PS):=fun W hW=>HRW.out.below hW
   have HBIN:Hid (Co.binds more (PS.take 0)=false):=rfl;have HLP:Hid (Below wA.heap.size wA wA):=Below.refl _ _;clear hto hbA hqt hpt HRW HB8 HB9;obtain⟨j0,hj,hj0,hj1,hj2⟩:=info_parts Dt.infoI;have HJ:=zh hj;have HJ0:=zh hj0;have HJ1:=zh hj1;have HJ2:=zh hj2;have hm1:win.length+1≤maxLen:=by unfold maxLen;omega
   have hm2:(win.length+1)*8≤140737488355328:=by omega
   clear hj hj0 hj1 hj2;go_wp2
   go_loopw [40] (fun v wr=>∃j:Nat,v= .int .i64 j∧j≤PS.length∧Hid (Co.binds more (PS.take j)=false)∧Hid (Below wA.heap.size wA wr)) (fun v _=>PS.length - (intOf v).toNat)
   case atStart=>exact⟨0,rfl,by omega,HBIN,HLP⟩
   case round=>
    clear HBIN HLP;obtain⟨j,rfl,hj,HBIN,HLP⟩:=hrel;have HBR:Hid (Below w1.heap.size w1 wr):=btr HBA.out HLP.out;have hCLA:∀W,Below w1.heap.size w1 W→Calls Tryz.prog 23 #[.slice ai win.length qi] W fun e w'=>∃v',e= .returned v'∧w'.ownsRow W.heap.size 3 1 v' win.length (win.map (Value.int .i64))∧Below W.heap.size W w':=fun W hW=>cloneInts3_any _ win W (HQ.out W hW).2.2 (by omega)
    by_cases hlt:j<PS.length
    case neg=>
     obtain rfl:j=PS.length:=by omega
     have HCK:Hid (∀(G:Nat→Prop) iv W,Below w1.heap.size w1 W→Dt.IRow G W iv (win++[more])→Calls Tryz.prog 10 #[Co.V c cm cl ct cp ck,iv] W fun e w'=>e= .returned (.int .i64 0)∧Below W.heap.size W w'):=fun G iv W hW hi=>by
      have h:=checkC_any c _ _ _ _ _ iv (win++[more]) W HW.out (HQ.out W hW).2.1 hi (by rw[List.length_append,List.length_singleton];omega) (fun x hx=>by
       rcases List.mem_append.1 hx with hx|hx
       ·exact HWR.out x hx
       ·obtain rfl:=List.mem_singleton.1 hx;exact HMR.out)
      have hb:=HBIN.out;rw[List.take_length,HPA.out]at hb;rw[Co.within_more more HE.out,hb]at h;exact h
     go_upto_region 13 with fail
     obtain⟨wD,hwD⟩:∃wD,wr.drew=wD:=⟨_,rfl⟩
     have HBD:Hid (Below w1.heap.size w1 wD):=by rw[←hwD];exact HBR.out.drew
     have hCL:=hCLA wD HBD.out;refine wp_region_noPanic ?_;refine wp_region_held_drew (S:=fun W=>Below w1.heap.size w1 W) (by kernel_rfl) (by rw[hwD];exact HBD.out) (fun hHeld=> ?_);rw[hwD]at hHeld ⊢;clear hwD;refine Zm.u 0 ?_ rfl ?_ ?_;rotate_left
     ·intro w9 hSw;obtain⟨hqx,-,-⟩:=HQ.out w9 hSw;have HQx:=zh hqx;obtain⟨xx0,xx1,xx2,xx3,xx4,xx5,xx6,xx7,xx8,xx9,xx10⟩:=HQx.out.c11;clear hqx HQx;clear hSw;go_simp;try with_reducible rfl
     simp only[Act.put,za,zb,zc];refine Zm.u 1 ?_ rfl ?_ ?_;rotate_left
     ·intro w9 hSw;clear hSw;go_simp;try with_reducible rfl
     simp only[Act.put,za,zb,zc];refine Zm.u 3 ?_ rfl ?_ ?_;rotate_left
     ·intro w9 hSw;clear hSw;go_simp;try with_reducible rfl
     simp only[Act.put,za,zb,zc];refine Zm.q 2 4 rfl rfl (fun K hK=> ?_) (fun K hK=> ?_)
     ·go_simp;refine hCL.mono ?_;rintro e w10 ⟨v1,rfl,hown,hb10⟩;obtain⟨a1',c1',rfl⟩:=Dt.row_form hown;have HB10:Hid (Below w1.heap.size w1 w10):=btr HBD.out hb10;obtain⟨wB,hwB⟩:∃wB,w10.alloc (.cells #[.int .i64 more] 3)=wB:=⟨_,rfl⟩
      obtain⟨hb11,hs11⟩:=new_below hwB;have HBB:Hid (Below w1.heap.size w1 wB):=btr HB10.out hb11;have HSRC:Hid (Ap.Src wB (.slice (some ⟨w10.heap.size,0,none⟩) 1 1) 1 [.int .i64 more]):=Co.srcOne hwB;have HOW:Hid (wB.ownsRow wD.heap.size 3 1 (.slice a1' win.length c1') win.length (win.map (Value.int .i64))):=Dt.own_keep (S:=fun _=>False) hown (keep_of_below hb11) (fun _ _ h=>h);have HBS:Hid (wD.heap.size≤wB.heap.size):=Nat.le_trans hb10.size hb11.size;have HBS2:Hid (wD.heap.size≤wD.heap.size):=Nat.le_refl _;clear hown hb10 hb11 hs11;dsimp only;try simp only[Act.put,za,zb,zc]
      refine hK.out _ _ HB10.out (fun hHeld=> ?_);clear hK K;refine Zm.r 4 rfl (fun K hK=> ?_);go_simp;try rw[hwB]
      refine hK.out _ _ HBB.out (fun hHeld=> ?_);clear hK K hwB;refine Zm.r 5 rfl (fun K hK=> ?_);refine Ap.step rfl (.tmp 59) (.tmp 61) 22 (by kernel_rfl) wD.heap.size 3 j0 (.int .i64 0) 1 8 Tryz.underlying22 HJ.out HJ0.out HJ1.out HJ2.out rfl (by decide) (.slice a1' win.length c1') win.length (win.map (Value.int .i64)) (by kernel_rfl) HOW.out (.slice (some ⟨w10.heap.size,0,none⟩) 1 1) 1 [.int .i64 more] (by kernel_rfl) HSRC.out rfl (by simp[Value.oneCell']) hm1 hm2 HBS.out ?_;intro v' w12 hown2 hgrow hat;obtain⟨a2',c2',rfl⟩:=Dt.row_form hown2;have HB12:Hid (Below w1.heap.size w1 w12):=Dt.grown_below HBB.out hgrow (Nat.le_refl _) (fun k hk=>by have h1:=(Dt.own_lt HOW.out k hk).1;have h2:=HBD.out.size;have h3:=HBS2.out;omega);have HIW:Hid (Dt.IRow (fun k=>wD.heap.size≤k) w12 (.slice a2' (win.length+1) c2') (win++[more])):=Dt.IRow.of_own (by
       rw[List.length_append,List.map_append];exact hown2)
      clear hown2 hgrow hat;refine hK.out _ _ HB12.out (fun hHeld=> ?_);clear hK K;refine Zm.r 6 rfl (fun K hK=> ?_);go_simp;refine(HCK.out _ _ w12 HB12.out HIW.out).mono ?_;rintro e w13 ⟨rfl,hb13⟩;have HB13:Hid (Below w1.heap.size w1 w13):=btr HB12.out hb13;clear hb13;dsimp only;refine hK.out _ _ HB13.out (fun hHeld=> ?_);clear hK K;try simp only[Act.put,za,zb,zc]
      refine Zm.u 7 ?_ rfl ?_ ?_;rotate_left
      ·intro w9 hSw;clear hSw;go_simp;try with_reducible rfl
      simp only[Act.put,za,zb,zc];refine Zm.u 8 ?_ rfl ?_ ?_;rotate_left
      ·intro w9 hSw;clear hSw;go_simp;try with_reducible rfl
      simp only[Act.put,za,zb,zc];refine wpAnyH_done (by kernel_rfl) ?_ _;refine NoPanic.normal ?_;go_wp2;go_ret;exact⟨rfl,(btr HB1.out HB13.out)⟩
     ·obtain⟨wB,hwB⟩:∃wB,wD.alloc (.cells #[.int .i64 more] 3)=wB:=⟨_,rfl⟩
      obtain⟨hb11,hs11⟩:=new_below hwB;have HBB:Hid (Below w1.heap.size w1 wB):=btr HBD.out hb11;have HSR0:Hid (Ap.Src wB (.slice (some ⟨wD.heap.size,0,none⟩) 1 1) 1 [.int .i64 more]):=Co.srcOne hwB;have HBS0:Hid (wD.heap.size≤wB.heap.size):=hb11.size;have hCL:=hCLA wB HBB.out;clear hb11 hs11;go_simp;try rw[hwB]
      refine hK.out _ _ HBB.out (fun hHeld=> ?_);clear hK K hwB;refine Zm.r 2 rfl (fun K hK=> ?_);go_simp;refine hCL.mono ?_;rintro e w10 ⟨v1,rfl,hown,hb10⟩;obtain⟨a1',c1',rfl⟩:=Dt.row_form hown;have HB10:Hid (Below w1.heap.size w1 w10):=btr HBB.out hb10;have HSRC:Hid (Ap.Src w10 (.slice (some ⟨wD.heap.size,0,none⟩) 1 1) 1 [.int .i64 more]):=Co.src_below HSR0.out hb10;have HOW:=zh hown;have HBS:Hid (wB.heap.size≤w10.heap.size):=hb10.size;have HBS2:Hid (wD.heap.size≤wB.heap.size):=HBS0.out;clear hown hb10;dsimp only;try simp only[Act.put,za,zb,zc]
      refine hK.out _ _ HB10.out (fun hHeld=> ?_);clear hK K;refine Zm.r 5 rfl (fun K hK=> ?_);refine Ap.step rfl (.tmp 59) (.tmp 61) 22 (by kernel_rfl) wB.heap.size 3 j0 (.int .i64 0) 1 8 Tryz.underlying22 HJ.out HJ0.out HJ1.out HJ2.out rfl (by decide) (.slice a1' win.length c1') win.length (win.map (Value.int .i64)) (by kernel_rfl) HOW.out (.slice (some ⟨wD.heap.size,0,none⟩) 1 1) 1 [.int .i64 more] (by kernel_rfl) HSRC.out rfl (by simp[Value.oneCell']) hm1 hm2 HBS.out ?_;intro v' w12 hown2 hgrow hat;obtain⟨a2',c2',rfl⟩:=Dt.row_form hown2;have HB12:Hid (Below w1.heap.size w1 w12):=Dt.grown_below HB10.out hgrow (Nat.le_refl _) (fun k hk=>by have h1:=(Dt.own_lt HOW.out k hk).1;have h2:=HBD.out.size;have h3:=HBS2.out;omega);have HIW:Hid (Dt.IRow (fun k=>wB.heap.size≤k) w12 (.slice a2' (win.length+1) c2') (win++[more])):=Dt.IRow.of_own (by
       rw[List.length_append,List.map_append];exact hown2)
      clear hown2 hgrow hat;refine hK.out _ _ HB12.out (fun hHeld=> ?_);clear hK K;refine Zm.r 6 rfl (fun K hK=> ?_);go_simp;refine(HCK.out _ _ w12 HB12.out HIW.out).mono ?_;rintro e w13 ⟨rfl,hb13⟩;have HB13:Hid (Below w1.heap.size w1 w13):=btr HB12.out hb13;clear hb13;dsimp only;refine hK.out _ _ HB13.out (fun hHeld=> ?_);clear hK K;try simp only[Act.put,za,zb,zc]
      refine Zm.u 7 ?_ rfl ?_ ?_;rotate_left
      ·intro w9 hSw;clear hSw;go_simp;try with_reducible rfl
      simp only[Act.put,za,zb,zc];refine Zm.u 8 ?_ rfl ?_ ?_;rotate_left
      ·intro w9 hSw;clear hSw;go_simp;try with_reducible rfl
      simp only[Act.put,za,zb,zc];refine wpAnyH_done (by kernel_rfl) ?_ _;refine NoPanic.normal ?_;go_wp2;go_ret;exact⟨rfl,(btr HB1.out HB13.out)⟩
    have hpl8:PS.length≤8192:=HPL.out;have hlti:(j:Int)<(PS.length:Int):=by omega
    obtain⟨_,_,he,_,hrow⟩:=HRWA.out wr HLP.out;injection he with he1 he2 he3
    subst he1;clear he2 he3;obtain⟨ba,oa,rfl,hGa,hbla,hrepsa⟩:=hrow (by intro h0;rw[h0]at hlt;simp at hlt);obtain⟨xm,xl,xt,xp,xk,hela,hrx⟩:=hrepsa.at j hlt;obtain⟨x,hx⟩:∃x,PS[j]=x:=⟨_,rfl⟩
    rw[hx]at hela hrx;have HX:=zh hx;have HPLX:Hid (x.p.length≤140737488355328):=by
     have hm:x∈Co.parts c:=by rw[←HPA.out,←hx];exact List.getElem_mem hlt
     exact Nat.le_trans (Co.check_p32 HE.out x hm) (by decide)
    obtain⟨c1,m1,p1,c2,m2,p2,c3,m3,p3,c4,m4,p4,c5,m5,p5,f1,f2,f3,f4,f5⟩:=Co.Rep.forms5 hrx;subst f1 f2 f3 f4 f5;obtain⟨wd,hwd⟩:∃wd,wr.alloc (.cells #[.int .i64 x.k,.int .i64 x.n,.string x.s,.int .i64 x.d.k,.int .i64 x.d.n,.string x.d.s,.slice c1 m1 p1,.slice c2 m2 p2,.slice c3 m3 p3,.slice c4 m4 p4,.slice c5 m5 p5] 28)=wd:=⟨_,rfl⟩
    obtain⟨hbd,hsd⟩:=new_below hwd;have HD:Hid (Co.Bc wd wr.heap.size x (.slice c1 m1 p1) (.slice c2 m2 p2) (.slice c3 m3 p3) (.slice c4 m4 p4) (.slice c5 m5 p5)):=Hp.new hwd;have hcont:=containsI_any (.slice c4 m4 p4) x.p more wd (((Co.rep_iff _ _ _ _ _ _ _ _).1 hrx).2.1.below hbd) HPLX.out;obtain⟨B,hB⟩:∃B,x.p.contains more=B:=⟨_,rfl⟩
    rw[hB]at hcont;have HBB0:=zh hB;obtain⟨d0,d1,d2,d3,d4,d5,d6,d7,d8,d9,d10⟩:=HD.out.c11;obtain⟨e0,e1,e2,e3,e4,e5,e6,e7,e8,e9,e10⟩:=hela;have HLD:Hid (Below wA.heap.size wA wd):=btr HLP.out hbd;have HBd:Hid (Below w1.heap.size w1 wd):=btr HBA.out HLD.out;clear hrow hrepsa hrx hx hbd hsd hB;go_wp2_with fail
    refine hcont.mono ?_;rintro e w9 ⟨rfl,rfl⟩;clear e0 e1 e2 e3 e4 e5 e6 e7 e8 e9 e10 hcont;clear d0 d1 d2 d3 d4 d5 d6 d7 d8 d9 d10
    cases B with
    |false=>
     have HB2:Hid (Co.binds more (PS.take (j+1))=false):=by
      show Co.binds more (PS.take (j+1))=false;rw[List.take_succ_eq_append_getElem hlt,Co.binds_app,HBIN.out,HX.out];unfold Co.binds;rw[List.any_cons,HBB0.out]
      rfl
     clear HD hwd;go_wp2;go_roundw
     case rel=>exact⟨j+1,by simp,by omega,HB2,HLD⟩
     case measure=>simp[intOf];omega
    |true=>
     have HCK:Hid (∀(G:Nat→Prop) iv W,Below w1.heap.size w1 W→Dt.IRow G W iv (win++[more])→Calls Tryz.prog 10 #[Co.V c cm cl ct cp ck,iv] W fun e w'=>e= .returned (.int .i64 70)∧Below W.heap.size W w'):=fun G iv W hW hi=>by
      have h:=checkC_any c _ _ _ _ _ iv (win++[more]) W HW.out (HQ.out W hW).2.1 hi (by rw[List.length_append,List.length_singleton];omega) (fun x hx=>by
       rcases List.mem_append.1 hx with hx|hx
       ·exact HWR.out x hx
       ·obtain rfl:=List.mem_singleton.1 hx;exact HMR.out)
      have hb:Co.binds more (Co.parts c)=true:=by
       unfold Co.binds;refine List.any_eq_true.2 ⟨x,?_,HBB0.out⟩;rw[←HPA.out,←HX.out];exact List.getElem_mem hlt
      rw[Co.within_more more HE.out,hb]at h;exact h
     clear HD hwd HBR;go_upto_region 11 with fail
     obtain⟨wD,hwD⟩:∃wD,wd.drew=wD:=⟨_,rfl⟩
     have HBD:Hid (Below w1.heap.size w1 wD):=by rw[←hwD];exact HBd.out.drew
     have hCL:=hCLA wD HBD.out;refine wp_region_noPanic ?_;refine wp_region_held_drew (S:=fun W=>Below w1.heap.size w1 W) (by kernel_rfl) (by rw[hwD];exact HBD.out) (fun hHeld=> ?_);rw[hwD]at hHeld ⊢;clear hwD;refine Zm.u 0 ?_ rfl ?_ ?_;rotate_left
     ·intro w9 hSw;obtain⟨hqx,-,-⟩:=HQ.out w9 hSw;have HQx:=zh hqx;obtain⟨xx0,xx1,xx2,xx3,xx4,xx5,xx6,xx7,xx8,xx9,xx10⟩:=HQx.out.c11;clear hqx HQx;clear hSw;go_simp;try with_reducible rfl
     simp only[Act.put,za,zb,zc];refine Zm.u 1 ?_ rfl ?_ ?_;rotate_left
     ·intro w9 hSw;clear hSw;go_simp;try with_reducible rfl
     simp only[Act.put,za,zb,zc];refine Zm.u 3 ?_ rfl ?_ ?_;rotate_left
     ·intro w9 hSw;clear hSw;go_simp;try with_reducible rfl
     simp only[Act.put,za,zb,zc];refine Zm.q 2 4 rfl rfl (fun K hK=> ?_) (fun K hK=> ?_)
     ·go_simp;refine hCL.mono ?_;rintro e w10 ⟨v1,rfl,hown,hb10⟩;obtain⟨a1',c1',rfl⟩:=Dt.row_form hown;have HB10:Hid (Below w1.heap.size w1 w10):=btr HBD.out hb10;obtain⟨wB,hwB⟩:∃wB,w10.alloc (.cells #[.int .i64 more] 3)=wB:=⟨_,rfl⟩
      obtain⟨hb11,hs11⟩:=new_below hwB;have HBB:Hid (Below w1.heap.size w1 wB):=btr HB10.out hb11;have HSRC:Hid (Ap.Src wB (.slice (some ⟨w10.heap.size,0,none⟩) 1 1) 1 [.int .i64 more]):=Co.srcOne hwB;have HOW:Hid (wB.ownsRow wD.heap.size 3 1 (.slice a1' win.length c1') win.length (win.map (Value.int .i64))):=Dt.own_keep (S:=fun _=>False) hown (keep_of_below hb11) (fun _ _ h=>h);have HBS:Hid (wD.heap.size≤wB.heap.size):=Nat.le_trans hb10.size hb11.size;have HBS2:Hid (wD.heap.size≤wD.heap.size):=Nat.le_refl _;clear hown hb10 hb11 hs11;dsimp only;try simp only[Act.put,za,zb,zc]
      refine hK.out _ _ HB10.out (fun hHeld=> ?_);clear hK K;refine Zm.r 4 rfl (fun K hK=> ?_);go_simp;try rw[hwB]
      refine hK.out _ _ HBB.out (fun hHeld=> ?_);clear hK K hwB;refine Zm.r 5 rfl (fun K hK=> ?_);refine Ap.step rfl (.tmp 50) (.tmp 52) 22 (by kernel_rfl) wD.heap.size 3 j0 (.int .i64 0) 1 8 Tryz.underlying22 HJ.out HJ0.out HJ1.out HJ2.out rfl (by decide) (.slice a1' win.length c1') win.length (win.map (Value.int .i64)) (by kernel_rfl) HOW.out (.slice (some ⟨w10.heap.size,0,none⟩) 1 1) 1 [.int .i64 more] (by kernel_rfl) HSRC.out rfl (by simp[Value.oneCell']) hm1 hm2 HBS.out ?_;intro v' w12 hown2 hgrow hat;obtain⟨a2',c2',rfl⟩:=Dt.row_form hown2;have HB12:Hid (Below w1.heap.size w1 w12):=Dt.grown_below HBB.out hgrow (Nat.le_refl _) (fun k hk=>by have h1:=(Dt.own_lt HOW.out k hk).1;have h2:=HBD.out.size;have h3:=HBS2.out;omega);have HIW:Hid (Dt.IRow (fun k=>wD.heap.size≤k) w12 (.slice a2' (win.length+1) c2') (win++[more])):=Dt.IRow.of_own (by
       rw[List.length_append,List.map_append];exact hown2)
      clear hown2 hgrow hat;refine hK.out _ _ HB12.out (fun hHeld=> ?_);clear hK K;refine Zm.r 6 rfl (fun K hK=> ?_);go_simp;refine(HCK.out _ _ w12 HB12.out HIW.out).mono ?_;rintro e w13 ⟨rfl,hb13⟩;have HB13:Hid (Below w1.heap.size w1 w13):=btr HB12.out hb13;clear hb13;dsimp only;refine hK.out _ _ HB13.out (fun hHeld=> ?_);clear hK K;try simp only[Act.put,za,zb,zc]
      refine Zm.u 7 ?_ rfl ?_ ?_;rotate_left
      ·intro w9 hSw;clear hSw;go_simp;try with_reducible rfl
      simp only[Act.put,za,zb,zc];refine Zm.u 8 ?_ rfl ?_ ?_;rotate_left
      ·intro w9 hSw;clear hSw;go_simp;try with_reducible rfl
      simp only[Act.put,za,zb,zc];refine wpAnyH_done (by kernel_rfl) ?_ _;refine NoPanic.normal ?_;go_wp2;go_ret;exact⟨rfl,(btr HB1.out HB13.out)⟩
     ·obtain⟨wB,hwB⟩:∃wB,wD.alloc (.cells #[.int .i64 more] 3)=wB:=⟨_,rfl⟩
      obtain⟨hb11,hs11⟩:=new_below hwB;have HBB:Hid (Below w1.heap.size w1 wB):=btr HBD.out hb11;have HSR0:Hid (Ap.Src wB (.slice (some ⟨wD.heap.size,0,none⟩) 1 1) 1 [.int .i64 more]):=Co.srcOne hwB;have HBS0:Hid (wD.heap.size≤wB.heap.size):=hb11.size;have hCL:=hCLA wB HBB.out;clear hb11 hs11;go_simp;try rw[hwB]
      refine hK.out _ _ HBB.out (fun hHeld=> ?_);clear hK K hwB;refine Zm.r 2 rfl (fun K hK=> ?_);go_simp;refine hCL.mono ?_;rintro e w10 ⟨v1,rfl,hown,hb10⟩;obtain⟨a1',c1',rfl⟩:=Dt.row_form hown;have HB10:Hid (Below w1.heap.size w1 w10):=btr HBB.out hb10;have HSRC:Hid (Ap.Src w10 (.slice (some ⟨wD.heap.size,0,none⟩) 1 1) 1 [.int .i64 more]):=Co.src_below HSR0.out hb10;have HOW:=zh hown;have HBS:Hid (wB.heap.size≤w10.heap.size):=hb10.size;have HBS2:Hid (wD.heap.size≤wB.heap.size):=HBS0.out;clear hown hb10;dsimp only;try simp only[Act.put,za,zb,zc]
      refine hK.out _ _ HB10.out (fun hHeld=> ?_);clear hK K;refine Zm.r 5 rfl (fun K hK=> ?_);refine Ap.step rfl (.tmp 50) (.tmp 52) 22 (by kernel_rfl) wB.heap.size 3 j0 (.int .i64 0) 1 8 Tryz.underlying22 HJ.out HJ0.out HJ1.out HJ2.out rfl (by decide) (.slice a1' win.length c1') win.length (win.map (Value.int .i64)) (by kernel_rfl) HOW.out (.slice (some ⟨wD.heap.size,0,none⟩) 1 1) 1 [.int .i64 more] (by kernel_rfl) HSRC.out rfl (by simp[Value.oneCell']) hm1 hm2 HBS.out ?_;intro v' w12 hown2 hgrow hat;obtain⟨a2',c2',rfl⟩:=Dt.row_form hown2;have HB12:Hid (Below w1.heap.size w1 w12):=Dt.grown_below HB10.out hgrow (Nat.le_refl _) (fun k hk=>by have h1:=(Dt.own_lt HOW.out k hk).1;have h2:=HBD.out.size;have h3:=HBS2.out;omega);have HIW:Hid (Dt.IRow (fun k=>wB.heap.size≤k) w12 (.slice a2' (win.length+1) c2') (win++[more])):=Dt.IRow.of_own (by
       rw[List.length_append,List.map_append];exact hown2)
      clear hown2 hgrow hat;refine hK.out _ _ HB12.out (fun hHeld=> ?_);clear hK K;refine Zm.r 6 rfl (fun K hK=> ?_);go_simp;refine(HCK.out _ _ w12 HB12.out HIW.out).mono ?_;rintro e w13 ⟨rfl,hb13⟩;have HB13:Hid (Below w1.heap.size w1 w13):=btr HB12.out hb13;clear hb13;dsimp only;refine hK.out _ _ HB13.out (fun hHeld=> ?_);clear hK K;try simp only[Act.put,za,zb,zc]
      refine Zm.u 7 ?_ rfl ?_ ?_;rotate_left
      ·intro w9 hSw;clear hSw;go_simp;try with_reducible rfl
      simp only[Act.put,za,zb,zc];refine Zm.u 8 ?_ rfl ?_ ?_;rotate_left
      ·intro w9 hSw;clear hSw;go_simp;try with_reducible rfl
      simp only[Act.put,za,zb,zc];refine wpAnyH_done (by kernel_rfl) ?_ _;refine NoPanic.normal ?_;go_wp2;go_ret;exact⟨rfl,(btr HB1.out HB13.out)⟩
theorem CoreWithin_law{F G:Nat→Prop}(c:Co.C)(cm cl ct cp ck vi:Value)(win:List Int)(more:Int)(w:World)(hWc:Co.Wf c)(hRc:Co.Rep F w c cm cl ct cp ck)(hI:Dt.IRow G w vi win)(hwl:win.length≤140737488355328)(hwr:∀x∈win,-9223372036854775808≤x∧x≤9223372036854775807)(hm:(Lit.int .i64 more).wf=true):
  Calls Tryz.prog 5 #[Co.V c cm cl ct cp ck,vi,.int .i64 more] w fun e w'=>e= .returned (.bool true)∧Below w.heap.size w w':=by
 have h:=hm;simp only[Lit.wf,IntKind.min,IntKind.max,IntKind.signed,IntKind.bits,Bool.and_eq_true]at h;exact CoreWithin_walk c cm cl ct cp ck vi win more w hWc hRc hI hwl hwr (by simp at h;omega)
end Go.Proofs.YtfjmlfbohenmfaaGreat
