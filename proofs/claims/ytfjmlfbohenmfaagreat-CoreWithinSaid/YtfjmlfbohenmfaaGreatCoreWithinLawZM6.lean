/-
  Several texts of this proof in one: LexRefHq, LexRefBq, LexBareq, LexApartPq, LexApartQq, LexApartSq, LexRefIq, CoOneq, CdIndexq, CdEqSq, CoAwakeq, CoLawPq, CoWithinq, CoWithPq, CoLessq, CoWithWq, RdOpenDq, CoOpenq.
-/
import Derived.Test.YtfjmlfbohenmfaaGreatCoreWithinLawZM5
import Derived.Test.YtfjmlfbohenmfaaGreatMinq
import Derived.Test.YtfjmlfbohenmfaaGreatLexRefAq
import Derived.Test.YtfjmlfbohenmfaaGreatCoreWithinLawZM3
import Derived.Test.YtfjmlfbohenmfaaGreatDtAllq
import Derived.Test.YtfjmlfbohenmfaaGreatCoreWithinLawZM1
import Derived.Test.YtfjmlfbohenmfaaGreatCoreWithinLawZM4
import Derived.Test.YtfjmlfbohenmfaaGreatCoreWithinLawZM2
import Derived.StillTailTactics
import Derived.Lib.QuietBelow
import Derived.Deep.CutBlock
import Derived.Test.YtfjmlfbohenmfaaGreatPostq
import Derived.Test.YtfjmlfbohenmfaaGreatCoModelq
set_option maxRecDepth 100000
set_option maxHeartbeats 32000000
namespace Go.Proofs.YtfjmlfbohenmfaaGreat
open Go.RowKit Go.Sort
namespace Lx
theorem word_sign(t:List UInt8)(k q:Nat)(h:sign t=(k,q))(hk:k≠0):word t= .tok ⟨k,0,[]⟩ (t.drop q):=by
 rw[word_eq t _ h,if_pos hk]
theorem word_no(t:List UInt8)(h:sign t=(0,0)):word t=if pk t 0==34 then str t else if pk t 0==35&&pk t 1==92 then char t else run t:=by
 rw[word_eq t _ h,if_neg (by simp)]
end Lx
theorem wordR_any(s:ByteArray)(n:Nat)(w:World)(hs:s.size≤1000000)(hn:n<s.size)(hz:∀j,(hj:j<s.size)→s[j]≠0)(hw0:Lx.white s[n]=false)(h59:s[n]≠59):
  Calls Tryz.prog 145 #[.string s,.int .i64 n] w (Lx.TokR s n (Lx.word (Lx.tl s n)) w):=by
 obtain⟨RES,hRES⟩:∃RES,Lx.word (Lx.tl s n)=RES:=⟨_,rfl⟩
 rw[hRES];obtain⟨c,hc⟩:∃c,s[n]=c:=⟨_,rfl⟩
 have hpk0:Lx.pk (Lx.tl s n) 0=c:=by rw[Lx.pk_in s n 0 hn];exact hc
 obtain⟨x,hx⟩:∃x,Lx.pk (Lx.tl s n) 1=x:=⟨_,rfl⟩
 have hcb:=Lx.b8 c;have hxb:=Lx.b8 x;have hsg:=Lx.sign_int (Lx.tl s n);rw[hpk0,hx]at hsg;have hwn:=Lx.word_no (Lx.tl s n);rw[hpk0,hx]at hwn;have b34:(c==34)=((c.toNat:Int)==34):=Lx.beq_nat c 34 (by omega);have b35:(c==35)=((c.toNat:Int)==35):=Lx.beq_nat c 35 (by omega);have x92:(x==92)=((x.toNat:Int)==92):=Lx.beq_nat x 92 (by omega);have hrun:((c.toNat:Int)==40)=false→((c.toNat:Int)==41)=false→((c.toNat:Int)==34)=false→Lx.stops s[n]=false:=by
  intro a1 a2 a3;rw[Lx.stops_int,hw0,hc,a1,a2,a3];have:((c.toNat:Int)==59)=false:=by
   rw[beq_eq_false_iff_ne];exact fun h=>h59 (by rw[hc];exact UInt8.toNat_inj.1 (by show c.toNat=59;omega))
  rw[this];rfl
 -- the two blocks of the call's own
 obtain⟨R,hR⟩:∃R,w.heap.size=R:=⟨_,rfl⟩
 obtain⟨w2,hw2⟩:∃w2,(w.alloc (.cells #[.int .i64 0,.int .i64 0,.int .i64 0,.int .i64 0,.string ⟨#[]⟩] 144)).alloc (.cells #[.int .i64 0,.int .i64 (n:Int),.int .i64 ((n:Int)+1),.int .i64 0,.string ⟨#[]⟩] 144)=w2:=⟨_,rfl⟩
 have hb2:Below w.heap.size w w2:=by rw[←hw2];exact Lx.bel2 _ _ _
 have hT:=Lx.TkAt.alloc (w.alloc (.cells #[.int .i64 0,.int .i64 0,.int .i64 0,.int .i64 0,.string ⟨#[]⟩] 144)) 0 n ((n:Int)+1) 0 ⟨#[]⟩ 144;have hRR:=(Lx.TkAt.alloc w 0 0 0 0 ⟨#[]⟩ 144).below ((Below.refl _ (w.alloc (.cells #[.int .i64 0,.int .i64 0,.int .i64 0,.int .i64 0,.string ⟨#[]⟩] 144))).alloc (Nat.le_refl _) (.cells #[.int .i64 0,.int .i64 (n:Int),.int .i64 ((n:Int)+1),.int .i64 0,.string ⟨#[]⟩] 144));rw[hw2]at hT hRR;rw[World.size_alloc,hR]at hT;rw[hR]at hRR hb2;have hsz2:w2.heap.size=R+2:=by rw[←hw2];simp;omega
 have HRR:=hd hRR;have HB2:=hd hb2;have HSZ2:=hd hsz2;have HRW:=hd hR;have HZ:=hd hz;have HSG:=hd hsg;have HWN:=hd hwn;have HRES:=hd hRES;have HRUN:=hd hrun;have HX:=hd hx;have nx:n+1<s.size∨s.size≤n+1:=by omega
 have X0:s.size≤n+1→x=0:=fun h=>by rw[←hx];exact Lx.pk_out s n 1 h
 have X1:(h:n+1<s.size)→s[n+1]=x:=fun h=>by rw[←hx];exact(Lx.pk_in s n 1 h).symm
 have HX0:=hd X0;have HX1:=hd X1;clear hT hRR hb2 hsz2 hsg hwn hRES hrun hx hpk0 hw0 h59 hz X0 X1;rcases nx with hin|hout
 ·have hini:(n:Int)+1<(s.size:Int):=by omega
  have hx1:=HX1.out hin;cases a40:((c.toNat:Int)==40)
  case true=>
   have HN:Hid (RES= .tok ⟨1,0,[]⟩ (Lx.tl s (n+1))):=by
    show _=_;rw[←HRES.out,Lx.word_sign (Lx.tl s n) 1 1 (by rw[HSG.out];simp only[a40,if_true]) (by decide),Lx.tl_drop]
    rfl
   clear hw2 hR;go_enter Tryz.func145,Tryz.ntmps145;go_wp2;refine bodyPost_ret (v:= .tuple #[.agg #[.int .i64 1,.int .i64 (n:Int),.int .i64 ((n:Int)+1),.int .i64 0,.string ⟨#[]⟩],.int .i64 0]) (by simp[results,Tryz.results145,go_sem]) rfl (.tok HN.out rfl (by omega) (by omega) (Lx.bel2 _ _ _))
  cases a41:((c.toNat:Int)==41)
  case true=>
   have HN:Hid (RES= .tok ⟨2,0,[]⟩ (Lx.tl s (n+1))):=by
    show _=_;rw[←HRES.out,Lx.word_sign (Lx.tl s n) 2 1 (by rw[HSG.out];simp only[a40,a41,if_true,Bool.false_eq_true,if_false]) (by decide),Lx.tl_drop]
    rfl
   clear hw2 hR;go_enter Tryz.func145,Tryz.ntmps145;go_wp2;refine bodyPost_ret (v:= .tuple #[.agg #[.int .i64 2,.int .i64 (n:Int),.int .i64 ((n:Int)+1),.int .i64 0,.string ⟨#[]⟩],.int .i64 0]) (by simp[results,Tryz.results145,go_sem]) rfl (.tok HN.out rfl (by omega) (by omega) (Lx.bel2 _ _ _))
  cases a39:((c.toNat:Int)==39)
  case true=>
   have HN:Hid (RES= .tok ⟨4,0,[]⟩ (Lx.tl s (n+1))):=by
    show _=_;rw[←HRES.out,Lx.word_sign (Lx.tl s n) 4 1 (by rw[HSG.out];simp only[a40,a41,a39,if_true,Bool.false_eq_true,if_false]) (by decide),Lx.tl_drop]
    rfl
   clear hw2 hR;go_enter Tryz.func145,Tryz.ntmps145;go_wp2;refine bodyPost_ret (v:= .tuple #[.agg #[.int .i64 4,.int .i64 (n:Int),.int .i64 ((n:Int)+1),.int .i64 0,.string ⟨#[]⟩],.int .i64 0]) (by simp[results,Tryz.results145,go_sem]) rfl (.tok HN.out rfl (by omega) (by omega) (Lx.bel2 _ _ _))
  cases a96:((c.toNat:Int)==96)
  case true=>
   have HN:Hid (RES= .tok ⟨5,0,[]⟩ (Lx.tl s (n+1))):=by
    show _=_;rw[←HRES.out,Lx.word_sign (Lx.tl s n) 5 1 (by rw[HSG.out];simp only[a40,a41,a39,a96,if_true,Bool.false_eq_true,if_false]) (by decide),Lx.tl_drop]
    rfl
   clear hw2 hR;go_enter Tryz.func145,Tryz.ntmps145;go_wp2;refine bodyPost_ret (v:= .tuple #[.agg #[.int .i64 5,.int .i64 (n:Int),.int .i64 ((n:Int)+1),.int .i64 0,.string ⟨#[]⟩],.int .i64 0]) (by simp[results,Tryz.results145,go_sem]) rfl (.tok HN.out rfl (by omega) (by omega) (Lx.bel2 _ _ _))
  cases a44:((c.toNat:Int)==44)
  case true=>
   cases y64:((x.toNat:Int)==64)
   case true=>
    have HN:Hid (RES= .tok ⟨7,0,[]⟩ (Lx.tl s (n+2))):=by
     show _=_;rw[←HRES.out,Lx.word_sign (Lx.tl s n) 7 2 (by rw[HSG.out];simp only[a40,a41,a39,a96,a44,y64,if_true,Bool.false_eq_true,if_false]) (by decide),Lx.tl_drop]
     rfl
    clear hw2 hR;go_enter Tryz.func145,Tryz.ntmps145;go_wp2;refine bodyPost_ret (v:= .tuple #[.agg #[.int .i64 7,.int .i64 (n:Int),.int .i64 ((n:Int)+2),.int .i64 0,.string ⟨#[]⟩],.int .i64 0]) (by simp[results,Tryz.results145,go_sem]) rfl (.tok HN.out rfl (by omega) (by omega) (Lx.bel2 _ _ _))
   have HN:Hid (RES= .tok ⟨6,0,[]⟩ (Lx.tl s (n+1))):=by
    show _=_;rw[←HRES.out,Lx.word_sign (Lx.tl s n) 6 1 (by rw[HSG.out];simp only[a40,a41,a39,a96,a44,y64,if_true,Bool.false_eq_true,if_false]) (by decide),Lx.tl_drop]
    rfl
   clear hw2 hR;go_enter Tryz.func145,Tryz.ntmps145;go_wp2;refine bodyPost_ret (v:= .tuple #[.agg #[.int .i64 6,.int .i64 (n:Int),.int .i64 ((n:Int)+1),.int .i64 0,.string ⟨#[]⟩],.int .i64 0]) (by simp[results,Tryz.results145,go_sem]) rfl (.tok HN.out rfl (by omega) (by omega) (Lx.bel2 _ _ _))
  cases a35:((c.toNat:Int)==35)
  case true=>
   have a34:((c.toNat:Int)==34)=false:=by rw[beq_eq_false_iff_ne];intro h;rw[h]at a35;cases a35
   cases y40:((x.toNat:Int)==40)
   case true=>
    have HN:Hid (RES= .tok ⟨3,0,[]⟩ (Lx.tl s (n+2))):=by
     show _=_;rw[←HRES.out,Lx.word_sign (Lx.tl s n) 3 2 (by rw[HSG.out];simp only[a40,a41,a39,a96,a44,a35,y40,if_true,Bool.false_eq_true,if_false,Bool.and_self]) (by decide),Lx.tl_drop]
     rfl
    clear hw2 hR;go_enter Tryz.func145,Tryz.ntmps145;go_wp2;refine bodyPost_ret (v:= .tuple #[.agg #[.int .i64 3,.int .i64 (n:Int),.int .i64 ((n:Int)+2),.int .i64 0,.string ⟨#[]⟩],.int .i64 0]) (by simp[results,Tryz.results145,go_sem]) rfl (.tok HN.out rfl (by omega) (by omega) (Lx.bel2 _ _ _))
   cases y92:((x.toNat:Int)==92)
   case true=>
    have hno:Lx.sign (Lx.tl s n)=(0,0):=by rw[HSG.out];simp only[a40,a41,a39,a96,a44,a35,y40,Bool.false_eq_true,if_false,Bool.and_false]
    have hcc:=fun wq=>charR_any s n wq hs (by omega)
    have hre:Lx.char (Lx.tl s n)=RES:=by rw[←HRES.out,HWN.out hno,b34,b35,x92,a34,a35,y92];rfl
    rw[hre]at hcc;clear hno hre b34 b35 x92;have HCC:=hd hcc;have HW2:=hd hw2;clear hcc hw2;go_enter Tryz.func145,Tryz.ntmps145;go_wp2_with fail
    rw[HW2.out];refine(HCC.out _).mono ?_;rintro e w3 ⟨k,z,m,y,cc,rfl,hbx,hfit⟩;have HFIT:=hd hfit;have hR3:=HRR.out.below hbx;have HB3:=hd (HB2.out.trans (hbx.mono (by rw[HSZ2.out];omega)));have r0:=hR3.c0;have r1:=hR3.c1;have r2:=hR3.c2;have r3:=hR3.c3;have r4:=hR3.c4;have rz:=hR3.fz;have HR3:=hd hR3;clear hbx hR3 hfit;go_wp2;have HF:=Lx.put5_at HR3.out k (n:Int) z m y;have HFB:=Lx.put5_bel HB3.out (Nat.le_refl R) k (n:Int) z m y;obtain⟨F,hF⟩:∃F,Lx.put5 w3 R k (n:Int) z m y=F:=⟨_,rfl⟩
    rw[hF]at HF HFB;unfold Lx.put5 at hF;rw[hF];have f0:=HF.c0;have f1:=HF.c1;have f2:=HF.c2;have f3:=HF.c3;have f4:=HF.c4;exact bodyPost_ret (v:= .tuple #[.agg #[.int .i64 k,.int .i64 (n:Int),.int .i64 z,.int .i64 m,.string y],.int .i64 cc]) (by simp[results,Tryz.results145,go_sem,f0,f1,f2,f3,f4]) rfl ⟨k,z,m,y,cc,rfl,by rw[HRW.out];exact HFB,HFIT.out⟩
   have hno:Lx.sign (Lx.tl s n)=(0,0):=by rw[HSG.out];simp only[a40,a41,a39,a96,a44,a35,y40,Bool.false_eq_true,if_false,Bool.and_false]
   have hcc:=fun wq=>runR_any s n wq hs hn (HRUN.out a40 a41 a34) HZ.out
   have hre:Lx.run (Lx.tl s n)=RES:=by rw[←HRES.out,HWN.out hno,b34,b35,x92,a34,a35,y92];rfl
   rw[hre]at hcc;clear hno hre b34 b35 x92;have HCC:=hd hcc;have HW2:=hd hw2;clear hcc hw2;go_enter Tryz.func145,Tryz.ntmps145;go_wp2_with fail
   rw[HW2.out];refine(HCC.out _).mono ?_;rintro e w3 ⟨k,z,m,y,cc,rfl,hbx,hfit⟩;have HFIT:=hd hfit;have hR3:=HRR.out.below hbx;have HB3:=hd (HB2.out.trans (hbx.mono (by rw[HSZ2.out];omega)));have r0:=hR3.c0;have r1:=hR3.c1;have r2:=hR3.c2;have r3:=hR3.c3;have r4:=hR3.c4;have rz:=hR3.fz;have HR3:=hd hR3;clear hbx hR3 hfit;go_wp2;have HF:=Lx.put5_at HR3.out k (n:Int) z m y;have HFB:=Lx.put5_bel HB3.out (Nat.le_refl R) k (n:Int) z m y;obtain⟨F,hF⟩:∃F,Lx.put5 w3 R k (n:Int) z m y=F:=⟨_,rfl⟩
   rw[hF]at HF HFB;unfold Lx.put5 at hF;rw[hF];have f0:=HF.c0;have f1:=HF.c1;have f2:=HF.c2;have f3:=HF.c3;have f4:=HF.c4;exact bodyPost_ret (v:= .tuple #[.agg #[.int .i64 k,.int .i64 (n:Int),.int .i64 z,.int .i64 m,.string y],.int .i64 cc]) (by simp[results,Tryz.results145,go_sem,f0,f1,f2,f3,f4]) rfl ⟨k,z,m,y,cc,rfl,by rw[HRW.out];exact HFB,HFIT.out⟩
  cases a34:((c.toNat:Int)==34)
  case true=>
   have hno:Lx.sign (Lx.tl s n)=(0,0):=by rw[HSG.out];simp only[a40,a41,a39,a96,a44,a35,Bool.false_eq_true,if_false,Bool.false_and]
   have hcc:=fun wq=>strR_any s n wq hs hn
   have hre:Lx.str (Lx.tl s n)=RES:=by rw[←HRES.out,HWN.out hno,b34,a34];rfl
   rw[hre]at hcc;clear hno hre b34 b35 x92;have HCC:=hd hcc;have HW2:=hd hw2;clear hcc hw2;go_enter Tryz.func145,Tryz.ntmps145;go_wp2_with fail
   rw[HW2.out];refine(HCC.out _).mono ?_;rintro e w3 ⟨k,z,m,y,cc,rfl,hbx,hfit⟩;have HFIT:=hd hfit;have hR3:=HRR.out.below hbx;have HB3:=hd (HB2.out.trans (hbx.mono (by rw[HSZ2.out];omega)));have r0:=hR3.c0;have r1:=hR3.c1;have r2:=hR3.c2;have r3:=hR3.c3;have r4:=hR3.c4;have rz:=hR3.fz;have HR3:=hd hR3;clear hbx hR3 hfit;go_wp2;have HF:=Lx.put5_at HR3.out k (n:Int) z m y;have HFB:=Lx.put5_bel HB3.out (Nat.le_refl R) k (n:Int) z m y;obtain⟨F,hF⟩:∃F,Lx.put5 w3 R k (n:Int) z m y=F:=⟨_,rfl⟩
   rw[hF]at HF HFB;unfold Lx.put5 at hF;rw[hF];have f0:=HF.c0;have f1:=HF.c1;have f2:=HF.c2;have f3:=HF.c3;have f4:=HF.c4;exact bodyPost_ret (v:= .tuple #[.agg #[.int .i64 k,.int .i64 (n:Int),.int .i64 z,.int .i64 m,.string y],.int .i64 cc]) (by simp[results,Tryz.results145,go_sem,f0,f1,f2,f3,f4]) rfl ⟨k,z,m,y,cc,rfl,by rw[HRW.out];exact HFB,HFIT.out⟩
  have hno:Lx.sign (Lx.tl s n)=(0,0):=by rw[HSG.out];simp only[a40,a41,a39,a96,a44,a35,Bool.false_eq_true,if_false,Bool.false_and]
  have hcc:=fun wq=>runR_any s n wq hs hn (HRUN.out a40 a41 a34) HZ.out
  have hre:Lx.run (Lx.tl s n)=RES:=by rw[←HRES.out,HWN.out hno,b34,b35,x92,a34,a35];rfl
  rw[hre]at hcc;clear hno hre b34 b35 x92;have HCC:=hd hcc;have HW2:=hd hw2;clear hcc hw2;go_enter Tryz.func145,Tryz.ntmps145;go_wp2_with fail
  rw[HW2.out];refine(HCC.out _).mono ?_;rintro e w3 ⟨k,z,m,y,cc,rfl,hbx,hfit⟩;have HFIT:=hd hfit;have hR3:=HRR.out.below hbx;have HB3:=hd (HB2.out.trans (hbx.mono (by rw[HSZ2.out];omega)));have r0:=hR3.c0;have r1:=hR3.c1;have r2:=hR3.c2;have r3:=hR3.c3;have r4:=hR3.c4;have rz:=hR3.fz;have HR3:=hd hR3;clear hbx hR3 hfit;go_wp2;have HF:=Lx.put5_at HR3.out k (n:Int) z m y;have HFB:=Lx.put5_bel HB3.out (Nat.le_refl R) k (n:Int) z m y;obtain⟨F,hF⟩:∃F,Lx.put5 w3 R k (n:Int) z m y=F:=⟨_,rfl⟩
  rw[hF]at HF HFB;unfold Lx.put5 at hF;rw[hF];have f0:=HF.c0;have f1:=HF.c1;have f2:=HF.c2;have f3:=HF.c3;have f4:=HF.c4;exact bodyPost_ret (v:= .tuple #[.agg #[.int .i64 k,.int .i64 (n:Int),.int .i64 z,.int .i64 m,.string y],.int .i64 cc]) (by simp[results,Tryz.results145,go_sem,f0,f1,f2,f3,f4]) rfl ⟨k,z,m,y,cc,rfl,by rw[HRW.out];exact HFB,HFIT.out⟩
 ·have hini:¬ (n:Int)+1<(s.size:Int):=by omega
  have hx0:=HX0.out hout;cases a40:((c.toNat:Int)==40)
  case true=>
   have HN:Hid (RES= .tok ⟨1,0,[]⟩ (Lx.tl s (n+1))):=by
    show _=_;rw[←HRES.out,Lx.word_sign (Lx.tl s n) 1 1 (by rw[HSG.out];simp only[a40,if_true]) (by decide),Lx.tl_drop]
    rfl
   clear hw2 hR;go_enter Tryz.func145,Tryz.ntmps145;go_wp2;refine bodyPost_ret (v:= .tuple #[.agg #[.int .i64 1,.int .i64 (n:Int),.int .i64 ((n:Int)+1),.int .i64 0,.string ⟨#[]⟩],.int .i64 0]) (by simp[results,Tryz.results145,go_sem]) rfl (.tok HN.out rfl (by omega) (by omega) (Lx.bel2 _ _ _))
  cases a41:((c.toNat:Int)==41)
  case true=>
   have HN:Hid (RES= .tok ⟨2,0,[]⟩ (Lx.tl s (n+1))):=by
    show _=_;rw[←HRES.out,Lx.word_sign (Lx.tl s n) 2 1 (by rw[HSG.out];simp only[a40,a41,if_true,Bool.false_eq_true,if_false]) (by decide),Lx.tl_drop]
    rfl
   clear hw2 hR;go_enter Tryz.func145,Tryz.ntmps145;go_wp2;refine bodyPost_ret (v:= .tuple #[.agg #[.int .i64 2,.int .i64 (n:Int),.int .i64 ((n:Int)+1),.int .i64 0,.string ⟨#[]⟩],.int .i64 0]) (by simp[results,Tryz.results145,go_sem]) rfl (.tok HN.out rfl (by omega) (by omega) (Lx.bel2 _ _ _))
  cases a39:((c.toNat:Int)==39)
  case true=>
   have HN:Hid (RES= .tok ⟨4,0,[]⟩ (Lx.tl s (n+1))):=by
    show _=_;rw[←HRES.out,Lx.word_sign (Lx.tl s n) 4 1 (by rw[HSG.out];simp only[a40,a41,a39,if_true,Bool.false_eq_true,if_false]) (by decide),Lx.tl_drop]
    rfl
   clear hw2 hR;go_enter Tryz.func145,Tryz.ntmps145;go_wp2;refine bodyPost_ret (v:= .tuple #[.agg #[.int .i64 4,.int .i64 (n:Int),.int .i64 ((n:Int)+1),.int .i64 0,.string ⟨#[]⟩],.int .i64 0]) (by simp[results,Tryz.results145,go_sem]) rfl (.tok HN.out rfl (by omega) (by omega) (Lx.bel2 _ _ _))
  cases a96:((c.toNat:Int)==96)
  case true=>
   have HN:Hid (RES= .tok ⟨5,0,[]⟩ (Lx.tl s (n+1))):=by
    show _=_;rw[←HRES.out,Lx.word_sign (Lx.tl s n) 5 1 (by rw[HSG.out];simp only[a40,a41,a39,a96,if_true,Bool.false_eq_true,if_false]) (by decide),Lx.tl_drop]
    rfl
   clear hw2 hR;go_enter Tryz.func145,Tryz.ntmps145;go_wp2;refine bodyPost_ret (v:= .tuple #[.agg #[.int .i64 5,.int .i64 (n:Int),.int .i64 ((n:Int)+1),.int .i64 0,.string ⟨#[]⟩],.int .i64 0]) (by simp[results,Tryz.results145,go_sem]) rfl (.tok HN.out rfl (by omega) (by omega) (Lx.bel2 _ _ _))
  cases a44:((c.toNat:Int)==44)
  case true=>
   have y64:((x.toNat:Int)==64)=false:=by rw[hx0];rfl
   have HN:Hid (RES= .tok ⟨6,0,[]⟩ (Lx.tl s (n+1))):=by
    show _=_;rw[←HRES.out,Lx.word_sign (Lx.tl s n) 6 1 (by rw[HSG.out];simp only[a40,a41,a39,a96,a44,y64,if_true,Bool.false_eq_true,if_false]) (by decide),Lx.tl_drop]
    rfl
   clear hw2 hR;go_enter Tryz.func145,Tryz.ntmps145;go_wp2;refine bodyPost_ret (v:= .tuple #[.agg #[.int .i64 6,.int .i64 (n:Int),.int .i64 ((n:Int)+1),.int .i64 0,.string ⟨#[]⟩],.int .i64 0]) (by simp[results,Tryz.results145,go_sem]) rfl (.tok HN.out rfl (by omega) (by omega) (Lx.bel2 _ _ _))
  cases a35:((c.toNat:Int)==35)
  case true=>
   have a34:((c.toNat:Int)==34)=false:=by rw[beq_eq_false_iff_ne];intro h;rw[h]at a35;cases a35
   have y40:((x.toNat:Int)==40)=false:=by rw[hx0];rfl
   have y92:((x.toNat:Int)==92)=false:=by rw[hx0];rfl
   have hno:Lx.sign (Lx.tl s n)=(0,0):=by rw[HSG.out];simp only[a40,a41,a39,a96,a44,a35,y40,Bool.false_eq_true,if_false,Bool.and_false]
   have hcc:=fun wq=>runR_any s n wq hs hn (HRUN.out a40 a41 a34) HZ.out
   have hre:Lx.run (Lx.tl s n)=RES:=by rw[←HRES.out,HWN.out hno,b34,b35,x92,a34,a35,y92];rfl
   rw[hre]at hcc;clear hno hre b34 b35 x92;have HCC:=hd hcc;have HW2:=hd hw2;clear hcc hw2;go_enter Tryz.func145,Tryz.ntmps145;go_wp2_with fail
   rw[HW2.out];refine(HCC.out _).mono ?_;rintro e w3 ⟨k,z,m,y,cc,rfl,hbx,hfit⟩;have HFIT:=hd hfit;have hR3:=HRR.out.below hbx;have HB3:=hd (HB2.out.trans (hbx.mono (by rw[HSZ2.out];omega)));have r0:=hR3.c0;have r1:=hR3.c1;have r2:=hR3.c2;have r3:=hR3.c3;have r4:=hR3.c4;have rz:=hR3.fz;have HR3:=hd hR3;clear hbx hR3 hfit;go_wp2;have HF:=Lx.put5_at HR3.out k (n:Int) z m y;have HFB:=Lx.put5_bel HB3.out (Nat.le_refl R) k (n:Int) z m y;obtain⟨F,hF⟩:∃F,Lx.put5 w3 R k (n:Int) z m y=F:=⟨_,rfl⟩
   rw[hF]at HF HFB;unfold Lx.put5 at hF;rw[hF];have f0:=HF.c0;have f1:=HF.c1;have f2:=HF.c2;have f3:=HF.c3;have f4:=HF.c4;exact bodyPost_ret (v:= .tuple #[.agg #[.int .i64 k,.int .i64 (n:Int),.int .i64 z,.int .i64 m,.string y],.int .i64 cc]) (by simp[results,Tryz.results145,go_sem,f0,f1,f2,f3,f4]) rfl ⟨k,z,m,y,cc,rfl,by rw[HRW.out];exact HFB,HFIT.out⟩
  cases a34:((c.toNat:Int)==34)
  case true=>
   have hno:Lx.sign (Lx.tl s n)=(0,0):=by rw[HSG.out];simp only[a40,a41,a39,a96,a44,a35,Bool.false_eq_true,if_false,Bool.false_and]
   have hcc:=fun wq=>strR_any s n wq hs hn
   have hre:Lx.str (Lx.tl s n)=RES:=by rw[←HRES.out,HWN.out hno,b34,a34];rfl
   rw[hre]at hcc;clear hno hre b34 b35 x92;have HCC:=hd hcc;have HW2:=hd hw2;clear hcc hw2;go_enter Tryz.func145,Tryz.ntmps145;go_wp2_with fail
   rw[HW2.out];refine(HCC.out _).mono ?_;rintro e w3 ⟨k,z,m,y,cc,rfl,hbx,hfit⟩;have HFIT:=hd hfit;have hR3:=HRR.out.below hbx;have HB3:=hd (HB2.out.trans (hbx.mono (by rw[HSZ2.out];omega)));have r0:=hR3.c0;have r1:=hR3.c1;have r2:=hR3.c2;have r3:=hR3.c3;have r4:=hR3.c4;have rz:=hR3.fz;have HR3:=hd hR3;clear hbx hR3 hfit;go_wp2;have HF:=Lx.put5_at HR3.out k (n:Int) z m y;have HFB:=Lx.put5_bel HB3.out (Nat.le_refl R) k (n:Int) z m y;obtain⟨F,hF⟩:∃F,Lx.put5 w3 R k (n:Int) z m y=F:=⟨_,rfl⟩
   rw[hF]at HF HFB;unfold Lx.put5 at hF;rw[hF];have f0:=HF.c0;have f1:=HF.c1;have f2:=HF.c2;have f3:=HF.c3;have f4:=HF.c4;exact bodyPost_ret (v:= .tuple #[.agg #[.int .i64 k,.int .i64 (n:Int),.int .i64 z,.int .i64 m,.string y],.int .i64 cc]) (by simp[results,Tryz.results145,go_sem,f0,f1,f2,f3,f4]) rfl ⟨k,z,m,y,cc,rfl,by rw[HRW.out];exact HFB,HFIT.out⟩
  have hno:Lx.sign (Lx.tl s n)=(0,0):=by rw[HSG.out];simp only[a40,a41,a39,a96,a44,a35,Bool.false_eq_true,if_false,Bool.false_and]
  have hcc:=fun wq=>runR_any s n wq hs hn (HRUN.out a40 a41 a34) HZ.out
  have hre:Lx.run (Lx.tl s n)=RES:=by rw[←HRES.out,HWN.out hno,b34,b35,x92,a34,a35];rfl
  rw[hre]at hcc;clear hno hre b34 b35 x92;have HCC:=hd hcc;have HW2:=hd hw2;clear hcc hw2;go_enter Tryz.func145,Tryz.ntmps145;go_wp2_with fail
  rw[HW2.out];refine(HCC.out _).mono ?_;rintro e w3 ⟨k,z,m,y,cc,rfl,hbx,hfit⟩;have HFIT:=hd hfit;have hR3:=HRR.out.below hbx;have HB3:=hd (HB2.out.trans (hbx.mono (by rw[HSZ2.out];omega)));have r0:=hR3.c0;have r1:=hR3.c1;have r2:=hR3.c2;have r3:=hR3.c3;have r4:=hR3.c4;have rz:=hR3.fz;have HR3:=hd hR3;clear hbx hR3 hfit;go_wp2;have HF:=Lx.put5_at HR3.out k (n:Int) z m y;have HFB:=Lx.put5_bel HB3.out (Nat.le_refl R) k (n:Int) z m y;obtain⟨F,hF⟩:∃F,Lx.put5 w3 R k (n:Int) z m y=F:=⟨_,rfl⟩
  rw[hF]at HF HFB;unfold Lx.put5 at hF;rw[hF];have f0:=HF.c0;have f1:=HF.c1;have f2:=HF.c2;have f3:=HF.c3;have f4:=HF.c4;exact bodyPost_ret (v:= .tuple #[.agg #[.int .i64 k,.int .i64 (n:Int),.int .i64 z,.int .i64 m,.string y],.int .i64 cc]) (by simp[results,Tryz.results145,go_sem,f0,f1,f2,f3,f4]) rfl ⟨k,z,m,y,cc,rfl,by rw[HRW.out];exact HFB,HFIT.out⟩
end Go.Proofs.YtfjmlfbohenmfaaGreat
namespace Go.Proofs.YtfjmlfbohenmfaaGreat
open Go.RowKit
namespace Lx
theorem com_end2(s:ByteArray)(m o:Nat)(h:s.size≤m+1):com (tl s m) o=none:=by
 by_cases hm:m<s.size
 ·rw[tl_cons s m hm,tl_nil s (m+1) h,com];simp;rw[com]
 ·rw[tl_nil s m (by omega),com]
theorem com_at(s:ByteArray)(m o:Nat)(h:m+1<s.size):com (tl s m) o=
  if s[m]=35∧s[m+1]=124 then com (tl s (m+2)) (o+1)
  else if s[m]=124∧s[m+1]=35 then(if o≤1 then some (tl s (m+2))else com (tl s (m+2)) (o - 1))
  else com (tl s (m+1)) o:=by
 have e1:(tl s (m+1)).head?=some s[m+1]:=by rw[tl_cons s (m+1) h];rfl
 have e2:(tl s (m+1)).tail=tl s (m+2):=by rw[tl_cons s (m+1) h];rfl
 rw[tl_cons s m (by omega),com,e1,e2];simp only[Bool.and_eq_true,beq_iff_eq,Option.some.injEq]
theorem dw_at(s:ByteArray)(m:Nat)(h:m<s.size)(c:UInt8)(hc:s[m]≠c):(tl s m).dropWhile (· !=c)=(tl s (m+1)).dropWhile (· !=c):=by
 rw[tl_cons s m h,List.dropWhile_cons_of_pos (by simpa using hc)]
theorem dw_end(s:ByteArray)(m:Nat)(hm:m≤s.size)(c:UInt8)(h:(hlt:m<s.size)→s[m]=c):(tl s m).dropWhile (· !=c)=tl s m:=by
 by_cases hlt:m<s.size
 ·rw[tl_cons s m hlt,List.dropWhile_cons_of_neg (by simpa using h hlt)]
 ·rw[tl_nil s m (by omega)];rfl
theorem pair_eq(s z:ByteArray)(m:Nat)(a b:UInt8)(h:m+1<s.size)(hz:s.extract m (m+2)=z):(z.toList==[a,b])=(s[m]==a&&s[m+1]==b):=by
 rw[ByteArray.toList_eq,←hz,Lib.extract_data];have e:(s.data.toList.drop m).take (m+2 - m)=[s[m],s[m+1]]:=by
  rw[show s.data.toList.drop m=tl s m from rfl,tl_cons s m (by omega),tl_cons s (m+1) h,show m+2 - m=2 by omega]
  rfl
 rw[e];simp[List.cons_beq_cons]
def SkipV(s:ByteArray)(g:List UInt8×Bool):Value:= .tuple #[.int .i64 ((s.size - g.1.length:Nat):Int),.int .i64 (if g.2=true then 0 else 31)]
theorem skip_ok(s:ByteArray)(m:Nat)(hm:m≤s.size):SkipV s (tl s m,true)= .tuple #[.int .i64 (m:Int),.int .i64 0]:=by
 unfold SkipV;rw[if_pos rfl,show s.size - (tl s m,true).1.length=m by rw[tl_len];omega]
theorem skip_no(s:ByteArray)(m:Nat)(hm:m≤s.size):SkipV s (tl s m,false)= .tuple #[.int .i64 (m:Int),.int .i64 31]:=by
 unfold SkipV;rw[if_neg (by simp),show s.size - (tl s m,false).1.length=m by rw[tl_len];omega]
end Lx
theorem skipR_any(s:ByteArray)(n0 f0:Nat)(w:World)(hs:s.size≤1000000)(hn0:n0≤s.size)(hf0:s.size - n0≤f0):
  Calls Tryz.prog 144 #[.string s,.int .i64 n0] w fun e w'=>e= .returned (Lx.SkipV s (Lx.gap f0 (Lx.tl s n0)))∧w=w':=by
 obtain⟨G,hG⟩:∃G,Lx.gap f0 (Lx.tl s n0)=G:=⟨_,rfl⟩
 rw[hG];go_enter Tryz.func144,Tryz.ntmps144;go_wp2_with fail
 go_loop [1] (fun v=>∃n f:Nat,v= .int .i64 n∧n≤s.size∧s.size - n≤f∧Hid (Lx.gap f (Lx.tl s n)=G)) (fun v=>s.size - (intOf v).toNat)
 case atStart=>exact⟨n0,f0,rfl,hn0,hf0,hG⟩
 case round=>
  obtain⟨n,f,rfl,hn,hf,HG⟩:=hrel;clear hG;by_cases hlt:n<s.size
  case neg=>
   have hge:¬ (n:Int)<(s.size:Int):=by omega
   have HR:Hid (Lx.SkipV s G= .tuple #[.int .i64 (n:Int),.int .i64 0]):=by
    show _=_;rw[←HG.out,Lx.tl_nil s n (by omega),Lx.gap_nil,←Lx.tl_nil s n (by omega)];exact Lx.skip_ok s n hn
   clear HG;go_wp2
   go_ret2
   exact⟨by rw[HR.out];rfl,rfl⟩
  obtain⟨f,rfl⟩:∃g,f=g+1:=⟨f - 1,by omega⟩
  have hlti:(n:Int)<(s.size:Int):=by omega
  have hg:=HG.out;rw[Lx.gap_step f s n hlt,Lx.pk_in s n 0 hlt]at hg;cases hw:Lx.white s[n]
  case true=>
   have hw':Lx.white s[n+0]=true:=hw;rw[if_pos hw']at hg;have HG2:=hd hg;clear hg HG hw';go_wp2_with fail
   refine(blankR_any _ _).mono ?_;rintro e w1 ⟨rfl,rfl⟩;rw[hw];go_wp2
   go_round
   case rel=>exact⟨n+1,f,by go_num,by omega,by omega,HG2⟩
   case measure=>simp[intOf];omega
  have hw':¬Lx.white s[n+0]=true:=by show ¬Lx.white s[n]=true;rw[hw];simp
  rw[if_neg hw']at hg;clear hw';by_cases h59:s[n]=59
  case pos=>
   rw[if_pos (show(s[n+0]==59)=true by simpa using h59)]at hg;have h59i:((s[n].toNat:Int)==59)=true:=by rw[h59];rfl
   have hstep:=Lx.dw_at s n hlt 10 (by rw[h59];decide);rw[hstep]at hg;have HG2:=hd hg;have H59:=hd h59;clear hg HG hstep h59;go_wp2_with fail
   refine(blankR_any _ _).mono ?_;rintro e w1 ⟨rfl,rfl⟩;rw[hw];go_wp2_with fail
   go_loop [1] (fun v=>∃k:Nat,v= .int .i64 k∧n≤k∧k≤s.size∧Hid (Lx.gap f ((Lx.tl s k).dropWhile (· !=10))=G)) (fun v=>s.size - (intOf v).toNat)
   case atStart=>exact⟨n,rfl,Nat.le_refl _,hn,by show _=_;rw[Lx.dw_at s n hlt 10 (by rw[H59.out];decide)];exact HG2.out⟩
   case round=>
    obtain⟨k,rfl,hnk,hk,HK⟩:=hrel;by_cases hks:k<s.size
    case neg=>
     have hge:¬ (k:Int)<(s.size:Int):=by omega
     have HK2:Hid (Lx.gap f (Lx.tl s k)=G):=by
      show _=_;rw[←HK.out,Lx.dw_end s k hk 10 (fun h=>absurd h hks)]
     go_wp2
     go_round
     case rel=>exact⟨k,f,rfl,hk,by omega,HK2⟩
     case measure=>simp[intOf];omega
    have hki:(k:Int)<(s.size:Int):=by omega
    by_cases h10:s[k]=10
    ·have HK2:Hid (Lx.gap f (Lx.tl s k)=G):=by
      show _=_;rw[←HK.out,Lx.dw_end s k hk 10 (fun _=>h10)]
     have hkn:n<k:=by
      rcases Nat.lt_or_ge n k with h|h
      ·exact h
      ·have e:k=n:=by omega
       subst e;rw[H59.out]at h10;exact absurd h10 (by decide)
     have h10i:((s[k].toNat:Int) !=10)=false:=by rw[h10];rfl
     clear h10;go_wp2
     go_round
     case rel=>exact⟨k,f,rfl,hk,by omega,HK2⟩
     case measure=>simp[intOf];omega
    ·have HK2:Hid (Lx.gap f ((Lx.tl s (k+1)).dropWhile (· !=10))=G):=by
      show _=_;rw[←HK.out,Lx.dw_at s k hks 10 h10]
     have h10i:((s[k].toNat:Int) !=10)=true:=by
      have:¬ ((s[k].toNat:Int)=10):=fun h=>h10 (UInt8.toNat_inj.1 (by show s[k].toNat=10;omega))
      simpa using this
     clear h10;go_wp2
     go_round
     case rel=>exact⟨k+1,by go_num,by omega,by omega,HK2⟩
     case measure=>simp[intOf];omega
  rw[if_neg (show ¬ (s[n+0]==59)=true by simpa using h59)]at hg;have h59i:((s[n].toNat:Int)==59)=false:=by
   rw[beq_eq_false_iff_ne];exact fun h=>h59 (UInt8.toNat_inj.1 (by show s[n].toNat=59;omega))
  have plain:¬ (s[n]=35∧∃h:n+1<s.size,s[n+1]=124)→Hid (Lx.SkipV s G= .tuple #[.int .i64 (n:Int),.int .i64 0]):=by
   intro hno;show _=_;rw[←hg,if_neg,Lx.skip_ok s n hn];intro h;rw[Bool.and_eq_true]at h
   apply hno
   refine⟨by simpa using h.1,?_⟩;by_cases hl:n+1<s.size
   ·exact⟨hl,by have:=h.2;rw[Lx.pk_in s n 1 hl]at this;simpa using this⟩
   ·have:=h.2;rw[Lx.pk_out s n 1 (by omega)]at this;simp at this
  by_cases hl:n+1<s.size
  case neg=>
   have HR:=plain (fun h=>hl h.2.1);have hli:¬ (n:Int)+1<(s.size:Int):=by omega
   clear hg HG plain;go_wp2_with fail
   refine(blankR_any _ _).mono ?_;rintro e w1 ⟨rfl,rfl⟩;rw[hw];go_wp2
   go_ret2
   exact⟨by rw[HR.out];rfl,rfl⟩
  have hli:(n:Int)+1<(s.size:Int):=by omega
  by_cases h35:s[n]=35
  case neg=>
   have HR:=plain (fun h=>h35 h.1);have h35i:((s[n].toNat:Int)==35)=false:=by
    rw[beq_eq_false_iff_ne];exact fun h=>h35 (UInt8.toNat_inj.1 (by show s[n].toNat=35;omega))
   clear hg HG plain;go_wp2_with fail
   refine(blankR_any _ _).mono ?_;rintro e w1 ⟨rfl,rfl⟩;rw[hw];go_wp2
   go_ret2
   exact⟨by rw[HR.out];rfl,rfl⟩
  have h35i:((s[n].toNat:Int)==35)=true:=by rw[h35];rfl
  by_cases h124:s[n+1]=124
  case neg=>
   have HR:=plain (fun h=>h124 h.2.2);have h124i:((s[n+1].toNat:Int)==124)=false:=by
    rw[beq_eq_false_iff_ne];exact fun h=>h124 (UInt8.toNat_inj.1 (by show s[n+1].toNat=124;omega))
   clear hg HG plain h35;go_wp2_with fail
   refine(blankR_any _ _).mono ?_;rintro e w1 ⟨rfl,rfl⟩;rw[hw];go_wp2
   go_ret2
   exact⟨by rw[HR.out];rfl,rfl⟩
  have h124i:((s[n+1].toNat:Int)==124)=true:=by rw[h124];rfl
  rw[if_pos (by rw[Lx.pk_in s n 1 hl,show s[n+0]=35 from h35,h124];rfl)]at hg;obtain⟨C,hC⟩:∃C,Lx.com (Lx.tl s n) 0=C:=⟨_,rfl⟩
  rw[hC]at hg;have HC0:Hid (Lx.com (Lx.tl s (n+2)) 1=C):=by
   show _=_;rw[←hC,Lx.com_at s n 0 hl,if_pos ⟨h35,h124⟩]
  have HG2:=hd hg;clear hg HG plain hC h35 h124;go_wp2_with fail
  refine(blankR_any _ _).mono ?_;rintro e w1 ⟨rfl,rfl⟩;rw[hw];go_wp2_with fail
  go_loop [1,7] (fun v vo=>∃m o:Nat,v= .int .i64 m∧vo= .int .i64 o∧n+2≤m∧m≤s.size∧o≤m∧Hid ((1≤o∧Lx.com (Lx.tl s m) o=C)∨(o=0∧C=some (Lx.tl s m)))) (fun v _=>s.size - (intOf v).toNat)
  case atStart=>exact⟨n+2,1,by go_num,rfl,by omega,by omega,by omega,.inl ⟨by omega,HC0.out⟩⟩
  case round=>
   obtain⟨m,o,rfl,rfl,hnm,hm,hom,HM⟩:=hrel;by_cases ho:o=0
   ·subst ho;have HE:Hid (Lx.gap f (Lx.tl s m)=G):=by
     show _=_;rcases HM.out with⟨h,_⟩|⟨_,h⟩
     ·omega
     ·have:=HG2.out;rw[h]at this;exact this
    go_wp2
    go_round
    case rel=>exact⟨m,f,rfl,hm,by omega,HE⟩
    case measure=>simp[intOf];omega
   have hoi:0<(o:Int):=by omega
   have HM1:Hid (Lx.com (Lx.tl s m) o=C):=by
    show _=_;rcases HM.out with⟨_,h⟩|⟨h,_⟩
    ·exact h
    ·exact absurd h ho
   by_cases hml:m+1<s.size
   case neg=>
    have hmli:(s.size:Int)≤(m:Int)+1:=by omega
    have HR:Hid (Lx.SkipV s G= .tuple #[.int .i64 (n:Int),.int .i64 31]):=by
     show _=_;have:=HG2.out;rw[←HM1.out,Lx.com_end2 s m o (by omega)]at this;rw[←this];exact Lx.skip_no s n hn
    clear HM HM1;go_wp2
    go_ret2
    exact⟨by rw[HR.out];rfl,rfl⟩
   have hmli:¬ (s.size:Int)≤(m:Int)+1:=by omega
   obtain⟨z,hz⟩:∃z,s.extract m (m+2)=z:=⟨_,rfl⟩
   have p1:=Lx.pair_eq s z m 35 124 hml hz;have p2:=Lx.pair_eq s z m 124 35 hml hz;have hco:=Lx.com_at s m o hml;by_cases c1:s[m]=35∧s[m+1]=124
   ·rw[if_pos c1]at hco;have hp1:(z.toList==[35,124])=true:=by rw[p1,c1.1,c1.2];rfl
    have HN:Hid ((1≤o+1∧Lx.com (Lx.tl s (m+2)) (o+1)=C)∨(o+1=0∧C=some (Lx.tl s (m+2)))):= .inl ⟨by omega,by rw[←hco];exact HM1.out⟩;clear p1 p2 hco c1 HM HM1;go_wp2
    go_round
    case rel=>exact⟨m+2,o+1,by go_num,by go_num,by omega,by omega,by omega,HN⟩
    case measure=>simp[intOf];omega
   rw[if_neg c1]at hco;have hp1:(z.toList==[35,124])=false:=by
    rw[p1,Bool.and_eq_false_iff];by_cases h:s[m]=35
    ·exact .inr (by simpa using fun h2=>c1 ⟨h,h2⟩)
    ·exact .inl (by simpa using h)
   by_cases c2:s[m]=124∧s[m+1]=35
   ·rw[if_pos c2]at hco;have hp2:(z.toList==[124,35])=true:=by rw[p2,c2.1,c2.2];rfl
    have HN:Hid ((1≤o - 1∧Lx.com (Lx.tl s (m+2)) (o - 1)=C)∨(o - 1=0∧C=some (Lx.tl s (m+2)))):=by
     by_cases h1:o≤1
     ·rw[if_pos h1]at hco;exact .inr ⟨by omega,by rw[←HM1.out,hco]⟩
     ·rw[if_neg h1]at hco;exact .inl ⟨by omega,by rw[←hco];exact HM1.out⟩
    have hsub:((o - 1:Nat):Int)=(o:Int) - 1:=by omega
    have HSUB:=hd hsub;clear p1 p2 hco c1 c2 HM HM1 hsub;go_wp2
    go_round
    case rel=>exact⟨m+2,o - 1,by go_num,by rw[HSUB.out],by omega,by omega,by omega,HN⟩
    case measure=>simp[intOf];omega
   rw[if_neg c2]at hco;have hp2:(z.toList==[124,35])=false:=by
    rw[p2,Bool.and_eq_false_iff];by_cases h:s[m]=124
    ·exact .inr (by simpa using fun h2=>c2 ⟨h,h2⟩)
    ·exact .inl (by simpa using h)
   have HN:Hid ((1≤o∧Lx.com (Lx.tl s (m+1)) o=C)∨(o=0∧C=some (Lx.tl s (m+1)))):= .inl ⟨by omega,by rw[←hco];exact HM1.out⟩;clear p1 p2 hco c1 c2 HM HM1;go_wp2
   go_round
   case rel=>exact⟨m+1,o,by go_num,rfl,by omega,by omega,by omega,HN⟩
   case measure=>simp[intOf];omega
end Go.Proofs.YtfjmlfbohenmfaaGreat
namespace Go.Proofs.YtfjmlfbohenmfaaGreat
open Go.RowKit Go.Sort
namespace Lx
end Lx
end Go.Proofs.YtfjmlfbohenmfaaGreat
namespace Go.Proofs.YtfjmlfbohenmfaaGreat.Lx
open Go.RowKit Go.Sort
end Go.Proofs.YtfjmlfbohenmfaaGreat.Lx
namespace Go.Proofs.YtfjmlfbohenmfaaGreat.Lx
open Go.RowKit Go.Sort
end Go.Proofs.YtfjmlfbohenmfaaGreat.Lx
namespace Go.Proofs.YtfjmlfbohenmfaaGreat.Lx
open Go.RowKit Go.Sort
theorem dw_suf(f:UInt8→Bool)(t:List UInt8):t.dropWhile f<:+t:=List.dropWhile_suffix f
theorem com_suf:∀(m:Nat) (l:List UInt8) (o:Nat) (r:List UInt8),l.length≤m→com l o=some r→r<:+l:=by
 intro m
 induction m with
 |zero=>
  intro l o r hm h;have:l=[]:=List.eq_nil_of_length_eq_zero (by omega);subst this;rw[com]at h;simp at h
 |succ m ih=>
  intro l o r hm h
  cases l with
  |nil=>rw[com]at h;simp at h
  |cons c t=>
   simp only[List.length_cons]at hm;have ht:t.tail<:+c :: t:=(List.tail_suffix t).trans (List.suffix_cons c t);have hl:t.tail.length≤m:=by simp;omega
   rw[com]at h;split at h
   ·exact(ih _ _ _ hl h).trans ht
   ·split at h
    ·split at h
     ·simp at h;rw[←h];exact ht
     ·exact(ih _ _ _ hl h).trans ht
    ·exact(ih _ _ _ (by omega) h).trans (List.suffix_cons c t)
theorem gap_suf:∀(f:Nat) (t:List UInt8),(gap f t).1<:+t:=by
 intro f
 induction f with
 |zero=>intro t;exact List.suffix_refl t
 |succ f ih=>
  intro t
  cases t with
  |nil=>exact List.suffix_refl _
  |cons c r=>
   unfold gap;split
   ·exact(ih r).trans (List.suffix_cons c r)
   ·split
    ·exact((ih _).trans (dw_suf _ r)).trans (List.suffix_cons c r)
    ·split
     ·split
      ·exact List.suffix_refl _
      ·rename_i r' hr;exact(ih r').trans (com_suf _ _ _ _ (Nat.le_refl _) hr)
     ·exact List.suffix_refl _
theorem suf_drop(s r:List UInt8)(h:r<:+s):r=s.drop (s.length - r.length):=(List.suffix_iff_eq_drop.1 h)
end Go.Proofs.YtfjmlfbohenmfaaGreat.Lx
namespace Go.Proofs.YtfjmlfbohenmfaaGreat
open Go.RowKit Go.Sort
namespace Lx
theorem gap_tl(s:ByteArray)(n:Nat)(hn:n≤s.size):∃n' ok,gap (s.size - n) (tl s n)=(tl s n',ok)∧n≤n'∧n'≤s.size:=by
 have h1:(gap (s.size - n) (tl s n)).1<:+s.data.toList:=(gap_suf _ _).trans (List.drop_suffix _ _);have h2:=suf_drop _ _ h1;have h3:=gap_len (s.size - n) (tl s n);rw[tl_len]at h3;have h4:=Fx.size_toList s;refine⟨s.data.toList.length - (gap (s.size - n) (tl s n)).1.length,(gap (s.size - n) (tl s n)).2,?_,by omega,by omega⟩;exact Prod.ext h2 rfl
theorem own_bel{w w':World}{b size n:Nat}{e:TypeId}{v:Value}{xs:List Value}(h:w.ownsRow b e size v n xs)(hb:Below w.heap.size w w'):w'.ownsRow b e size v n xs:=by
 obtain⟨h0,h1⟩:=h;refine⟨h0,?_⟩;rcases h1 with h1|⟨g,cap,cur,e1,e2,e3,e4⟩
 ·exact .inl h1
 ·refine .inr ⟨g,cap,cur,e1,e2,?_,e4⟩;have hg:g<w.heap.size:=by
   apply Classical.byContradiction
   intro hh;rw[Array.getElem?_eq_none (by omega)]at e3;exact absurd e3 (by simp)
  rw[hb.block g hg];exact e3
theorem own_ne{w:World}{b size n:Nat}{T:TypeId}{v:Value}{xs:List Value}(h:w.ownsRow b T size v n xs):some w.heap.size≠v.ownBlock:=by
 intro he;have:=(h.lt _ he.symm).2;omega
theorem row_form{w:World}{b size n:Nat}{T:TypeId}{pv:Value}{xs:List Value}(ho:w.ownsRow b T size pv n xs):∃a c,pv= .slice a n c:=by
 rcases Joins.ownsRow_forms ho with⟨rfl,hz⟩|⟨g,cap,rfl,_⟩
 ·exact⟨none,0,by rw[hz]⟩
 ·exact⟨_,_,rfl⟩
end Lx
theorem WordsR_any(s:ByteArray)(w:World)(hs:s.size≤9223372036854775807):
  Calls Tryz.prog 108 #[.string s] w (Lx.WordsPost (Lx.lex s.data.toList) w):=by
 by_cases hl:16384<s.size
 ·have HR:Hid (Lx.lex s.data.toList=([],0,3)):=by show _=_;unfold Lx.lex;rw[if_pos (by rw[Fx.size_toList];exact hl)]
  have hli:16384<(s.size:Int):=by omega
  go_enter Tryz.func108,Tryz.ntmps108;go_wp2
  go_ret3
  exact .err 0 3 HR.out (by decide) (Below.refl _ _) rfl
 have hli:¬16384<(s.size:Int):=by omega
 have HL:Hid (Lx.lex s.data.toList=if !s.data.toList.all Lx.okByte then([],(s.data.toList.takeWhile Lx.okByte).length,32)else Lx.words s.size (s.size+1) 0 s.data.toList):=by
  show _=_;unfold Lx.lex;rw[if_neg (by rw[Fx.size_toList];exact hl),Fx.size_toList]
 go_enter Tryz.func108,Tryz.ntmps108;go_wp2_with fail
 go_loopw [5] (fun v wr=>∃k:Nat,v= .int .i64 k∧k≤s.size∧Hid (∀j,j<k→(hj:j<s.size)→Lx.okByte s[j]=true)∧w=wr) (fun v _=>s.size - (intOf v).toNat)
 case atStart=>exact⟨0,rfl,by omega,(fun j hj=>absurd hj (by omega)),rfl⟩
 case round=>
  obtain⟨k,rfl,hk,HI,rfl⟩:=hrel;by_cases hlt:k<s.size
  case pos=>
   have hlt':(k:Int)<(s.size:Int):=by omega
   have hcb:=Lx.b8 s[k];cases hok:Lx.okByte s[k]
   ·have HR:Hid (Lx.lex s.data.toList=([],k,32)):=by
     show _=_;rw[HL.out,if_pos]
     ·have e0:s.data.toList=Lx.tl s 0:=by unfold Lx.tl;simp
      rw[e0,Lx.run_len Lx.okByte s 0 k (by omega) hk (fun j _ h2=>HI.out j h2 (by omega)) (fun _=>hok)]
      rfl
     ·have:s.data.toList.all Lx.okByte=false:=by
       rw[List.all_eq_false];exact⟨s[k],by have h:=List.getElem_mem (l:=s.data.toList) (n:=k) (by rw[Fx.size_toList];exact hlt);exact h,by rw[hok];simp⟩
      rw[this];rfl
    rw[Lx.ok_int]at hok;clear HL HI;by_cases l1:(s[k].toNat:Int)≤126
    ·have l1n:s[k].toNat≤126:=by omega
     by_cases l2:32≤(s[k].toNat:Int)
     ·simp[l1,l2]at hok
     ·have hw:Lx.white s[k]=false:=by simpa[l1,l2]using hok
      go_wp2_with fail
      refine(blankR_any _ _).mono ?_;rintro e w1 ⟨rfl,rfl⟩;rw[hw];go_wp2
      go_ret3
      exact .err k 32 HR.out (by decide) (Below.refl _ _) rfl
    ·go_wp2
     go_ret3
     exact .err k 32 HR.out (by decide) (Below.refl _ _) rfl
   ·have HI2:Hid (∀j,j<k+1→(hj:j<s.size)→Lx.okByte s[j]=true):=fun j hj h'=>by
     by_cases e:j=k
     ·subst e;exact hok
     ·exact HI.out j (by omega) h'
    rw[Lx.ok_int]at hok;have l1:(s[k].toNat:Int)≤126:=by
     apply Classical.byContradiction
     intro h;simp[h]at hok
    by_cases l2:32≤(s[k].toNat:Int)
    ·go_wp2;go_roundw
     case rel=>exact⟨k+1,by simp,by omega,HI2,trivial⟩
     case measure=>simp[intOf];omega
    ·have hw:Lx.white s[k]=true:=by simpa[l1,l2]using hok
     go_wp2_with fail
     refine(blankR_any _ _).mono ?_;rintro e w1 ⟨rfl,rfl⟩;rw[hw];go_wp2;go_roundw
     case rel=>exact⟨k+1,by simp,by omega,HI2,trivial⟩
     case measure=>simp[intOf];omega
  have hge:(s.size:Int)≤(k:Int):=by omega
  have hall:=Lx.all_ok s (fun j hj=>HI.out j (by omega) hj);have HL2:Hid (Lx.lex s.data.toList=Lx.words s.size (s.size+1) 0 (Lx.tl s 0)):=by
   show _=_;rw[HL.out,hall];rw[show s.data.toList=Lx.tl s 0 by unfold Lx.tl;simp]
   rfl
  have HOK:Hid (∀j,(hj:j<s.size)→Lx.okByte s[j]=true):=fun j hj=>HI.out j (by omega) hj
  clear HL HI hall;obtain⟨i0,hi,hz0,hz1,hz2⟩:=info_parts Lx.infoTok;go_wp2_with fail
  go_loopw [6,7] (fun v v2 wr=>∃(n f:Nat) (acc:List Lx.PTok) (vv:Value),v=vv∧v2= .int .i64 n∧n≤s.size∧s.size+1≤n+f∧acc.length≤4096∧Hid (Lx.lex s.data.toList=Lx.app acc (Lx.words s.size f acc.length (Lx.tl s n)))∧Hid (wr.ownsRow w.heap.size 144 5 vv acc.length (Lx.flatT acc))∧Below w.heap.size w wr) (fun _ v2 _=>s.size - (intOf v2).toNat)
  case atStart=>
   refine⟨0,s.size+1,[],_,rfl,rfl,by omega,by omega,by simp,?_,World.ownsRow_nil _ _ _ _,Below.refl _ _⟩;show _=_;rw[HL2.out];exact(Lx.words_norm _ _ _ _).symm
  case round=>
   obtain⟨n,f,acc,vv,rfl,rfl,hn,hf,hacc,HM,HO,hbl⟩:=hrel;obtain⟨a,c,rfl⟩:=Lx.row_form HO.out;obtain⟨f,rfl⟩:∃g,f=g+1:=⟨f - 1,by omega⟩
   obtain⟨n',ok,hg,hnn1,hn'⟩:=Lx.gap_tl s n hn;have hM:=HM.out;have hend:=Lx.gap_end (s.size - n) (Lx.tl s n) (by rw[Lx.tl_len];exact Nat.le_refl _);rw[Lx.words_step,Lx.tl_len,hg]at hM;rw[hg]at hend;simp only[]at hM hend;rw[Lx.tl_len,show s.size - (s.size - n')=n' by omega]at hM;have hSK:=fun wq=>skipR_any s n (s.size - n) wq (by omega) hn (Nat.le_refl _)
   rw[hg]at hSK;have HBL:=hd hbl;clear HM hbl;cases ok
   case false=>
    rw[Lx.skip_no s n' hn']at hSK;have HR:Hid (Lx.lex s.data.toList=([],n',31)):=hM;clear hM hend hg;go_wp2_with fail
    refine(hSK _).mono ?_;rintro e w2 ⟨rfl,rfl⟩;go_wp2
    go_ret3
    exact .err n' 31 HR.out (by decide) HBL.out rfl
   case true=>
    rw[Lx.skip_ok s n' hn']at hSK;simp only[Bool.true_eq_false,if_false]at hM;by_cases hge2:s.size≤n'
    ·have hgei:(s.size:Int)≤(n':Int):=by omega
     have HR:Hid (Lx.lex s.data.toList=(acc,0,0)):=by
      show _=_;rw[hM,if_pos (Lx.tl_nil s n' hge2)];unfold Lx.app;simp
     clear hM hend hg;go_wp2_with fail
     refine(hSK _).mono ?_;rintro e w2 ⟨rfl,rfl⟩;go_wp2
     go_ret3
     refine⟨HBL.out,.inl ⟨by rw[HR.out],_,rfl,?_⟩⟩;rw[HR.out];exact HO.out
    ·have hlt2:n'<s.size:=by omega
     have hlti:¬ (s.size:Int)≤(n':Int):=by omega
     have hnn:Lx.tl s n'≠[]:=by intro hh;have:=congrArg List.length hh;rw[Lx.tl_len]at this;simp at this;omega
     rw[if_neg hnn]at hM;obtain⟨hwh,h59⟩:=(hend rfl).resolve_left hnn;have h00:(Lx.pk (Lx.tl s n') 0==0)=false:=by
      have hk:=HOK.out n' hlt2;rw[Lx.pk_in s n' 0 hlt2];show(s[n']==0)=false;cases h:(s[n']==0)
      ·rfl
      ·have h':s[n']=0:=by simpa using h
       rw[h']at hk;exact absurd hk (by decide)
     by_cases h4:acc.length=4096
     ·have h4i:4096≤(acc.length:Int):=by omega
      rw[if_pos h4]at hM;have HR:Hid (Lx.lex s.data.toList=([],n',3)):=hM;clear hM h4 hend hg hwh h59 h00;go_wp2_with fail
      refine(hSK _).mono ?_;rintro e w2 ⟨rfl,rfl⟩;go_wp2
      go_ret3
      exact .err n' 3 HR.out (by decide) HBL.out rfl
     ·have h4i:¬4096≤(acc.length:Int):=by omega
      rw[if_neg h4]at hM;have hWD:=fun wq=>wordR_any s n' wq (by omega) hlt2 (fun j hj h0=>by have hk:=HOK.out j hj;rw[h0]at hk;exact absurd hk (by decide)) (by have h:=hwh;rw[Lx.pk_in s n' 0 hlt2]at h;exact h) (by have h:=h59;rw[Lx.pk_in s n' 0 hlt2]at h;intro h0;rw[show s[n'+0]=s[n']from rfl,h0]at h;exact absurd h (by decide))
      have HSK:=hd hSK;have HWD:=hd hWD;clear hSK hWD
      cases hword:Lx.word (Lx.tl s n')with
      |err cc0=>
       rw[hword]at hM;have hc0:=Lx.word_err _ _ hword;have HR:Hid (Lx.lex s.data.toList=([],n',cc0)):=hM.trans (Lx.app_err _ _ _ hc0);have HWO:=hd hword;clear hM hword hwh h59 h00 hend hg hnn;go_wp2_with fail
       refine(HSK.out _).mono ?_;rintro e w2 ⟨rfl,rfl⟩;go_wp2_with fail
       refine(HWD.out _).mono ?_;intro e w3 hpost;rw[HWO.out]at hpost;obtain⟨kk,z,m,x,cc,rfl,hbw,rfl⟩:=hpost;have hbl3:=hd ((btr HBL.out hbw));have hcb:(cc !=0)=true:=by simp[hc0]
       clear hbw;go_wp2
       go_ret3
       exact .err n' cc HR.out hc0 (hbl3.out.alloc hbl3.out.size _) rfl
      |tok tk rest=>
       rw[hword]at hM;have hlen:=Lx.word_len _ hnn hwh h59 h00 _ _ hword;rw[Lx.tl_len]at hlen;have HWO:=hd hword;clear hword hwh h59 h00 hend hg hnn;have hMM:=hd hM;clear hM;go_wp2_with fail
       refine(HSK.out _).mono ?_;rintro e w2 ⟨rfl,rfl⟩;go_wp2_with fail
       refine(HWD.out _).mono ?_;intro e w3 hpost;rw[HWO.out]at hpost;obtain⟨kk,z,m,x,cc,rfl,hbw,rfl,rfl,rfl,rfl,n2,rfl,hn2,rfl⟩:=hpost;have hM:=hMM.out;rw[Lx.tl_len,show s.size - (s.size - n2)=n2 by omega,Lx.app_cons]at hM;rw[Lx.tl_len]at hlen;have HM2:=hd hM;have hO3:=hd (Lx.own_bel HO.out hbw);have hb3:=hbw.size;have hb2s:=HBL.out.size;have hbl3:=hd ((btr HBL.out hbw));clear hbw hM hMM;have htk:=Lx.TkAt.alloc w3 tk.k (n':Int) (n2:Int) tk.n ⟨tk.s.toArray⟩ 144;have a0:=htk.c0;have a1:=htk.c1;have a2:=htk.c2;have a3:=htk.c3;have a4:=htk.c4;have hfive:=Lx.five_new (w3.alloc (.cells #[.int .i64 tk.k,.int .i64 (n':Int),.int .i64 (n2:Int),.int .i64 tk.n,.string ⟨tk.s.toArray⟩] 144)) tk.k (n':Int) (n2:Int) tk.n ⟨tk.s.toArray⟩ 144;rw[show(w3.alloc (.cells #[.int .i64 tk.k,.int .i64 (n':Int),.int .i64 (n2:Int),.int .i64 tk.n,.string ⟨tk.s.toArray⟩] 144)).heap.size=w3.heap.size+1 by simp]at hfive;have hO4:=(hO3.out.alloc (.cells #[.int .i64 tk.k,.int .i64 (n':Int),.int .i64 (n2:Int),.int .i64 tk.n,.string ⟨tk.s.toArray⟩] 144)).alloc (.cells #[.int .i64 tk.k,.int .i64 (n':Int),.int .i64 (n2:Int),.int .i64 tk.n,.string ⟨tk.s.toArray⟩] 144);have HTK:=hd htk;clear htk;go_wp2_with(at_builtin;refine wpList_append_own _ rfl _ _ 137 rfl w.heap.size 144 i0 (.agg #[.int .i64 0,.int .i64 0,.int .i64 0,.int .i64 0,.string ⟨#[]⟩]) 5 48 Tryz.underlying137 hi hz0 hz1 hz2 rfl (by decide) _ _ _ rfl hO4 ⟨w3.heap.size+1,0,none⟩ 1 1 [.int .i64 tk.k,.int .i64 (n':Int),.int .i64 (n2:Int),.int .i64 tk.n,.string ⟨tk.s.toArray⟩] rfl rfl hfive (fun x hx=>by simp at hx;rcases hx with rfl|rfl|rfl|rfl|rfl <;> rfl) (by unfold maxLen;omega) (by omega) (by simp;omega) ?_;intro v' w5 hown' hgrow3 hnil3;have c5:=World.grownBy.cell hgrow3 (a:=⟨w3.heap.size,2,none⟩) (v:= .int .i64 (n2:Int)) (by rw[World.cell?_alloc_lt _ _ _ (by simp)];exact a2) (Lx.own_ne hO3.out))
       have hb5:Below w.heap.size w3 w5:=Below.grown (((Below.refl w.heap.size w3).alloc (by omega) _).alloc (by simp;omega) _) hgrow3 (by simp;omega) (fun j hj=>(hO4.lt _ hj).1);go_roundw
       case rel=>exact⟨n2,f,acc++[⟨n',n2,tk⟩],_,rfl,rfl,hn2,by omega,by simp;try omega,(by show _=_;rw[HM2.out];simp),hd (by rw[List.length_append,Lx.flat_app];exact hown'),hbl3.out.trans (hb5.mono (by omega))⟩
       case measure=>simp[intOf];omega
end Go.Proofs.YtfjmlfbohenmfaaGreat
namespace Go.Proofs.YtfjmlfbohenmfaaGreat
open Go.RowKit
attribute [local go_sem] Oper.semAt_some
theorem Co.infoF:(Tryz.prog.info? 126).map (fun i=>(i.zero,i.size,i.bytes))=some (some (.agg #[.int .i64 0,.int .i64 0,.int .i64 0,.string ⟨#[]⟩,.slice none 0 0,.slice none 0 0,.slice none 0 0]),7,112):=by kernel_rfl
namespace Co
theorem src7{w wD:World}{a b c d e f g:Value}{t:TypeId}(hw:w.alloc (.cells #[a,b,c,d,e,f,g] t)=wD):Ap.Src wD (.slice (some ⟨w.heap.size,0,none⟩) 1 1) 1 [a,b,c,d,e,f,g]:=
 .inr ⟨_,_,rfl,fun z u hu=>by
  rw[Addr.add_mid,Nat.zero_add];have h2:#[a,b,c,d,e,f,g][z]?=some u:=by rw[←hu];simp
  exact(Hp.new hw).cell z h2⟩
def FOne(w:World)(base:Nat)(v:Value)(at_:Int)(x:Dt.D)(wr:World):Prop:=
 ∃g cap h1 k1 s1 h2 k2 s2 h3 k3 s3,v= .slice (some ⟨g,0,none⟩) 1 cap∧wr.ownsRow base 126 7 v 1 [.int .i64 at_,.int .i64 x.k,.int .i64 x.n,.string x.s,.slice h1 k1 s1,.slice h2 k2 s2,.slice h3 k3 s3]∧Dt.Rep (fun k=>base≤k∧v.ownBlock≠some k) wr x (.slice h1 k1 s1) (.slice h2 k2 s2) (.slice h3 k3 s3)
end Co
theorem rRead1_any(s:ByteArray)(xs:List Lx.PTok)(x:Dt.D)(F:Nat)(w:World)(hs:s.size≤16384)(hlx:Lx.lex s.data.toList=(xs,0,0))(hne:xs≠[])(hlen:xs.length≤16384)(hx:Co.rdD F xs=some (x,[]))(hW:Dt.Wf x)(hck:Dt.check x=0):
  Calls Tryz.prog 85 #[.string s] w fun e w'=>∃v at_,e= .returned (.tuple #[v,.int .i64 0,.int .i64 0])∧Co.FOne w w.heap.size v at_ x w'∧Below w.heap.size w w':=by
 have hwd:=WordsR_any s w (by omega);rw[hlx]at hwd;obtain⟨i0,hi,hz0,hz1,hz2⟩:=info_parts Co.infoF;have HI:=hd hi;have HZ0:=hd hz0;have HZ1:=hd hz1;have HZ2:=hd hz2;have HX:=hd hx;have HW:=hd hW;have HCK:=hd hck;have hpos:0<xs.length:=List.length_pos_iff.2 hne;clear hi hz0 hz1 hz2 hx hW hck hlx;go_enter Tryz.func85,Tryz.ntmps85;go_wp2_with fail
 refine hwd.mono ?_;rintro e w1 ⟨hb1,⟨-,v,rfl,hown⟩|⟨hc,-⟩⟩;rotate_left
 ·exact absurd rfl hc
 obtain⟨tb,xc,rfl⟩:∃tb xc,v= .slice (some ⟨tb,0,none⟩) xs.length xc:=by
  rcases hown.2 with⟨-,h0⟩|⟨g,cap,cur,e,-⟩
  ·have h0:xs.length=0:=h0;omega
  ·exact⟨g,cap,e⟩
 have htl:=Dt.own_lt hown tb rfl;have HS1:Hid (Rd.Src w1 tb xs):=⟨htl.2,fun i hi=>by
  have hc:∀j u,(Lx.flatT xs)[j]?=some u→w1.cell? ⟨tb,j,none⟩=some u:=fun j u hu=>by
   have h:=hown.cells (g:=tb) rfl j u hu;rw[Addr.add_mid,Nat.zero_add]at h;exact h
  exact Lx.Row.five hc i hi⟩
 have HB1:=hd hb1;obtain⟨w2,hw2⟩:∃w2,w1.alloc (.cells #[.slice (some ⟨tb,0,none⟩) xs.length xc,.int .i64 0] 142)=w2:=⟨_,rfl⟩
 obtain⟨hb2,hs2⟩:=new_below hw2;have HP2:Hid (Co.RS w2 w1.heap.size tb xc xs 0):=Hp.new hw2;have HB2:=hd hb2;have HN:Hid (w.heap.size≤tb∧tb<w1.heap.size∧w2.heap.size=w1.heap.size+1∧w.heap.size≤w1.heap.size):=⟨htl.1,htl.2,hs2,hb1.size⟩
 clear hwd hown hb1 hb2 hs2 htl;have HI0:Hid (Co.RS w2 w1.heap.size tb xc xs 0∧Below w1.heap.size w1 w2):=⟨HP2.out,HB2.out⟩
 have HHS:=hd hs;go_wp2
 try rw[hw2]
 clear hw2
 go_loopw [9] (fun v9 wr=>(v9= .slice none 0 0∧Hid (Co.RS wr w1.heap.size tb xc xs 0∧Below w1.heap.size w1 wr))∨(∃at_,Hid (Co.RS wr w1.heap.size tb xc xs xs.length∧Below w1.heap.size w1 wr∧Co.FOne w w1.heap.size v9 at_ x wr))) (fun _ wr=>Co.left xs w1.heap.size wr)
 case atStart=>exact .inl ⟨rfl,HI0⟩
 case round=>
  clear HI0;rcases hrel with⟨rfl,HL⟩|⟨at_,HL⟩
  ·have hp:Hp wr w1.heap.size _ _:=HL.out.1;have p1:=hp.cell 1 rfl;have hlti:(0:Int)<(xs.length:Int):=by omega
   have hsr:=HS1.out.below HL.out.2;have htk:=hsr.tok 0 hpos;simp only[Nat.zero_mul,Nat.zero_add]at htk;have t1:=htk.2.1;have hcall:=coSd_any w1.heap.size tb xc xs (by omega) F xs [] [] x wr rfl HX.out HL.out.1 hsr (by have:=HN.out;omega);have HMS:Hid (Co.left xs w1.heap.size wr=xs.length):=by show _=_;rw[Co.RS.left HL.out.1];rfl
   clear hp htk hsr;go_wp2_with fail
   refine hcall.mono ?_;rintro e w6 ⟨vm,vl,vt,pre',rfl,hr6,hx6,hs6,hk6⟩;obtain⟨h1,k1,s1,h2,k2,s2,h3,k3,s3,rfl,rfl,rfl⟩:=hr6.forms;have hpre:pre'.length=xs.length:=by have:=congrArg List.length hx6;simpa using this.symm
   rw[hpre]at hs6;obtain⟨w7,hw7⟩:∃w7,w6.alloc (.cells #[.int .i64 x.k,.int .i64 x.n,.string x.s,.slice h1 k1 s1,.slice h2 k2 s2,.slice h3 k3 s3] 25)=w7:=⟨_,rfl⟩
   obtain⟨hb7,hs7⟩:=new_below hw7;have HQ7:=hd (Hp.new hw7);have hck:=rCheck_any x _ _ _ w7 HW.out (hr6.below hb7);rw[HCK.out]at hck;have HR7:=hd (hr6.below hb7);have HRS7:Hid (Co.RS w7 w1.heap.size tb xc xs xs.length):=Hp.below hs6 hb7;have HK7:Hid (Keep (fun k=>k=w1.heap.size) wr w7):=hk6.trans (keep_of_below hb7);obtain⟨qq0,qq1,qq2,qq3,qq4,qq5⟩:=HQ7.out.c6;clear hcall hr6 hx6 hs6 hk6 hb7 hs7 hpre p1;go_wp2_with fail
   refine hck.mono ?_;rintro e w8 ⟨rfl,hb8⟩;have HB8:=hd hb8;have HQ8:=hd (HQ7.out.below hb8);clear qq0 qq1 qq2 qq3 qq4 qq5;obtain⟨A,hA⟩:∃A:Int,(xs[0].at_:Int)=A:=⟨_,rfl⟩
   rw[hA]at t1 ⊢;have hW9:w8.alloc (.cells #[.int .i64 A,.int .i64 x.k,.int .i64 x.n,.string x.s,.slice h1 k1 s1,.slice h2 k2 s2,.slice h3 k3 s3] 126)=w8.alloc (.cells #[.int .i64 A,.int .i64 x.k,.int .i64 x.n,.string x.s,.slice h1 k1 s1,.slice h2 k2 s2,.slice h3 k3 s3] 126):=rfl;obtain⟨hb9,hs9⟩:=new_below hW9;have HS:Hid (Ap.Src (w8.alloc (.cells #[.int .i64 A,.int .i64 x.k,.int .i64 x.n,.string x.s,.slice h1 k1 s1,.slice h2 k2 s2,.slice h3 k3 s3] 126)) (.slice (some ⟨w8.heap.size,0,none⟩) 1 1) 1 [.int .i64 A,.int .i64 x.k,.int .i64 x.n,.string x.s,.slice h1 k1 s1,.slice h2 k2 s2,.slice h3 k3 s3]):=Co.src7 hW9;have HB9:=hd hb9;have hm1:0+1≤maxLen:=by unfold maxLen;omega
   have hbs:w1.heap.size≤(w8.alloc (.cells #[.int .i64 A,.int .i64 x.k,.int .i64 x.n,.string x.s,.slice h1 k1 s1,.slice h2 k2 s2,.slice h3 k3 s3] 126)).heap.size:=by have h1:=HL.out.2.size;have h2:=HK7.out.size;have h3:=HB8.out.size;have h4:=hb9.size;omega
   obtain⟨qq0,qq1,qq2,qq3,qq4,qq5⟩:=HQ8.out.c6;clear hck hb8 hW9 hb9 hs9 hA hw7 t1;go_wp2_with(at_builtin;refine Ap.list rfl _ _ 122 rfl w1.heap.size 126 i0 _ 7 112 Tryz.underlying122 HI.out HZ0.out HZ1.out HZ2.out rfl (by decide) (.slice none 0 0) 0 [] rfl (World.ownsRow_nil _ _ _ _) (.slice (some ⟨w8.heap.size,0,none⟩) 1 1) 1 [.int .i64 A,.int .i64 x.k,.int .i64 x.n,.string x.s,.slice h1 k1 s1,.slice h2 k2 s2,.slice h3 k3 s3] rfl HS.out rfl (by intro u hu;simp only[List.mem_cons,List.not_mem_nil,or_false]at hu;rcases hu with rfl|rfl|rfl|rfl|rfl|rfl|rfl <;> rfl) hm1 (by decide) hbs ?_;intro v' w10 hown hg hat;have HOWN:=hd hown;have HGR:=hd hg;have HAT:=hd hat;clear hown hg hat)
   have HFIN:Hid (Co.RS w10 w1.heap.size tb xc xs xs.length∧Below w1.heap.size w1 w10∧Co.FOne w w1.heap.size v' A x w10):=by
    have k10:Keep (fun _=>False) (w8.alloc (.cells #[.int .i64 A,.int .i64 x.k,.int .i64 x.n,.string x.s,.slice h1 k1 s1,.slice h2 k2 s2,.slice h3 k3 s3] 126)) w10:=(Co.grown_keep2 (Below.refl _ _) HGR.out).le (fun k e=>by cases e);have hb810:Below w7.heap.size w7 w10:=((btr HB8.out HB9.out)).trans (k10.to_below (fun k e=>e.elim) (by have h1:=HB8.out.size;have h2:=HB9.out.size;omega));refine⟨Hp.below HRS7.out hb810,(HL.out.2.trans (HK7.out.to_below (fun k e=>by omega) HL.out.2.size)).trans (hb810.mono (by have h1:=HL.out.2.size;have h2:=HK7.out.size;omega)),?_⟩;have ho:=HOWN.out;simp only[Nat.zero_add,List.nil_append]at ho;obtain⟨g,cap,hv⟩:∃g cap,v'= .slice (some ⟨g,0,none⟩) 1 cap:=by
     rcases ho.2 with⟨-,h0⟩|⟨g,cap,cur,e,-⟩
     ·cases h0
     ·exact⟨g,cap,e⟩
    refine⟨g,cap,_,_,_,_,_,_,_,_,_,hv,ho,?_⟩;have hr:=HR7.out;have h1:=HL.out.2.size;have h2:=HB8.out.size;have h3:=HB9.out.size;refine Dt.Rep.mono (fun b hb _=>hb) x ((Dt.Rep.mono (G:=fun k=>w1.heap.size≤k∧v'.ownBlock≠some k) (fun b hb hl=>⟨by omega,fun e=> ?_⟩) x hr).below hb810);rcases HAT.out with h|h
    ·rw[h]at e;cases e
    ·rw[h]at e;cases e;omega
   clear qq0 qq1 qq2 qq3 qq4 qq5;go_roundw
   case rel=>exact .inr ⟨A,HFIN⟩
   case measure=>rw[Co.RS.left HFIN.out.1,HMS.out];omega
  ·obtain⟨g,cap,h1,k1,s1,h2,k2,s2,h3,k3,s3,hv,hown,hrep⟩:=HL.out.2.2;subst hv;have hp:Hp wr w1.heap.size _ _:=HL.out.1;have p1:=hp.cell 1 rfl;have hlti:¬ (xs.length:Int)<(xs.length:Int):=by omega
   have hltb:decide ((xs.length:Int)<(xs.length:Int))=false:=decide_eq_false hlti;have HF:Hid (Co.FOne w w.heap.size (.slice (some ⟨g,0,none⟩) 1 cap) at_ x wr∧Below w.heap.size w wr):=
    ⟨⟨g,cap,h1,k1,s1,h2,k2,s2,h3,k3,s3,rfl,Rd.own_base hown (by have:=HN.out;omega),Dt.Rep.mono (fun b hb _=>⟨by have:=HN.out;omega,hb.2⟩) x hrep⟩,HB1.out.trans (HL.out.2.1.mono HB1.out.size)⟩
   clear hp hown hrep;go_wp2;refine bodyPost_ret (v:= .tuple #[.slice (some ⟨g,0,none⟩) 1 cap,.int .i64 0,.int .i64 0]) (by simp[results,Tryz.results85,go_sem, *]) rfl ?_;exact⟨_,rfl,⟨at_,HF.out.1⟩,HF.out.2⟩
theorem rOne1_any(s:ByteArray)(xs:List Lx.PTok)(x:Dt.D)(F:Nat)(w:World)(hs:s.size≤16384)(hlx:Lx.lex s.data.toList=(xs,0,0))(hne:xs≠[])(hlen:xs.length≤16384)(hx:Co.rdD F xs=some (x,[]))(hW:Dt.Wf x)(hck:Dt.check x=0):
  Calls Tryz.prog 63 #[.string s] w fun e w'=>∃vm vl vt,e= .returned (.tuple #[.agg #[.int .i64 x.k,.int .i64 x.n,.string x.s,vm,vl,vt],.int .i64 0])∧Dt.Rep (fun k=>w.heap.size≤k) w' x vm vl vt∧Below w.heap.size w w':=by
 obtain⟨w1,hw1⟩:∃w1,w.alloc (.cells #[.int .i64 0,.int .i64 0,.string ⟨#[]⟩,.slice none 0 0,.slice none 0 0,.slice none 0 0] 25)=w1:=⟨_,rfl⟩
 have hrd:=rRead1_any s xs x F w1 hs hlx hne hlen hx hW hck;obtain⟨hb1,hs1⟩:=new_below hw1;have hR1:=Hp.new hw1;obtain⟨R,hR⟩:∃R,w.heap.size=R:=⟨_,rfl⟩
 rw[hR]at hR1 hs1;have HN:Hid (w.heap.size=R∧w1.heap.size=R+1):=⟨hR,hs1⟩
 have HB1:=hd hb1;have HR1:=hd hR1;clear hb1 hs1 hR1 hlx hne hlen hx hW hck hs;go_enter Tryz.func63,Tryz.ntmps63;go_wp2_with fail
 refine hrd.mono ?_;rintro e w2 ⟨v,at_,rfl,⟨g,cap,h1,k1,s1,h2,k2,s2,h3,k3,s3,rfl,hown,hrep⟩,hb2⟩;have hR2:=HR1.out.below hb2;have hbw:Below w.heap.size w w2:=btr HB1.out hb2;obtain⟨r0,r1,r2,r3,r4,r5⟩:=hR2.c6;have q0:=hR2.frz 0;have q1:=hR2.frz 1;have q2:=hR2.frz 2;have q3:=hR2.frz 3;have q4:=hR2.frz 4;have q5:=hR2.frz 5;have hc:=fun j u (hu:([.int .i64 at_,.int .i64 x.k,.int .i64 x.n,.string x.s,.slice h1 k1 s1,.slice h2 k2 s2,.slice h3 k3 s3]:List Value)[j]?=some u)=>hown.cells (g:=g) rfl j u hu
 have x1:=hc 1 _ rfl;have x2:=hc 2 _ rfl;have x3:=hc 3 _ rfl;have x4:=hc 4 _ rfl;have x5:=hc 5 _ rfl;have x6:=hc 6 _ rfl;rw[Addr.add_mid,Nat.zero_add]at x1 x2 x3 x4 x5 x6;have HE:Hid (∃vm vl vt,Ending.returned (.tuple #[.agg #[.int .i64 x.k,.int .i64 x.n,.string x.s,.slice h1 k1 s1,.slice h2 k2 s2,.slice h3 k3 s3],.int .i64 0])= .returned (.tuple #[.agg #[.int .i64 x.k,.int .i64 x.n,.string x.s,vm,vl,vt],.int .i64 0])∧Dt.Rep (fun k=>w.heap.size≤k) (set6 w2 R (.int .i64 x.k) (.int .i64 x.n) (.string x.s) (.slice h1 k1 s1) (.slice h2 k2 s2) (.slice h3 k3 s3)) x vm vl vt∧Below w.heap.size w (set6 w2 R (.int .i64 x.k) (.int .i64 x.n) (.string x.s) (.slice h1 k1 s1) (.slice h2 k2 s2) (.slice h3 k3 s3))):=by
  have hk:=set6_keep w2 R (.int .i64 x.k) (.int .i64 x.n) (.string x.s) (.slice h1 k1 s1) (.slice h2 k2 s2) (.slice h3 k3 s3);refine⟨_,_,_,rfl,?_,hbw.trans (hk.to_below (fun k e=>by have:=HN.out.1;omega) hbw.size)⟩;refine Dt.Rep.mono (fun b hb _=> ?_) x (Dt.Rep.keep hk (fun b hb _ e=> ?_) x hrep)
  ·have:=HN.out;have:=hb.1;omega
  ·have:=HN.out;have:=hb.1;omega
 clear hc hrd hown hrep hb2 hR2 hbw hw1;go_wp2;refine bodyPost_ret (v:= .tuple #[.agg #[.int .i64 x.k,.int .i64 x.n,.string x.s,.slice h1 k1 s1,.slice h2 k2 s2,.slice h3 k3 s3],.int .i64 0]) (by simp[results,Tryz.results63,go_sem, *]) rfl ?_;exact HE.out
end Go.Proofs.YtfjmlfbohenmfaaGreat
namespace Go.Proofs.YtfjmlfbohenmfaaGreat
open Go.RowKit
namespace Cd
instance lawfulBytes:LawfulBEq ByteArray where
 eq_of_beq {a b} h:=by
  have h2:(a.data==b.data)=true:=h;cases a;cases b;rw[beq_iff_eq]at h2;cases h2
  rfl
 rfl {a}:=by
  show(a.data==a.data)=true;simp
end Cd
end Go.Proofs.YtfjmlfbohenmfaaGreat
namespace Go.Proofs.YtfjmlfbohenmfaaGreat
open Go.RowKit
attribute [local go_sem] Oper.semAt_some
theorem sEqual_any{F G:Nat→Prop}(va vb:Value)(m m':List ByteArray)(w:World)(ha:Cd.NameRow F w va m)(hb:Cd.NameRow G w vb m')(hl:m.length≤140737488355328)(_hl':m'.length≤140737488355328):
  Calls Tryz.prog 19 #[va,vb] w fun e w'=>e= .returned (.bool (decide (m=m')))∧Below w.heap.size w w':=by
 obtain⟨a,c,rfl,_,hc⟩:=ha;obtain⟨a',c',rfl,_,hc'⟩:=hb;obtain⟨R,hR⟩:∃R,R=decide (m=m'):=⟨_,rfl⟩
 rw[←hR];by_cases hlen:m.length=m'.length
 case neg=>
  have hne:((m.length:Int) !=(m'.length:Int))=true:=by simpa using fun h=>hlen (by omega)
  have HR:Hid (R=false):=by show _=_;rw[hR];exact decide_eq_false (fun e=>hlen (by rw[e]))
  clear hc hc' hR hlen;go_enter Tryz.func19,Tryz.ntmps19;go_wp2;go_ret;exact⟨by rw[HR.out];rfl,Below.refl _ _⟩
 have hne:((m.length:Int) !=(m'.length:Int))=false:=by simp[hlen]
 have H0:Hid (R=decide (m.drop 0=m'.drop 0)):=by show _=_;rw[List.drop_zero,List.drop_zero];exact hR
 have HC:=hd hc;have HC':=hd hc';have HL:=hd hlen;clear hc hc' hR hlen;go_enter Tryz.func19,Tryz.ntmps19;go_wp2
 go_loopw [13] (fun v wr=>∃k:Nat,v= .int .i64 k∧k≤m.length∧Hid (R=decide (m.drop k=m'.drop k))∧∃q,wr=w.drewN q) (fun v _=>m.length - (intOf v).toNat)
 case atStart=>exact⟨0,rfl,by omega,H0,0,rfl⟩
 case round=>
  obtain⟨k,rfl,hk,HR,q,rfl⟩:=hrel;by_cases hlt:k<m.length
  ·have hlti:(k:Int)<(m.length:Int):=by omega
   have hlt':k<m'.length:=by have:=HL.out;omega
   have hlti':(k:Int)<(m'.length:Int):=by omega
   obtain⟨b,o,rfl,_,hb,hcell⟩:=HC.out (by intro h0;rw[h0]at hlt;simp at hlt);obtain⟨b',o',rfl,_,hb',hcell'⟩:=HC'.out (by intro h0;rw[h0]at hlt';simp at hlt');have x0:=hcell k hlt;have y0:=hcell' k hlt';have hr:=HR.out;rw[List.drop_eq_getElem_cons hlt,List.drop_eq_getElem_cons hlt']at hr;obtain⟨x,hx⟩:∃x,m[k]=x:=⟨_,rfl⟩
   obtain⟨y,hy⟩:∃y,m'[k]=y:=⟨_,rfl⟩
   rw[hx]at x0 hr;rw[hy]at y0 hr;clear hx hy hcell hcell';by_cases hxy:x=y
   ·subst hxy;have hxe:(x !=x)=false:=by simp
    have hxt:(!x.toList==x.toList)=false:=by simp
    have HN:Hid (R=decide (m.drop (k+1)=m'.drop (k+1))):=by show _=_;rw[hr];simp
    clear hr;go_wp2
    go_quiet (fail)
    go_wp2;go_roundw
    case rel=>exact⟨k+1,by simp,by omega,HN,_,rfl⟩
    case measure=>simp[intOf];omega
   ·have hxe:(x !=y)=true:=bne_iff_ne.2 hxy;have hxt:(x.toList==y.toList)=false:=by
     rw[ByteArray.toList_eq,ByteArray.toList_eq,beq_eq_false_iff_ne];intro e
     apply hxy
     cases x;cases y;cases Array.toList_inj.1 e
     rfl
    have HN:Hid (R=false):=by show _=_;rw[hr];simp[hxy]
    clear hr hxy;go_wp2
    go_quiet (fail)
    go_wp2;go_ret;exact⟨by rw[HN.out];rfl,⟨rfl,rfl,rfl,Nat.le_refl _,fun _ _=>rfl⟩⟩
  ·have hge:(m.length:Int)≤(k:Int):=by omega
   have HN:Hid (R=true):=by show _=_;rw[HR.out,List.drop_eq_nil_of_le (by omega),List.drop_eq_nil_of_le (by have:=HL.out;omega)];rfl
   go_wp2;go_ret;exact⟨by rw[HN.out];rfl,⟨rfl,rfl,rfl,Nat.le_refl _,fun _ _=>rfl⟩⟩
theorem coRead_any(s:ByteArray)(xs:List Lx.PTok)(d:Dt.D)(c:Co.C)(F f:Nat)(w:World)(hs:s.size≤16384)(hlx:Lx.lex s.data.toList=(xs,0,0))(hne:xs≠[])(hlen:xs.length≤16384)(hx:Co.rdD F xs=some (d,[]))(hW:Dt.Wf d)(hck:Dt.check d=0)(hFi:Dt.Fine d)(hg:Co.goodF f d=true)(hc:Co.asC d=c)(hWc:Co.Wf c)(hall:Co.all c≠[]):
  Calls Tryz.prog 32 #[.string s] w fun e w'=>∃um ul ut up uk,e= .returned (Co.V c um ul ut up uk)∧Co.Rep (fun k=>w.heap.size≤k) w' c um ul ut up uk∧Below w.heap.size w w':=by
 subst hc;obtain⟨w1,hw1⟩:∃w1,w.alloc (.cells #[.int .i64 0,.int .i64 0,.string ⟨#[]⟩,.int .i64 0,.int .i64 0,.string ⟨#[]⟩,.slice none 0 0,.slice none 0 0,.slice none 0 0,.slice none 0 0,.slice none 0 0] 28)=w1:=⟨_,rfl⟩
 have hrd:=rOne1_any s xs d F w1 hs hlx hne hlen hx hW hck;obtain⟨hb1,hs1⟩:=new_below hw1;have hR1:=Hp.new hw1;obtain⟨R,hR⟩:∃R,w.heap.size=R:=⟨_,rfl⟩
 rw[hR]at hR1 hs1;have HN:Hid (w.heap.size=R∧w1.heap.size=R+1):=⟨hR,hs1⟩
 have HB1:=hd hb1;have HR1:=hd hR1;have HW:=hd hW;have HCK:=hd hck;have HFI:=hd hFi;have HG:=hd hg;have HWC:=hd hWc;have HALL:=hd hall;clear hb1 hs1 hR1 hlx hne hlen hx hW hck hs hFi hg hWc hall;go_enter Tryz.func32,Tryz.ntmps32;go_wp2_with fail
 refine hrd.mono ?_;rintro e w2 ⟨vm,vl,vt,rfl,hrep,hb2⟩;obtain⟨a1,n1,q1,a2,n2,q2,a3,n3,q3,rfl,rfl,rfl⟩:=hrep.forms;obtain⟨w3,hw3⟩:∃w3,w2.alloc (.cells #[.int .i64 d.k,.int .i64 d.n,.string d.s,.slice a1 n1 q1,.slice a2 n2 q2,.slice a3 n3 q3] 25)=w3:=⟨_,rfl⟩
 obtain⟨hb3,hs3⟩:=new_below hw3;have HQ3:=hd (Hp.new hw3);have HR3:=hd (HR1.out.below ((btr hb2 hb3)));have HB3:Hid (Below w1.heap.size w1 w3):=btr hb2 hb3;have hof:=rOf_any f d _ _ _ w3 HW.out (hrep.below hb3) HCK.out HFI.out HG.out HWC.out HALL.out;obtain⟨qq0,qq1,qq2,qq3,qq4,qq5⟩:=HQ3.out.c6;clear hrd hrep hb2 hb3 hs3 hw1;go_wp2_with fail
 refine hof.mono ?_;rintro e w4 ⟨um,ul,ut,up,uk,rfl,hrc,hb4⟩;obtain⟨i1,j1,l1,i2,j2,l2,i3,j3,l3,i4,j4,l4,i5,j5,l5,rfl,rfl,rfl,rfl,rfl⟩:=hrc.forms5;clear qq0 qq1 qq2 qq3 qq4 qq5;obtain⟨c,hc⟩:∃c,Co.asC d=c:=⟨_,rfl⟩
 rw[hc]at hrc ⊢;unfold Co.V;obtain⟨w5,hw5⟩:∃w5,w4.alloc (.cells #[.int .i64 c.k,.int .i64 c.n,.string c.s,.int .i64 c.d.k,.int .i64 c.d.n,.string c.d.s,.slice i1 j1 l1,.slice i2 j2 l2,.slice i3 j3 l3,.slice i4 j4 l4,.slice i5 j5 l5] 28)=w5:=⟨_,rfl⟩
 obtain⟨hb5,hs5⟩:=new_below hw5;have HQ5:=hd (Hp.new hw5);have HR5:=hd (HR3.out.below ((btr hb4 hb5)));have HB5:Hid (Below w1.heap.size w1 w5):=HB3.out.trans (((btr hb4 hb5)).mono HB3.out.size);obtain⟨qr0,qr1,qr2,qr3,qr4,qr5,qr6,qr7,qr8,qr9,qr10⟩:=HQ5.out.c11;obtain⟨rr0,rr1,rr2,rr3,rr4,rr5,rr6,rr7,rr8,rr9,rr10⟩:=HR5.out.c11;have rff0:=HR5.out.frz 0;have rff1:=HR5.out.frz 1;have rff2:=HR5.out.frz 2;have rff3:=HR5.out.frz 3;have rff4:=HR5.out.frz 4;have rff5:=HR5.out.frz 5;have rff6:=HR5.out.frz 6;have rff7:=HR5.out.frz 7;have rff8:=HR5.out.frz 8;have rff9:=HR5.out.frz 9;have rff10:=HR5.out.frz 10;have hrc5:=hd (hrc.below hb5);have HZ:Hid (w3.heap.size≤w4.heap.size∧w1.heap.size≤w3.heap.size):=⟨hb4.size,HB3.out.size⟩
 have k11:=Co.set11_keep w5 R (.int .i64 c.k) (.int .i64 c.n) (.string c.s) (.int .i64 c.d.k) (.int .i64 c.d.n) (.string c.d.s) (.slice i1 j1 l1) (.slice i2 j2 l2) (.slice i3 j3 l3) (.slice i4 j4 l4) (.slice i5 j5 l5);have HF:Hid (Co.Rep (fun k=>w.heap.size≤k) (Co.set11 w5 R (.int .i64 c.k) (.int .i64 c.n) (.string c.s) (.int .i64 c.d.k) (.int .i64 c.d.n) (.string c.d.s) (.slice i1 j1 l1) (.slice i2 j2 l2) (.slice i3 j3 l3) (.slice i4 j4 l4) (.slice i5 j5 l5)) c (.slice i1 j1 l1) (.slice i2 j2 l2) (.slice i3 j3 l3) (.slice i4 j4 l4) (.slice i5 j5 l5)∧Below w.heap.size w (Co.set11 w5 R (.int .i64 c.k) (.int .i64 c.n) (.string c.s) (.int .i64 c.d.k) (.int .i64 c.d.n) (.string c.d.s) (.slice i1 j1 l1) (.slice i2 j2 l2) (.slice i3 j3 l3) (.slice i4 j4 l4) (.slice i5 j5 l5))):=by
  have h0:=HN.out;have h1:=HZ.out;have hbw:Below w.heap.size w w5:=btr HB1.out HB5.out;refine⟨Co.Rep.mono (fun b hb _=>by omega) c (Co.Rep.keep k11 (fun b hb _ e=>by omega) c hrc5.out),hbw.trans (k11.to_below (fun k e=>by omega) hbw.size)⟩
 clear hof hrc hb4 hb5 hs5 k11;go_wp2;refine bodyPost_ret (v:= .agg #[.int .i64 c.k,.int .i64 c.n,.string c.s,.int .i64 c.d.k,.int .i64 c.d.n,.string c.d.s,.slice i1 j1 l1,.slice i2 j2 l2,.slice i3 j3 l3,.slice i4 j4 l4,.slice i5 j5 l5]) (by simp[results,Tryz.results32,go_sem, *]) rfl ?_;rw[hc];exact⟨_,_,_,_,_,rfl,HF.out.1,HF.out.2⟩
theorem coReadA_any(w:World):
  Calls Tryz.prog 32 #[.string ⟨#[40,108,97,109,98,100,97,32,40,49,41,32,40,99,97,108,108,32,40,103,108,111,98,97,108,32,99,97,114,41,32,40,108,111,99,97,108,32,49,41,41,41]⟩] w fun e w'=>∃um ul ut up uk,e= .returned (Co.V (Co.awE 1) um ul ut up uk)∧Co.Rep (fun k=>w.heap.size≤k) w' (Co.awE 1) um ul ut up uk∧Below w.heap.size w w':=
 coRead_any Co.awTA _ (Co.awD 1) (Co.awE 1) 30 9 w (by decide) Co.aw_lexA (fun h=>by have:=Co.aw_lenA;rw[h]at this;cases this) (by rw[Co.aw_lenA];decide) Co.aw_rdA (Co.aw_wf 1 (by decide)) Co.aw_ckA (Co.aw_fine 1) Co.aw_gdA Co.aw_eqA (Co.aw_cwf 1 (by decide)) (fun h=>by have:=Co.aw_allA;rw[Co.aw_eqA,h]at this;cases this)
theorem coReadB_any(w:World):
  Calls Tryz.prog 32 #[.string ⟨#[40,108,97,109,98,100,97,32,40,50,41,32,40,99,97,108,108,32,40,103,108,111,98,97,108,32,99,97,114,41,32,40,108,111,99,97,108,32,50,41,41,41]⟩] w fun e w'=>∃um ul ut up uk,e= .returned (Co.V (Co.awE 2) um ul ut up uk)∧Co.Rep (fun k=>w.heap.size≤k) w' (Co.awE 2) um ul ut up uk∧Below w.heap.size w w':=
 coRead_any Co.awTB _ (Co.awD 2) (Co.awE 2) 30 9 w (by decide) Co.aw_lexB (fun h=>by have:=Co.aw_lenB;rw[h]at this;cases this) (by rw[Co.aw_lenB];decide) Co.aw_rdB (Co.aw_wf 2 (by decide)) Co.aw_ckB (Co.aw_fine 2) Co.aw_gdB Co.aw_eqB (Co.aw_cwf 2 (by decide)) (fun h=>by have:=Co.aw_allB;rw[Co.aw_eqB,h]at this;cases this)
theorem coAwake_any(w:World):
  Calls Tryz.prog 8 #[] w fun e w'=>e= .returned (.bool true)∧Below w.heap.size w w':=by
 go_enter Tryz.func8,Tryz.ntmps8;go_wp2_with fail
 refine(coReadA_any w).mono ?_;rintro e w1 ⟨a1,a2,a3,a4,a5,rfl,hra,hb1⟩;obtain⟨A,hA⟩:∃A,Co.awE 1=A:=⟨_,rfl⟩
 rw[hA]at hra ⊢;obtain⟨ba1,na1,qa1,ba2,na2,qa2,ba3,na3,qa3,ba4,na4,qa4,ba5,na5,qa5,rfl,rfl,rfl,rfl,rfl⟩:=hra.forms5;unfold Co.V;go_wp2_with fail
 refine(coReadB_any w1).mono ?_;rintro e w2 ⟨a1,a2,a3,a4,a5,rfl,hrb,hb2⟩;obtain⟨B,hB⟩:∃B,Co.awE 2=B:=⟨_,rfl⟩
 rw[hB]at hrb ⊢;obtain⟨bb1,nb1,qb1,bb2,nb2,qb2,bb3,nb3,qb3,bb4,nb4,qb4,bb5,nb5,qb5,rfl,rfl,rfl,rfl,rfl⟩:=hrb.forms5;unfold Co.V;have hra2:=hra.below hb2;have HB2:Hid (Below w.heap.size w w2):=btr hb1 hb2;go_wp2_with fail
 obtain⟨w3,hw3⟩:∃w3,w2.alloc (.cells #[.int .i64 A.k,.int .i64 A.n,.string A.s,.int .i64 A.d.k,.int .i64 A.d.n,.string A.d.s,.slice ba1 na1 qa1,.slice ba2 na2 qa2,.slice ba3 na3 qa3,.slice ba4 na4 qa4,.slice ba5 na5 qa5] 28)=w3:=⟨_,rfl⟩
 obtain⟨w4,hw4⟩:∃w4,w3.alloc (.cells #[.int .i64 B.k,.int .i64 B.n,.string B.s,.int .i64 B.d.k,.int .i64 B.d.n,.string B.d.s,.slice bb1 nb1 qb1,.slice bb2 nb2 qb2,.slice bb3 nb3 qb3,.slice bb4 nb4 qb4,.slice bb5 nb5 qb5] 28)=w4:=⟨_,rfl⟩
 obtain⟨hb3,hs3⟩:=new_below hw3;obtain⟨hb4,hs4⟩:=new_below hw4;have hqa:=(Hp.new hw3).below hb4;have hqb:=Hp.new hw4;rw[hs3]at hqb;have HQA:=hd hqa;have HQB:=hd hqb;have HB24:Hid (Below w2.heap.size w2 w4):=btr hb3 hb4;have HRA:=hd (hra2.below HB24.out);have HRB:=hd (hrb.below HB24.out);have HWA:Hid (Co.Wf A):=hd (by rw[←hA];exact Co.aw_cwf 1 (by decide));have HWB:Hid (Co.Wf B):=hd (by rw[←hB];exact Co.aw_cwf 2 (by decide));have HF:Hid (Co.datumC A=(Co.awD 1,0)∧Co.check A []=0∧Co.alike A B=true∧Co.same A B=false∧Co.globV A=[[99,97,114]]):=hd (by
  rw[←hA,←hB,←Co.aw_eqA,←Co.aw_eqB];exact⟨Co.aw_datum,Co.aw_check,Co.aw_alike,Co.aw_same,Co.aw_glob⟩)
 have hdt:=coDatum_any A _ _ _ _ _ w4 HWA.out HRA.out;rw[HF.out.1]at hdt;clear hra hb1 hb2 hra2 hrb hb3 hb4 hs3 hs4 hqa hqb hA hB;unfold Co.V at hdt;rw[hw3,hw4];refine hdt.mono ?_;rintro e w5 ⟨d1,d2,d3,rfl,hrd,hb5⟩;obtain⟨bd1,nd1,qd1,bd2,nd2,qd2,bd3,nd3,qd3,rfl,rfl,rfl⟩:=hrd.forms;obtain⟨D,hD⟩:∃D,Co.awD 1=D:=⟨_,rfl⟩
 simp only at hrd ⊢;rw[hD]at hrd ⊢;clear hdt hw3 hw4;have HQA5:=hd (HQA.out.below hb5);have HQB5:=hd (HQB.out.below hb5);have HRA5:=hd (HRA.out.below hb5);have HRB5:=hd (HRB.out.below hb5);have HB5:Hid (Below w.heap.size w w5):=HB2.out.trans (((btr HB24.out hb5)).mono HB2.out.size);obtain⟨w6,hw6⟩:∃w6,w5.alloc (.cells #[.int .i64 D.k,.int .i64 D.n,.string D.s,.slice bd1 nd1 qd1,.slice bd2 nd2 qd2,.slice bd3 nd3 qd3] 25)=w6:=⟨_,rfl⟩
 obtain⟨hb6,hs6⟩:=new_below hw6;have HQD:=hd (Hp.new hw6);have HQA6:=hd (HQA5.out.below hb6);have HQB6:=hd (HQB5.out.below hb6);have HRA6:=hd (HRA5.out.below hb6);have HRB6:=hd (HRB5.out.below hb6);have HB6:Hid (Below w.heap.size w w6):=btr HB5.out hb6;have hsz:=rSize_any D _ _ _ w6 (by rw[←hD];exact Co.aw_wf 1 (by decide)) (hrd.below hb6);rw[show((Cd.sizeD D:Nat):Int)=12 by rw[←hD,Co.aw_size];rfl]at hsz;obtain⟨xa0,xa1,xa2,xa3,xa4,xa5,xa6,xa7,xa8,xa9,xa10⟩:=HQA6.out.c11;obtain⟨xb0,xb1,xb2,xb3,xb4,xb5,xb6,xb7,xb8,xb9,xb10⟩:=HQB6.out.c11;obtain⟨xd0,xd1,xd2,xd3,xd4,xd5⟩:=HQD.out.c6;clear hb5 hrd hb6 hs6;go_wp2_with fail
 refine hsz.mono ?_;rintro e w7 ⟨rfl,hb7⟩;clear xa0 xa1 xa2 xa3 xa4 xa5 xa6 xa7 xa8 xa9 xa10 xb0 xb1 xb2 xb3 xb4 xb5 xb6 xb7 xb8 xb9 xb10 xd0 xd1 xd2 xd3 xd4 xd5;have HQA7:=hd (HQA6.out.below hb7);have HQB7:=hd (HQB6.out.below hb7);have HRA7:=hd (HRA6.out.below hb7);have HRB7:=hd (HRB6.out.below hb7);have HB7:Hid (Below w.heap.size w w7):=btr HB6.out hb7;obtain⟨xa0,xa1,xa2,xa3,xa4,xa5,xa6,xa7,xa8,xa9,xa10⟩:=HQA7.out.c11;obtain⟨xb0,xb1,xb2,xb3,xb4,xb5,xb6,xb7,xb8,xb9,xb10⟩:=HQB7.out.c11;clear hsz hb7 HQA6 HQB6 HRA6 HRB6 HB6;have hck:=checkC_any (F':=fun _=>False) A _ _ _ _ _ (.slice none 0 0) [] w7 HWA.out HRA7.out ⟨none,0,rfl,by decide,fun h=>absurd rfl h⟩ (by decide) (by simp);rw[HF.out.2.1]at hck;unfold Co.V at hck;go_wp2_with fail
 refine hck.mono ?_;rintro e w8 ⟨rfl,hb8⟩;clear xa0 xa1 xa2 xa3 xa4 xa5 xa6 xa7 xa8 xa9 xa10 xb0 xb1 xb2 xb3 xb4 xb5 xb6 xb7 xb8 xb9 xb10;have HQA8:=hd (HQA7.out.below hb8);have HQB8:=hd (HQB7.out.below hb8);have HRA8:=hd (HRA7.out.below hb8);have HRB8:=hd (HRB7.out.below hb8);have HB8:Hid (Below w.heap.size w w8):=btr HB7.out hb8;obtain⟨xa0,xa1,xa2,xa3,xa4,xa5,xa6,xa7,xa8,xa9,xa10⟩:=HQA8.out.c11;obtain⟨xb0,xb1,xb2,xb3,xb4,xb5,xb6,xb7,xb8,xb9,xb10⟩:=HQB8.out.c11;clear hck hb8 HQA7 HQB7 HRA7 HRB7 HB7;have hal:=coAlike_any A B _ _ _ _ _ _ _ _ _ _ w8 HWA.out HWB.out HRA8.out HRB8.out;rw[HF.out.2.2.1]at hal;unfold Co.V at hal;go_wp2_with fail
 refine hal.mono ?_;rintro e w9 ⟨rfl,hb9⟩;clear xa0 xa1 xa2 xa3 xa4 xa5 xa6 xa7 xa8 xa9 xa10 xb0 xb1 xb2 xb3 xb4 xb5 xb6 xb7 xb8 xb9 xb10;have HQA9:=hd (HQA8.out.below hb9);have HQB9:=hd (HQB8.out.below hb9);have HRA9:=hd (HRA8.out.below hb9);have HRB9:=hd (HRB8.out.below hb9);have HB9:Hid (Below w.heap.size w w9):=btr HB8.out hb9;obtain⟨xa0,xa1,xa2,xa3,xa4,xa5,xa6,xa7,xa8,xa9,xa10⟩:=HQA9.out.c11;obtain⟨xb0,xb1,xb2,xb3,xb4,xb5,xb6,xb7,xb8,xb9,xb10⟩:=HQB9.out.c11;clear hal hb9 HQA8 HQB8 HRA8 HRB8 HB8;have hsm:=coSame_any A B _ _ _ _ _ _ _ _ _ _ w9 HWA.out HWB.out HRA9.out HRB9.out;rw[HF.out.2.2.2.1]at hsm;unfold Co.V at hsm;go_wp2_with fail
 refine hsm.mono ?_;rintro e w10 ⟨rfl,hb10⟩;clear xa0 xa1 xa2 xa3 xa4 xa5 xa6 xa7 xa8 xa9 xa10 xb0 xb1 xb2 xb3 xb4 xb5 xb6 xb7 xb8 xb9 xb10;have HQA10:=hd (HQA9.out.below hb10);have HQB10:=hd (HQB9.out.below hb10);have HRA10:=hd (HRA9.out.below hb10);have HRB10:=hd (HRB9.out.below hb10);have HB10:Hid (Below w.heap.size w w10):=btr HB9.out hb10;obtain⟨xa0,xa1,xa2,xa3,xa4,xa5,xa6,xa7,xa8,xa9,xa10⟩:=HQA10.out.c11;obtain⟨xb0,xb1,xb2,xb3,xb4,xb5,xb6,xb7,xb8,xb9,xb10⟩:=HQB10.out.c11;clear hsm hb10 HQA9 HQB9 HRA9 HRB9 HB9;have hgl:=globC_any A _ _ _ _ _ w10 HWA.out HRA10.out;rw[HF.out.2.2.2.2]at hgl;unfold Co.V at hgl;go_wp2_with fail
 refine hgl.mono ?_;rintro e w11 ⟨v,rfl,hrow,hb11⟩;clear xa0 xa1 xa2 xa3 xa4 xa5 xa6 xa7 xa8 xa9 xa10 xb0 xb1 xb2 xb3 xb4 xb5 xb6 xb7 xb8 xb9 xb10;clear hgl;have HB11:Hid (Below w.heap.size w w11):=btr HB10.out hb11;have HROW:=hd hrow;clear hb11 hrow;obtain⟨w12,hw12⟩:∃w12,w11.alloc (.cells #[.string ⟨#[99,97,114]⟩] 9)=w12:=⟨_,rfl⟩
 obtain⟨hb12,hs12⟩:=new_below hw12;have hp12:=Hp.new hw12;have heq:=sEqual_any (G:=fun _=>True) v (.slice (some ⟨w11.heap.size,0,none⟩) 1 1) _ [⟨#[99,97,114]⟩] w12 (HROW.out.keep (keep_of_below (S:=fun _=>False) hb12) (fun _ _ _ h=>h)) ⟨_,1,rfl,by decide,fun _=>⟨_,0,rfl,trivial,by omega,fun j h=>by
  have h0:j=0:=by simp at h;exact h
  subst h0;exact hp12.cell 0 rfl⟩⟩ (by simp) (by simp)
 have HB12:Hid (Below w.heap.size w w12):=btr HB11.out hb12;have hdec:decide (([[99,97,114]]:List (List UInt8)).map (fun x=>(⟨x.toArray⟩:ByteArray))=[⟨#[99,97,114]⟩])=true:=by decide
 rw[hdec]at heq;clear hb12 hs12 hp12 hdec;go_wp2_with fail
 try rw[hw12]
 refine heq.mono ?_;rintro e w13 ⟨rfl,hb13⟩;have HB13:Hid (Below w.heap.size w w13):=btr HB12.out hb13;clear heq hb13 hw12;go_wp2;go_ret;exact⟨rfl,HB13.out⟩
namespace Co
theorem El.ofHp{w:World}{B:Nat}{cs:Array Value}{t:TypeId}(h:Hp w B cs t){o:Nat}{c:C}{vm vl vt vp vk:Value}(h0:cs[o]?=some (.int .i64 c.k))(h1:cs[o+1]?=some (.int .i64 c.n))(h2:cs[o+2]?=some (.string c.s))(h3:cs[o+3]?=some (.int .i64 c.d.k))(h4:cs[o+4]?=some (.int .i64 c.d.n))(h5:cs[o+5]?=some (.string c.d.s))(h6:cs[o+6]?=some vm)(h7:cs[o+7]?=some vl)(h8:cs[o+8]?=some vt)(h9:cs[o+9]?=some vp)(h10:cs[o+10]?=some vk):El w B o c vm vl vt vp vk:=
 ⟨h.cell _ h0,h.cell _ h1,h.cell _ h2,h.cell _ h3,h.cell _ h4,h.cell _ h5,h.cell _ h6,h.cell _ h7,h.cell _ h8,h.cell _ h9,h.cell _ h10⟩
end Co
theorem cloneInts3_any{F:Nat→Prop}(v:Value)(m:List Int)(w:World)(h:Dt.IRow F w v m)(hl:m.length≤1048576):
  Calls Tryz.prog 23 #[v] w fun e w'=>∃v',e= .returned v'∧w'.ownsRow w.heap.size 3 1 v' m.length (m.map (Value.int .i64))∧Below w.heap.size w w':=by
 have h0:=h;obtain⟨a,c,rfl,hc,_⟩:=h;have hsrc:=fun ha=>h0.src (a:=a) ha
 have hnil:a=none→m=[]:=fun ha=>by
  obtain⟨a',c',h1,h2,h3⟩:=h0;cases h1
  cases hm:m with
  |nil=>rfl
  |cons x r=>obtain⟨b,o,e,_⟩:=h3 (by rw[hm];simp);rw[ha]at e;cases e
 clear h0;have hn:=Lib.run_eql_slice_nil (P:=Tryz.prog) w 22 3 a m.length c 0 0 Tryz.underlying22
 cases a with
 |none=>
  obtain rfl:=hnil rfl;have hn':(binOp .eql 22 (.slice none 0 c) (.slice none 0 0)).run Tryz.prog w= .ok (.bool true) w:=hn;clear hsrc hnil hn;go_enter Tryz.func23,Tryz.ntmps23;go_wp2;go_ret;exact⟨_,rfl,World.ownsRow_nil _ _ _ _,Below.refl _ _⟩
 |some ad=>
  have hs:=hsrc (by simp);clear hsrc hnil;obtain⟨i1,hi1,hy0,hy1,hy2⟩:=info_parts Dt.infoI;have hm1:0+m.length≤maxLen:=by unfold maxLen;omega
  have hm2:(0+m.length)*8≤140737488355328:=by omega
  obtain⟨wA,hwA⟩:∃wA,w.alloc (.cells #[] 3)=wA:=⟨_,rfl⟩
  have hb:Below w.heap.size w wA:=by rw[←hwA];exact(Below.refl _ _).alloc (Nat.le_refl _) _
  have hown:wA.ownsRow w.heap.size 3 1 (.slice (some ⟨w.heap.size,0,none⟩) 0 0) 0 []:=by rw[←hwA];exact World.ownsRow_made w #[] 0 (Nat.le_refl _) (by decide) (by simp)
  have hsA:Ap.Src wA (.slice (some ad) m.length c) m.length (m.map (Value.int .i64)):=by
   rcases hs with⟨h1,_⟩|⟨ad',c',h1,h2⟩
   ·cases h1
   ·refine .inr ⟨ad',c',h1,fun j u hu=> ?_⟩;have hc:=h2 j u hu;exact(hb.cell (World.block_lt_of_cell? w _ hc)).trans hc
  have HS:=hd hsA;have HO:=hd hown;have HB:=hd hb;clear hs hsA hown hb;go_enter Tryz.func23,Tryz.ntmps23;go_wp2_with(at_builtin;refine Ap.list rfl _ _ 22 rfl w.heap.size 3 i1 (.int .i64 0) 1 8 Tryz.underlying22 hi1 hy0 hy1 hy2 rfl (by decide) (.slice (some ⟨w.heap.size,0,none⟩) 0 0) 0 [] rfl HO.out (.slice (some ad) m.length c) m.length (m.map (Value.int .i64)) rfl HS.out (by simp) (by intro u hu;obtain⟨x,_,rfl⟩:=List.mem_map.1 hu;rfl) hm1 hm2 HB.out.size ?_;intro v' w5 hown hg hat;obtain⟨a5,c5,rfl⟩:=Dt.row_form hown)
  go_ret;simp only[Nat.zero_add,List.nil_append]at hown;exact⟨_,rfl,hown,Dt.grown_below HB.out hg (Nat.le_refl _) (fun k hk=>by cases hk;exact Nat.le_refl _)⟩
namespace Co
theorem srcOne{w wD:World}{a:Value}{t:TypeId}(hw:w.alloc (.cells #[a] t)=wD):Ap.Src wD (.slice (some ⟨w.heap.size,0,none⟩) 1 1) 1 [a]:=
 .inr ⟨_,_,rfl,fun z u hu=>by
  rw[Addr.add_mid,Nat.zero_add];have h2:#[a][z]?=some u:=by rw[←hu];simp
  exact(Hp.new hw).cell z h2⟩
theorem src_below{w w':World}{v:Value}{n:Nat}{l:List Value}(h:Ap.Src w v n l)(hb:Below w.heap.size w w'):Ap.Src w' v n l:=by
 rcases h with h|⟨ad,c,h1,h2⟩
 ·exact .inl h
 ·refine .inr ⟨ad,c,h1,fun j u hu=> ?_⟩;have hc:=h2 j u hu;exact(hb.cell (World.block_lt_of_cell? w _ hc)).trans hc
theorem idx_contains{l:List Int}{s x:Int}(h:IdxIs l s x):decide (0≤x)=l.contains s:=by
 rcases h with⟨rfl,h⟩|⟨k,rfl,hk,h1,-⟩
 ·have h2:l.contains s=false:=by simpa using h
  rw[h2]
  rfl
 ·have h2:l.contains s=true:=by
   have:=List.getElem_mem hk;rw[h1]at this;simpa using this
  rw[h2];exact decide_eq_true (by omega)
end Co
theorem containsI_any{F:Nat→Prop}(v:Value)(l:List Int)(s:Int)(w:World)(h:Dt.IRow F w v l)(hl:l.length≤140737488355328):
  Calls Tryz.prog 22 #[v,.int .i64 s] w fun e w'=>e= .returned (.bool (l.contains s))∧w=w':=by
 have hix:=indexI_any v l s w h hl;clear h hl;go_enter Tryz.func22,Tryz.ntmps22;go_wp2_with fail
 refine hix.mono ?_;rintro e w1 ⟨⟨x,rfl,hx⟩,rfl⟩;have HX:=hd hx;clear hx hix;go_wp2;go_ret;refine⟨?_,rfl⟩;have h:decide (0≤x)=l.contains s:=Co.idx_contains HX.out;show Ending.returned (.bool (decide (0≤x)))=_;rw[h]
end Go.Proofs.YtfjmlfbohenmfaaGreat
namespace Go.Proofs.YtfjmlfbohenmfaaGreat
namespace Co
open Dt (D)
theorem here_bound{c:C}{deep:Nat}{win bd:List Int}{top:Bool}{cnt:Nat}{more:Int}(win' bd':List Int)(hw:∀x∈win,x∈win')(hm:more∈bd')(hp:more∈c.p)(h:here false c deep win top cnt bd=0):here false c deep win' top cnt bd'=70:=by
 obtain⟨h3,h4,h5⟩:=here_ok h;unfold here at h ⊢;split at h
 ·cases h
 rename_i h1;rw[if_neg h1];split at h
 ·cases h
 rename_i h2;rw[if_neg h2];split at h
 ·cases h
 rename_i h6;rw[if_neg h6,if_neg (fun e=>by
  have:=hw _ (h4 e.1 rfl);have h8:win'.contains c.n=true:=by simpa using this
  rw[h8]at e;exact absurd e.2.2 (by decide)),if_pos (List.any_eq_true.2 ⟨more,hp,by simpa using hm⟩)]
theorem inner_more{k:Int}{p win win':List Int}(h:∀x∈win,x∈win'):∀x∈inner k p win,x∈inner k p win':=fun x hx=>by
 unfold inner at hx ⊢;split at hx
 ·rename_i hk;rw[if_pos hk];rcases List.mem_append.1 hx with hx|hx
  ·exact List.mem_append_left _ (h x hx)
  ·exact List.mem_append_right _ hx
 ·rename_i hk;rw[if_neg hk];exact h x hx
def binds(more:Int)(l:List C):Bool:=l.any fun x=>x.p.contains more
theorem binds_app(more:Int)(a b:List C):binds more (a++b)=(binds more a||binds more b):=by unfold binds;rw[List.any_append]
def More(more:Int)(b:Bool)(r:Nat×List Int)(q:Int×Nat×List Int):Prop:=(b=false→q.1=0∧q.2.1=r.1∧∀x,x∈q.2.2↔x∈r.2∨x=more)∧(b=true→q.1=70)
mutual
theorem goes_more(more:Int):∀(c:C) {deep:Nat} {win win':List Int} {top:Bool} {cnt:Nat} {bd bd':List Int} {r:Nat×List Int},goes false c deep win top cnt bd=(0,r)→(∀x∈win,x∈win')→(∀x,x∈bd'↔x∈bd∨x=more)→
  More more (binds more (parts c)) r (goes false c deep win' top cnt bd')
 | .mk k n s d p l,deep,win,win',top,cnt,bd,bd',r,h,hw,hb=>by
  obtain⟨h1,h2⟩:=goes_ok h;have e:binds more (parts (.mk k n s d p l))=(p.contains more||binds more (partsL l)):=by
   rw[parts];unfold binds;rw[List.any_cons]
   rfl
  rw[e];by_cases hp:more∈p
  ·have h3:=here_bound (c:= .mk k n s d p l) win' bd' hw ((hb more).2 (.inr rfl)) hp h1;have h4:p.contains more=true:=by simpa using hp
   rw[h4,goes,if_pos (by rw[h3];decide),h3];exact⟨fun h=>by simp at h,fun _=>rfl⟩
  ·have h3:=here_more (c:= .mk k n s d p l) win' bd' hw (fun x hx=>(hb x).1 hx) hp h1;have h4:p.contains more=false:=by simpa using hp
   rw[h4,Bool.false_or,goes,if_neg (by rw[h3];decide)];refine goesL_more more l h2 (inner_more hw) (fun x=> ?_);rw[List.mem_append,List.mem_append,hb x];constructor
   ·rintro((h|h)|h)
    ·exact .inl (.inl h)
    ·exact .inr h
    ·exact .inl (.inr h)
   ·rintro((h|h)|h)
    ·exact .inl (.inl h)
    ·exact .inr h
    ·exact .inl (.inr h)
theorem goesL_more(more:Int):∀(l:List C) {deep:Nat} {win win':List Int} {top:Bool} {cnt:Nat} {bd bd':List Int} {r:Nat×List Int},goesL false l deep win top cnt bd=(0,r)→(∀x∈win,x∈win')→(∀x,x∈bd'↔x∈bd∨x=more)→
  More more (binds more (partsL l)) r (goesL false l deep win' top cnt bd')
 |[],deep,win,win',top,cnt,bd,bd',r,h,hw,hb=>by
  rw[goesL]at h;cases h;rw[goesL,partsL];exact⟨fun _=>⟨rfl,rfl,hb⟩,fun h=>(by cases h)⟩
 |c :: l,deep,win,win',top,cnt,bd,bd',r,h,hw,hb=>by
  obtain⟨q,h1,h2⟩:=goesL_ok h;obtain⟨i1,i2⟩:=goes_more more c h1 hw hb;rw[partsL,binds_app,goesL]
  cases hc:binds more (parts c)with
  |true=>
   have:=i2 hc;rw[if_pos (by rw[this];decide),Bool.true_or];exact⟨fun h=>(by cases h),fun _=>this⟩
  |false=>
   obtain⟨j1,j2,j3⟩:=i1 hc;rw[if_neg (by rw[j1];decide),Bool.false_or,j2];exact goesL_more more l h2 hw j3
end
theorem within_more{c:C}{win:List Int}(more:Int)(h:check c win=0):check c (win++[more])=if binds more (parts c)then 70 else 0:=by
 have h1:goes false c 1 win true 0 win=(0,(goes false c 1 win true 0 win).2):=Prod.ext h rfl;obtain⟨i1,i2⟩:=goes_more more c (win':=win++[more]) (bd':=win++[more]) h1 (fun x hx=>List.mem_append_left _ hx) (fun x=>by simp);unfold check
 cases hb:binds more (parts c)with
 |true=>rw[i2 hb];rfl
 |false=>rw[(i1 hb).1];rfl
end Co
namespace Co
open Dt (D)
theorem here_less{opn:Bool}{c:C}{deep:Nat}{win bd:List Int}{top:Bool}{cnt:Nat}(win' bd':List Int)(hw:opn=true∨((c.k=2∨c.k=4)→c.n∈win'))(hb:∀x∈bd',x∈bd)(h:here false c deep win top cnt bd=0):here opn c deep win' top cnt bd'=0:=by
 obtain⟨h3,h4,h5⟩:=here_ok h;unfold here at h ⊢;split at h
 ·cases h
 rename_i h1;rw[if_neg h1];split at h
 ·cases h
 rename_i h2;rw[if_neg h2];split at h
 ·cases h
 rename_i h6;rw[if_neg h6,if_neg (fun e=>by
  rcases hw with hw|hw
  ·rw[hw]at e;exact absurd e.2.1 (by decide)
  ·have h8:win'.contains c.n=true:=by simpa using hw e.1
   rw[h8]at e;exact absurd e.2.2 (by decide)),if_neg (fun e=>by
  obtain⟨x,hx,hxb⟩:=List.any_eq_true.1 e;exact h5 x hx (hb x (by simpa using hxb)))]
mutual
theorem goes_less(opn:Bool):∀(c:C) {deep:Nat} {win win0 win':List Int} {top:Bool} {cnt:Nat} {bd bd':List Int} {r:Nat×List Int},goes false c deep win top cnt bd=(0,r)→(∀x∈bd',x∈bd)→(opn=true∨((∀x∈win0,x∈win')∧∀x∈frees c win0,x∈win'))→
  ∃bq,goes opn c deep win' top cnt bd'=(0,r.1,bq)∧∀x∈bq,x∈r.2
 | .mk k n s d p l,deep,win,win0,win',top,cnt,bd,bd',r,h,hb,hw=>by
  obtain⟨h1,h2⟩:=goes_ok h;have h3:here opn (.mk k n s d p l) deep win' top cnt bd'=0:=here_less win' bd' (hw.imp id (fun hw hk=>by
   by_cases hm:n∈win0
   ·exact hw.1 _ hm
   ·refine hw.2 _ ?_;have h8:win0.contains n=false:=by simpa using hm
    rw[frees,if_pos ⟨hk,h8⟩];exact List.mem_append_left _ (List.mem_singleton.2 rfl))) hb h1
  rw[goes,if_neg (by rw[h3];decide)];refine goesL_less opn l (win0:=inner k p win0) h2 (fun x hx=> ?_) (hw.imp id (fun hw=>⟨inner_more hw.1,fun x hx=> ?_⟩))
  ·rcases List.mem_append.1 hx with hx|hx
   ·exact List.mem_append_left _ (hb x hx)
   ·exact List.mem_append_right _ hx
  ·have h9:x∈win':=hw.2 x (by rw[frees];exact List.mem_append_right _ hx);unfold inner;split
   ·exact List.mem_append_left _ h9
   ·exact h9
theorem goesL_less(opn:Bool):∀(l:List C) {deep:Nat} {win win0 win':List Int} {top:Bool} {cnt:Nat} {bd bd':List Int} {r:Nat×List Int},goesL false l deep win top cnt bd=(0,r)→(∀x∈bd',x∈bd)→(opn=true∨((∀x∈win0,x∈win')∧∀x∈freesL l win0,x∈win'))→
  ∃bq,goesL opn l deep win' top cnt bd'=(0,r.1,bq)∧∀x∈bq,x∈r.2
 |[],_,_,_,_,_,_,_,bd',r,h,hb,_=>by
  rw[goesL]at h;cases h;rw[goesL];exact⟨bd',rfl,hb⟩
 |c :: l,deep,win,win0,win',top,cnt,bd,bd',r,h,hb,hw=>by
  obtain⟨q,h1,h2⟩:=goesL_ok h;obtain⟨b1,e1,i1⟩:=goes_less opn c (win0:=win0) (win':=win') h1 hb (hw.imp id (fun hw=>⟨hw.1,fun x hx=>hw.2 x (by rw[freesL];exact List.mem_append_left _ hx)⟩));obtain⟨b2,e2,i2⟩:=goesL_less opn l (win0:=win0) (win':=win') h2 i1 (hw.imp id (fun hw=>⟨hw.1,fun x hx=>hw.2 x (by rw[freesL];exact List.mem_append_right _ hx)⟩));refine⟨b2,?_,i2⟩;rw[goesL,e1,if_neg (by simp)];exact e2
end
mutual
theorem frees_in:∀(c:C) {deep:Nat} {win win0 W:List Int} {top:Bool} {cnt:Nat} {bd:List Int} {r:Nat×List Int},goes false c deep win top cnt bd=(0,r)→(∀x∈win,x∈W∨x∈win0)→∀x∈frees c win0,x∈W
 | .mk k n s d p l,deep,win,win0,W,top,cnt,bd,r,h,hw=>by
  obtain⟨h1,h2⟩:=goes_ok h;obtain⟨h3,h4,h5⟩:=here_ok h1;intro x hx;rw[frees]at hx;rcases List.mem_append.1 hx with hx|hx
  ·split at hx
   ·rename_i hk;obtain rfl:=List.mem_singleton.1 hx;rcases hw x (h4 hk.1 rfl)with h6|h6
    ·exact h6
    ·have h8:win0.contains x=true:=by simpa using h6
     rw[h8]at hk;exact absurd hk.2 (by decide)
   ·cases hx
  ·refine freesL_in l (win0:=inner k p win0) h2 (fun y hy=> ?_) x hx;unfold inner at hy ⊢;split at hy
   ·rename_i hk;rw[if_pos hk];rcases List.mem_append.1 hy with hy|hy
    ·exact(hw y hy).imp id (List.mem_append_left _)
    ·exact .inr (List.mem_append_right _ hy)
   ·rename_i hk;rw[if_neg hk];exact hw y hy
theorem freesL_in:∀(l:List C) {deep:Nat} {win win0 W:List Int} {top:Bool} {cnt:Nat} {bd:List Int} {r:Nat×List Int},goesL false l deep win top cnt bd=(0,r)→(∀x∈win,x∈W∨x∈win0)→∀x∈freesL l win0,x∈W
 |[],_,_,_,_,_,_,_,_,_,_=>by
  intro x hx;rw[freesL]at hx;cases hx
 |c :: l,deep,win,win0,W,top,cnt,bd,r,h,hw=>by
  obtain⟨q,h1,h2⟩:=goesL_ok h;intro x hx;rw[freesL]at hx;rcases List.mem_append.1 hx with hx|hx
  ·exact frees_in c h1 hw x hx
  ·exact freesL_in l h2 hw x hx
end
theorem all_within{c:C}{win:List Int}(hW:Wf c)(h:check c win=0):all c=parts c∧outE c=0:=by
 have h1:goes false c 1 win true 0 win=(0,(goes false c 1 win true 0 win).2):=Prod.ext h rfl;obtain⟨b1,e1,-⟩:=goes_less true c (win0:=[]) (win':=[]) (bd':=[]) h1 (fun _ h=>by cases h) (.inl rfl);have h2:openE c=0:=by unfold openE;rw[e1]
 obtain⟨-,-,-,hm⟩:=free_facts h2 hW;have hmem:∀x,x∈frees c []↔x∈free c [] []:=fun x=>by
  have:=hm x;constructor
  ·intro hx;have h3:(frees c []).contains x=true:=by simpa using hx
   rw[this]at h3;simpa using h3
  ·intro hx;have h3:(free c [] []).contains x=true:=by simpa using hx
   rw[←this]at h3;simpa using h3
 have hin:∀x∈free c [] [],x∈win:=fun x hx=>frees_in c (win0:=[]) h1 (fun _ h=> .inl h) x ((hmem x).2 hx)
 obtain⟨b2,e2,-⟩:=goes_less false c (win0:=[]) (win':=free c [] []) (bd':=free c [] []) h1 hin (.inr ⟨fun _ h=>(by cases h),fun x hx=>(hmem x).1 hx⟩);have h3:check c (free c [] [])=0:=by unfold check;rw[e2]
 refine⟨by unfold all;rw[if_pos ⟨h2,h3⟩],?_⟩;unfold outE;rw[if_neg (by rw[h2];simp)];exact h3
end Co
end Go.Proofs.YtfjmlfbohenmfaaGreat
namespace Go.Proofs.YtfjmlfbohenmfaaGreat
open Go.RowKit
attribute [local go_sem] Oper.semAt_some
namespace Co
def LBs(w:World)(L:Nat)(left:Int):Prop:=Hp w L #[.int .i64 left] 3
def SPost(L:Nat)(w:World)(e:Ending)(w':World):Prop:=∃b:Bool,e= .returned (.bool b)∧Keep (fun k=>k=L) w w'∧(b=true→∃l',LBs w' L l'∧0≤l'∧l'≤1000)
def SmallIs(L:Nat)(a:C):Prop:=∀(F:Nat→Prop) (vm vl vt vp vk:Value) (w:World) (left:Int),Wf a→(∀k,F k→k≠L)→Rep F w a vm vl vt vp vk→LBs w L left→0≤left→left≤1000→
  Calls Tryz.prog 34 #[V a vm vl vt vp vk,.pointer (some ⟨L,0,none⟩)] w (SPost L w)
structure QS(L:Nat)(a:C)(w:World)(A0:Nat)(F:Nat→Prop)(vm vl vt vp vk:Value)(wx:World):Prop where
 bx:Bc wx A0 a vm vl vt vp vk
 rp:Rep F wx a vm vl vt vp vk
 kp:Keep (fun k=>k=L) w wx
 ms:∃lj,LBs wx L lj∧0≤lj∧lj≤1000
end Co
theorem coLess_step(L:Nat)(a:Co.C)(hch:∀y∈a.l,Co.SmallIs L y):Co.SmallIs L a:=by
 intro F vm vl vt vp vk w left hWa hF hRa hLB hl0 hl1;obtain⟨b1,n1,q1,b2,n2,q2,b3,n3,q3,b4,n4,q4,b5,n5,q5,e1,e2,e3,e4,e5⟩:=Co.Rep.forms5 hRa;subst e1 e2 e3 e4 e5;unfold Co.V;obtain⟨w1,hw1⟩:∃w1,w.alloc (.cells #[.int .i64 a.k,.int .i64 a.n,.string a.s,.int .i64 a.d.k,.int .i64 a.d.n,.string a.d.s,.slice b1 n1 q1,.slice b2 n2 q2,.slice b3 n3 q3,.slice b4 n4 q4,.slice b5 n5 q5] 28)=w1:=⟨_,rfl⟩
 obtain⟨hb1,hs1⟩:=new_below hw1;have ha0:Co.Bc w1 w.heap.size a (.slice b1 n1 q1) (.slice b2 n2 q2) (.slice b3 n3 q3) (.slice b4 n4 q4) (.slice b5 n5 q5):=Hp.new hw1;have hll:L<w.heap.size:=hLB.lt;have hl2:Co.LBs w1 L left:=Hp.below hLB hb1;obtain⟨w3,hw3⟩:∃w3,w1.setCell ⟨L,0,none⟩ (.int .i64 (left - 1))=w3:=⟨_,rfl⟩
 have hk3:Keep (fun k=>k=L) w1 w3:=by rw[←hw3];exact set_keep _ _ _ _
 have hl3:Co.LBs w3 L (left - 1):=by
  rw[←hw3];exact Hp.set hl2 0 _
 have HA:Hid (Co.Bc w3 w.heap.size a (.slice b1 n1 q1) (.slice b2 n2 q2) (.slice b3 n3 q3) (.slice b4 n4 q4) (.slice b5 n5 q5)):=ha0.keep hk3 (by omega);have HKP:Hid (Keep (fun k=>k=L) w w3):=((Keep.refl _ w).below hb1).trans hk3;have HRP:Hid (Co.Rep F w3 a (.slice b1 n1 q1) (.slice b2 n2 q2) (.slice b3 n3 q3) (.slice b4 n4 q4) (.slice b5 n5 q5)):=Co.Rep.keep hk3 (fun k hk _=>hF k hk) a (hRa.below hb1);have HNOT:Hid (∀wx,Keep (fun k=>k=L) w wx→Co.SPost L w (.returned (.bool false)) wx):=fun wx hk=>⟨false,rfl,hk,fun h=>by cases h⟩
 have HX:Hid (Co.LBs w1 L left):=hl2;have x0:=HX.out.cell 0 rfl;have xf0:=HX.out.frz 0;have HY:Hid (Co.LBs w3 L (left - 1)):=hl3;have y0:=HY.out.cell 0 rfl;obtain⟨a0,a1,a2,a3,a4,a5,a6,a7,a8,a9,a10⟩:=HA.out.c11;have HCH:=hd hch;have HWA:=hd hWa;have HF:=hd hF;have hka:a.l.length≤140737488355328:=(Co.wf_parts hWa).2.2.2.2.2.1;clear hch hWa hF hRa hLB hb1 ha0 hl2 hk3 hl3 hs1;by_cases g1:left - 1<0
 ·have t1:decide (left - 1<0)=true:=decide_eq_true g1;have HR:=hd (HNOT.out w3 HKP.out);clear g1;go_enter Tryz.func34,Tryz.ntmps34;go_wp2;go_ret;exact HR.out
 have t1:decide (left - 1<0)=false:=decide_eq_false g1;by_cases g2:200<n4
 ·have t2:decide ((200:Int)<(n4:Int))=true:=decide_eq_true (by omega);have HR:=hd (HNOT.out w3 HKP.out);clear g2;go_enter Tryz.func34,Tryz.ntmps34;go_wp2;go_ret;exact HR.out
 have t2:decide ((200:Int)<(n4:Int))=false:=decide_eq_false (by omega);by_cases g3:400<n5
 ·have t3:decide ((400:Int)<(n5:Int))=true:=decide_eq_true (by omega);have HR:=hd (HNOT.out w3 HKP.out);clear g3;go_enter Tryz.func34,Tryz.ntmps34;go_wp2;go_ret;exact HR.out
 have t3:decide ((400:Int)<(n5:Int))=false:=decide_eq_false (by omega);by_cases g4:1000<a.s.size
 ·have t4:decide ((1000:Int)<(a.s.size:Int))=true:=decide_eq_true (by omega);have HR:=hd (HNOT.out w3 HKP.out);clear g4;go_enter Tryz.func34,Tryz.ntmps34;go_wp2;go_ret;exact HR.out
 have t4:decide ((1000:Int)<(a.s.size:Int))=false:=decide_eq_false (by omega);by_cases g5:1000<a.d.s.size
 ·have t5:decide ((1000:Int)<(a.d.s.size:Int))=true:=decide_eq_true (by omega);have HR:=hd (HNOT.out w3 HKP.out);clear g5;go_enter Tryz.func34,Tryz.ntmps34;go_wp2;go_ret;exact HR.out
 have t5:decide ((1000:Int)<(a.d.s.size:Int))=false:=decide_eq_false (by omega);by_cases g6:100<n1
 ·have t6:decide ((100:Int)<(n1:Int))=true:=decide_eq_true (by omega);have HR:=hd (HNOT.out w3 HKP.out);clear g6;go_enter Tryz.func34,Tryz.ntmps34;go_wp2;go_ret;exact HR.out
 have t6:decide ((100:Int)<(n1:Int))=false:=decide_eq_false (by omega);by_cases g7:300<n2
 ·have t7:decide ((300:Int)<(n2:Int))=true:=decide_eq_true (by omega);have HR:=hd (HNOT.out w3 HKP.out);clear g7;go_enter Tryz.func34,Tryz.ntmps34;go_wp2;go_ret;exact HR.out
 have t7:decide ((300:Int)<(n2:Int))=false:=decide_eq_false (by omega);by_cases g8:300<n3
 ·have t8:decide ((300:Int)<(n3:Int))=true:=decide_eq_true (by omega);have HR:=hd (HNOT.out w3 HKP.out);clear g8;go_enter Tryz.func34,Tryz.ntmps34;go_wp2;go_ret;exact HR.out
 have t8:decide ((300:Int)<(n3:Int))=false:=decide_eq_false (by omega);have HQ0:Hid (Co.QS L a w w.heap.size F (.slice b1 n1 q1) (.slice b2 n2 q2) (.slice b3 n3 q3) (.slice b4 n4 q4) (.slice b5 n5 q5) w3):=⟨HA.out,HRP.out,HKP.out,left - 1,HY.out,by omega,by omega⟩
 have hn5:n5=a.l.length:=by
  obtain⟨-,-,⟨_,_,he,-⟩⟩:=(Co.rep_iff _ _ _ _ _ _ _ _).1 HRP.out;injection he
 subst hn5;go_enter Tryz.func34,Tryz.ntmps34;go_wp2;clear x0 xf0 y0 t1 t2 t3 t4 t5 t6 t7 t8 g2 g3 g4 g5 g6 g7 g8 hw1 hw3 HKP HRP HX HY HA;clear a0 a1 a2 a3 a4 a5 a6 a7 a8 a9 a10
 go_loopw [65] (fun v wr=>∃j:Nat,v= .int .i64 j∧j≤a.l.length∧Hid (Co.QS L a w w.heap.size F (.slice b1 n1 q1) (.slice b2 n2 q2) (.slice b3 n3 q3) (.slice b4 n4 q4) (.slice b5 a.l.length q5) wr)) (fun v _=>a.l.length - (intOf v).toNat)
 case atStart=>exact⟨0,rfl,by omega,HQ0⟩
 case round=>
  clear HQ0;obtain⟨j,rfl,hj,HQ⟩:=hrel;by_cases hlt:j<a.l.length
  case neg=>
   have hge:(a.l.length:Int)≤(j:Int):=by omega
   have HE1:Hid (Co.SPost L w (.returned (.bool true)) wr):=⟨true,rfl,HQ.out.kp,fun _=>HQ.out.ms⟩
   go_wp2;go_ret;exact HE1.out
  have hlti:(j:Int)<(a.l.length:Int):=by omega
  obtain⟨hbx,hrp,hkp,lj,h1,h2,h3⟩:=HQ.out;have HBX:=hd hbx;have HRPX:=hd hrp;have HKPX:=hd hkp;obtain⟨-,-,⟨_,_,he,_,hrow⟩⟩:=(Co.rep_iff _ _ _ _ _ _ _ _).1 hrp;injection he with he1 he2 he3
  subst he1;clear he2 he3;obtain⟨ba,oa,rfl,hGa,hbla,hrepsa⟩:=hrow (by intro h0;rw[h0]at hlt;simp at hlt);obtain⟨xm,xl,xt,xp,xk,hela,hrx⟩:=hrepsa.at j hlt;have hWx:Co.Wf a.l[j]:=Co.Wfs.at (Co.wf_parts HWA.out).2.2.2.2.2.2 j hlt;have hchx:=HCH.out a.l[j] (List.getElem_mem hlt);obtain⟨x,hx⟩:∃x,a.l[j]=x:=⟨_,rfl⟩
  rw[hx]at hela hrx hWx hchx;obtain⟨c1,m1,p1,c2,m2,p2,c3,m3,p3,c4,m4,p4,c5,m5,p5,f1,f2,f3,f4,f5⟩:=Co.Rep.forms5 hrx;subst f1 f2 f3 f4 f5;obtain⟨wd,hwd⟩:∃wd,wr.alloc (.cells #[.int .i64 x.k,.int .i64 x.n,.string x.s,.int .i64 x.d.k,.int .i64 x.d.n,.string x.d.s,.slice c1 m1 p1,.slice c2 m2 p2,.slice c3 m3 p3,.slice c4 m4 p4,.slice c5 m5 p5] 28)=wd:=⟨_,rfl⟩
  obtain⟨hbd,hsd⟩:=new_below hwd;have hcall:=hchx F _ _ _ _ _ wd lj hWx HF.out (hrx.below hbd) (Hp.below h1 hbd) h2 h3;have HD:Hid (Co.Bc wd wr.heap.size x (.slice c1 m1 p1) (.slice c2 m2 p2) (.slice c3 m3 p3) (.slice c4 m4 p4) (.slice c5 m5 p5)):=Hp.new hwd;obtain⟨d0,d1,d2,d3,d4,d5,d6,d7,d8,d9,d10⟩:=HD.out.c11;unfold Co.V at hcall;obtain⟨e0,e1,e2,e3,e4,e5,e6,e7,e8,e9,e10⟩:=hela;have HBD:=hd hbd;have HLT:Hid (L<w.heap.size):=hll;clear hbx hrp hkp h1 h2 h3 hrow hrepsa hrx hWx hchx hx hbd hsd hll;go_wp2_with fail
  refine hcall.mono ?_;rintro e w9 ⟨R,rfl,hk9,ht9⟩;clear e0 e1 e2 e3 e4 e5 e6 e7 e8 e9 e10 hcall hwd;clear d0 d1 d2 d3 d4 d5 d6 d7 d8 d9 d10;have hkd:Keep (fun k=>k=L) wr w9:=(keep_of_below HBD.out).trans hk9;have HK9:Hid (Keep (fun k=>k=L) w w9):=HKPX.out.trans hkd
  cases R with
  |false=>
   have HR:=hd (HNOT.out w9 HK9.out);clear hk9 ht9 hkd;go_wp2;go_ret;exact HR.out
  |true=>
   have HL9:Hid (Co.QS L a w w.heap.size F (.slice b1 n1 q1) (.slice b2 n2 q2) (.slice b3 n3 q3) (.slice b4 n4 q4) (.slice (some ⟨ba,oa,none⟩) a.l.length q5) w9):=
    ⟨HBX.out.keep hkd (by have:=HLT.out;omega),Co.Rep.keep hkd (fun k hk _=>HF.out k hk) a HRPX.out,HK9.out,ht9 rfl⟩
   clear hk9 ht9 hkd;go_wp2;go_roundw
   case rel=>exact⟨j+1,by simp,by omega,HL9⟩
   case measure=>simp[intOf];omega
mutual
theorem coLess_any(L:Nat):∀a:Co.C,Co.SmallIs L a
 | .mk k n s d p l=>coLess_step L (.mk k n s d p l) (coLessL_any L l)
theorem coLessL_any(L:Nat):∀(l:List Co.C),∀y∈l,Co.SmallIs L y
 |[],_,h=>absurd h (by simp)
 |c :: r,y,h=>(List.mem_cons.1 h).elim (fun e=>by rw[e];exact coLess_any L c) (fun h'=>coLessL_any L r y h')
end
namespace Co
structure QW(w:World)(F:Nat→Prop)(v:Value)(l:List C)(wx:World):Prop where
 rw_:Row F wx v l
 bl:Below w.heap.size w wx
 ms:∃lj,LBs wx w.heap.size lj∧0≤lj∧lj≤1000
end Co
theorem coFew_any{F:Nat→Prop}(l:List Co.C)(v:Value)(w:World)(hWa:Co.Wfs l)(hF:∀k,F k→k<w.heap.size)(hln:l.length≤1000000)(hR:Co.Row F w v l):
  Calls Tryz.prog 9 #[v] w fun e w'=>∃b:Bool,e= .returned (.bool b)∧Below w.heap.size w w':=by
 obtain⟨a0,cap0,rfl,hcap,hrow0⟩:=hR;have hR:Co.Row F w (.slice a0 l.length cap0) l:=⟨a0,cap0,rfl,hcap,hrow0⟩
 obtain⟨w1,hw1⟩:∃w1,w.alloc (.cells #[.int .i64 1000] 3)=w1:=⟨_,rfl⟩
 obtain⟨hb1,hs1⟩:=new_below hw1;have hl1:Co.LBs w1 w.heap.size 1000:=Hp.new hw1;have HQ0:Hid (Co.QW w F (.slice a0 l.length cap0) l w1):=⟨hR.below hb1,hb1,1000,hl1,by decide,by decide⟩
 have HW:=hd hWa;have HF:=hd hF;clear hWa hF hR hb1 hs1 hl1 hrow0;go_enter Tryz.func9,Tryz.ntmps9;go_wp2
 go_loopw [8] (fun v wr=>∃j:Nat,v= .int .i64 j∧j≤l.length∧Hid (Co.QW w F (.slice a0 l.length cap0) l wr)) (fun v _=>l.length - (intOf v).toNat)
 case atStart=>exact⟨0,rfl,by omega,HQ0⟩
 case round=>
  clear HQ0 hw1;obtain⟨j,rfl,hj,HQ⟩:=hrel;by_cases hlt:j<l.length
  case neg=>
   have hge:(l.length:Int)≤(j:Int):=by omega
   have HE1:Hid (Below w.heap.size w wr):=HQ.out.bl;go_wp2;go_ret;exact⟨_,rfl,HE1.out⟩
  have hlti:(j:Int)<(l.length:Int):=by omega
  obtain⟨hrw,hbl,lj,h1,h2,h3⟩:=HQ.out;have HRW:=hd hrw;have HBL:=hd hbl;obtain⟨_,_,he,_,hrow⟩:=hrw;injection he with he1 he2 he3
  subst he1;clear he2 he3;obtain⟨ba,oa,rfl,hGa,hbla,hrepsa⟩:=hrow (by intro h0;rw[h0]at hlt;simp at hlt);obtain⟨xm,xl,xt,xp,xk,hela,hrx⟩:=hrepsa.at j hlt;have hWx:Co.Wf l[j]:=Co.Wfs.at HW.out j hlt;obtain⟨x,hx⟩:∃x,l[j]=x:=⟨_,rfl⟩
  rw[hx]at hela hrx hWx;obtain⟨c1,m1,p1,c2,m2,p2,c3,m3,p3,c4,m4,p4,c5,m5,p5,f1,f2,f3,f4,f5⟩:=Co.Rep.forms5 hrx;subst f1 f2 f3 f4 f5;obtain⟨wd,hwd⟩:∃wd,wr.alloc (.cells #[.int .i64 x.k,.int .i64 x.n,.string x.s,.int .i64 x.d.k,.int .i64 x.d.n,.string x.d.s,.slice c1 m1 p1,.slice c2 m2 p2,.slice c3 m3 p3,.slice c4 m4 p4,.slice c5 m5 p5] 28)=wd:=⟨_,rfl⟩
  obtain⟨hbd,hsd⟩:=new_below hwd;have hcall:=coLess_any w.heap.size x F _ _ _ _ _ wd lj hWx (fun k hk e=>by have:=HF.out k hk;omega) (hrx.below hbd) (Hp.below h1 hbd) h2 h3;have HD:Hid (Co.Bc wd wr.heap.size x (.slice c1 m1 p1) (.slice c2 m2 p2) (.slice c3 m3 p3) (.slice c4 m4 p4) (.slice c5 m5 p5)):=Hp.new hwd;obtain⟨d0,d1,d2,d3,d4,d5,d6,d7,d8,d9,d10⟩:=HD.out.c11;unfold Co.V at hcall;obtain⟨e0,e1,e2,e3,e4,e5,e6,e7,e8,e9,e10⟩:=hela;have HBD:=hd hbd;clear hbl h1 h2 h3 hrow hrepsa hrx hWx hx hbd hsd;go_wp2_with fail
  refine hcall.mono ?_;rintro e w9 ⟨R,rfl,hk9,ht9⟩;clear e0 e1 e2 e3 e4 e5 e6 e7 e8 e9 e10 hcall hwd;clear d0 d1 d2 d3 d4 d5 d6 d7 d8 d9 d10;have hkd:Keep (fun k=>k=w.heap.size) wr w9:=(keep_of_below HBD.out).trans hk9;have HB9:Hid (Below w.heap.size w w9):=HBL.out.trans (hkd.to_below (fun k h=>by omega) HBL.out.size)
  cases R with
  |false=>
   clear hk9 ht9 hkd;go_wp2;go_ret;exact⟨_,rfl,HB9.out⟩
  |true=>
   have HL9:Hid (Co.QW w F (.slice (some ⟨ba,oa,none⟩) l.length cap0) l w9):=
    ⟨HRW.out.keep hkd (fun k hk _ e=>by have:=HF.out k hk;omega),HB9.out,ht9 rfl⟩
   clear hk9 ht9 hkd;go_wp2;go_roundw
   case rel=>exact⟨j+1,by simp,by omega,HL9⟩
   case measure=>simp[intOf];omega
theorem CoreWithin_walk{F G:Nat→Prop}(c:Co.C)(cm cl ct cp ck vi:Value)(win:List Int)(more:Int)(w:World)(hWc:Co.Wf c)(hRc:Co.Rep F w c cm cl ct cp ck)(hI:Dt.IRow G w vi win)(hwl:win.length≤140737488355328)(hwr:∀x∈win,-9223372036854775808≤x∧x≤9223372036854775807)(hmr: -9223372036854775808≤more∧more≤9223372036854775807):
  Calls Tryz.prog 5 #[Co.V c cm cl ct cp ck,vi,.int .i64 more] w fun e w'=>e= .returned (.bool true)∧Below w.heap.size w w':=by
 have HIV:Hid (Dt.IRow G w vi win):=hd hI;obtain⟨ai,qi,rfl,hqi,-⟩:=hI;obtain⟨w1,hw1⟩:∃w1,w.alloc (.cells #[.int .i64 c.k,.int .i64 c.n,.string c.s,.int .i64 c.d.k,.int .i64 c.d.n,.string c.d.s,cm,cl,ct,cp,ck] 28)=w1:=⟨_,rfl⟩
 obtain⟨hb1,hs1⟩:=new_below hw1;have hq1:Co.Bc w1 w.heap.size c cm cl ct cp ck:=Hp.new hw1;have HQ:Hid (∀W,Below w1.heap.size w1 W→Co.Bc W w.heap.size c cm cl ct cp ck∧Co.Rep (fun k=>k<w1.heap.size) W c cm cl ct cp ck∧Dt.IRow (fun k=>k<w1.heap.size) W (.slice ai win.length qi) win):=fun W hW=>
  ⟨Hp.below hq1 hW,((Co.Rep.mono (fun _ _ h=>by omega) c hRc).below hb1).below hW,((Co.irow_mono (fun _ _ h=>by omega) HIV.out).below hb1).below hW⟩
 have HW:=hd hWc;have HWR:=hd hwr;have HMR:=hd hmr;have HB1:=hd hb1;have haw:=coAwake_any w1;clear hb1 hs1 hq1 hRc hWc HIV hqi hwr hmr;unfold Co.V;go_enter Tryz.func5,Tryz.ntmps5;go_wp2_with fail
 try rw[hw1]
 refine haw.mono ?_;rintro e w4 ⟨rfl,hb4⟩;have HB4:=hd hb4;obtain⟨hqc,hrc,hic⟩:=HQ.out w4 hb4;have HQc:=hd hqc;obtain⟨xc0,xc1,xc2,xc3,xc4,xc5,xc6,xc7,xc8,xc9,xc10⟩:=HQc.out.c11;clear hqc HQc;obtain⟨w5,hw5⟩:∃w5,w4.alloc (.cells #[.int .i64 c.k,.int .i64 c.n,.string c.s,.int .i64 c.d.k,.int .i64 c.d.n,.string c.d.s,cm,cl,ct,cp,ck] 28)=w5:=⟨_,rfl⟩
 obtain⟨hb5,hs5⟩:=new_below hw5;have hp5:=Hp.new hw5;have hz4:=hb4.size;have hfew:=coFew_any (F:=fun k=>k<w5.heap.size) [c] (.slice (some ⟨w4.heap.size,0,none⟩) 1 1) w5 (by rw[Co.Wfs,Co.Wfs];exact⟨HW.out,trivial⟩) (fun _ h=>h) (by simp) ⟨some ⟨w4.heap.size,0,none⟩,1,rfl,by simp,fun _=>⟨w4.heap.size,0,rfl,by omega,by omega,by
  rw[Co.Reps,Co.Reps];exact⟨⟨cm,cl,ct,cp,ck,Co.El.ofHp hp5 rfl rfl rfl rfl rfl rfl rfl rfl rfl rfl rfl,Co.Rep.mono (fun _ _ h=>h) c (hrc.below hb5)⟩,trivial⟩⟩⟩
 have HB5:Hid (Below w1.heap.size w1 w5):=btr hb4 hb5;clear haw hw1 hb4 hrc hic hb5 hs5 hp5 hz4;go_wp2_with fail
 try rw[hw5]
 refine hfew.mono ?_;rintro e w6 ⟨fb,rfl,hb6⟩;have HB6:Hid (Below w1.heap.size w1 w6):=btr HB5.out hb6;clear xc0 xc1 xc2 xc3 xc4 xc5 xc6 xc7 xc8 xc9 xc10;clear hfew hw5 hb6 HB5 HB4
 cases fb with
 |false=>
  have haw:=coAwake_any w6;go_wp2_with fail
  refine haw.mono ?_;rintro e w7 ⟨rfl,hb7⟩;have HB7:Hid (Below w1.heap.size w1 w7):=btr HB6.out hb7;clear haw hb7;go_wp2;go_ret;exact⟨rfl,(btr HB1.out HB7.out)⟩
 |true=>
  by_cases hgt:(100:Int)<(win.length:Int)
  ·have haw:=coAwake_any w6;go_wp2_with fail
   refine haw.mono ?_;rintro e w7 ⟨rfl,hb7⟩;have HB7:Hid (Below w1.heap.size w1 w7):=btr HB6.out hb7;clear haw hb7;go_wp2;go_ret;exact⟨rfl,(btr HB1.out HB7.out)⟩
  have hle:(win.length:Int)≤100:=by omega
  clear hgt hwl;go_upto_region 3 with fail
  go_cut [31]from 23 to 31 (fun v wx=>v= .bool false∧Hid (Below w1.heap.size w1 wx))
  case first=>
   obtain⟨hqc,hrc,hic⟩:=HQ.out w6 HB6.out;have HQc:=hd hqc;obtain⟨xc0,xc1,xc2,xc3,xc4,xc5,xc6,xc7,xc8,xc9,xc10⟩:=HQc.out.c11;clear hqc HQc;have hck:=checkC_any (F':=fun _=>False) c _ _ _ _ _ (.slice none 0 0) [] w6 HW.out hrc ⟨none,0,rfl,by decide,fun h=>absurd rfl h⟩ (by decide) (by simp);unfold Co.V at hck;obtain⟨E,hE⟩:∃E,Co.check c []=E:=⟨_,rfl⟩
   rw[hE]at hck;have HE:=hd hE;clear hrc hic hE;go_wp2_with fail
   refine hck.mono ?_;rintro e w7 ⟨rfl,hb7⟩;have HB7:Hid (Below w1.heap.size w1 w7):=btr HB6.out hb7;clear hck hb7;clear xc0 xc1 xc2 xc3 xc4 xc5 xc6 xc7 xc8 xc9 xc10;obtain⟨hqc,hrc,hic⟩:=HQ.out w7 HB7.out;have HQc:=hd hqc;obtain⟨xc0,xc1,xc2,xc3,xc4,xc5,xc6,xc7,xc8,xc9,xc10⟩:=HQc.out.c11;clear hqc HQc;by_cases h0:E=0
   ·subst h0;have hfr:=freeC_any c _ _ _ _ _ w7 HW.out hrc;have hnil:Co.freeV c=[]:=by
     obtain⟨h1,h2,h3⟩:=Co.check_closed HE.out;have h4:=(Co.outE_ok c).2 h3;unfold Co.freeV Co.outL;rw[if_pos h4,if_neg (by rw[h1];simp)];exact h2
    rw[hnil]at hfr;unfold Co.V at hfr;clear hnil hrc hic;go_wp2_with fail
    refine hfr.mono ?_;rintro e w8 ⟨v,rfl,⟨v1,c1,rfl,-,-⟩,hb8⟩;have HB8:Hid (Below w1.heap.size w1 w8):=btr HB7.out hb8;clear hfr hb8;clear xc0 xc1 xc2 xc3 xc4 xc5 xc6 xc7 xc8 xc9 xc10;go_wp2;go_meet;exact⟨rfl,HB8⟩
   ·have hEb:(E==0)=false:=by simpa using h0
    clear hrc hic;go_wp2;go_meet;exact⟨rfl,HB7⟩
  case rest=>
   obtain⟨rfl,HB7⟩:=hcut;obtain⟨w7,rfl⟩:∃w7,w7=wc:=⟨_,rfl⟩
   clear HB6;obtain⟨hqc,hrc,hic⟩:=HQ.out w7 HB7.out;have HQc:=hd hqc;obtain⟨xc0,xc1,xc2,xc3,xc4,xc5,xc6,xc7,xc8,xc9,xc10⟩:=HQc.out.c11;clear hqc HQc;have hck:=checkC_any c _ _ _ _ _ _ win w7 HW.out hrc hic (by omega) HWR.out;unfold Co.V at hck;obtain⟨E,hE⟩:∃E,Co.check c win=E:=⟨_,rfl⟩
   rw[hE]at hck;have HE:=hd hE;clear hrc hic hE;go_wp2_with fail
   refine hck.mono ?_;rintro e w8 ⟨rfl,hb8⟩;have HB8:Hid (Below w1.heap.size w1 w8):=btr HB7.out hb8;clear hck hb8 HB7;clear xc0 xc1 xc2 xc3 xc4 xc5 xc6 xc7 xc8 xc9 xc10;by_cases h0:E=0
   case neg=>
    have hEb:(E==0)=false:=by simpa using h0
    clear HE;go_wp2;go_ret;exact⟨rfl,(btr HB1.out HB8.out)⟩
   subst h0;obtain⟨hqc,hrc,hic⟩:=HQ.out w8 HB8.out;have HQc:=hd hqc;obtain⟨xc0,xc1,xc2,xc3,xc4,xc5,xc6,xc7,xc8,xc9,xc10⟩:=HQc.out.c11;clear hqc HQc;have hall:=coAll_any c cm cl ct cp ck w8;unfold Co.V at hall;clear hrc hic;go_wp2_with fail
   refine hall.mono ?_;rintro e w9 ⟨rfl,hb9,hbc9,-⟩;have HB9:Hid (Below w1.heap.size w1 w9):=btr HB8.out hb9;clear xc0 xc1 xc2 xc3 xc4 xc5 xc6 xc7 xc8 xc9 xc10;have hto:=coTold_any c _ _ _ _ _ 1048576 (by decide) w8.heap.size w9 HW.out (HQ.out w9 HB9.out).2.1 hbc9;obtain⟨PS,hPS⟩:∃PS,(Co.all c).take 1048576=PS:=⟨_,rfl⟩
   rw[hPS]at hto;have HPA:Hid (PS=Co.parts c):=by
    have h1:=(Co.all_within HW.out HE.out).1;have h2:=Co.all_len c;show PS=Co.parts c;rw[←hPS,List.take_of_length_le (by omega),h1]
   have HPL:Hid (PS.length≤8192):=by
    have h2:=Co.all_len c;show PS.length≤8192;rw[←hPS,List.length_take];omega
   clear hall hb9 hbc9 hPS;go_wp2_with fail
   refine hto.mono ?_;rintro e wA ⟨v,rfl,hrow,hbA⟩;obtain⟨at_,qt,rfl,hqt,hpt⟩:=hrow;have HRW:Hid (Co.Row (fun k=>k<wA.heap.size) wA (.slice at_ PS.length qt) PS):=⟨at_,qt,rfl,hqt,fun hn=>by
    obtain⟨b,o,e1,e2,e3,e4⟩:=hpt hn;exact⟨b,o,e1,e3,e3,Co.Reps.mono (fun b hb hl=>hl) PS e4⟩⟩
   have HBA:Hid (Below w1.heap.size w1 wA):=btr HB9.out hbA;have HRWA:Hid (∀W,Below wA.heap.size wA W→Co.Row (fun k=>k<wA.heap.size) W (.slice at_ PS.length qt) PS):=fun W hW=>HRW.out.below hW
   have HBIN:Hid (Co.binds more (PS.take 0)=false):=rfl;have HLP:Hid (Below wA.heap.size wA wA):=Below.refl _ _;clear hto hbA hqt hpt HRW HB8 HB9;obtain⟨j0,hj,hj0,hj1,hj2⟩:=info_parts Dt.infoI;have HJ:=hd hj;have HJ0:=hd hj0;have HJ1:=hd hj1;have HJ2:=hd hj2;have hm1:win.length+1≤maxLen:=by unfold maxLen;omega
   have hm2:(win.length+1)*8≤140737488355328:=by omega
   clear hj hj0 hj1 hj2;go_wp2
   go_loopw [40] (fun v wr=>∃j:Nat,v= .int .i64 j∧j≤PS.length∧Hid (Co.binds more (PS.take j)=false)∧Hid (Below wA.heap.size wA wr)) (fun v _=>PS.length - (intOf v).toNat)
   case atStart=>exact⟨0,rfl,by omega,HBIN,HLP⟩
   case round=>
    clear HBIN HLP;obtain⟨j,rfl,hj,HBIN,HLP⟩:=hrel;have HBR:Hid (Below w1.heap.size w1 wr):=btr HBA.out HLP.out;have hCLA:∀W,Below w1.heap.size w1 W→Calls Tryz.prog 23 #[.slice ai win.length qi] W fun e w'=>∃v',e= .returned v'∧w'.ownsRow W.heap.size 3 1 v' win.length (win.map (Value.int .i64))∧Below W.heap.size W w':=fun W hW=>cloneInts3_any _ win W (HQ.out W hW).2.2 (by omega)
    by_cases hlt:j<PS.length
    case neg=>
     obtain rfl:j=PS.length:=by omega
     have HCK:Hid (∀(G:Nat→Prop) iv W,Below w1.heap.size w1 W→Dt.IRow G W iv (win++[more])→Calls Tryz.prog 10 #[Co.V c cm cl ct cp ck,iv] W fun e w'=>e= .returned (.int .i64 0)∧Below W.heap.size W w'):=fun G iv W hW hi=>by
      have h:=checkC_any c _ _ _ _ _ iv (win++[more]) W HW.out (HQ.out W hW).2.1 hi (by rw[List.length_append,List.length_singleton];omega) (fun x hx=>by
       rcases List.mem_append.1 hx with hx|hx
       ·exact HWR.out x hx
       ·obtain rfl:=List.mem_singleton.1 hx;exact HMR.out)
      have hb:=HBIN.out;rw[List.take_length,HPA.out]at hb;rw[Co.within_more more HE.out,hb]at h;exact h
     go_upto_region 13 with fail
     obtain⟨wD,hwD⟩:∃wD,wr.drew=wD:=⟨_,rfl⟩
     have HBD:Hid (Below w1.heap.size w1 wD):=by rw[←hwD];exact HBR.out.drew
     have hCL:=hCLA wD HBD.out;refine wp_region_noPanic ?_;refine wp_region_held_drew (S:=fun W=>Below w1.heap.size w1 W) (by kernel_rfl) (by rw[hwD];exact HBD.out) (fun hHeld=> ?_);rw[hwD]at hHeld ⊢;clear hwD;refine Zm.u 0 ?_ rfl ?_ ?_;rotate_left
     ·intro w9 hSw;obtain⟨hqx,-,-⟩:=HQ.out w9 hSw;have HQx:=hd hqx;obtain⟨xx0,xx1,xx2,xx3,xx4,xx5,xx6,xx7,xx8,xx9,xx10⟩:=HQx.out.c11;clear hqx HQx;clear hSw;go_simp
      try with_reducible rfl
     simp only[Act.put,Zm.a,Zm.b,Zm.c];refine Zm.u 1 ?_ rfl ?_ ?_;rotate_left
     ·intro w9 hSw;clear hSw;go_simp
      try with_reducible rfl
     simp only[Act.put,Zm.a,Zm.b,Zm.c];refine Zm.u 3 ?_ rfl ?_ ?_;rotate_left
     ·intro w9 hSw;clear hSw;go_simp
      try with_reducible rfl
     simp only[Act.put,Zm.a,Zm.b,Zm.c];refine Zm.q 2 4 rfl rfl (fun K hK=> ?_) (fun K hK=> ?_)
     ·go_simp;refine hCL.mono ?_;rintro e w10 ⟨v1,rfl,hown,hb10⟩;obtain⟨a1',c1',rfl⟩:=Dt.row_form hown;have HB10:Hid (Below w1.heap.size w1 w10):=btr HBD.out hb10;obtain⟨wB,hwB⟩:∃wB,w10.alloc (.cells #[.int .i64 more] 3)=wB:=⟨_,rfl⟩
      obtain⟨hb11,hs11⟩:=new_below hwB;have HBB:Hid (Below w1.heap.size w1 wB):=btr HB10.out hb11;have HSRC:Hid (Ap.Src wB (.slice (some ⟨w10.heap.size,0,none⟩) 1 1) 1 [.int .i64 more]):=Co.srcOne hwB;have HOW:Hid (wB.ownsRow wD.heap.size 3 1 (.slice a1' win.length c1') win.length (win.map (Value.int .i64))):=Dt.own_keep (S:=fun _=>False) hown (keep_of_below hb11) (fun _ _ h=>h);have HBS:Hid (wD.heap.size≤wB.heap.size):=Nat.le_trans hb10.size hb11.size;have HBS2:Hid (wD.heap.size≤wD.heap.size):=Nat.le_refl _;clear hown hb10 hb11 hs11;dsimp only
      try simp only[Act.put,Zm.a,Zm.b,Zm.c]
      refine hK.out _ _ HB10.out (fun hHeld=> ?_);clear hK K;refine Zm.r 4 rfl (fun K hK=> ?_);go_simp
      try rw[hwB]
      refine hK.out _ _ HBB.out (fun hHeld=> ?_);clear hK K hwB;refine Zm.r 5 rfl (fun K hK=> ?_);refine Ap.step rfl (.tmp 59) (.tmp 61) 22 (by kernel_rfl) wD.heap.size 3 j0 (.int .i64 0) 1 8 Tryz.underlying22 HJ.out HJ0.out HJ1.out HJ2.out rfl (by decide) (.slice a1' win.length c1') win.length (win.map (Value.int .i64)) (by kernel_rfl) HOW.out (.slice (some ⟨w10.heap.size,0,none⟩) 1 1) 1 [.int .i64 more] (by kernel_rfl) HSRC.out rfl (by simp[Value.oneCell']) hm1 hm2 HBS.out ?_;intro v' w12 hown2 hgrow hat;obtain⟨a2',c2',rfl⟩:=Dt.row_form hown2;have HB12:Hid (Below w1.heap.size w1 w12):=Dt.grown_below HBB.out hgrow (Nat.le_refl _) (fun k hk=>by have h1:=(Dt.own_lt HOW.out k hk).1;have h2:=HBD.out.size;have h3:=HBS2.out;omega);have HIW:Hid (Dt.IRow (fun k=>wD.heap.size≤k) w12 (.slice a2' (win.length+1) c2') (win++[more])):=Dt.IRow.of_own (by
       rw[List.length_append,List.map_append];exact hown2)
      clear hown2 hgrow hat;refine hK.out _ _ HB12.out (fun hHeld=> ?_);clear hK K;refine Zm.r 6 rfl (fun K hK=> ?_);go_simp;refine(HCK.out _ _ w12 HB12.out HIW.out).mono ?_;rintro e w13 ⟨rfl,hb13⟩;have HB13:Hid (Below w1.heap.size w1 w13):=btr HB12.out hb13;clear hb13;dsimp only;refine hK.out _ _ HB13.out (fun hHeld=> ?_);clear hK K
      try simp only[Act.put,Zm.a,Zm.b,Zm.c]
      refine Zm.u 7 ?_ rfl ?_ ?_;rotate_left
      ·intro w9 hSw;clear hSw;go_simp
       try with_reducible rfl
      simp only[Act.put,Zm.a,Zm.b,Zm.c];refine Zm.u 8 ?_ rfl ?_ ?_;rotate_left
      ·intro w9 hSw;clear hSw;go_simp
       try with_reducible rfl
      simp only[Act.put,Zm.a,Zm.b,Zm.c];refine wpAnyH_done (by kernel_rfl) ?_ _;refine NoPanic.normal ?_;go_wp2;go_ret;exact⟨rfl,(btr HB1.out HB13.out)⟩
     ·obtain⟨wB,hwB⟩:∃wB,wD.alloc (.cells #[.int .i64 more] 3)=wB:=⟨_,rfl⟩
      obtain⟨hb11,hs11⟩:=new_below hwB;have HBB:Hid (Below w1.heap.size w1 wB):=btr HBD.out hb11;have HSR0:Hid (Ap.Src wB (.slice (some ⟨wD.heap.size,0,none⟩) 1 1) 1 [.int .i64 more]):=Co.srcOne hwB;have HBS0:Hid (wD.heap.size≤wB.heap.size):=hb11.size;have hCL:=hCLA wB HBB.out;clear hb11 hs11;go_simp
      try rw[hwB]
      refine hK.out _ _ HBB.out (fun hHeld=> ?_);clear hK K hwB;refine Zm.r 2 rfl (fun K hK=> ?_);go_simp;refine hCL.mono ?_;rintro e w10 ⟨v1,rfl,hown,hb10⟩;obtain⟨a1',c1',rfl⟩:=Dt.row_form hown;have HB10:Hid (Below w1.heap.size w1 w10):=btr HBB.out hb10;have HSRC:Hid (Ap.Src w10 (.slice (some ⟨wD.heap.size,0,none⟩) 1 1) 1 [.int .i64 more]):=Co.src_below HSR0.out hb10;have HOW:=hd hown;have HBS:Hid (wB.heap.size≤w10.heap.size):=hb10.size;have HBS2:Hid (wD.heap.size≤wB.heap.size):=HBS0.out;clear hown hb10;dsimp only
      try simp only[Act.put,Zm.a,Zm.b,Zm.c]
      refine hK.out _ _ HB10.out (fun hHeld=> ?_);clear hK K;refine Zm.r 5 rfl (fun K hK=> ?_);refine Ap.step rfl (.tmp 59) (.tmp 61) 22 (by kernel_rfl) wB.heap.size 3 j0 (.int .i64 0) 1 8 Tryz.underlying22 HJ.out HJ0.out HJ1.out HJ2.out rfl (by decide) (.slice a1' win.length c1') win.length (win.map (Value.int .i64)) (by kernel_rfl) HOW.out (.slice (some ⟨wD.heap.size,0,none⟩) 1 1) 1 [.int .i64 more] (by kernel_rfl) HSRC.out rfl (by simp[Value.oneCell']) hm1 hm2 HBS.out ?_;intro v' w12 hown2 hgrow hat;obtain⟨a2',c2',rfl⟩:=Dt.row_form hown2;have HB12:Hid (Below w1.heap.size w1 w12):=Dt.grown_below HB10.out hgrow (Nat.le_refl _) (fun k hk=>by have h1:=(Dt.own_lt HOW.out k hk).1;have h2:=HBD.out.size;have h3:=HBS2.out;omega);have HIW:Hid (Dt.IRow (fun k=>wB.heap.size≤k) w12 (.slice a2' (win.length+1) c2') (win++[more])):=Dt.IRow.of_own (by
       rw[List.length_append,List.map_append];exact hown2)
      clear hown2 hgrow hat;refine hK.out _ _ HB12.out (fun hHeld=> ?_);clear hK K;refine Zm.r 6 rfl (fun K hK=> ?_);go_simp;refine(HCK.out _ _ w12 HB12.out HIW.out).mono ?_;rintro e w13 ⟨rfl,hb13⟩;have HB13:Hid (Below w1.heap.size w1 w13):=btr HB12.out hb13;clear hb13;dsimp only;refine hK.out _ _ HB13.out (fun hHeld=> ?_);clear hK K
      try simp only[Act.put,Zm.a,Zm.b,Zm.c]
      refine Zm.u 7 ?_ rfl ?_ ?_;rotate_left
      ·intro w9 hSw;clear hSw;go_simp
       try with_reducible rfl
      simp only[Act.put,Zm.a,Zm.b,Zm.c];refine Zm.u 8 ?_ rfl ?_ ?_;rotate_left
      ·intro w9 hSw;clear hSw;go_simp
       try with_reducible rfl
      simp only[Act.put,Zm.a,Zm.b,Zm.c];refine wpAnyH_done (by kernel_rfl) ?_ _;refine NoPanic.normal ?_;go_wp2;go_ret;exact⟨rfl,(btr HB1.out HB13.out)⟩
    have hpl8:PS.length≤8192:=HPL.out;have hlti:(j:Int)<(PS.length:Int):=by omega
    obtain⟨_,_,he,_,hrow⟩:=HRWA.out wr HLP.out;injection he with he1 he2 he3
    subst he1;clear he2 he3;obtain⟨ba,oa,rfl,hGa,hbla,hrepsa⟩:=hrow (by intro h0;rw[h0]at hlt;simp at hlt);obtain⟨xm,xl,xt,xp,xk,hela,hrx⟩:=hrepsa.at j hlt;obtain⟨x,hx⟩:∃x,PS[j]=x:=⟨_,rfl⟩
    rw[hx]at hela hrx;have HX:=hd hx;have HPLX:Hid (x.p.length≤140737488355328):=by
     have hm:x∈Co.parts c:=by rw[←HPA.out,←hx];exact List.getElem_mem hlt
     exact Nat.le_trans (Co.check_p32 HE.out x hm) (by decide)
    obtain⟨c1,m1,p1,c2,m2,p2,c3,m3,p3,c4,m4,p4,c5,m5,p5,f1,f2,f3,f4,f5⟩:=Co.Rep.forms5 hrx;subst f1 f2 f3 f4 f5;obtain⟨wd,hwd⟩:∃wd,wr.alloc (.cells #[.int .i64 x.k,.int .i64 x.n,.string x.s,.int .i64 x.d.k,.int .i64 x.d.n,.string x.d.s,.slice c1 m1 p1,.slice c2 m2 p2,.slice c3 m3 p3,.slice c4 m4 p4,.slice c5 m5 p5] 28)=wd:=⟨_,rfl⟩
    obtain⟨hbd,hsd⟩:=new_below hwd;have HD:Hid (Co.Bc wd wr.heap.size x (.slice c1 m1 p1) (.slice c2 m2 p2) (.slice c3 m3 p3) (.slice c4 m4 p4) (.slice c5 m5 p5)):=Hp.new hwd;have hcont:=containsI_any (.slice c4 m4 p4) x.p more wd (((Co.rep_iff _ _ _ _ _ _ _ _).1 hrx).2.1.below hbd) HPLX.out;obtain⟨B,hB⟩:∃B,x.p.contains more=B:=⟨_,rfl⟩
    rw[hB]at hcont;have HBB0:=hd hB;obtain⟨d0,d1,d2,d3,d4,d5,d6,d7,d8,d9,d10⟩:=HD.out.c11;obtain⟨e0,e1,e2,e3,e4,e5,e6,e7,e8,e9,e10⟩:=hela;have HLD:Hid (Below wA.heap.size wA wd):=btr HLP.out hbd;have HBd:Hid (Below w1.heap.size w1 wd):=btr HBA.out HLD.out;clear hrow hrepsa hrx hx hbd hsd hB;go_wp2_with fail
    refine hcont.mono ?_;rintro e w9 ⟨rfl,rfl⟩;clear e0 e1 e2 e3 e4 e5 e6 e7 e8 e9 e10 hcont;clear d0 d1 d2 d3 d4 d5 d6 d7 d8 d9 d10
    cases B with
    |false=>
     have HB2:Hid (Co.binds more (PS.take (j+1))=false):=by
      show Co.binds more (PS.take (j+1))=false;rw[List.take_succ_eq_append_getElem hlt,Co.binds_app,HBIN.out,HX.out];unfold Co.binds;rw[List.any_cons,HBB0.out]
      rfl
     clear HD hwd;go_wp2;go_roundw
     case rel=>exact⟨j+1,by simp,by omega,HB2,HLD⟩
     case measure=>simp[intOf];omega
    |true=>
     have HCK:Hid (∀(G:Nat→Prop) iv W,Below w1.heap.size w1 W→Dt.IRow G W iv (win++[more])→Calls Tryz.prog 10 #[Co.V c cm cl ct cp ck,iv] W fun e w'=>e= .returned (.int .i64 70)∧Below W.heap.size W w'):=fun G iv W hW hi=>by
      have h:=checkC_any c _ _ _ _ _ iv (win++[more]) W HW.out (HQ.out W hW).2.1 hi (by rw[List.length_append,List.length_singleton];omega) (fun x hx=>by
       rcases List.mem_append.1 hx with hx|hx
       ·exact HWR.out x hx
       ·obtain rfl:=List.mem_singleton.1 hx;exact HMR.out)
      have hb:Co.binds more (Co.parts c)=true:=by
       unfold Co.binds;refine List.any_eq_true.2 ⟨x,?_,HBB0.out⟩;rw[←HPA.out,←HX.out];exact List.getElem_mem hlt
      rw[Co.within_more more HE.out,hb]at h;exact h
     clear HD hwd HBR;go_upto_region 11 with fail
     obtain⟨wD,hwD⟩:∃wD,wd.drew=wD:=⟨_,rfl⟩
     have HBD:Hid (Below w1.heap.size w1 wD):=by rw[←hwD];exact HBd.out.drew
     have hCL:=hCLA wD HBD.out;refine wp_region_noPanic ?_;refine wp_region_held_drew (S:=fun W=>Below w1.heap.size w1 W) (by kernel_rfl) (by rw[hwD];exact HBD.out) (fun hHeld=> ?_);rw[hwD]at hHeld ⊢;clear hwD;refine Zm.u 0 ?_ rfl ?_ ?_;rotate_left
     ·intro w9 hSw;obtain⟨hqx,-,-⟩:=HQ.out w9 hSw;have HQx:=hd hqx;obtain⟨xx0,xx1,xx2,xx3,xx4,xx5,xx6,xx7,xx8,xx9,xx10⟩:=HQx.out.c11;clear hqx HQx;clear hSw;go_simp
      try with_reducible rfl
     simp only[Act.put,Zm.a,Zm.b,Zm.c];refine Zm.u 1 ?_ rfl ?_ ?_;rotate_left
     ·intro w9 hSw;clear hSw;go_simp
      try with_reducible rfl
     simp only[Act.put,Zm.a,Zm.b,Zm.c];refine Zm.u 3 ?_ rfl ?_ ?_;rotate_left
     ·intro w9 hSw;clear hSw;go_simp
      try with_reducible rfl
     simp only[Act.put,Zm.a,Zm.b,Zm.c];refine Zm.q 2 4 rfl rfl (fun K hK=> ?_) (fun K hK=> ?_)
     ·go_simp;refine hCL.mono ?_;rintro e w10 ⟨v1,rfl,hown,hb10⟩;obtain⟨a1',c1',rfl⟩:=Dt.row_form hown;have HB10:Hid (Below w1.heap.size w1 w10):=btr HBD.out hb10;obtain⟨wB,hwB⟩:∃wB,w10.alloc (.cells #[.int .i64 more] 3)=wB:=⟨_,rfl⟩
      obtain⟨hb11,hs11⟩:=new_below hwB;have HBB:Hid (Below w1.heap.size w1 wB):=btr HB10.out hb11;have HSRC:Hid (Ap.Src wB (.slice (some ⟨w10.heap.size,0,none⟩) 1 1) 1 [.int .i64 more]):=Co.srcOne hwB;have HOW:Hid (wB.ownsRow wD.heap.size 3 1 (.slice a1' win.length c1') win.length (win.map (Value.int .i64))):=Dt.own_keep (S:=fun _=>False) hown (keep_of_below hb11) (fun _ _ h=>h);have HBS:Hid (wD.heap.size≤wB.heap.size):=Nat.le_trans hb10.size hb11.size;have HBS2:Hid (wD.heap.size≤wD.heap.size):=Nat.le_refl _;clear hown hb10 hb11 hs11;dsimp only
      try simp only[Act.put,Zm.a,Zm.b,Zm.c]
      refine hK.out _ _ HB10.out (fun hHeld=> ?_);clear hK K;refine Zm.r 4 rfl (fun K hK=> ?_);go_simp
      try rw[hwB]
      refine hK.out _ _ HBB.out (fun hHeld=> ?_);clear hK K hwB;refine Zm.r 5 rfl (fun K hK=> ?_);refine Ap.step rfl (.tmp 50) (.tmp 52) 22 (by kernel_rfl) wD.heap.size 3 j0 (.int .i64 0) 1 8 Tryz.underlying22 HJ.out HJ0.out HJ1.out HJ2.out rfl (by decide) (.slice a1' win.length c1') win.length (win.map (Value.int .i64)) (by kernel_rfl) HOW.out (.slice (some ⟨w10.heap.size,0,none⟩) 1 1) 1 [.int .i64 more] (by kernel_rfl) HSRC.out rfl (by simp[Value.oneCell']) hm1 hm2 HBS.out ?_;intro v' w12 hown2 hgrow hat;obtain⟨a2',c2',rfl⟩:=Dt.row_form hown2;have HB12:Hid (Below w1.heap.size w1 w12):=Dt.grown_below HBB.out hgrow (Nat.le_refl _) (fun k hk=>by have h1:=(Dt.own_lt HOW.out k hk).1;have h2:=HBD.out.size;have h3:=HBS2.out;omega);have HIW:Hid (Dt.IRow (fun k=>wD.heap.size≤k) w12 (.slice a2' (win.length+1) c2') (win++[more])):=Dt.IRow.of_own (by
       rw[List.length_append,List.map_append];exact hown2)
      clear hown2 hgrow hat;refine hK.out _ _ HB12.out (fun hHeld=> ?_);clear hK K;refine Zm.r 6 rfl (fun K hK=> ?_);go_simp;refine(HCK.out _ _ w12 HB12.out HIW.out).mono ?_;rintro e w13 ⟨rfl,hb13⟩;have HB13:Hid (Below w1.heap.size w1 w13):=btr HB12.out hb13;clear hb13;dsimp only;refine hK.out _ _ HB13.out (fun hHeld=> ?_);clear hK K
      try simp only[Act.put,Zm.a,Zm.b,Zm.c]
      refine Zm.u 7 ?_ rfl ?_ ?_;rotate_left
      ·intro w9 hSw;clear hSw;go_simp
       try with_reducible rfl
      simp only[Act.put,Zm.a,Zm.b,Zm.c];refine Zm.u 8 ?_ rfl ?_ ?_;rotate_left
      ·intro w9 hSw;clear hSw;go_simp
       try with_reducible rfl
      simp only[Act.put,Zm.a,Zm.b,Zm.c];refine wpAnyH_done (by kernel_rfl) ?_ _;refine NoPanic.normal ?_;go_wp2;go_ret;exact⟨rfl,(btr HB1.out HB13.out)⟩
     ·obtain⟨wB,hwB⟩:∃wB,wD.alloc (.cells #[.int .i64 more] 3)=wB:=⟨_,rfl⟩
      obtain⟨hb11,hs11⟩:=new_below hwB;have HBB:Hid (Below w1.heap.size w1 wB):=btr HBD.out hb11;have HSR0:Hid (Ap.Src wB (.slice (some ⟨wD.heap.size,0,none⟩) 1 1) 1 [.int .i64 more]):=Co.srcOne hwB;have HBS0:Hid (wD.heap.size≤wB.heap.size):=hb11.size;have hCL:=hCLA wB HBB.out;clear hb11 hs11;go_simp
      try rw[hwB]
      refine hK.out _ _ HBB.out (fun hHeld=> ?_);clear hK K hwB;refine Zm.r 2 rfl (fun K hK=> ?_);go_simp;refine hCL.mono ?_;rintro e w10 ⟨v1,rfl,hown,hb10⟩;obtain⟨a1',c1',rfl⟩:=Dt.row_form hown;have HB10:Hid (Below w1.heap.size w1 w10):=btr HBB.out hb10;have HSRC:Hid (Ap.Src w10 (.slice (some ⟨wD.heap.size,0,none⟩) 1 1) 1 [.int .i64 more]):=Co.src_below HSR0.out hb10;have HOW:=hd hown;have HBS:Hid (wB.heap.size≤w10.heap.size):=hb10.size;have HBS2:Hid (wD.heap.size≤wB.heap.size):=HBS0.out;clear hown hb10;dsimp only
      try simp only[Act.put,Zm.a,Zm.b,Zm.c]
      refine hK.out _ _ HB10.out (fun hHeld=> ?_);clear hK K;refine Zm.r 5 rfl (fun K hK=> ?_);refine Ap.step rfl (.tmp 50) (.tmp 52) 22 (by kernel_rfl) wB.heap.size 3 j0 (.int .i64 0) 1 8 Tryz.underlying22 HJ.out HJ0.out HJ1.out HJ2.out rfl (by decide) (.slice a1' win.length c1') win.length (win.map (Value.int .i64)) (by kernel_rfl) HOW.out (.slice (some ⟨wD.heap.size,0,none⟩) 1 1) 1 [.int .i64 more] (by kernel_rfl) HSRC.out rfl (by simp[Value.oneCell']) hm1 hm2 HBS.out ?_;intro v' w12 hown2 hgrow hat;obtain⟨a2',c2',rfl⟩:=Dt.row_form hown2;have HB12:Hid (Below w1.heap.size w1 w12):=Dt.grown_below HB10.out hgrow (Nat.le_refl _) (fun k hk=>by have h1:=(Dt.own_lt HOW.out k hk).1;have h2:=HBD.out.size;have h3:=HBS2.out;omega);have HIW:Hid (Dt.IRow (fun k=>wB.heap.size≤k) w12 (.slice a2' (win.length+1) c2') (win++[more])):=Dt.IRow.of_own (by
       rw[List.length_append,List.map_append];exact hown2)
      clear hown2 hgrow hat;refine hK.out _ _ HB12.out (fun hHeld=> ?_);clear hK K;refine Zm.r 6 rfl (fun K hK=> ?_);go_simp;refine(HCK.out _ _ w12 HB12.out HIW.out).mono ?_;rintro e w13 ⟨rfl,hb13⟩;have HB13:Hid (Below w1.heap.size w1 w13):=btr HB12.out hb13;clear hb13;dsimp only;refine hK.out _ _ HB13.out (fun hHeld=> ?_);clear hK K
      try simp only[Act.put,Zm.a,Zm.b,Zm.c]
      refine Zm.u 7 ?_ rfl ?_ ?_;rotate_left
      ·intro w9 hSw;clear hSw;go_simp
       try with_reducible rfl
      simp only[Act.put,Zm.a,Zm.b,Zm.c];refine Zm.u 8 ?_ rfl ?_ ?_;rotate_left
      ·intro w9 hSw;clear hSw;go_simp
       try with_reducible rfl
      simp only[Act.put,Zm.a,Zm.b,Zm.c];refine wpAnyH_done (by kernel_rfl) ?_ _;refine NoPanic.normal ?_;go_wp2;go_ret;exact⟨rfl,(btr HB1.out HB13.out)⟩
theorem CoreWithin_law{F G:Nat→Prop}(c:Co.C)(cm cl ct cp ck vi:Value)(win:List Int)(more:Int)(w:World)(hWc:Co.Wf c)(hRc:Co.Rep F w c cm cl ct cp ck)(hI:Dt.IRow G w vi win)(hwl:win.length≤140737488355328)(hwr:∀x∈win,-9223372036854775808≤x∧x≤9223372036854775807)(hm:(Lit.int .i64 more).wf=true):
  Calls Tryz.prog 5 #[Co.V c cm cl ct cp ck,vi,.int .i64 more] w fun e w'=>e= .returned (.bool true)∧Below w.heap.size w w':=by
 have h:=hm;simp only[Lit.wf,IntKind.min,IntKind.max,IntKind.signed,IntKind.bits,Bool.and_eq_true]at h;exact CoreWithin_walk c cm cl ct cp ck vi win more w hWc hRc hI hwl hwr (by simp at h;omega)
end Go.Proofs.YtfjmlfbohenmfaaGreat
namespace Go.Proofs.YtfjmlfbohenmfaaGreat
open Go.ChangeShapes Go.WideShapes Go.ChangeAt Go.RowKit
open Go.ChangeMaps (open_string shut_string)
end Go.Proofs.YtfjmlfbohenmfaaGreat
namespace Go.Proofs.YtfjmlfbohenmfaaGreat
open Go.ChangeShapes Go.WideShapes Go.ChangeAt Go.RowKit Go.Deep
namespace Co
open Dt (Fits open_row gather spot_none add_none open_ints)
section
variable {H:Type} {enc:TypeId×Value→H} {P:Program} {w:World} {base:Nat} {spare:Nat→Bool} {held:Bool}
theorem trod_core{t:TypeId}{f0 f1 f2 f3 f4 f5:Field}{fuel:Nat}{cs:List Value}{x:DataW H×List MemPlace}(hs:P.underlying t=some (.struct #[f0,f1,f2,f3,f4,f5]))(hC:P.cellsOf t=11)
  (ho:f0.offset=0∧f1.offset=1∧f2.offset=2∧f3.offset=3∧f4.offset=9∧f5.offset=10) (hk:P.cellsOf f0.type=1∧P.cellsOf f1.type=1∧P.cellsOf f2.type=1∧P.cellsOf f3.type=6∧P.cellsOf f4.type=1∧P.cellsOf f5.type=1)
  (h:DataW.trod enc P w base spare held fuel t cs=some x) (hf:Fits P t x.1):
  ∃(v0 v1 v2 u0 u1 u2 u3 u4 u5 v4 v5:Value) (y0 y1 y2 y3 y4 y5:DataW H×List MemPlace) (n:Nat),fuel=n+1∧cs=[v0,v1,v2,u0,u1,u2,u3,u4,u5,v4,v5]∧(DataW.trod enc P w base spare held n f0.type [v0]=some y0∧Fits P f0.type y0.1)∧(DataW.trod enc P w base spare held n f1.type [v1]=some y1∧Fits P f1.type y1.1)∧(DataW.trod enc P w base spare held n f2.type [v2]=some y2∧Fits P f2.type y2.1)∧(DataW.trod enc P w base spare held n f3.type [u0,u1,u2,u3,u4,u5]=some y3∧Fits P f3.type y3.1)∧(DataW.trod enc P w base spare held n f4.type [v4]=some y4∧Fits P f4.type y4.1)∧(DataW.trod enc P w base spare held n f5.type [v5]=some y5∧Fits P f5.type y5.1):=by
 obtain⟨xs,n,hn,hx,hsz,hlen,hg⟩:=DataW.trod_struct hs h;obtain⟨o0,o1,o2,o3,o4,o5⟩:=ho;obtain⟨k0,k1,k2,k3,k4,k5⟩:=hk
 match cs,hsz.trans hC with
 |[c0,c1,c2,c3,c4,c5,c6,c7,c8,c9,c10],_=>
  match xs,hlen with
  |[y0,y1,y2,y3,y4,y5],_=>
   have hw:∀(i:Nat) (f:Field) (y:DataW H×List MemPlace),#[f0,f1,f2,f3,f4,f5][i]?=some f→[y0,y1,y2,y3,y4,y5][i]?=some y→Fits P f.type y.1:=by
    intro i f y h1 h2 m hm;refine hf m ?_;rw[hx];show m∈(DataW.agg ([y0,y1,y2,y3,y4,y5].map (·.1))).weights P t;simp only[DataW.weights,hs];refine DataW.weights_mem_each (j:=i) (t:=f.type) (d:=y.1) ?_ ?_ m hm
    ·rw[List.getElem?_map,Array.getElem?_toList,h1];rfl
    ·rw[List.getElem?_map,h2];rfl
   exact⟨c0,c1,c2,c3,c4,c5,c6,c7,c8,c9,c10,y0,y1,y2,y3,y4,y5,n,hn,rfl,⟨by simpa[o0,k0]using hg 0 f0 rfl,hw 0 f0 y0 rfl rfl⟩,⟨by simpa[o1,k1]using hg 1 f1 rfl,hw 1 f1 y1 rfl rfl⟩,⟨by simpa[o2,k2]using hg 2 f2 rfl,hw 2 f2 y2 rfl rfl⟩,⟨by simpa[o3,k3]using hg 3 f3 rfl,hw 3 f3 y3 rfl rfl⟩,⟨by simpa[o4,k4]using hg 4 f4 rfl,hw 4 f4 y4 rfl rfl⟩,⟨by simpa[o5,k5]using hg 5 f5 rfl,hw 5 f5 y5 rfl rfl⟩⟩
end
section
variable {H:Type} {enc:TypeId×Value→H} {w:World} {base:Nat} {spare:Nat→Bool} {held:Bool}
theorem wfs_of{l:List C}(h:∀j,(hj:j<l.length)→Wf l[j]):Wfs l:=by
 induction l with
 |nil=>rw[Wfs];trivial
 |cons a l ih=>
  rw[Wfs];exact⟨h 0 (by simp),ih (fun j hj=>h (j+1) (by simpa using hj))⟩
theorem open_cores{fuel:Nat}{v:Value}{x:DataW H×List MemPlace}(h:DataW.trod enc Tryz.prog w base spare held fuel 26 [v]=some x)(hf:Fits Tryz.prog 26 x.1)
  (ih:∀n',n'<fuel→∀cs y,DataW.trod enc Tryz.prog w base spare held n' 28 cs=some y→Fits Tryz.prog 28 y.1→∃(c:C) (vm vl vt vp vk:Value),cs=[.int .i64 c.k,.int .i64 c.n,.string c.s,.int .i64 c.d.k,.int .i64 c.d.n,.string c.d.s,vm,vl,vt,vp,vk]∧Wf c∧Rep (fun _=>True) w c vm vl vt vp vk):
  ∃l:List C,Row (fun _=>True) w v l∧l.length≤140737488355328∧Wfs l:=by
 rcases open_row Tryz.underlying26 h hf with h0|⟨a,len,cap,n,hn,hcs,hl,hb,hel⟩
 ·obtain rfl:v= .slice none 0 0:=by simpa using h0
  exact⟨[],⟨none,0,rfl,Nat.le_refl _,fun h=>absurd rfl h⟩,by simp,by rw[Wfs];trivial⟩
 ·obtain rfl:v= .slice (some a) len cap:=by simpa using hcs
  have hC:Tryz.prog.cellsOf 28=11:=by kernel_rfl
  have hB:Tryz.prog.bytesOf 28=184:=by kernel_rfl
  rw[hB]at hb;rw[hC]at hel;have hr:reachBytes=140737488351232:=by decide
  obtain⟨l,hm,hq⟩:=gather (fun i (c:C)=>Wf c∧∃vm vl vt vp vk,Rep (fun _=>True) w c vm vl vt vp vk∧∀j,j<11→w.cell? ((a.add (i*11)).add j)=[Value.int .i64 c.k,.int .i64 c.n,.string c.s,.int .i64 c.d.k,.int .i64 c.d.n,.string c.d.s,vm,vl,vt,vp,vk][j]?) len (fun i hi=>by
   obtain⟨cs',y,hc,ht,hfy⟩:=hel i hi;obtain⟨c,vm,vl,vt,vp,vk,e0,hw,hr⟩:=ih n (by omega) cs' y ht hfy;subst e0;obtain⟨_,_,hat⟩:=World.cells?_some hc;exact⟨c,hw,vm,vl,vt,vp,vk,hr,hat⟩)
  refine⟨l,⟨some a,cap,by rw[hm],by omega,fun hne=> ?_⟩,by omega,wfs_of (fun j hj=>(hq j hj).1)⟩;have hpos:0<l.length:=List.length_pos_iff.2 hne;obtain⟨b,off,spot⟩:=a;obtain⟨_,vm,vl,vt,vp,vk,_,h6⟩:=hq 0 hpos;have e0:=h6 0 (by omega);rw[Nat.zero_mul]at e0;have hsp:spot=none:=by
   have e9:(((⟨b,off,spot⟩:Addr).add 0).add 0)=(⟨b,off,spot⟩:Addr).add 0:=by unfold Addr.add;simp
   rw[e9]at e0;exact spot_none e0 rfl
  subst hsp;rw[add_none,add_none]at e0;refine⟨b,off,rfl,trivial,block_lt_of_cell e0,Reps.of (fun j hj=> ?_)⟩;obtain⟨_,vm,vl,vt,vp,vk,hrep,h6⟩:=hq j hj;refine⟨vm,vl,vt,vp,vk,⟨?_,?_,?_,?_,?_,?_,?_,?_,?_,?_,?_⟩,hrep⟩
  ·have:=h6 0 (by omega);rw[add_none,add_none]at this;exact this
  ·have:=h6 1 (by omega);rw[add_none,add_none]at this;exact this
  ·have:=h6 2 (by omega);rw[add_none,add_none]at this;exact this
  ·have:=h6 3 (by omega);rw[add_none,add_none]at this;exact this
  ·have:=h6 4 (by omega);rw[add_none,add_none]at this;exact this
  ·have:=h6 5 (by omega);rw[add_none,add_none]at this;exact this
  ·have:=h6 6 (by omega);rw[add_none,add_none]at this;exact this
  ·have:=h6 7 (by omega);rw[add_none,add_none]at this;exact this
  ·have:=h6 8 (by omega);rw[add_none,add_none]at this;exact this
  ·have:=h6 9 (by omega);rw[add_none,add_none]at this;exact this
  ·have:=h6 10 (by omega);rw[add_none,add_none]at this;exact this
theorem open_fuel:∀(fuel:Nat) (cs:List Value) (y:DataW H×List MemPlace),DataW.trod enc Tryz.prog w base spare held fuel 28 cs=some y→Fits Tryz.prog 28 y.1→∃(c:C) (vm vl vt vp vk:Value),cs=[.int .i64 c.k,.int .i64 c.n,.string c.s,.int .i64 c.d.k,.int .i64 c.d.n,.string c.d.s,vm,vl,vt,vp,vk]∧Wf c∧Rep (fun _=>True) w c vm vl vt vp vk:=by
 intro fuel
 induction fuel using Nat.strongRecOn with
 |_ fuel ih=>
  intro cs y h hf;have hC:Tryz.prog.cellsOf 28=11:=by kernel_rfl
  obtain⟨v0,v1,v2,u0,u1,u2,u3,u4,u5,v4,v5,y0,y1,y2,y3,y4,y5,n,rfl,rfl,⟨h0,_⟩,⟨h1,_⟩,⟨h2,f2⟩,⟨h3,f3⟩,⟨h4,f4⟩,⟨h5,f5⟩⟩:=trod_core Tryz.underlying28 hC ⟨rfl,rfl,rfl,rfl,rfl,rfl⟩ ⟨by kernel_rfl,by kernel_rfl,by kernel_rfl,by kernel_rfl,by kernel_rfl,by kernel_rfl⟩ h hf;obtain⟨k,e0,_,_⟩:=DataW.trod_int Tryz.underlying3 h0;obtain⟨z,e1,_,hz⟩:=DataW.trod_int Tryz.underlying2 h1;obtain⟨s,e2,hx2,hs⟩:=DataW.trod_string Tryz.underlying9 h2;obtain⟨d,vm,vl,vt,ed,hdw,hdr⟩:=Dt.open_fuel n _ _ h3 f3;obtain⟨m,hm,hml,hmr⟩:=open_ints h4 f4;have ih':∀n',n'<n→∀cs y,DataW.trod enc Tryz.prog w base spare held n' 28 cs=some y→Fits Tryz.prog 28 y.1→∃(c:C) (vm vl vt vp vk:Value),cs=[.int .i64 c.k,.int .i64 c.n,.string c.s,.int .i64 c.d.k,.int .i64 c.d.n,.string c.d.s,vm,vl,vt,vp,vk]∧Wf c∧Rep (fun _=>True) w c vm vl vt vp vk:=fun n' hn=>ih n' (by omega)
  obtain⟨l,hl,hll,hlw⟩:=open_cores h5 f5 ih';obtain rfl:v0= .int .i64 k:=by simpa using e0
  obtain rfl:v1= .int .i64 z:=by simpa using e1
  obtain rfl:v2= .string s:=by simpa using e2
  obtain⟨rfl,rfl,rfl,rfl,rfl,rfl⟩:u0= .int .i64 d.k∧u1= .int .i64 d.n∧u2= .string d.s∧u3=vm∧u4=vl∧u5=vt:=by simpa using ed
  have hz':(decide (IntKind.i64.min≤z)&&decide (z≤IntKind.i64.max))=true:=hz;rw[show IntKind.i64.min= -9223372036854775808 by decide,show IntKind.i64.max=9223372036854775807 by decide]at hz';simp only[Bool.and_eq_true,decide_eq_true_eq]at hz';have hs2:s.size≤140737488355328:=by
   have hr:reachBytes=140737488351232:=by decide
   have h9:=f2 s.data.toList.length (by rw[hx2];simp[DataW.weights]);have e9:s.data.toList.length=s.size:=by rw[Array.length_toList];rfl
   omega
  refine⟨.mk k z s d m l,u3,u4,u5,v4,v5,rfl,?_,(rep_iff _ _ _ _ _ _ _ _).2 ⟨hdr,hm,hl⟩⟩;rw[Wf];exact⟨hz',hs2,hdw,hml,hmr,hll,hlw⟩
end
theorem open_core{H:Type}{enc:TypeId×Value→H}{w:World}{base:Nat}{spare:Nat→Bool}{held:Bool}{r:Reach}{b0:Nat}{v:Value}{d:DataW H}{p:List MemPlace}
  (hv:Value.okWide Tryz.prog w r b0 28 v) (h:DataW.Trod enc Tryz.prog w base spare held 28 v d p) (hf:Dt.Fits Tryz.prog 28 d):
  ∃(c:C) (vm vl vt vp vk:Value),v=V c vm vl vt vp vk∧Wf c∧Rep (fun _=>True) w c vm vl vt vp vk:=by
 obtain⟨cs,rfl,hsz⟩:=okWide_struct Tryz.underlying28 hv;obtain⟨fuel,hfu⟩:=h;obtain⟨c,vm,vl,vt,vp,vk,e,hw,hr⟩:=open_fuel fuel _ _ hfu hf;obtain⟨l⟩:=cs;have e':l=[.int .i64 c.k,.int .i64 c.n,.string c.s,.int .i64 c.d.k,.int .i64 c.d.n,.string c.d.s,vm,vl,vt,vp,vk]:=by simpa[Value.cells]using e
 subst e';exact⟨c,vm,vl,vt,vp,vk,rfl,hw,hr⟩
theorem open_irow{H:Type}{enc:TypeId×Value→H}{w:World}{base:Nat}{spare:Nat→Bool}{held:Bool}{r:Reach}{b0:Nat}{v:Value}{d:DataW H}{p:List MemPlace}
  (hv:Value.okWide Tryz.prog w r b0 22 v) (h:DataW.Trod enc Tryz.prog w base spare held 22 v d p) (hf:Dt.Fits Tryz.prog 22 d):
  ∃m:List Int,Dt.IRow (fun _=>True) w v m∧m.length≤140737488355328∧∀y∈m,-9223372036854775808≤y∧y≤9223372036854775807:=by
 obtain⟨a0,len0,cap0,rfl⟩:=okWide_slice Tryz.underlying22 hv;obtain⟨fuel,hfu⟩:=h;exact open_ints hfu hf
end Co
end Go.Proofs.YtfjmlfbohenmfaaGreat
