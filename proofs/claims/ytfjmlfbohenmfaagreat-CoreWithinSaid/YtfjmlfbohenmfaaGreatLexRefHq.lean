/-
  LexRefHq.
-/
import Derived.Test.YtfjmlfbohenmfaaGreatLexRefGq
import Derived.Test.YtfjmlfbohenmfaaGreatCoreWithinLawZM2
set_option maxRecDepth 100000
set_option maxHeartbeats 32000000
namespace Go.Proofs.YtfjmlfbohenmfaaGreat
open Go.RowKit Go.Sort
namespace Lx
theorem word_sign(t:List UInt8)(k q:Nat)(h:sign t=(k,q))(hk:k≠0):word t= .tok ⟨k,0,[]⟩ (t.drop q):=by
 rw[word_eq t _ h,if_pos hk]
theorem word_no(t:List UInt8)(h:sign t=(0,0)):word t=if pk t 0==34 then str t else if pk t 0==35&&pk t 1==92 then char t else run t:=by
 rw[word_eq t _ h,if_neg (by simp)]
end Lx
theorem wordR_any(s:ByteArray)(n:Nat)(w:World)(hs:s.size≤1000000)(hn:n<s.size)(hz:∀j,(hj:j<s.size)→s[j]≠0)(hw0:Lx.white s[n]=false)(h59:s[n]≠59):
  Calls Tryz.prog 145 #[.string s,.int .i64 n] w (Lx.TokR s n (Lx.word (Lx.tl s n)) w):=by
 obtain⟨RES,hRES⟩:∃RES,Lx.word (Lx.tl s n)=RES:=⟨_,rfl⟩
 rw[hRES];obtain⟨c,hc⟩:∃c,s[n]=c:=⟨_,rfl⟩
 have hpk0:Lx.pk (Lx.tl s n) 0=c:=by rw[Lx.pk_in s n 0 hn];exact hc
 obtain⟨x,hx⟩:∃x,Lx.pk (Lx.tl s n) 1=x:=⟨_,rfl⟩
 have hcb:=Lx.b8 c;have hxb:=Lx.b8 x;have hsg:=Lx.sign_int (Lx.tl s n);rw[hpk0,hx]at hsg;have hwn:=Lx.word_no (Lx.tl s n);rw[hpk0,hx]at hwn;have b34:(c==34)=((c.toNat:Int)==34):=Lx.beq_nat c 34 (by omega);have b35:(c==35)=((c.toNat:Int)==35):=Lx.beq_nat c 35 (by omega);have x92:(x==92)=((x.toNat:Int)==92):=Lx.beq_nat x 92 (by omega);have hrun:((c.toNat:Int)==40)=false→((c.toNat:Int)==41)=false→((c.toNat:Int)==34)=false→Lx.stops s[n]=false:=by
  intro a1 a2 a3;rw[Lx.stops_int,hw0,hc,a1,a2,a3];have:((c.toNat:Int)==59)=false:=by
   rw[beq_eq_false_iff_ne];exact fun h=>h59 (by rw[hc];exact UInt8.toNat_inj.1 (by show c.toNat=59;omega))
  rw[this];rfl
 -- the two blocks of the call's own
 obtain⟨R,hR⟩:∃R,w.heap.size=R:=⟨_,rfl⟩
 obtain⟨w2,hw2⟩:∃w2,(w.alloc (.cells #[.int .i64 0,.int .i64 0,.int .i64 0,.int .i64 0,.string ⟨#[]⟩] 144)).alloc (.cells #[.int .i64 0,.int .i64 (n:Int),.int .i64 ((n:Int)+1),.int .i64 0,.string ⟨#[]⟩] 144)=w2:=⟨_,rfl⟩
 have hb2:Below w.heap.size w w2:=by rw[←hw2];exact Lx.bel2 _ _ _
 have hT:=Lx.TkAt.alloc (w.alloc (.cells #[.int .i64 0,.int .i64 0,.int .i64 0,.int .i64 0,.string ⟨#[]⟩] 144)) 0 n ((n:Int)+1) 0 ⟨#[]⟩ 144;have hRR:=(Lx.TkAt.alloc w 0 0 0 0 ⟨#[]⟩ 144).below ((Below.refl _ (w.alloc (.cells #[.int .i64 0,.int .i64 0,.int .i64 0,.int .i64 0,.string ⟨#[]⟩] 144))).alloc (Nat.le_refl _) (.cells #[.int .i64 0,.int .i64 (n:Int),.int .i64 ((n:Int)+1),.int .i64 0,.string ⟨#[]⟩] 144));rw[hw2]at hT hRR;rw[World.size_alloc,hR]at hT;rw[hR]at hRR hb2;have hsz2:w2.heap.size=R+2:=by rw[←hw2];simp;omega
 have HRR:=zh hRR;have HB2:=zh hb2;have HSZ2:=zh hsz2;have HRW:=zh hR;have HZ:=zh hz;have HSG:=zh hsg;have HWN:=zh hwn;have HRES:=zh hRES;have HRUN:=zh hrun;have HX:=zh hx;have nx:n+1<s.size∨s.size≤n+1:=by omega
 have X0:s.size≤n+1→x=0:=fun h=>by rw[←hx];exact Lx.pk_out s n 1 h
 have X1:(h:n+1<s.size)→s[n+1]=x:=fun h=>by rw[←hx];exact(Lx.pk_in s n 1 h).symm
 have HX0:=zh X0;have HX1:=zh X1;clear hT hRR hb2 hsz2 hsg hwn hRES hrun hx hpk0 hw0 h59 hz X0 X1;rcases nx with hin|hout
 ·have hini:(n:Int)+1<(s.size:Int):=by omega
  have hx1:=HX1.out hin;cases a40:((c.toNat:Int)==40)
  case true=>
   have HN:Hid (RES= .tok ⟨1,0,[]⟩ (Lx.tl s (n+1))):=by
    show _=_;rw[←HRES.out,Lx.word_sign (Lx.tl s n) 1 1 (by rw[HSG.out];simp only[a40,if_true]) (by decide),Lx.tl_drop]
    rfl
   clear hw2 hR;go_enter Tryz.func145,Tryz.ntmps145;go_wp2;refine bodyPost_ret (v:= .tuple #[.agg #[.int .i64 1,.int .i64 (n:Int),.int .i64 ((n:Int)+1),.int .i64 0,.string ⟨#[]⟩],.int .i64 0]) (by simp[results,Tryz.results145,go_sem]) rfl (.tok HN.out rfl (by omega) (by omega) (Lx.bel2 _ _ _))
  cases a41:((c.toNat:Int)==41)
  case true=>
   have HN:Hid (RES= .tok ⟨2,0,[]⟩ (Lx.tl s (n+1))):=by
    show _=_;rw[←HRES.out,Lx.word_sign (Lx.tl s n) 2 1 (by rw[HSG.out];simp only[a40,a41,if_true,Bool.false_eq_true,if_false]) (by decide),Lx.tl_drop]
    rfl
   clear hw2 hR;go_enter Tryz.func145,Tryz.ntmps145;go_wp2;refine bodyPost_ret (v:= .tuple #[.agg #[.int .i64 2,.int .i64 (n:Int),.int .i64 ((n:Int)+1),.int .i64 0,.string ⟨#[]⟩],.int .i64 0]) (by simp[results,Tryz.results145,go_sem]) rfl (.tok HN.out rfl (by omega) (by omega) (Lx.bel2 _ _ _))
  cases a39:((c.toNat:Int)==39)
  case true=>
   have HN:Hid (RES= .tok ⟨4,0,[]⟩ (Lx.tl s (n+1))):=by
    show _=_;rw[←HRES.out,Lx.word_sign (Lx.tl s n) 4 1 (by rw[HSG.out];simp only[a40,a41,a39,if_true,Bool.false_eq_true,if_false]) (by decide),Lx.tl_drop]
    rfl
   clear hw2 hR;go_enter Tryz.func145,Tryz.ntmps145;go_wp2;refine bodyPost_ret (v:= .tuple #[.agg #[.int .i64 4,.int .i64 (n:Int),.int .i64 ((n:Int)+1),.int .i64 0,.string ⟨#[]⟩],.int .i64 0]) (by simp[results,Tryz.results145,go_sem]) rfl (.tok HN.out rfl (by omega) (by omega) (Lx.bel2 _ _ _))
  cases a96:((c.toNat:Int)==96)
  case true=>
   have HN:Hid (RES= .tok ⟨5,0,[]⟩ (Lx.tl s (n+1))):=by
    show _=_;rw[←HRES.out,Lx.word_sign (Lx.tl s n) 5 1 (by rw[HSG.out];simp only[a40,a41,a39,a96,if_true,Bool.false_eq_true,if_false]) (by decide),Lx.tl_drop]
    rfl
   clear hw2 hR;go_enter Tryz.func145,Tryz.ntmps145;go_wp2;refine bodyPost_ret (v:= .tuple #[.agg #[.int .i64 5,.int .i64 (n:Int),.int .i64 ((n:Int)+1),.int .i64 0,.string ⟨#[]⟩],.int .i64 0]) (by simp[results,Tryz.results145,go_sem]) rfl (.tok HN.out rfl (by omega) (by omega) (Lx.bel2 _ _ _))
  cases a44:((c.toNat:Int)==44)
  case true=>
   cases y64:((x.toNat:Int)==64)
   case true=>
    have HN:Hid (RES= .tok ⟨7,0,[]⟩ (Lx.tl s (n+2))):=by
     show _=_;rw[←HRES.out,Lx.word_sign (Lx.tl s n) 7 2 (by rw[HSG.out];simp only[a40,a41,a39,a96,a44,y64,if_true,Bool.false_eq_true,if_false]) (by decide),Lx.tl_drop]
     rfl
    clear hw2 hR;go_enter Tryz.func145,Tryz.ntmps145;go_wp2;refine bodyPost_ret (v:= .tuple #[.agg #[.int .i64 7,.int .i64 (n:Int),.int .i64 ((n:Int)+2),.int .i64 0,.string ⟨#[]⟩],.int .i64 0]) (by simp[results,Tryz.results145,go_sem]) rfl (.tok HN.out rfl (by omega) (by omega) (Lx.bel2 _ _ _))
   have HN:Hid (RES= .tok ⟨6,0,[]⟩ (Lx.tl s (n+1))):=by
    show _=_;rw[←HRES.out,Lx.word_sign (Lx.tl s n) 6 1 (by rw[HSG.out];simp only[a40,a41,a39,a96,a44,y64,if_true,Bool.false_eq_true,if_false]) (by decide),Lx.tl_drop]
    rfl
   clear hw2 hR;go_enter Tryz.func145,Tryz.ntmps145;go_wp2;refine bodyPost_ret (v:= .tuple #[.agg #[.int .i64 6,.int .i64 (n:Int),.int .i64 ((n:Int)+1),.int .i64 0,.string ⟨#[]⟩],.int .i64 0]) (by simp[results,Tryz.results145,go_sem]) rfl (.tok HN.out rfl (by omega) (by omega) (Lx.bel2 _ _ _))
  cases a35:((c.toNat:Int)==35)
  case true=>
   have a34:((c.toNat:Int)==34)=false:=by rw[beq_eq_false_iff_ne];intro h;rw[h]at a35;cases a35
   cases y40:((x.toNat:Int)==40)
   case true=>
    have HN:Hid (RES= .tok ⟨3,0,[]⟩ (Lx.tl s (n+2))):=by
     show _=_;rw[←HRES.out,Lx.word_sign (Lx.tl s n) 3 2 (by rw[HSG.out];simp only[a40,a41,a39,a96,a44,a35,y40,if_true,Bool.false_eq_true,if_false,Bool.and_self]) (by decide),Lx.tl_drop]
     rfl
    clear hw2 hR;go_enter Tryz.func145,Tryz.ntmps145;go_wp2;refine bodyPost_ret (v:= .tuple #[.agg #[.int .i64 3,.int .i64 (n:Int),.int .i64 ((n:Int)+2),.int .i64 0,.string ⟨#[]⟩],.int .i64 0]) (by simp[results,Tryz.results145,go_sem]) rfl (.tok HN.out rfl (by omega) (by omega) (Lx.bel2 _ _ _))
   cases y92:((x.toNat:Int)==92)
   case true=>
    have hno:Lx.sign (Lx.tl s n)=(0,0):=by rw[HSG.out];simp only[a40,a41,a39,a96,a44,a35,y40,Bool.false_eq_true,if_false,Bool.and_false]
    have hcc:=fun wq=>charR_any s n wq hs (by omega)
    have hre:Lx.char (Lx.tl s n)=RES:=by rw[←HRES.out,HWN.out hno,b34,b35,x92,a34,a35,y92];rfl
    rw[hre]at hcc;clear hno hre b34 b35 x92;have HCC:=zh hcc;have HW2:=zh hw2;clear hcc hw2;go_enter Tryz.func145,Tryz.ntmps145;go_wp2_with fail
    rw[HW2.out];refine(HCC.out _).mono ?_;rintro e w3 ⟨k,z,m,y,cc,rfl,hbx,hfit⟩;have HFIT:=zh hfit;have hR3:=HRR.out.below hbx;have HB3:=zh (HB2.out.trans (hbx.mono (by rw[HSZ2.out];omega)));have r0:=hR3.c0;have r1:=hR3.c1;have r2:=hR3.c2;have r3:=hR3.c3;have r4:=hR3.c4;have rz:=hR3.fz;have HR3:=zh hR3;clear hbx hR3 hfit;go_wp2;have HF:=Lx.put5_at HR3.out k (n:Int) z m y;have HFB:=Lx.put5_bel HB3.out (Nat.le_refl R) k (n:Int) z m y;obtain⟨F,hF⟩:∃F,Lx.put5 w3 R k (n:Int) z m y=F:=⟨_,rfl⟩
    rw[hF]at HF HFB;unfold Lx.put5 at hF;rw[hF];have f0:=HF.c0;have f1:=HF.c1;have f2:=HF.c2;have f3:=HF.c3;have f4:=HF.c4;exact bodyPost_ret (v:= .tuple #[.agg #[.int .i64 k,.int .i64 (n:Int),.int .i64 z,.int .i64 m,.string y],.int .i64 cc]) (by simp[results,Tryz.results145,go_sem,f0,f1,f2,f3,f4]) rfl ⟨k,z,m,y,cc,rfl,by rw[HRW.out];exact HFB,HFIT.out⟩
   have hno:Lx.sign (Lx.tl s n)=(0,0):=by rw[HSG.out];simp only[a40,a41,a39,a96,a44,a35,y40,Bool.false_eq_true,if_false,Bool.and_false]
   have hcc:=fun wq=>runR_any s n wq hs hn (HRUN.out a40 a41 a34) HZ.out
   have hre:Lx.run (Lx.tl s n)=RES:=by rw[←HRES.out,HWN.out hno,b34,b35,x92,a34,a35,y92];rfl
   rw[hre]at hcc;clear hno hre b34 b35 x92;have HCC:=zh hcc;have HW2:=zh hw2;clear hcc hw2;go_enter Tryz.func145,Tryz.ntmps145;go_wp2_with fail
   rw[HW2.out];refine(HCC.out _).mono ?_;rintro e w3 ⟨k,z,m,y,cc,rfl,hbx,hfit⟩;have HFIT:=zh hfit;have hR3:=HRR.out.below hbx;have HB3:=zh (HB2.out.trans (hbx.mono (by rw[HSZ2.out];omega)));have r0:=hR3.c0;have r1:=hR3.c1;have r2:=hR3.c2;have r3:=hR3.c3;have r4:=hR3.c4;have rz:=hR3.fz;have HR3:=zh hR3;clear hbx hR3 hfit;go_wp2;have HF:=Lx.put5_at HR3.out k (n:Int) z m y;have HFB:=Lx.put5_bel HB3.out (Nat.le_refl R) k (n:Int) z m y;obtain⟨F,hF⟩:∃F,Lx.put5 w3 R k (n:Int) z m y=F:=⟨_,rfl⟩
   rw[hF]at HF HFB;unfold Lx.put5 at hF;rw[hF];have f0:=HF.c0;have f1:=HF.c1;have f2:=HF.c2;have f3:=HF.c3;have f4:=HF.c4;exact bodyPost_ret (v:= .tuple #[.agg #[.int .i64 k,.int .i64 (n:Int),.int .i64 z,.int .i64 m,.string y],.int .i64 cc]) (by simp[results,Tryz.results145,go_sem,f0,f1,f2,f3,f4]) rfl ⟨k,z,m,y,cc,rfl,by rw[HRW.out];exact HFB,HFIT.out⟩
  cases a34:((c.toNat:Int)==34)
  case true=>
   have hno:Lx.sign (Lx.tl s n)=(0,0):=by rw[HSG.out];simp only[a40,a41,a39,a96,a44,a35,Bool.false_eq_true,if_false,Bool.false_and]
   have hcc:=fun wq=>strR_any s n wq hs hn
   have hre:Lx.str (Lx.tl s n)=RES:=by rw[←HRES.out,HWN.out hno,b34,a34];rfl
   rw[hre]at hcc;clear hno hre b34 b35 x92;have HCC:=zh hcc;have HW2:=zh hw2;clear hcc hw2;go_enter Tryz.func145,Tryz.ntmps145;go_wp2_with fail
   rw[HW2.out];refine(HCC.out _).mono ?_;rintro e w3 ⟨k,z,m,y,cc,rfl,hbx,hfit⟩;have HFIT:=zh hfit;have hR3:=HRR.out.below hbx;have HB3:=zh (HB2.out.trans (hbx.mono (by rw[HSZ2.out];omega)));have r0:=hR3.c0;have r1:=hR3.c1;have r2:=hR3.c2;have r3:=hR3.c3;have r4:=hR3.c4;have rz:=hR3.fz;have HR3:=zh hR3;clear hbx hR3 hfit;go_wp2;have HF:=Lx.put5_at HR3.out k (n:Int) z m y;have HFB:=Lx.put5_bel HB3.out (Nat.le_refl R) k (n:Int) z m y;obtain⟨F,hF⟩:∃F,Lx.put5 w3 R k (n:Int) z m y=F:=⟨_,rfl⟩
   rw[hF]at HF HFB;unfold Lx.put5 at hF;rw[hF];have f0:=HF.c0;have f1:=HF.c1;have f2:=HF.c2;have f3:=HF.c3;have f4:=HF.c4;exact bodyPost_ret (v:= .tuple #[.agg #[.int .i64 k,.int .i64 (n:Int),.int .i64 z,.int .i64 m,.string y],.int .i64 cc]) (by simp[results,Tryz.results145,go_sem,f0,f1,f2,f3,f4]) rfl ⟨k,z,m,y,cc,rfl,by rw[HRW.out];exact HFB,HFIT.out⟩
  have hno:Lx.sign (Lx.tl s n)=(0,0):=by rw[HSG.out];simp only[a40,a41,a39,a96,a44,a35,Bool.false_eq_true,if_false,Bool.false_and]
  have hcc:=fun wq=>runR_any s n wq hs hn (HRUN.out a40 a41 a34) HZ.out
  have hre:Lx.run (Lx.tl s n)=RES:=by rw[←HRES.out,HWN.out hno,b34,b35,x92,a34,a35];rfl
  rw[hre]at hcc;clear hno hre b34 b35 x92;have HCC:=zh hcc;have HW2:=zh hw2;clear hcc hw2;go_enter Tryz.func145,Tryz.ntmps145;go_wp2_with fail
  rw[HW2.out];refine(HCC.out _).mono ?_;rintro e w3 ⟨k,z,m,y,cc,rfl,hbx,hfit⟩;have HFIT:=zh hfit;have hR3:=HRR.out.below hbx;have HB3:=zh (HB2.out.trans (hbx.mono (by rw[HSZ2.out];omega)));have r0:=hR3.c0;have r1:=hR3.c1;have r2:=hR3.c2;have r3:=hR3.c3;have r4:=hR3.c4;have rz:=hR3.fz;have HR3:=zh hR3;clear hbx hR3 hfit;go_wp2;have HF:=Lx.put5_at HR3.out k (n:Int) z m y;have HFB:=Lx.put5_bel HB3.out (Nat.le_refl R) k (n:Int) z m y;obtain⟨F,hF⟩:∃F,Lx.put5 w3 R k (n:Int) z m y=F:=⟨_,rfl⟩
  rw[hF]at HF HFB;unfold Lx.put5 at hF;rw[hF];have f0:=HF.c0;have f1:=HF.c1;have f2:=HF.c2;have f3:=HF.c3;have f4:=HF.c4;exact bodyPost_ret (v:= .tuple #[.agg #[.int .i64 k,.int .i64 (n:Int),.int .i64 z,.int .i64 m,.string y],.int .i64 cc]) (by simp[results,Tryz.results145,go_sem,f0,f1,f2,f3,f4]) rfl ⟨k,z,m,y,cc,rfl,by rw[HRW.out];exact HFB,HFIT.out⟩
 ·have hini:¬ (n:Int)+1<(s.size:Int):=by omega
  have hx0:=HX0.out hout;cases a40:((c.toNat:Int)==40)
  case true=>
   have HN:Hid (RES= .tok ⟨1,0,[]⟩ (Lx.tl s (n+1))):=by
    show _=_;rw[←HRES.out,Lx.word_sign (Lx.tl s n) 1 1 (by rw[HSG.out];simp only[a40,if_true]) (by decide),Lx.tl_drop]
    rfl
   clear hw2 hR;go_enter Tryz.func145,Tryz.ntmps145;go_wp2;refine bodyPost_ret (v:= .tuple #[.agg #[.int .i64 1,.int .i64 (n:Int),.int .i64 ((n:Int)+1),.int .i64 0,.string ⟨#[]⟩],.int .i64 0]) (by simp[results,Tryz.results145,go_sem]) rfl (.tok HN.out rfl (by omega) (by omega) (Lx.bel2 _ _ _))
  cases a41:((c.toNat:Int)==41)
  case true=>
   have HN:Hid (RES= .tok ⟨2,0,[]⟩ (Lx.tl s (n+1))):=by
    show _=_;rw[←HRES.out,Lx.word_sign (Lx.tl s n) 2 1 (by rw[HSG.out];simp only[a40,a41,if_true,Bool.false_eq_true,if_false]) (by decide),Lx.tl_drop]
    rfl
   clear hw2 hR;go_enter Tryz.func145,Tryz.ntmps145;go_wp2;refine bodyPost_ret (v:= .tuple #[.agg #[.int .i64 2,.int .i64 (n:Int),.int .i64 ((n:Int)+1),.int .i64 0,.string ⟨#[]⟩],.int .i64 0]) (by simp[results,Tryz.results145,go_sem]) rfl (.tok HN.out rfl (by omega) (by omega) (Lx.bel2 _ _ _))
  cases a39:((c.toNat:Int)==39)
  case true=>
   have HN:Hid (RES= .tok ⟨4,0,[]⟩ (Lx.tl s (n+1))):=by
    show _=_;rw[←HRES.out,Lx.word_sign (Lx.tl s n) 4 1 (by rw[HSG.out];simp only[a40,a41,a39,if_true,Bool.false_eq_true,if_false]) (by decide),Lx.tl_drop]
    rfl
   clear hw2 hR;go_enter Tryz.func145,Tryz.ntmps145;go_wp2;refine bodyPost_ret (v:= .tuple #[.agg #[.int .i64 4,.int .i64 (n:Int),.int .i64 ((n:Int)+1),.int .i64 0,.string ⟨#[]⟩],.int .i64 0]) (by simp[results,Tryz.results145,go_sem]) rfl (.tok HN.out rfl (by omega) (by omega) (Lx.bel2 _ _ _))
  cases a96:((c.toNat:Int)==96)
  case true=>
   have HN:Hid (RES= .tok ⟨5,0,[]⟩ (Lx.tl s (n+1))):=by
    show _=_;rw[←HRES.out,Lx.word_sign (Lx.tl s n) 5 1 (by rw[HSG.out];simp only[a40,a41,a39,a96,if_true,Bool.false_eq_true,if_false]) (by decide),Lx.tl_drop]
    rfl
   clear hw2 hR;go_enter Tryz.func145,Tryz.ntmps145;go_wp2;refine bodyPost_ret (v:= .tuple #[.agg #[.int .i64 5,.int .i64 (n:Int),.int .i64 ((n:Int)+1),.int .i64 0,.string ⟨#[]⟩],.int .i64 0]) (by simp[results,Tryz.results145,go_sem]) rfl (.tok HN.out rfl (by omega) (by omega) (Lx.bel2 _ _ _))
  cases a44:((c.toNat:Int)==44)
  case true=>
   have y64:((x.toNat:Int)==64)=false:=by rw[hx0];rfl
   have HN:Hid (RES= .tok ⟨6,0,[]⟩ (Lx.tl s (n+1))):=by
    show _=_;rw[←HRES.out,Lx.word_sign (Lx.tl s n) 6 1 (by rw[HSG.out];simp only[a40,a41,a39,a96,a44,y64,if_true,Bool.false_eq_true,if_false]) (by decide),Lx.tl_drop]
    rfl
   clear hw2 hR;go_enter Tryz.func145,Tryz.ntmps145;go_wp2;refine bodyPost_ret (v:= .tuple #[.agg #[.int .i64 6,.int .i64 (n:Int),.int .i64 ((n:Int)+1),.int .i64 0,.string ⟨#[]⟩],.int .i64 0]) (by simp[results,Tryz.results145,go_sem]) rfl (.tok HN.out rfl (by omega) (by omega) (Lx.bel2 _ _ _))
  cases a35:((c.toNat:Int)==35)
  case true=>
   have a34:((c.toNat:Int)==34)=false:=by rw[beq_eq_false_iff_ne];intro h;rw[h]at a35;cases a35
   have y40:((x.toNat:Int)==40)=false:=by rw[hx0];rfl
   have y92:((x.toNat:Int)==92)=false:=by rw[hx0];rfl
   have hno:Lx.sign (Lx.tl s n)=(0,0):=by rw[HSG.out];simp only[a40,a41,a39,a96,a44,a35,y40,Bool.false_eq_true,if_false,Bool.and_false]
   have hcc:=fun wq=>runR_any s n wq hs hn (HRUN.out a40 a41 a34) HZ.out
   have hre:Lx.run (Lx.tl s n)=RES:=by rw[←HRES.out,HWN.out hno,b34,b35,x92,a34,a35,y92];rfl
   rw[hre]at hcc;clear hno hre b34 b35 x92;have HCC:=zh hcc;have HW2:=zh hw2;clear hcc hw2;go_enter Tryz.func145,Tryz.ntmps145;go_wp2_with fail
   rw[HW2.out];refine(HCC.out _).mono ?_;rintro e w3 ⟨k,z,m,y,cc,rfl,hbx,hfit⟩;have HFIT:=zh hfit;have hR3:=HRR.out.below hbx;have HB3:=zh (HB2.out.trans (hbx.mono (by rw[HSZ2.out];omega)));have r0:=hR3.c0;have r1:=hR3.c1;have r2:=hR3.c2;have r3:=hR3.c3;have r4:=hR3.c4;have rz:=hR3.fz;have HR3:=zh hR3;clear hbx hR3 hfit;go_wp2;have HF:=Lx.put5_at HR3.out k (n:Int) z m y;have HFB:=Lx.put5_bel HB3.out (Nat.le_refl R) k (n:Int) z m y;obtain⟨F,hF⟩:∃F,Lx.put5 w3 R k (n:Int) z m y=F:=⟨_,rfl⟩
   rw[hF]at HF HFB;unfold Lx.put5 at hF;rw[hF];have f0:=HF.c0;have f1:=HF.c1;have f2:=HF.c2;have f3:=HF.c3;have f4:=HF.c4;exact bodyPost_ret (v:= .tuple #[.agg #[.int .i64 k,.int .i64 (n:Int),.int .i64 z,.int .i64 m,.string y],.int .i64 cc]) (by simp[results,Tryz.results145,go_sem,f0,f1,f2,f3,f4]) rfl ⟨k,z,m,y,cc,rfl,by rw[HRW.out];exact HFB,HFIT.out⟩
  cases a34:((c.toNat:Int)==34)
  case true=>
   have hno:Lx.sign (Lx.tl s n)=(0,0):=by rw[HSG.out];simp only[a40,a41,a39,a96,a44,a35,Bool.false_eq_true,if_false,Bool.false_and]
   have hcc:=fun wq=>strR_any s n wq hs hn
   have hre:Lx.str (Lx.tl s n)=RES:=by rw[←HRES.out,HWN.out hno,b34,a34];rfl
   rw[hre]at hcc;clear hno hre b34 b35 x92;have HCC:=zh hcc;have HW2:=zh hw2;clear hcc hw2;go_enter Tryz.func145,Tryz.ntmps145;go_wp2_with fail
   rw[HW2.out];refine(HCC.out _).mono ?_;rintro e w3 ⟨k,z,m,y,cc,rfl,hbx,hfit⟩;have HFIT:=zh hfit;have hR3:=HRR.out.below hbx;have HB3:=zh (HB2.out.trans (hbx.mono (by rw[HSZ2.out];omega)));have r0:=hR3.c0;have r1:=hR3.c1;have r2:=hR3.c2;have r3:=hR3.c3;have r4:=hR3.c4;have rz:=hR3.fz;have HR3:=zh hR3;clear hbx hR3 hfit;go_wp2;have HF:=Lx.put5_at HR3.out k (n:Int) z m y;have HFB:=Lx.put5_bel HB3.out (Nat.le_refl R) k (n:Int) z m y;obtain⟨F,hF⟩:∃F,Lx.put5 w3 R k (n:Int) z m y=F:=⟨_,rfl⟩
   rw[hF]at HF HFB;unfold Lx.put5 at hF;rw[hF];have f0:=HF.c0;have f1:=HF.c1;have f2:=HF.c2;have f3:=HF.c3;have f4:=HF.c4;exact bodyPost_ret (v:= .tuple #[.agg #[.int .i64 k,.int .i64 (n:Int),.int .i64 z,.int .i64 m,.string y],.int .i64 cc]) (by simp[results,Tryz.results145,go_sem,f0,f1,f2,f3,f4]) rfl ⟨k,z,m,y,cc,rfl,by rw[HRW.out];exact HFB,HFIT.out⟩
  have hno:Lx.sign (Lx.tl s n)=(0,0):=by rw[HSG.out];simp only[a40,a41,a39,a96,a44,a35,Bool.false_eq_true,if_false,Bool.false_and]
  have hcc:=fun wq=>runR_any s n wq hs hn (HRUN.out a40 a41 a34) HZ.out
  have hre:Lx.run (Lx.tl s n)=RES:=by rw[←HRES.out,HWN.out hno,b34,b35,x92,a34,a35];rfl
  rw[hre]at hcc;clear hno hre b34 b35 x92;have HCC:=zh hcc;have HW2:=zh hw2;clear hcc hw2;go_enter Tryz.func145,Tryz.ntmps145;go_wp2_with fail
  rw[HW2.out];refine(HCC.out _).mono ?_;rintro e w3 ⟨k,z,m,y,cc,rfl,hbx,hfit⟩;have HFIT:=zh hfit;have hR3:=HRR.out.below hbx;have HB3:=zh (HB2.out.trans (hbx.mono (by rw[HSZ2.out];omega)));have r0:=hR3.c0;have r1:=hR3.c1;have r2:=hR3.c2;have r3:=hR3.c3;have r4:=hR3.c4;have rz:=hR3.fz;have HR3:=zh hR3;clear hbx hR3 hfit;go_wp2;have HF:=Lx.put5_at HR3.out k (n:Int) z m y;have HFB:=Lx.put5_bel HB3.out (Nat.le_refl R) k (n:Int) z m y;obtain⟨F,hF⟩:∃F,Lx.put5 w3 R k (n:Int) z m y=F:=⟨_,rfl⟩
  rw[hF]at HF HFB;unfold Lx.put5 at hF;rw[hF];have f0:=HF.c0;have f1:=HF.c1;have f2:=HF.c2;have f3:=HF.c3;have f4:=HF.c4;exact bodyPost_ret (v:= .tuple #[.agg #[.int .i64 k,.int .i64 (n:Int),.int .i64 z,.int .i64 m,.string y],.int .i64 cc]) (by simp[results,Tryz.results145,go_sem,f0,f1,f2,f3,f4]) rfl ⟨k,z,m,y,cc,rfl,by rw[HRW.out];exact HFB,HFIT.out⟩
end Go.Proofs.YtfjmlfbohenmfaaGreat
