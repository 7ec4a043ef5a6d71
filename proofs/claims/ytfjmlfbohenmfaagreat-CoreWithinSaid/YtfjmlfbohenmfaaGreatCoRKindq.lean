/-
  CoRKindq.
-/
import Derived.Test.YtfjmlfbohenmfaaGreatCoreWithinLawZM5
import Derived.Test.YtfjmlfbohenmfaaGreatCoAloneq
import Derived.Test.YtfjmlfbohenmfaaGreatCoreWithinLawZM2
set_option maxRecDepth 100000
set_option maxHeartbeats 32000000
namespace Go.Proofs.YtfjmlfbohenmfaaGreat
open Go.RowKit
attribute [local go_sem] Oper.semAt_some
namespace Co
def wordR(k n:Int):ByteArray:=
 if k=1 then⟨#[99,111,110,115,116]⟩else if k=2 then⟨#[108,111,99,97,108]⟩else if k=3 then⟨#[103,108,111,98,97,108]⟩
 else if k=4 then⟨#[115,101,116]⟩else if k=5 then⟨#[97,115,115,105,103,110]⟩else if k=6 then⟨#[100,101,102,105,110,101]⟩
 else if k=7 then⟨#[105,102]⟩else if k=8 then(if n=1 then⟨#[108,97,109,98,100,97,42]⟩else⟨#[108,97,109,98,100,97]⟩)
 else if k=9 then⟨#[115,101,113]⟩else⟨#[99,97,108,108]⟩
def nn(k n:Int):Int:=if k=8 then n else 0
def kdF(s:ByteArray):Nat→Nat→Int×Int
 |_,0=>(0,0)
 |i,f+1=>if wordR ((i / 2:Nat)+1) (nn ((i / 2:Nat)+1) ((i % 2:Nat):Int))=s then((i / 2:Nat)+1,nn ((i / 2:Nat)+1) ((i % 2:Nat):Int))else kdF s (i+1) f
def kd(s:ByteArray):Int×Int:=kdF s 0 20
theorem kd_step{s:ByteArray}{k n i:Nat}(hk:i=2*k+n)(hn:n<2)(hk10:k<10):
  kdF s i (20 - i)=if wordR ((k:Int)+1) (nn ((k:Int)+1) (n:Int))=s then((k:Int)+1,nn ((k:Int)+1) (n:Int))else kdF s (i+1) (20 - (i+1)):=by
 obtain⟨f,hf⟩:∃f,20 - i=f+1:=⟨19 - i,by omega⟩
 rw[hf,kdF];have e1:i / 2=k:=by omega
 have e2:i % 2=n:=by omega
 have e3:20 - (i+1)=f:=by omega
 rw[e1,e2,e3]
end Co
theorem word07_any(k n dk dn:Int)(s ds:ByteArray)(vm vl vt vp vk:Value)(w:World):
  Calls Tryz.prog 149 #[.agg #[.int .i64 k,.int .i64 n,.string s,.int .i64 dk,.int .i64 dn,.string ds,vm,vl,vt,vp,vk]] w fun e w'=>e= .returned (.string (Co.wordR k n))∧Below w.heap.size w w':=by
 obtain⟨w1,hw1⟩:∃w1,w.alloc (.cells #[.int .i64 k,.int .i64 n,.string s,.int .i64 dk,.int .i64 dn,.string ds,vm,vl,vt,vp,vk] 28)=w1:=⟨_,rfl⟩
 obtain⟨hb1,-⟩:=new_below hw1;have c0:=(Hp.new hw1).cell 0 rfl;have c1:=(Hp.new hw1).cell 1 rfl;have HB:=zh hb1;clear hb1;obtain⟨R,hR⟩:∃R,Co.wordR k n=R:=⟨_,rfl⟩
 rw[hR];unfold Co.wordR at hR;by_cases g1:k=1
 ·rw[if_pos g1]at hR;subst g1 hR;go_enter Tryz.func149,Tryz.ntmps149;go_wp2;go_ret;exact⟨rfl,HB.out⟩
 rw[if_neg g1]at hR;have t1:(k==1)=false:=by rw[beq_eq_false_iff_ne];omega
 by_cases g2:k=2
 ·rw[if_pos g2]at hR;subst g2 hR;go_enter Tryz.func149,Tryz.ntmps149;go_wp2;go_ret;exact⟨rfl,HB.out⟩
 rw[if_neg g2]at hR;have t2:(k==2)=false:=by rw[beq_eq_false_iff_ne];omega
 by_cases g3:k=3
 ·rw[if_pos g3]at hR;subst g3 hR;go_enter Tryz.func149,Tryz.ntmps149;go_wp2;go_ret;exact⟨rfl,HB.out⟩
 rw[if_neg g3]at hR;have t3:(k==3)=false:=by rw[beq_eq_false_iff_ne];omega
 by_cases g4:k=4
 ·rw[if_pos g4]at hR;subst g4 hR;go_enter Tryz.func149,Tryz.ntmps149;go_wp2;go_ret;exact⟨rfl,HB.out⟩
 rw[if_neg g4]at hR;have t4:(k==4)=false:=by rw[beq_eq_false_iff_ne];omega
 by_cases g5:k=5
 ·rw[if_pos g5]at hR;subst g5 hR;go_enter Tryz.func149,Tryz.ntmps149;go_wp2;go_ret;exact⟨rfl,HB.out⟩
 rw[if_neg g5]at hR;have t5:(k==5)=false:=by rw[beq_eq_false_iff_ne];omega
 by_cases g6:k=6
 ·rw[if_pos g6]at hR;subst g6 hR;go_enter Tryz.func149,Tryz.ntmps149;go_wp2;go_ret;exact⟨rfl,HB.out⟩
 rw[if_neg g6]at hR;have t6:(k==6)=false:=by rw[beq_eq_false_iff_ne];omega
 by_cases g7:k=7
 ·rw[if_pos g7]at hR;subst g7 hR;go_enter Tryz.func149,Tryz.ntmps149;go_wp2;go_ret;exact⟨rfl,HB.out⟩
 rw[if_neg g7]at hR;have t7:(k==7)=false:=by rw[beq_eq_false_iff_ne];omega
 by_cases g8:k=8
 ·rw[if_pos g8]at hR;subst g8;by_cases gn:n=1
  ·rw[if_pos gn]at hR;subst gn hR;go_enter Tryz.func149,Tryz.ntmps149;go_wp2;go_ret;exact⟨rfl,HB.out⟩
  ·rw[if_neg gn]at hR;have tn:(n==1)=false:=by rw[beq_eq_false_iff_ne];omega
   subst hR;clear gn;go_enter Tryz.func149,Tryz.ntmps149;go_wp2;go_ret;exact⟨rfl,HB.out⟩
 rw[if_neg g8]at hR;have t8:(k==8)=false:=by rw[beq_eq_false_iff_ne];omega
 by_cases g9:k=9
 ·rw[if_pos g9]at hR;subst g9 hR;go_enter Tryz.func149,Tryz.ntmps149;go_wp2;go_ret;exact⟨rfl,HB.out⟩
 rw[if_neg g9]at hR;have t9:(k==9)=false:=by rw[beq_eq_false_iff_ne];omega
 subst hR;clear g1 g2 g3 g4 g5 g6 g7 g8 g9;go_enter Tryz.func149,Tryz.ntmps149;go_wp2;go_ret;exact⟨rfl,HB.out⟩
theorem kind07_any(s:ByteArray)(w:World):
  Calls Tryz.prog 110 #[.string s] w fun e w'=>e= .returned (.tuple #[.int .i64 (Co.kd s).1,.int .i64 (Co.kd s).2])∧Below w.heap.size w w':=by
 obtain⟨⟨r1,r2⟩,hR⟩:∃R,Co.kd s=R:=⟨_,rfl⟩
 rw[hR];have HR:=zh hR;have HI0:Hid (Below w.heap.size w w∧Co.kd s=Co.kdF s (2*0) (20 - 2*0)):=⟨Below.refl _ _,rfl⟩
 clear hR;go_enter Tryz.func110,Tryz.ntmps110;go_wp2
 go_loopw [4] (fun v wr=>∃k:Nat,v= .int .i64 ((k:Int)+1)∧k≤10∧Hid (Below w.heap.size w wr∧Co.kd s=Co.kdF s (2*k) (20 - 2*k))) (fun v _=>11 - (intOf v).toNat)
 case atStart=>exact⟨0,rfl,by omega,HI0⟩
 case round=>
  clear HI0;obtain⟨k,rfl,hk,HI⟩:=hrel;by_cases h10:k<10
  case neg=>
   have hge:(10:Int)<(k:Int)+1:=by omega
   have hd:decide ((k:Int)+1≤10)=false:=decide_eq_false (by omega);have HZ:Hid (r1=0∧r2=0):=by
    have h:=HI.out.2;rw[show k=10 by omega,HR.out]at h;have h:(r1,r2)=((0:Int),(0:Int)):=h;exact⟨congrArg Prod.fst h,congrArg Prod.snd h⟩
   have HB:=zh HI.out.1;go_wp2;refine bodyPost_ret (v:= .tuple #[.int .i64 0,.int .i64 0]) (by simp[results,Tryz.results110,go_sem, *]) rfl ?_;rw[HZ.out.1,HZ.out.2];exact⟨rfl,HB.out⟩
  have hle:decide ((k:Int)+1≤10)=true:=decide_eq_true (by omega);have hlei:(k:Int)+1≤10:=by omega
  have HJ0:Hid (Below w.heap.size w wr∧Co.kd s=Co.kdF s (2*k+0) (20 - (2*k+0))):=HI.out;go_wp2
  go_loopw [5] (fun v w9=>∃n:Nat,v= .int .i64 (n:Int)∧n≤2∧Hid (Below w.heap.size w w9∧Co.kd s=Co.kdF s (2*k+n) (20 - (2*k+n)))) (fun v _=>2 - (intOf v).toNat)
  case atStart=>exact⟨0,rfl,by omega,HJ0⟩
  case round=>
   clear HJ0 HI;obtain⟨n,rfl,hn,HJ⟩:=hrel;by_cases h2:n<2
   case neg=>
    have hge:(1:Int)<(n:Int):=by omega
    have hd:decide ((n:Int)≤1)=false:=decide_eq_false (by omega);have HN:Hid (Below w.heap.size w wr∧Co.kd s=Co.kdF s (2*(k+1)) (20 - 2*(k+1))):=by
     have h:=HJ.out;rw[show 2*k+n=2*(k+1)by omega]at h;exact h
    go_wp2;go_roundw
    case rel=>exact⟨k+1,by simp,by omega,HN⟩
    case measure=>simp[intOf];omega
   have hlen:(n:Int)≤1:=by omega
   have hd:decide ((n:Int)≤1)=true:=decide_eq_true hlen;have hst:=Co.kd_step (s:=s) (i:=2*k+n) rfl h2 h10;have hwA:wr.alloc (.cells #[.int .i64 ((k:Int)+1),.int .i64 0,.string ⟨#[]⟩,.int .i64 0,.int .i64 0,.string ⟨#[]⟩,.slice none 0 0,.slice none 0 0,.slice none 0 0,.slice none 0 0,.slice none 0 0] 28)=wr.alloc (.cells #[.int .i64 ((k:Int)+1),.int .i64 0,.string ⟨#[]⟩,.int .i64 0,.int .i64 0,.string ⟨#[]⟩,.slice none 0 0,.slice none 0 0,.slice none 0 0,.slice none 0 0,.slice none 0 0] 28):=rfl;obtain⟨hbA,hsA⟩:=new_below hwA;have HA:=zh (Hp.new hwA);have HBA:Hid (Below w.heap.size w (wr.alloc (.cells #[.int .i64 ((k:Int)+1),.int .i64 0,.string ⟨#[]⟩,.int .i64 0,.int .i64 0,.string ⟨#[]⟩,.slice none 0 0,.slice none 0 0,.slice none 0 0,.slice none 0 0,.slice none 0 0] 28))):=HJ.out.1.trans (hbA.mono HJ.out.1.size);have HSA:=zh hsA;have HLB:Hid (w.heap.size≤wr.heap.size):=HJ.out.1.size;clear hbA hsA hwA;by_cases h8:k=7
   ·have hk8:((k:Int)+1==8)=true:=by rw[beq_iff_eq];omega
    have hN:Co.nn ((k:Int)+1) (n:Int)=(n:Int):=by unfold Co.nn;rw[if_pos (by omega)]
    clear h8;rw[hN]at hst;obtain⟨wB,hwB⟩:∃wB,(wr.alloc (.cells #[.int .i64 ((k:Int)+1),.int .i64 0,.string ⟨#[]⟩,.int .i64 0,.int .i64 0,.string ⟨#[]⟩,.slice none 0 0,.slice none 0 0,.slice none 0 0,.slice none 0 0,.slice none 0 0] 28)).setCell ⟨wr.heap.size,1,none⟩ (.int .i64 (n:Int))=wB:=⟨_,rfl⟩
    have kB:=set_keep (wr.alloc (.cells #[.int .i64 ((k:Int)+1),.int .i64 0,.string ⟨#[]⟩,.int .i64 0,.int .i64 0,.string ⟨#[]⟩,.slice none 0 0,.slice none 0 0,.slice none 0 0,.slice none 0 0,.slice none 0 0] 28)) wr.heap.size 1 (.int .i64 (n:Int));rw[hwB]at kB;have HC:Hid (Hp wB wr.heap.size #[.int .i64 ((k:Int)+1),.int .i64 (n:Int),.string ⟨#[]⟩,.int .i64 0,.int .i64 0,.string ⟨#[]⟩,.slice none 0 0,.slice none 0 0,.slice none 0 0,.slice none 0 0,.slice none 0 0] 28):=by rw[←hwB];exact HA.out.set 1 _
    have HBB:Hid (Below w.heap.size w wB):=HBA.out.trans (kB.to_below (fun j e=>by have:=HLB.out;omega) HBA.out.size);have xA:=HA.out.cell 1 rfl;have xf:=HA.out.frz 1;obtain⟨c0,c1,c2,c3,c4,c5,c6,c7,c8,c9,c10⟩:=HC.out.c11;have hwd:=word07_any ((k:Int)+1) (n:Int) 0 0 ⟨#[]⟩ ⟨#[]⟩ (.slice none 0 0) (.slice none 0 0) (.slice none 0 0) (.slice none 0 0) (.slice none 0 0) wB;obtain⟨WD,hWD⟩:∃WD,Co.wordR ((k:Int)+1) (n:Int)=WD:=⟨_,rfl⟩
    rw[hWD]at hwd hst;clear kB hN;clear hWD;have HST:=zh hst;clear hst;go_wp2_with fail
    refine hwd.mono ?_;rintro e wC ⟨rfl,hbC⟩;have HBC:Hid (Below w.heap.size w wC):=btr HBB.out hbC;have HCC:=zh (HC.out.below hbC);have d1:=HCC.out.cell 1 rfl;clear xA xf hwB c0 c1 c2 c3 c4 c5 c6 c7 c8 c9 c10 hwd hbC;by_cases hm:WD=s
    ·have s1:decide (WD=s)=true:=decide_eq_true hm;have s2:(WD.data==s.data)=true:=by rw[hm];simp
     have s4:(WD==s)=true:=s2;have s6:(WD.toList==s.toList)=true:=by rw[hm];simp
     have HF:Hid (r1=((k:Int)+1)∧r2=(n:Int)):=by
      have h:=HJ.out.2;rw[HST.out,if_pos hm,HR.out]at h;exact⟨congrArg Prod.fst h,congrArg Prod.snd h⟩
     clear hm;go_wp2
     go_region
     all_goals
      go_wp2;refine bodyPost_ret (v:= .tuple #[.int .i64 ((k:Int)+1),.int .i64 (n:Int)]) (by simp[results,Tryz.results110,go_sem, *]) rfl ?_;rw[HF.out.1,HF.out.2];exact⟨rfl,HBC.out.drew⟩
    ·have s1:decide (WD=s)=false:=decide_eq_false hm;have s2:(WD.data==s.data)=false:=by rw[beq_eq_false_iff_ne];intro e;exact hm (Dt.bytes_ext (by rw[e]))
     have s4:(WD==s)=false:=s2;have s6:(WD.toList==s.toList)=false:=by rw[ByteArray.toList_eq,ByteArray.toList_eq,beq_eq_false_iff_ne];exact fun e=>hm (Dt.bytes_ext e)
     have HN:Hid (Below w.heap.size w wC∧Co.kd s=Co.kdF s (2*k+(n+1)) (20 - (2*k+(n+1)))):=by
      have h:=HJ.out.2;rw[HST.out,if_neg hm]at h;exact⟨HBC.out,h⟩
     clear hm;go_wp2;go_roundw
     case rel=>exact⟨n+1,by simp,by omega,HN⟩
     case measure=>simp[intOf];omega
   ·have hk8:((k:Int)+1==8)=false:=by rw[beq_eq_false_iff_ne];omega
    have hN:Co.nn ((k:Int)+1) (n:Int)=0:=by unfold Co.nn;rw[if_neg (by omega)]
    rw[hN]at hst;have HC:=HA;have HBB:=HBA;obtain⟨c0,c1,c2,c3,c4,c5,c6,c7,c8,c9,c10⟩:=HC.out.c11;have hwd:=word07_any ((k:Int)+1) 0 0 0 ⟨#[]⟩ ⟨#[]⟩ (.slice none 0 0) (.slice none 0 0) (.slice none 0 0) (.slice none 0 0) (.slice none 0 0) (wr.alloc (.cells #[.int .i64 ((k:Int)+1),.int .i64 0,.string ⟨#[]⟩,.int .i64 0,.int .i64 0,.string ⟨#[]⟩,.slice none 0 0,.slice none 0 0,.slice none 0 0,.slice none 0 0,.slice none 0 0] 28));obtain⟨WD,hWD⟩:∃WD,Co.wordR ((k:Int)+1) 0=WD:=⟨_,rfl⟩
    rw[hWD]at hwd hst;clear hN;clear hWD;have HST:=zh hst;clear hst;go_wp2_with fail
    refine hwd.mono ?_;rintro e wC ⟨rfl,hbC⟩;have HBC:Hid (Below w.heap.size w wC):=btr HBB.out hbC;have HCC:=zh (HC.out.below hbC);have d1:=HCC.out.cell 1 rfl;clear c0 c1 c2 c3 c4 c5 c6 c7 c8 c9 c10 hwd hbC;by_cases hm:WD=s
    ·have s1:decide (WD=s)=true:=decide_eq_true hm;have s2:(WD.data==s.data)=true:=by rw[hm];simp
     have s4:(WD==s)=true:=s2;have s6:(WD.toList==s.toList)=true:=by rw[hm];simp
     have HF:Hid (r1=((k:Int)+1)∧r2=0):=by
      have h:=HJ.out.2;rw[HST.out,if_pos hm,HR.out]at h;exact⟨congrArg Prod.fst h,congrArg Prod.snd h⟩
     clear hm;go_wp2
     go_region
     all_goals
      go_wp2;refine bodyPost_ret (v:= .tuple #[.int .i64 ((k:Int)+1),.int .i64 0]) (by simp[results,Tryz.results110,go_sem, *]) rfl ?_;rw[HF.out.1,HF.out.2];exact⟨rfl,HBC.out.drew⟩
    ·have s1:decide (WD=s)=false:=decide_eq_false hm;have s2:(WD.data==s.data)=false:=by rw[beq_eq_false_iff_ne];intro e;exact hm (Dt.bytes_ext (by rw[e]))
     have s4:(WD==s)=false:=s2;have s6:(WD.toList==s.toList)=false:=by rw[ByteArray.toList_eq,ByteArray.toList_eq,beq_eq_false_iff_ne];exact fun e=>hm (Dt.bytes_ext e)
     have HN:Hid (Below w.heap.size w wC∧Co.kd s=Co.kdF s (2*k+(n+1)) (20 - (2*k+(n+1)))):=by
      have h:=HJ.out.2;rw[HST.out,if_neg hm]at h;exact⟨HBC.out,h⟩
     clear hm;go_wp2;go_roundw
     case rel=>exact⟨n+1,by simp,by omega,HN⟩
     case measure=>simp[intOf];omega
end Go.Proofs.YtfjmlfbohenmfaaGreat
