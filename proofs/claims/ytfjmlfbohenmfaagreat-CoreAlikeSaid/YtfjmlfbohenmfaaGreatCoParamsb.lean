/-
 core.params, shuttleref07.params: which parameters may be. (Printed by genCoParams.py.)
-/
import Derived.Test.YtfjmlfbohenmfaaGreatCoreBBM7
import Derived.RegionTactic
import Derived.BigQuiet
import Derived.Test.YtfjmlfbohenmfaaGreatCoreBBM2
namespace Go.Proofs.YtfjmlfbohenmfaaGreat
open Go.RowKit
attribute [local go_sem] Oper.semAt_some
namespace Co
def okP(pre:List Int):List Int→Bool
 |[]=>true
 |x :: r=>var x&& !pre.contains x&&okP (pre++[x]) r
theorem okP_eq:∀(l pre:List Int),okP pre l=(l.all var&&once l&&l.all (fun x=> !pre.contains x))
 |[],pre=>rfl
 |x :: r,pre=>by
  rw[okP,okP_eq r (pre++[x]),List.all_cons,List.all_cons,once];have e:(r.all fun y=> !(pre++[x]).contains y)=((r.all fun y=> !pre.contains y)&& !r.contains x):=by
   induction r with
   |nil=>rfl
   |cons y r ih=>
    rw[List.all_cons,List.all_cons,ih,List.contains_cons];have e1:(pre++[x]).contains y=(pre.contains y||(y==x)):=by
     rw[Bool.eq_iff_iff];simp
    rw[e1];have e2:(x==y)=(y==x):=by rw[Bool.eq_iff_iff];simp;exact eq_comm
    rw[e2];cases pre.contains y <;> cases (y==x) <;> cases (r.all fun y=> !pre.contains y) <;> cases r.contains x <;> rfl
  rw[e];cases var x <;> cases pre.contains x <;> cases r.all var <;> cases once r <;> cases (r.all fun y=> !pre.contains y) <;> cases r.contains x <;> rfl
theorem okP_nil(l:List Int):okP [] l=(l.all var&&once l):=by
 rw[okP_eq];have:(l.all fun x=> !([]:List Int).contains x)=true:=by rw[List.all_eq_true];intro x _;rfl
 rw[this,Bool.and_true]
theorem params_ok{n:Int}{p:List Int}(h1:p.length≤32)(h2:n=0∨(n=1∧p≠[])):params n p=okP [] p:=by
 unfold params;rw[okP_nil,decide_eq_true h1];have:(decide (n=0)||(decide (n=1)&& !p.isEmpty))=true:=by
  rcases h2 with rfl|⟨rfl,h⟩
  ·rfl
  ·cases p with
   |nil=>exact absurd rfl h
   |cons=>rfl
 rw[this,Bool.true_and,Bool.true_and]
theorem params_no{n:Int}{p:List Int}(h:¬ (p.length≤32∧(n=0∨(n=1∧p≠[])))):params n p=false:=by
 unfold params;by_cases h1:p.length≤32
 ·have h2:¬ (n=0∨(n=1∧p≠[])):=fun e=>h ⟨h1,e⟩
  have:(decide (n=0)||(decide (n=1)&& !p.isEmpty))=false:=by
   rw[decide_eq_false (fun e=>h2 (.inl e))];by_cases h3:n=1
   ·cases p with
    |nil=>simp
    |cons=>exact absurd (.inr ⟨h3,by simp⟩) h2
   ·rw[decide_eq_false h3];rfl
  rw[this];simp
 ·rw[decide_eq_false h1];rfl
theorem okP_at{p:List Int}{k:Nat}(h:k<p.length):okP (p.take k) (p.drop k)=(var p[k]&& !(p.take k).contains p[k]&&okP (p.take (k+1)) (p.drop (k+1))):=by
 rw[List.drop_eq_getElem_cons h,okP,List.take_succ_eq_append_getElem h]
theorem okP_end(p:List Int):okP (p.take p.length) (p.drop p.length)=true:=by rw[List.drop_length];rfl
end Co
set_option maxRecDepth 100000 in
set_option maxHeartbeats 4000000 in
theorem paramsC_any{F:Nat→Prop}(ck n dk dn:Int)(s ds:ByteArray)(vm vl vt vp vk:Value)(p:List Int)(w:World)(hP:Dt.IRow F w vp p)(hl:p.length≤140737488355328):
  Calls Tryz.prog 91 #[.agg #[.int .i64 ck,.int .i64 n,.string s,.int .i64 dk,.int .i64 dn,.string ds,vm,vl,vt,vp,vk]] w fun e w'=>e= .returned (.bool (Co.params n p))∧Below w.heap.size w w':=by
 obtain⟨a,c,rfl,hlc,hc⟩:=hP;have HPR:Hid (Dt.IRow F w (.slice a p.length c) p):=⟨a,c,rfl,hlc,hc⟩
 have HLC:=zh hlc;obtain⟨w1,hw1⟩:∃w1,w.alloc (.cells #[.int .i64 ck,.int .i64 n,.string s,.int .i64 dk,.int .i64 dn,.string ds,vm,vl,vt,.slice a p.length c,vk] 28)=w1:=⟨_,rfl⟩
 obtain⟨hb1,hs1⟩:=new_below hw1;have h1:=Hp.new hw1;have HP1:Hid (Dt.IRow F w1 (.slice a p.length c) p):=HPR.out.keep (keep_of_below (S:=fun _=>False) hb1) (fun _ _ _ h=>h);have HB:=zh hb1;have c1:=h1.cell 1 rfl;have c9:=h1.cell 9 rfl;obtain⟨R,hR⟩:∃R,R=Co.params n p:=⟨_,rfl⟩
 rw[←hR];have HR:=zh hR;obtain⟨N,hN⟩:∃N,p.length=N:=⟨_,rfl⟩
 rw[hN]at hw1 c9 HP1 hl;have HN:=zh hN;rw[hN];clear hb1 hs1 h1 hc HPR hR hN hlc;by_cases g1:32<N
 ·have b1:decide ((32:Int)<(N:Int))=true:=decide_eq_true (by omega);have HF:Hid (R=false):=by show R=false;rw[HR.out];refine Co.params_no ?_;rw[HN.out];omega
  go_enter Tryz.func91,Tryz.ntmps91;go_wp2;go_ret;exact⟨by rw[HF.out];rfl,HB.out⟩
 have b1:decide ((32:Int)<(N:Int))=false:=decide_eq_false (by omega);by_cases g2:n<0
 ·have b2:decide (n<0)=true:=decide_eq_true g2;have HF:Hid (R=false):=by show R=false;rw[HR.out];refine Co.params_no ?_;rw[HN.out];omega
  go_enter Tryz.func91,Tryz.ntmps91;go_wp2;go_ret;exact⟨by rw[HF.out];rfl,HB.out⟩
 have b2:decide (n<0)=false:=decide_eq_false g2;by_cases g3:1<n
 ·have b3:decide (1<n)=true:=decide_eq_true g3;have HF:Hid (R=false):=by show R=false;rw[HR.out];refine Co.params_no ?_;rw[HN.out];omega
  go_enter Tryz.func91,Tryz.ntmps91;go_wp2;go_ret;exact⟨by rw[HF.out];rfl,HB.out⟩
 have b3:decide (1<n)=false:=decide_eq_false g3;by_cases g4:(N:Int)<n
 ·have b4:decide ((N:Int)<n)=true:=decide_eq_true g4;have HF:Hid (R=false):=by
   show R=false;rw[HR.out];refine Co.params_no (fun h=> ?_);rw[HN.out]at h;rcases h.2 with e|⟨e,e2⟩
   ·omega
   ·have:p.length≠0:=fun e3=>e2 (List.length_eq_zero_iff.1 e3)
    rw[HN.out]at this;omega
  clear g1 g2 g3 g4;go_enter Tryz.func91,Tryz.ntmps91;go_wp2;go_ret;exact⟨by rw[HF.out];rfl,HB.out⟩
 have b4:decide ((N:Int)<n)=false:=decide_eq_false g4;have HR0:Hid (R=Co.okP (p.take 0) (p.drop 0)):=by
  show R=_;rw[HR.out,List.take_zero,List.drop_zero];refine Co.params_ok (by rw[HN.out];omega) ?_;by_cases e:n=0
  ·exact .inl e
  ·refine .inr ⟨by omega,fun e2=> ?_⟩;have:=HN.out;rw[e2]at this;simp at this;omega
 have hN32:N≤32:=by omega
 clear g1 g2 g3 g4;go_enter Tryz.func91,Tryz.ntmps91;go_wp2;clear b1 b2 b3 b4
 go_loop [30] (fun v=>∃k:Nat,v= .int .i64 k∧k≤N∧Hid (R=Co.okP (p.take k) (p.drop k))) (fun v=>N - (intOf v).toNat)
 case atStart=>exact⟨0,rfl,by omega,HR0⟩
 case round=>
  obtain⟨k,rfl,hk,HRk⟩:=hrel;by_cases hlt:k<N
  ·have hlti:(k:Int)<(N:Int):=by omega
   have hlp:k<p.length:=by rw[HN.out];exact hlt
   obtain⟨_,_,he,_,hc⟩:=HP1.out;injection he with he1 he2 he3
   subst he1;clear he2 he3;obtain⟨b,o,rfl,_,_,hcell⟩:=hc (by intro h0;rw[h0]at hlp;simp at hlp);have x0:=hcell k hlp;obtain⟨x,hx⟩:∃x,p[k]=x:=⟨_,rfl⟩
   have hst:=HRk.out;rw[Co.okP_at hlp,hx]at hst;rw[hx]at x0;have hv:=fun W=>varC_any x W
   have hi:=indexI_any (.slice (some ⟨b,o,none⟩) N c) p x w1 HP1.out (by rw[HN.out];omega);have HX:=zh hx;have HST:=zh hst;clear hc hcell hx hst;cases hvx:Co.var x
   ·rw[hvx]at hv;have HF:Hid (R=false):=by show R=false;rw[HST.out,hvx];rfl
    clear hvx hi;go_wp2_with(go_at_call 83;refine(hv _).mono ?_;rintro e w2 ⟨rfl,rfl⟩)
    go_ret;exact⟨by rw[HF.out];rfl,HB.out⟩
   ·rw[hvx]at hv;have HVX:=zh hvx;clear hvx;have hi2:Calls Tryz.prog 52 #[.slice (some ⟨b,o,none⟩) N c,.int .i64 x] w1 fun e w'=>(∃y:Int,e= .returned (.int .i64 y)∧(y !=(k:Int))=(p.take k).contains x)∧w1=w':=hi.mono fun e w' h=>by
     obtain⟨⟨y,e1,e2⟩,e3⟩:=h;have hat:=Co.IdxIs.at hlp (HX.out.symm▸e2);rw[HX.out]at hat;exact⟨⟨y,e1,hat⟩,e3⟩
    clear hi;cases hcx:(p.take k).contains x
    ·rw[hcx]at hi2;have HN1:Hid (R=Co.okP (p.take (k+1)) (p.drop (k+1))):=by
      show R=_;rw[HST.out,hcx,HVX.out];rfl
     clear hcx;go_wp2_with(first
      |(go_at_call 83;refine(hv _).mono ?_;rintro e w2 ⟨rfl,rfl⟩)
      |(go_at_call 52;refine hi2.mono ?_;rintro e w2 ⟨⟨y,rfl,hy⟩,rfl⟩))
     go_round
     case rel=>exact⟨k+1,by simp,by omega,HN1⟩
     case measure=>simp[intOf];omega
    ·rw[hcx]at hi2;have HF:Hid (R=false):=by
      show R=false;rw[HST.out,hcx];simp
     clear hcx;go_wp2_with(first
      |(go_at_call 83;refine(hv _).mono ?_;rintro e w2 ⟨rfl,rfl⟩)
      |(go_at_call 52;refine hi2.mono ?_;rintro e w2 ⟨⟨y,rfl,hy⟩,rfl⟩))
     go_ret;exact⟨by rw[HF.out];rfl,HB.out⟩
  ·have hge:(N:Int)≤(k:Int):=by omega
   have HF:Hid (R=true):=by
    show R=true;have:=HRk.out;rw[show k=p.length by rw[HN.out];omega,Co.okP_end]at this;exact this
   go_wp2;go_ret;exact⟨by rw[HF.out];rfl,HB.out⟩
namespace Co
theorem irow_take{F:Nat→Prop}{w:World}{b o c:Nat}{p:List Int}(h:Dt.IRow F w (.slice (some ⟨b,o,none⟩) p.length c) p){k:Nat}(hk:k<p.length):Dt.IRow F w (.slice (some ⟨b,o,none⟩) k c) (p.take k):=by
 obtain⟨a',c',e1,e2,e3⟩:=h;injection e1 with e4 e5 e6
 subst e4 e6;have hl:(p.take k).length=k:=by rw[List.length_take];omega
 refine⟨_,c,by rw[hl],by omega,fun hn=> ?_⟩;obtain⟨b',o',e7,e8,e9,e10⟩:=e3 (by intro e;rw[e]at hk;simp at hk);cases e7;refine⟨b,o,rfl,e8,e9,fun j hj=> ?_⟩;rw[hl]at hj;rw[e10 j (by omega)];simp
theorem qsame{P:Program}{f:FuncId}{args:Array Value}{w:World}{n:Nat}{v:Value}(h:Calls P f args (w.drewN n) fun e w'=>e= .returned v∧w.drewN n=w'):Calls P f args (w.drewN n) fun e w''=>e= .returned v∧∃m,w''=w.drewN m:=
 h.mono fun _ _ ⟨he,hm⟩=>⟨he,n,hm.symm⟩
theorem drewN_below(w:World)(n:Nat):Below w.heap.size w (w.drewN n):=⟨rfl,rfl,rfl,Nat.le_refl _,fun _ _=>rfl⟩
end Co
set_option maxRecDepth 100000 in
set_option maxHeartbeats 4000000 in
theorem paramsR_any{F:Nat→Prop}(ck n dk dn:Int)(s ds:ByteArray)(vm vl vt vp vk:Value)(p:List Int)(w:World)(hP:Dt.IRow F w vp p)(hl:p.length≤140737488355328):
  Calls Tryz.prog 94 #[.agg #[.int .i64 ck,.int .i64 n,.string s,.int .i64 dk,.int .i64 dn,.string ds,vm,vl,vt,vp,vk]] w fun e w'=>e= .returned (.bool (Co.params n p))∧Below w.heap.size w w':=by
 obtain⟨a,c,rfl,hlc,hc⟩:=hP;have HPR:Hid (Dt.IRow F w (.slice a p.length c) p):=⟨a,c,rfl,hlc,hc⟩
 have HLC:=zh hlc;obtain⟨w1,hw1⟩:∃w1,w.alloc (.cells #[.int .i64 ck,.int .i64 n,.string s,.int .i64 dk,.int .i64 dn,.string ds,vm,vl,vt,.slice a p.length c,vk] 28)=w1:=⟨_,rfl⟩
 obtain⟨hb1,hs1⟩:=new_below hw1;have h1:=Hp.new hw1;have HP1:Hid (Dt.IRow F w1 (.slice a p.length c) p):=HPR.out.keep (keep_of_below (S:=fun _=>False) hb1) (fun _ _ _ h=>h);have HB:=zh hb1;have c1:=h1.cell 1 rfl;have c9:=h1.cell 9 rfl;obtain⟨R,hR⟩:∃R,R=Co.params n p:=⟨_,rfl⟩
 rw[←hR];have HR:=zh hR;obtain⟨N,hN⟩:∃N,p.length=N:=⟨_,rfl⟩
 rw[hN]at hw1 c9 HP1 hl h1;have H1:=zh h1;have HN:=zh hN;rw[hN];clear hb1 hs1 h1 hc HPR hR hN hlc;by_cases g1:32<N
 ·have b1:decide ((32:Int)<(N:Int))=true:=decide_eq_true (by omega);have HF:Hid (R=false):=by show R=false;rw[HR.out];refine Co.params_no ?_;rw[HN.out];omega
  go_enter Tryz.func94,Tryz.ntmps94;go_wp2;go_ret;exact⟨by rw[HF.out];rfl,HB.out⟩
 have b1:decide ((32:Int)<(N:Int))=false:=decide_eq_false (by omega);have HB1:Hid (Below w1.heap.size w1 w1):=Below.refl _ _;have hN32:N≤32:=by omega
 clear g1;by_cases g2:n=0
 ·subst g2;have b2:((0:Int) !=0)=false:=rfl;have HR0:Hid (R=Co.okP (p.take 0) (p.drop 0)):=by
   show R=_;rw[HR.out,List.take_zero,List.drop_zero];refine Co.params_ok (by rw[HN.out];omega) (.inl rfl)
  go_enter Tryz.func94,Tryz.ntmps94;go_wp2;clear hw1;clear b1 b2
  go_loopw [3] (fun v wr=>∃k:Nat,v= .int .i64 k∧k≤N∧Hid (R=Co.okP (p.take k) (p.drop k))∧Hid (Below w1.heap.size w1 wr)) (fun v _=>N - (intOf v).toNat)
  case atStart=>exact⟨0,rfl,by omega,HR0,HB1⟩
  case round=>
   clear HB1 c1 c9;obtain⟨k,rfl,hk,HRk,HBr⟩:=hrel;have c1:=(H1.out.below HBr.out).cell 1 rfl;have c9:=(H1.out.below HBr.out).cell 9 rfl;by_cases hlt:k<N
   ·have hlti:(k:Int)<(N:Int):=by omega
    have hlp:k<p.length:=by rw[HN.out];exact hlt
    have hrow:=HP1.out.keep (keep_of_below (S:=fun _=>False) HBr.out) (fun _ _ _ h=>h);have HRW:=zh hrow;obtain⟨_,_,he,_,hc⟩:=hrow;injection he with he1 he2 he3
    subst he1;clear he2 he3;obtain⟨b,o,rfl,_,_,hcell⟩:=hc (by intro h0;rw[h0]at hlp;simp at hlp);have x0:=hcell k hlp;obtain⟨x,hx⟩:∃x,p[k]=x:=⟨_,rfl⟩
    have hst:=HRk.out;rw[Co.okP_at hlp,hx]at hst;rw[hx]at x0;have hv:=fun W=>numC_any x W
    have hi:=fun n=>inI_any (.slice (some ⟨b,o,none⟩) k c) (p.take k) x (wr.drewN n) ((Co.irow_take (by have:=HRW.out;rw[←HN.out]at this;exact this) hlp).keep (keep_of_below (S:=fun _=>False) (Co.drewN_below wr n)) (fun _ _ _ h=>h)) (by rw[List.length_take];omega)
    have HX:=zh hx;have HST:=zh hst;have b6:decide ((k:Int)<(N:Int))=true:=decide_eq_true hlti;have hkc:(k:Int)≤(c:Int):=by have:=HLC.out;rw[HN.out]at this;omega
    have hkn:k≤c:=by omega
    have hk0:(0:Int)≤(k:Int):=by omega
    clear hc hcell hx hst;cases hvx:Co.var x
    ·rw[hvx]at hv;have HF:Hid (R=false):=by show R=false;rw[HST.out,hvx];rfl
     clear hvx hi;go_wp2
     go_quiet ((go_at_call 96;refine Co.qsame (hv _)))
     go_wp2;go_ret;exact⟨by rw[HF.out];rfl,HB.out.trans ((HBr.out.mono HB.out.size).trans ⟨rfl,rfl,rfl,Nat.le_refl _,fun _ _=>rfl⟩)⟩
    ·rw[hvx]at hv;have HVX:=zh hvx;clear hvx;cases hcx:(p.take k).contains x
     ·rw[hcx]at hi;have HN1:Hid (R=Co.okP (p.take (k+1)) (p.drop (k+1))):=by
       show R=_;rw[HST.out,hcx,HVX.out];rfl
      clear hcx;go_wp2
      go_quiet (first
       |(go_at_call 96;refine Co.qsame (hv _))
       |(go_at_call 67;refine Co.qsame (hi _)))
      go_wp2;go_roundw
      case rel=>exact⟨k+1,by simp,by omega,HN1,HBr.out.trans ⟨rfl,rfl,rfl,Nat.le_refl _,fun _ _=>rfl⟩⟩
      case measure=>simp[intOf];omega
     ·rw[hcx]at hi;have HF:Hid (R=false):=by
       show R=false;rw[HST.out,hcx];simp
      clear hcx;go_wp2
      go_quiet (first
       |(go_at_call 96;refine Co.qsame (hv _))
       |(go_at_call 67;refine Co.qsame (hi _)))
      go_wp2;go_ret;exact⟨by rw[HF.out];rfl,HB.out.trans ((HBr.out.mono HB.out.size).trans ⟨rfl,rfl,rfl,Nat.le_refl _,fun _ _=>rfl⟩)⟩
   ·have hge:(N:Int)≤(k:Int):=by omega
    have HF:Hid (R=true):=by
     show R=true;have:=HRk.out;rw[show k=p.length by rw[HN.out];omega,Co.okP_end]at this;exact this
    go_wp2;go_ret;exact⟨by rw[HF.out];rfl,(btr HB.out HBr.out)⟩
 have b2:(n !=0)=true:=by simpa using g2
 by_cases g3:n=1
 ·subst g3;have b3:((1:Int) !=1)=false:=rfl;by_cases g4:N=0
  ·have b4:((N:Int)==0)=true:=by simpa using g4
   have HF:Hid (R=false):=by
    show R=false;rw[HR.out];refine Co.params_no (fun h=> ?_);rcases h.2 with e|⟨e,e2⟩
    ·omega
    ·exact e2 (List.length_eq_zero_iff.1 (by rw[HN.out];exact g4))
   clear g4;go_enter Tryz.func94,Tryz.ntmps94;go_wp2;go_ret;exact⟨by rw[HF.out];rfl,HB.out⟩
  have b4:((N:Int)==0)=false:=by simpa using g4
  have HR0:Hid (R=Co.okP (p.take 0) (p.drop 0)):=by
   show R=_;rw[HR.out,List.take_zero,List.drop_zero];refine Co.params_ok (by rw[HN.out];omega) (.inr ⟨rfl,fun e=>g4 (by rw[←HN.out,e];rfl)⟩)
  clear g4;go_enter Tryz.func94,Tryz.ntmps94;go_wp2;clear hw1;clear b1 b2 b3 b4
  go_loopw [3] (fun v wr=>∃k:Nat,v= .int .i64 k∧k≤N∧Hid (R=Co.okP (p.take k) (p.drop k))∧Hid (Below w1.heap.size w1 wr)) (fun v _=>N - (intOf v).toNat)
  case atStart=>exact⟨0,rfl,by omega,HR0,HB1⟩
  case round=>
   clear HB1 c1 c9;obtain⟨k,rfl,hk,HRk,HBr⟩:=hrel;have c1:=(H1.out.below HBr.out).cell 1 rfl;have c9:=(H1.out.below HBr.out).cell 9 rfl;by_cases hlt:k<N
   ·have hlti:(k:Int)<(N:Int):=by omega
    have hlp:k<p.length:=by rw[HN.out];exact hlt
    have hrow:=HP1.out.keep (keep_of_below (S:=fun _=>False) HBr.out) (fun _ _ _ h=>h);have HRW:=zh hrow;obtain⟨_,_,he,_,hc⟩:=hrow;injection he with he1 he2 he3
    subst he1;clear he2 he3;obtain⟨b,o,rfl,_,_,hcell⟩:=hc (by intro h0;rw[h0]at hlp;simp at hlp);have x0:=hcell k hlp;obtain⟨x,hx⟩:∃x,p[k]=x:=⟨_,rfl⟩
    have hst:=HRk.out;rw[Co.okP_at hlp,hx]at hst;rw[hx]at x0;have hv:=fun W=>numC_any x W
    have hi:=fun n=>inI_any (.slice (some ⟨b,o,none⟩) k c) (p.take k) x (wr.drewN n) ((Co.irow_take (by have:=HRW.out;rw[←HN.out]at this;exact this) hlp).keep (keep_of_below (S:=fun _=>False) (Co.drewN_below wr n)) (fun _ _ _ h=>h)) (by rw[List.length_take];omega)
    have HX:=zh hx;have HST:=zh hst;have b6:decide ((k:Int)<(N:Int))=true:=decide_eq_true hlti;have hkc:(k:Int)≤(c:Int):=by have:=HLC.out;rw[HN.out]at this;omega
    have hkn:k≤c:=by omega
    have hk0:(0:Int)≤(k:Int):=by omega
    clear hc hcell hx hst;cases hvx:Co.var x
    ·rw[hvx]at hv;have HF:Hid (R=false):=by show R=false;rw[HST.out,hvx];rfl
     clear hvx hi;go_wp2
     go_quiet ((go_at_call 96;refine Co.qsame (hv _)))
     go_wp2;go_ret;exact⟨by rw[HF.out];rfl,HB.out.trans ((HBr.out.mono HB.out.size).trans ⟨rfl,rfl,rfl,Nat.le_refl _,fun _ _=>rfl⟩)⟩
    ·rw[hvx]at hv;have HVX:=zh hvx;clear hvx;cases hcx:(p.take k).contains x
     ·rw[hcx]at hi;have HN1:Hid (R=Co.okP (p.take (k+1)) (p.drop (k+1))):=by
       show R=_;rw[HST.out,hcx,HVX.out];rfl
      clear hcx;go_wp2
      go_quiet (first
       |(go_at_call 96;refine Co.qsame (hv _))
       |(go_at_call 67;refine Co.qsame (hi _)))
      go_wp2;go_roundw
      case rel=>exact⟨k+1,by simp,by omega,HN1,HBr.out.trans ⟨rfl,rfl,rfl,Nat.le_refl _,fun _ _=>rfl⟩⟩
      case measure=>simp[intOf];omega
     ·rw[hcx]at hi;have HF:Hid (R=false):=by
       show R=false;rw[HST.out,hcx];simp
      clear hcx;go_wp2
      go_quiet (first
       |(go_at_call 96;refine Co.qsame (hv _))
       |(go_at_call 67;refine Co.qsame (hi _)))
      go_wp2;go_ret;exact⟨by rw[HF.out];rfl,HB.out.trans ((HBr.out.mono HB.out.size).trans ⟨rfl,rfl,rfl,Nat.le_refl _,fun _ _=>rfl⟩)⟩
   ·have hge:(N:Int)≤(k:Int):=by omega
    have HF:Hid (R=true):=by
     show R=true;have:=HRk.out;rw[show k=p.length by rw[HN.out];omega,Co.okP_end]at this;exact this
    go_wp2;go_ret;exact⟨by rw[HF.out];rfl,(btr HB.out HBr.out)⟩
 have b3:(n !=1)=true:=by simpa using g3
 have HF:Hid (R=false):=by
  show R=false;rw[HR.out];refine Co.params_no (fun h=> ?_);rcases h.2 with e|⟨e,e2⟩
  ·exact g2 e
  ·exact g3 e
 clear g2 g3;go_enter Tryz.func94,Tryz.ntmps94;go_wp2;go_ret;exact⟨by rw[HF.out];rfl,HB.out⟩
end Go.Proofs.YtfjmlfbohenmfaaGreat
