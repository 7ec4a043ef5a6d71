/-
 shuttleref02.alone, at whatever datum.
-/
import Derived.Test.YtfjmlfbohenmfaaGreatCoreBBM4
import Derived.Test.YtfjmlfbohenmfaaGreatCoreBBM2
namespace Go.Proofs.YtfjmlfbohenmfaaGreat
open Go.RowKit
set_option maxRecDepth 100000 in
theorem rFixIn_any(n:Int)(w:World):Calls Tryz.prog 164 #[.int .i64 n] w fun e w'=>e= .returned (.bool (Dt.isFix n))∧w=w':=by
 by_cases h1: -1152921504606846976≤n
 ·by_cases h2:n≤1152921504606846975
  ·have HE:Hid (Dt.isFix n=true):=by show _=_;unfold Dt.isFix;rw[decide_eq_true h1,decide_eq_true h2];rfl
   rw[HE.out];go_enter Tryz.func164,Tryz.ntmps164;go_wp2;go_ret;exact⟨by simp_all,rfl⟩
  ·have HE:Hid (Dt.isFix n=false):=by show _=_;unfold Dt.isFix;rw[decide_eq_false h2];simp
   rw[HE.out];go_enter Tryz.func164,Tryz.ntmps164;go_wp2;go_ret;exact⟨by simp_all,rfl⟩
 ·have HE:Hid (Dt.isFix n=false):=by show _=_;unfold Dt.isFix;rw[decide_eq_false h1];rfl
  rw[HE.out];go_enter Tryz.func164,Tryz.ntmps164;go_wp2;go_ret;exact⟨by simp_all,rfl⟩
namespace Dt
theorem len0{α:Type}(l:List α):((l.length:Int)==0)=l.isEmpty:=by cases l <;> simp <;> omega
end Dt
set_option maxRecDepth 100000 in
set_option maxHeartbeats 8000000 in
theorem alone1_x{F:Nat→Prop}(n:Int)(s:ByteArray)(m:List Int)(l t:List Dt.D)(vm vl vt:Value)(w:World)(hW:Dt.Wf (.mk 1 n s m l t))(h:Dt.Rep F w (.mk 1 n s m l t) vm vl vt):
  Calls Tryz.prog 142 #[.agg #[.int .i64 1,.int .i64 n,.string s,vm,vl,vt]] w fun e w'=>e= .returned (.bool (Dt.single (.mk 1 n s m l t)))∧Below w.heap.size w w':=by
 rw[Dt.Wf]at hW;rw[Dt.Rep]at h;obtain⟨hn,hsz,hlm,hll,hlt,_,_⟩:=hW;obtain⟨hm,⟨al,cl,rfl,hcl,hl⟩,⟨at_,ct,rfl,hct,ht⟩⟩:=h;have hm0:=hm;obtain⟨am,cm,rfl,hcm,hmc⟩:=hm;have e1:s.toList.isEmpty=s.data.toList.isEmpty:=by rw[ByteArray.toList_eq]
 have e2:=Dt.len0 m;have e3:=Dt.len0 l;have e4:=Dt.len0 t;obtain⟨R,hR⟩:∃R,R=Dt.single (.mk 1 n s m l t):=⟨_,rfl⟩
 rw[←hR];have hi:=fun w=>rFixIn_any n w
 obtain⟨I,hI⟩:∃I,I=Dt.isFix n:=⟨_,rfl⟩
 rw[←hI]at hi;obtain⟨E1,h1⟩:∃E,E=s.data.toList.isEmpty:=⟨_,rfl⟩
 obtain⟨E2,h2⟩:∃E,E=m.isEmpty:=⟨_,rfl⟩
 obtain⟨E3,h3⟩:∃E,E=l.isEmpty:=⟨_,rfl⟩
 obtain⟨E4,h4⟩:∃E,E=t.isEmpty:=⟨_,rfl⟩
 rw[←h1]at e1;rw[←h2]at e2;rw[←h3]at e3;rw[←h4]at e4;have hR':R=(Dt.isFix n&&s.data.toList.isEmpty&&m.isEmpty&&l.isEmpty&&t.isEmpty):=hR;rw[←h1,←h2,←h3,←h4,←hI]at hR';have HR:=zh hR';clear hR';clear hR hI h1 h2 h3 h4 hl ht hm0 hmc;go_enter Tryz.func142,Tryz.ntmps142;go_wp2_with(go_at_call 164;refine(hi _).mono ?_;rintro e w1 ⟨rfl,rfl⟩)
 all_goals
  go_ret;exact⟨by rw[HR.out];first|(simp_all;done)|(simp_all;intros;omega),(Below.refl _ _).alloc (Nat.le_refl _) _⟩
set_option maxRecDepth 100000 in
set_option maxHeartbeats 8000000 in
theorem alone2_x{F:Nat→Prop}(n:Int)(s:ByteArray)(m:List Int)(l t:List Dt.D)(vm vl vt:Value)(w:World)(hW:Dt.Wf (.mk 2 n s m l t))(h:Dt.Rep F w (.mk 2 n s m l t) vm vl vt):
  Calls Tryz.prog 142 #[.agg #[.int .i64 2,.int .i64 n,.string s,vm,vl,vt]] w fun e w'=>e= .returned (.bool (Dt.single (.mk 2 n s m l t)))∧Below w.heap.size w w':=by
 rw[Dt.Wf]at hW;rw[Dt.Rep]at h;obtain⟨hn,hsz,hlm,hll,hlt,_,_⟩:=hW;obtain⟨hm,⟨al,cl,rfl,hcl,hl⟩,⟨at_,ct,rfl,hct,ht⟩⟩:=h;have hm0:=hm;obtain⟨am,cm,rfl,hcm,hmc⟩:=hm;have e1:s.toList.isEmpty=s.data.toList.isEmpty:=by rw[ByteArray.toList_eq]
 have e2:=Dt.len0 m;have e3:=Dt.len0 l;have e4:=Dt.len0 t;obtain⟨R,hR⟩:∃R,R=Dt.single (.mk 2 n s m l t):=⟨_,rfl⟩
 rw[←hR];obtain⟨E1,h1⟩:∃E,E=s.data.toList.isEmpty:=⟨_,rfl⟩
 obtain⟨E2,h2⟩:∃E,E=m.isEmpty:=⟨_,rfl⟩
 obtain⟨E3,h3⟩:∃E,E=l.isEmpty:=⟨_,rfl⟩
 obtain⟨E4,h4⟩:∃E,E=t.isEmpty:=⟨_,rfl⟩
 rw[←h1]at e1;rw[←h2]at e2;rw[←h3]at e3;rw[←h4]at e4;have hR':R=(decide (0≤n∧n<2)&&s.data.toList.isEmpty&&m.isEmpty&&l.isEmpty&&t.isEmpty):=hR;rw[←h1,←h2,←h3,←h4]at hR';have HR:=zh hR';clear hR';clear hR h1 h2 h3 h4 hl ht hm0 hmc;go_enter Tryz.func142,Tryz.ntmps142;go_wp2;all_goals
  go_ret;exact⟨by rw[HR.out];first|(simp_all;done)|(simp_all;intros;omega),(Below.refl _ _).alloc (Nat.le_refl _) _⟩
set_option maxRecDepth 100000 in
set_option maxHeartbeats 8000000 in
theorem alone3_x{F:Nat→Prop}(n:Int)(s:ByteArray)(m:List Int)(l t:List Dt.D)(vm vl vt:Value)(w:World)(hW:Dt.Wf (.mk 3 n s m l t))(h:Dt.Rep F w (.mk 3 n s m l t) vm vl vt):
  Calls Tryz.prog 142 #[.agg #[.int .i64 3,.int .i64 n,.string s,vm,vl,vt]] w fun e w'=>e= .returned (.bool (Dt.single (.mk 3 n s m l t)))∧Below w.heap.size w w':=by
 rw[Dt.Wf]at hW;rw[Dt.Rep]at h;obtain⟨hn,hsz,hlm,hll,hlt,_,_⟩:=hW;obtain⟨hm,⟨al,cl,rfl,hcl,hl⟩,⟨at_,ct,rfl,hct,ht⟩⟩:=h;have hm0:=hm;obtain⟨am,cm,rfl,hcm,hmc⟩:=hm;have e1:s.toList.isEmpty=s.data.toList.isEmpty:=by rw[ByteArray.toList_eq]
 have e2:=Dt.len0 m;have e3:=Dt.len0 l;have e4:=Dt.len0 t;obtain⟨R,hR⟩:∃R,R=Dt.single (.mk 3 n s m l t):=⟨_,rfl⟩
 rw[←hR];obtain⟨E1,h1⟩:∃E,E=s.data.toList.isEmpty:=⟨_,rfl⟩
 obtain⟨E2,h2⟩:∃E,E=m.isEmpty:=⟨_,rfl⟩
 obtain⟨E3,h3⟩:∃E,E=l.isEmpty:=⟨_,rfl⟩
 obtain⟨E4,h4⟩:∃E,E=t.isEmpty:=⟨_,rfl⟩
 rw[←h1]at e1;rw[←h2]at e2;rw[←h3]at e3;rw[←h4]at e4;have hR':R=(decide (0≤n∧n<128)&&s.data.toList.isEmpty&&m.isEmpty&&l.isEmpty&&t.isEmpty):=hR;rw[←h1,←h2,←h3,←h4]at hR';have HR:=zh hR';clear hR';clear hR h1 h2 h3 h4 hl ht hm0 hmc;go_enter Tryz.func142,Tryz.ntmps142;go_wp2;all_goals
  go_ret;exact⟨by rw[HR.out];first|(simp_all;done)|(simp_all;intros;omega),(Below.refl _ _).alloc (Nat.le_refl _) _⟩
set_option maxRecDepth 100000 in
set_option maxHeartbeats 8000000 in
theorem alone6_x{F:Nat→Prop}(n:Int)(s:ByteArray)(m:List Int)(l t:List Dt.D)(vm vl vt:Value)(w:World)(hW:Dt.Wf (.mk 6 n s m l t))(h:Dt.Rep F w (.mk 6 n s m l t) vm vl vt):
  Calls Tryz.prog 142 #[.agg #[.int .i64 6,.int .i64 n,.string s,vm,vl,vt]] w fun e w'=>e= .returned (.bool (Dt.single (.mk 6 n s m l t)))∧Below w.heap.size w w':=by
 rw[Dt.Wf]at hW;rw[Dt.Rep]at h;obtain⟨hn,hsz,hlm,hll,hlt,_,_⟩:=hW;obtain⟨hm,⟨al,cl,rfl,hcl,hl⟩,⟨at_,ct,rfl,hct,ht⟩⟩:=h;have hm0:=hm;obtain⟨am,cm,rfl,hcm,hmc⟩:=hm;have e1:s.toList.isEmpty=s.data.toList.isEmpty:=by rw[ByteArray.toList_eq]
 have e2:=Dt.len0 m;have e3:=Dt.len0 l;have e4:=Dt.len0 t;obtain⟨R,hR⟩:∃R,R=Dt.single (.mk 6 n s m l t):=⟨_,rfl⟩
 rw[←hR];obtain⟨E1,h1⟩:∃E,E=s.data.toList.isEmpty:=⟨_,rfl⟩
 obtain⟨E2,h2⟩:∃E,E=m.isEmpty:=⟨_,rfl⟩
 obtain⟨E3,h3⟩:∃E,E=l.isEmpty:=⟨_,rfl⟩
 obtain⟨E4,h4⟩:∃E,E=t.isEmpty:=⟨_,rfl⟩
 rw[←h1]at e1;rw[←h2]at e2;rw[←h3]at e3;rw[←h4]at e4;have e0:(n==0)=decide (n=0):=Bool.beq_eq_decide_eq _ _;obtain⟨N,hN⟩:∃N,N=decide (n=0):=⟨_,rfl⟩
 rw[←hN]at e0;have hR':R=(decide (n=0)&&s.data.toList.isEmpty&&m.isEmpty&&t.isEmpty):=hR;rw[←h1,←h2,←h4,←hN]at hR';have HR:=zh hR';clear hR' hR h1 h2 h3 h4 hN hl ht hm0 hmc;go_enter Tryz.func142,Tryz.ntmps142;go_wp2;all_goals
  go_ret;exact⟨by rw[HR.out];first|(simp_all;done)|(simp_all;intros;omega),(Below.refl _ _).alloc (Nat.le_refl _) _⟩
set_option maxRecDepth 100000 in
set_option maxHeartbeats 8000000 in
theorem alone8_x{F:Nat→Prop}(n:Int)(s:ByteArray)(m:List Int)(l t:List Dt.D)(vm vl vt:Value)(w:World)(hW:Dt.Wf (.mk 8 n s m l t))(h:Dt.Rep F w (.mk 8 n s m l t) vm vl vt):
  Calls Tryz.prog 142 #[.agg #[.int .i64 8,.int .i64 n,.string s,vm,vl,vt]] w fun e w'=>e= .returned (.bool (Dt.single (.mk 8 n s m l t)))∧Below w.heap.size w w':=by
 rw[Dt.Wf]at hW;rw[Dt.Rep]at h;obtain⟨hn,hsz,hlm,hll,hlt,_,_⟩:=hW;obtain⟨hm,⟨al,cl,rfl,hcl,hl⟩,⟨at_,ct,rfl,hct,ht⟩⟩:=h;have hm0:=hm;obtain⟨am,cm,rfl,hcm,hmc⟩:=hm;have e1:s.toList.isEmpty=s.data.toList.isEmpty:=by rw[ByteArray.toList_eq]
 have e2:=Dt.len0 m;have e3:=Dt.len0 l;have e4:=Dt.len0 t;obtain⟨R,hR⟩:∃R,R=Dt.single (.mk 8 n s m l t):=⟨_,rfl⟩
 rw[←hR];obtain⟨E1,h1⟩:∃E,E=s.data.toList.isEmpty:=⟨_,rfl⟩
 obtain⟨E2,h2⟩:∃E,E=m.isEmpty:=⟨_,rfl⟩
 obtain⟨E3,h3⟩:∃E,E=l.isEmpty:=⟨_,rfl⟩
 obtain⟨E4,h4⟩:∃E,E=t.isEmpty:=⟨_,rfl⟩
 rw[←h1]at e1;rw[←h2]at e2;rw[←h3]at e3;rw[←h4]at e4;have e0:(n==0)=decide (n=0):=Bool.beq_eq_decide_eq _ _;obtain⟨N,hN⟩:∃N,N=decide (n=0):=⟨_,rfl⟩
 rw[←hN]at e0;have hR':R=(decide (n=0)&&s.data.toList.isEmpty&&m.isEmpty&&t.isEmpty):=hR;rw[←h1,←h2,←h4,←hN]at hR';have HR:=zh hR';clear hR' hR h1 h2 h3 h4 hN hl ht hm0 hmc;go_enter Tryz.func142,Tryz.ntmps142;go_wp2;all_goals
  go_ret;exact⟨by rw[HR.out];first|(simp_all;done)|(simp_all;intros;omega),(Below.refl _ _).alloc (Nat.le_refl _) _⟩
set_option maxRecDepth 100000 in
theorem rSymbol_any(s:ByteArray)(w:World)(hs:s.size≤140737488355328):
  Calls Tryz.prog 95 #[.string s] w fun e w'=>e= .returned (.bool (Lx.symbol s.data.toList))∧w=w':=by
 by_cases h:s.size≤1000000
 ·exact SymbolR_any s w h
 have hsz:=Fx.size_toList s;have hne:∀t:List UInt8,t.length≤3→(s.toList==t)=false:=fun t ht=>by
  rw[ByteArray.toList_eq,beq_eq_false_iff_ne];intro e;rw[e]at hsz;omega
 have hF:Hid (Lx.symbol s.data.toList=false):=by
  show _=_;unfold Lx.symbol;have e1:=hne [43] (by simp);have e2:=hne [45] (by simp);have e3:=hne [46,46,46] (by simp);rw[ByteArray.toList_eq]at e1 e2 e3;rw[e1,e2,e3,decide_eq_false (by omega)];simp
 rw[hF.out];have e1:=hne [43] (by simp);have e2:=hne [45] (by simp);have e3:=hne [46,46,46] (by simp);have e0:=hne [] (by simp);have e00:s.toList.isEmpty=false:=by
  rw[ByteArray.toList_eq]
  cases hh:s.data.toList with
  |nil=>rw[hh]at hsz;simp at hsz;omega
  |cons a b=>rfl
 have h32:(32:Int)<(s.size:Int):=by omega
 clear hF hne hsz;go_enter Tryz.func95,Tryz.ntmps95;go_wp2;go_ret;exact⟨by simp_all,rfl⟩
set_option maxRecDepth 100000 in
set_option maxHeartbeats 8000000 in
theorem alone4_x{F:Nat→Prop}(n:Int)(s:ByteArray)(m:List Int)(l t:List Dt.D)(vm vl vt:Value)(w:World)(hW:Dt.Wf (.mk 4 n s m l t))(h:Dt.Rep F w (.mk 4 n s m l t) vm vl vt):
  Calls Tryz.prog 142 #[.agg #[.int .i64 4,.int .i64 n,.string s,vm,vl,vt]] w fun e w'=>e= .returned (.bool (Dt.single (.mk 4 n s m l t)))∧Below w.heap.size w w':=by
 rw[Dt.Wf]at hW;rw[Dt.Rep]at h;obtain⟨hn,hsz,hlm,hll,hlt,_,_⟩:=hW;obtain⟨hm,⟨al,cl,rfl,hcl,hl⟩,⟨at_,ct,rfl,hct,ht⟩⟩:=h;have hm0:=hm;obtain⟨am,cm,rfl,hcm,hmc⟩:=hm;have e1:s.toList.isEmpty=s.data.toList.isEmpty:=by rw[ByteArray.toList_eq]
 have e2:=Dt.len0 m;have e3:=Dt.len0 l;have e4:=Dt.len0 t;obtain⟨R,hR⟩:∃R,R=Dt.single (.mk 4 n s m l t):=⟨_,rfl⟩
 rw[←hR];obtain⟨E1,h1⟩:∃E,E=s.data.toList.isEmpty:=⟨_,rfl⟩
 obtain⟨E2,h2⟩:∃E,E=m.isEmpty:=⟨_,rfl⟩
 obtain⟨E3,h3⟩:∃E,E=l.isEmpty:=⟨_,rfl⟩
 obtain⟨E4,h4⟩:∃E,E=t.isEmpty:=⟨_,rfl⟩
 rw[←h1]at e1;rw[←h2]at e2;rw[←h3]at e3;rw[←h4]at e4;have e0:(n==0)=decide (n=0):=Bool.beq_eq_decide_eq _ _;obtain⟨N,hN⟩:∃N,N=decide (n=0):=⟨_,rfl⟩
 rw[←hN]at e0;have hR':R=(Dt.ascii s&&decide (n=0)&&m.isEmpty&&l.isEmpty&&t.isEmpty):=hR;rw[←h2,←h3,←h4,←hN]at hR';obtain⟨A,hA⟩:∃A,A=Dt.ascii s:=⟨_,rfl⟩
 rw[←hA]at hR';have HR:=zh hR';have H0:Hid (A=(decide (s.size≤256)&&(Lx.tl s 0).all (fun c=>decide (c.toNat<128)))):=by
  show _=_;rw[hA];unfold Dt.ascii Lx.tl;rw[Fx.size_toList,List.drop_zero]
 clear hR' hR h1 h2 h3 h4 hN hA hl ht hm0 hmc;go_enter Tryz.func142,Tryz.ntmps142;go_wp2_with fail
 go_loop [8] (fun v=>∃k:Nat,v= .int .i64 k∧k≤s.size∧k≤256∧Hid (A=(decide (s.size≤256)&&(Lx.tl s k).all (fun c=>decide (c.toNat<128))))) (fun v=>s.size - (intOf v).toNat)
 case atStart=>exact⟨0,rfl,by omega,by omega,H0⟩
 case round=>
  obtain⟨k,rfl,hk,hk2,HB⟩:=hrel;by_cases hlt:k<s.size
  case neg=>
   have hge:(s.size:Int)≤(k:Int):=by omega
   have HT:Hid (A=true):=by show _=_;rw[HB.out,Lx.tl_nil s k (by omega),decide_eq_true (by omega)];rfl
   go_wp2;all_goals
    go_ret;exact⟨by rw[HR.out,HT.out];first|(simp_all;done)|(simp_all;intros;omega),(Below.refl _ _).alloc (Nat.le_refl _) _⟩
  have hlti:(k:Int)<(s.size:Int):=by omega
  have hr:=HB.out;by_cases h256:k=256
  ·rw[decide_eq_false (by omega),Bool.false_and]at hr;have HT:=zh hr;have h2:256≤(k:Int):=by omega
   clear hr h256;go_wp2;all_goals
    go_ret;exact⟨by rw[HR.out,HT.out];first|(simp_all;done)|(simp_all;intros;omega),(Below.refl _ _).alloc (Nat.le_refl _) _⟩
  have h2:¬ (256≤(k:Int)):=by omega
  rw[Lx.tl_cons s k hlt,List.all_cons]at hr;by_cases hc:s[k].toNat<128
  ·rw[decide_eq_true hc,Bool.true_and]at hr;have HN:=zh hr;have hci:¬ (127<(s[k].toNat:Int)):=by omega
   clear hr hc;go_wp2
   go_round
   case rel=>exact⟨k+1,by simp,by omega,by omega,HN⟩
   case measure=>simp[intOf];omega
  ·rw[decide_eq_false hc,Bool.false_and,Bool.and_false]at hr;have HT:=zh hr;have hci:127<(s[k].toNat:Int):=by omega
   clear hr hc;go_wp2;all_goals
    go_ret;exact⟨by rw[HR.out,HT.out];first|(simp_all;done)|(simp_all;intros;omega),(Below.refl _ _).alloc (Nat.le_refl _) _⟩
set_option maxRecDepth 100000 in
set_option maxHeartbeats 8000000 in
theorem alone5_x{F:Nat→Prop}(n:Int)(s:ByteArray)(m:List Int)(l t:List Dt.D)(vm vl vt:Value)(w:World)(hW:Dt.Wf (.mk 5 n s m l t))(h:Dt.Rep F w (.mk 5 n s m l t) vm vl vt):
  Calls Tryz.prog 142 #[.agg #[.int .i64 5,.int .i64 n,.string s,vm,vl,vt]] w fun e w'=>e= .returned (.bool (Dt.single (.mk 5 n s m l t)))∧Below w.heap.size w w':=by
 rw[Dt.Wf]at hW;rw[Dt.Rep]at h;obtain⟨hn,hsz,hlm,hll,hlt,_,_⟩:=hW;obtain⟨hm,⟨al,cl,rfl,hcl,hl⟩,⟨at_,ct,rfl,hct,ht⟩⟩:=h;have hm0:=hm;obtain⟨am,cm,rfl,hcm,hmc⟩:=hm;have e1:s.toList.isEmpty=s.data.toList.isEmpty:=by rw[ByteArray.toList_eq]
 have e2:=Dt.len0 m;have e3:=Dt.len0 l;have e4:=Dt.len0 t;obtain⟨R,hR⟩:∃R,R=Dt.single (.mk 5 n s m l t):=⟨_,rfl⟩
 rw[←hR];obtain⟨E1,h1⟩:∃E,E=s.data.toList.isEmpty:=⟨_,rfl⟩
 obtain⟨E2,h2⟩:∃E,E=m.isEmpty:=⟨_,rfl⟩
 obtain⟨E3,h3⟩:∃E,E=l.isEmpty:=⟨_,rfl⟩
 obtain⟨E4,h4⟩:∃E,E=t.isEmpty:=⟨_,rfl⟩
 rw[←h1]at e1;rw[←h2]at e2;rw[←h3]at e3;rw[←h4]at e4;have e0:(n==0)=decide (n=0):=Bool.beq_eq_decide_eq _ _;obtain⟨N,hN⟩:∃N,N=decide (n=0):=⟨_,rfl⟩
 rw[←hN]at e0;have hR':R=(Lx.symbol s.data.toList&&decide (m.length≤16)&&m.all Dt.mayMark&&decide (n=0)&&l.isEmpty&&t.isEmpty):=hR;rw[←h3,←h4,←hN]at hR';have hi:=fun w=>rSymbol_any s w hsz
 obtain⟨I,hI⟩:∃I,I=Lx.symbol s.data.toList:=⟨_,rfl⟩
 rw[←hI]at hR' hi;obtain⟨A,hA⟩:∃A,A=(decide (m.length≤16)&&m.all Dt.mayMark):=⟨_,rfl⟩
 have HR:Hid (R=(I&&A&&N&&E3&&E4)):=by show _=_;rw[hR',hA];simp[Bool.and_assoc]
 have H0:Hid (A=(decide (m.length≤16)&&(m.drop 0).all Dt.mayMark)):=by show _=_;rw[hA,List.drop_zero]
 have HC:=zh hmc;clear hR' hR h1 h2 h3 h4 hN hA hl ht hm0 hmc hI;go_enter Tryz.func142,Tryz.ntmps142;go_wp2_with fail
 go_loop [9] (fun v=>∃k:Nat,v= .int .i64 k∧k≤m.length∧k≤16∧Hid (A=(decide (m.length≤16)&&(m.drop k).all Dt.mayMark))) (fun v=>m.length - (intOf v).toNat)
 case atStart=>exact⟨0,rfl,by omega,by omega,H0⟩
 case round=>
  obtain⟨k,rfl,hk,hk2,HB⟩:=hrel;by_cases hlt:k<m.length
  case neg=>
   have hge:(m.length:Int)≤(k:Int):=by omega
   have HT:Hid (A=true):=by show _=_;rw[HB.out,List.drop_eq_nil_of_le (by omega),decide_eq_true (by omega)];rfl
   go_wp2_with(go_at_call 95;refine(hi _).mono ?_;rintro e w1 ⟨rfl,rfl⟩)
   all_goals
    go_ret;exact⟨by rw[HR.out,HT.out];first|(simp_all;done)|(simp_all;intros;omega),(Below.refl _ _).alloc (Nat.le_refl _) _⟩
  have hlti:(k:Int)<(m.length:Int):=by omega
  have hr:=HB.out;by_cases h16:k=16
  ·rw[decide_eq_false (by omega),Bool.false_and]at hr;have HT:=zh hr;have h2:16≤(k:Int):=by omega
   clear hr h16;go_wp2;all_goals
    go_ret;exact⟨by rw[HR.out,HT.out];first|(simp_all;done)|(simp_all;intros;omega),(Below.refl _ _).alloc (Nat.le_refl _) _⟩
  have h2:¬ (16≤(k:Int)):=by omega
  rw[List.drop_eq_getElem_cons hlt,List.all_cons]at hr;obtain⟨b,o,rfl,_,hb,hcell⟩:=HC.out (by intro h0;rw[h0]at hlt;simp at hlt);have hk0:=hcell k hlt;obtain⟨y,hy⟩:∃y,m[k]=y:=⟨_,rfl⟩
  rw[hy]at hk0 hr;have hbw:Below w.heap.size w (w.alloc (.cells #[.int .i64 5,.int .i64 n,.string s,.slice (some ⟨b,o,none⟩) m.length cm,.slice al l.length cl,.slice at_ t.length ct] 25)):=(Below.refl _ _).alloc (Nat.le_refl _) _;clear hcell hy;by_cases y1:1≤y
  ·by_cases y2:y≤1048576
   ·have y1':¬y<1:=by omega
    have y2':¬1048576<y:=by omega
    have hmy:Dt.mayMark y=true:=by unfold Dt.mayMark;rw[decide_eq_true y1,decide_eq_true y2];rfl
    rw[hmy,Bool.true_and]at hr;have HN:=zh hr;clear hr hmy;go_wp2
    go_round
    case rel=>exact⟨k+1,by simp,by omega,by omega,HN⟩
    case measure=>simp[intOf];omega
   ·have y1':¬y<1:=by omega
    have y2':1048576<y:=by omega
    have hmy:Dt.mayMark y=false:=by unfold Dt.mayMark;rw[decide_eq_false y2];simp
    rw[hmy,Bool.false_and,Bool.and_false]at hr;have HT:=zh hr;clear hr hmy;go_wp2;all_goals
     go_ret;exact⟨by rw[HR.out,HT.out];first|(simp_all;done)|(simp_all;intros;omega),(Below.refl _ _).alloc (Nat.le_refl _) _⟩
  ·have y1':y<1:=by omega
   have hmy:Dt.mayMark y=false:=by unfold Dt.mayMark;rw[decide_eq_false y1];rfl
   rw[hmy,Bool.false_and,Bool.and_false]at hr;have HT:=zh hr;clear hr hmy;go_wp2;all_goals
    go_ret;exact⟨by rw[HR.out,HT.out];first|(simp_all;done)|(simp_all;intros;omega),(Below.refl _ _).alloc (Nat.le_refl _) _⟩
set_option maxRecDepth 100000 in
set_option maxHeartbeats 8000000 in
theorem alone7o_x{F:Nat→Prop}(n:Int)(s:ByteArray)(m:List Int)(l t:List Dt.D)(ht1:t.length≠1)(vm vl vt:Value)(w:World)(hW:Dt.Wf (.mk 7 n s m l t))(h:Dt.Rep F w (.mk 7 n s m l t) vm vl vt):
  Calls Tryz.prog 142 #[.agg #[.int .i64 7,.int .i64 n,.string s,vm,vl,vt]] w fun e w'=>e= .returned (.bool (Dt.single (.mk 7 n s m l t)))∧Below w.heap.size w w':=by
 rw[Dt.Wf]at hW;rw[Dt.Rep]at h;obtain⟨hn,hsz,hlm,hll,hlt,_,_⟩:=hW;obtain⟨hm,⟨al,cl,rfl,hcl,hl⟩,⟨at_,ct,rfl,hct,ht⟩⟩:=h;have hm0:=hm;obtain⟨am,cm,rfl,hcm,hmc⟩:=hm;have e1:s.toList.isEmpty=s.data.toList.isEmpty:=by rw[ByteArray.toList_eq]
 have e2:=Dt.len0 m;have e3:=Dt.len0 l;have e4:=Dt.len0 t;obtain⟨R,hR⟩:∃R,R=Dt.single (.mk 7 n s m l t):=⟨_,rfl⟩
 rw[←hR];obtain⟨E1,h1⟩:∃E,E=s.data.toList.isEmpty:=⟨_,rfl⟩
 obtain⟨E2,h2⟩:∃E,E=m.isEmpty:=⟨_,rfl⟩
 obtain⟨E3,h3⟩:∃E,E=l.isEmpty:=⟨_,rfl⟩
 obtain⟨E4,h4⟩:∃E,E=t.isEmpty:=⟨_,rfl⟩
 rw[←h1]at e1;rw[←h2]at e2;rw[←h3]at e3;rw[←h4]at e4;have e0:(n==0)=decide (n=0):=Bool.beq_eq_decide_eq _ _;obtain⟨N,hN⟩:∃N,N=decide (n=0):=⟨_,rfl⟩
 rw[←hN]at e0;have HR:Hid (R=false):=by
  show _=_;rw[hR];unfold Dt.single
  cases t with
  |nil=>simp
  |cons x r=>cases r with
   |nil=>simp at ht1
   |cons y r=>simp
 have hl1:((t.length:Int)==1)=false:=by simp;omega
 clear hR h1 h2 h3 h4 hN hl ht hm0 hmc;go_enter Tryz.func142,Tryz.ntmps142;go_wp2;all_goals
  go_ret;exact⟨by rw[HR.out];first|(simp_all;done)|(simp_all;intros;omega),(Below.refl _ _).alloc (Nat.le_refl _) _⟩
set_option maxRecDepth 100000 in
set_option maxHeartbeats 8000000 in
theorem alone7i_x{F:Nat→Prop}(n:Int)(s:ByteArray)(m:List Int)(l:List Dt.D)(x:Dt.D)(vm vl vt:Value)(w:World)(hW:Dt.Wf (.mk 7 n s m l [x]))(h:Dt.Rep F w (.mk 7 n s m l [x]) vm vl vt):
  Calls Tryz.prog 142 #[.agg #[.int .i64 7,.int .i64 n,.string s,vm,vl,vt]] w fun e w'=>e= .returned (.bool (Dt.single (.mk 7 n s m l [x])))∧Below w.heap.size w w':=by
 rw[Dt.Wf]at hW;rw[Dt.Rep]at h;obtain⟨hn,hsz,hlm,hll,hlt,_,_⟩:=hW;obtain⟨hm,⟨al,cl,rfl,hcl,hl⟩,⟨at_,ct,rfl,hct,ht⟩⟩:=h;have hm0:=hm;obtain⟨am,cm,rfl,hcm,hmc⟩:=hm;have e1:s.toList.isEmpty=s.data.toList.isEmpty:=by rw[ByteArray.toList_eq]
 have e2:=Dt.len0 m;have e3:=Dt.len0 l;have e4:=Dt.len0 [x];obtain⟨R,hR⟩:∃R,R=Dt.single (.mk 7 n s m l [x]):=⟨_,rfl⟩
 rw[←hR];obtain⟨E1,h1⟩:∃E,E=s.data.toList.isEmpty:=⟨_,rfl⟩
 obtain⟨E2,h2⟩:∃E,E=m.isEmpty:=⟨_,rfl⟩
 obtain⟨E3,h3⟩:∃E,E=l.isEmpty:=⟨_,rfl⟩
 obtain⟨E4,h4⟩:∃E,E=([x]:List Dt.D).isEmpty:=⟨_,rfl⟩
 rw[←h1]at e1;rw[←h2]at e2;rw[←h3]at e3;rw[←h4]at e4;have e0:(n==0)=decide (n=0):=Bool.beq_eq_decide_eq _ _;obtain⟨N,hN⟩:∃N,N=decide (n=0):=⟨_,rfl⟩
 rw[←hN]at e0;have hR':R=(decide (n=0)&&s.data.toList.isEmpty&&m.isEmpty&& !l.isEmpty&&decide (x.k≠6∧x.k≠7)):=hR;rw[←h1,←h2,←h3,←hN]at hR';obtain⟨bt,ot,rfl,_,hbt,hrt⟩:=ht (by simp);rw[Dt.Reps]at hrt;obtain⟨⟨_,_,_,hs0,_⟩,_⟩:=hrt;have c0:=hs0.c0;obtain⟨xk,hxk⟩:∃xk,xk=x.k:=⟨_,rfl⟩
 rw[←hxk]at hR' c0;have HR:=zh hR';clear hR' hR h1 h2 h3 h4 hN hl ht hm0 hmc hs0 hxk;go_enter Tryz.func142,Tryz.ntmps142;go_wp2;all_goals
  go_ret;exact⟨by rw[HR.out];first|(simp_all;done)|(simp_all;intros;omega)|(simp_all;by_cases hx7:xk=7 <;> simp_all),(Below.refl _ _).alloc (Nat.le_refl _) _⟩
set_option maxRecDepth 100000 in
set_option maxHeartbeats 4000000 in
theorem aloneX_x{F:Nat→Prop}(k n:Int)(s:ByteArray)(m:List Int)(l t:List Dt.D)(vm vl vt:Value)(w:World)(h:Dt.Rep F w (.mk k n s m l t) vm vl vt)(hk:k≠1∧k≠2∧k≠3∧k≠4∧k≠5∧k≠6∧k≠7∧k≠8):
  Calls Tryz.prog 142 #[.agg #[.int .i64 k,.int .i64 n,.string s,vm,vl,vt]] w fun e w'=>e= .returned (.bool (Dt.single (.mk k n s m l t)))∧Below w.heap.size w w':=by
 rw[Dt.Rep]at h;obtain⟨⟨am,cm,rfl,hcm,_⟩,⟨al,cl,rfl,hcl,hl⟩,⟨at_,ct,rfl,hct,ht⟩⟩:=h;obtain⟨k1,k2,k3,k4,k5,k6,k7,k8⟩:=hk;have HR:Hid (Dt.single (.mk k n s m l t)=false):=by
  show _=_;unfold Dt.single;simp[k1,k2,k3,k4,k5,k6,k7,k8]
 have b1:(k==1)=false:=by simpa using k1
 have b2:(k==2)=false:=by simpa using k2
 have b3:(k==3)=false:=by simpa using k3
 have b4:(k==4)=false:=by simpa using k4
 have b5:(k==5)=false:=by simpa using k5
 have b6:(k==6)=false:=by simpa using k6
 have b7:(k==7)=false:=by simpa using k7
 have b8:(k==8)=false:=by simpa using k8
 rw[HR.out];clear k1 k2 k3 k4 k5 k6 k7 k8 hl ht;go_enter Tryz.func142,Tryz.ntmps142;go_wp2;go_ret;exact⟨rfl,(Below.refl _ _).alloc (Nat.le_refl _) _⟩
theorem alone_x{F:Nat→Prop}(d:Dt.D)(vm vl vt:Value)(w:World)(hW:Dt.Wf d)(h:Dt.Rep F w d vm vl vt):
  Calls Tryz.prog 142 #[.agg #[.int .i64 d.k,.int .i64 d.n,.string d.s,vm,vl,vt]] w fun e w'=>e= .returned (.bool (Dt.single d))∧Below w.heap.size w w':=by
 cases d with
 |mk k n s m l t=>
  simp only[Dt.D.k,Dt.D.n,Dt.D.s];by_cases k1:k=1
  ·subst k1;exact alone1_x n s m l t vm vl vt w hW h
  by_cases k2:k=2
  ·subst k2;exact alone2_x n s m l t vm vl vt w hW h
  by_cases k3:k=3
  ·subst k3;exact alone3_x n s m l t vm vl vt w hW h
  by_cases k4:k=4
  ·subst k4;exact alone4_x n s m l t vm vl vt w hW h
  by_cases k5:k=5
  ·subst k5;exact alone5_x n s m l t vm vl vt w hW h
  by_cases k6:k=6
  ·subst k6;exact alone6_x n s m l t vm vl vt w hW h
  by_cases k8:k=8
  ·subst k8;exact alone8_x n s m l t vm vl vt w hW h
  by_cases k7:k=7
  ·subst k7;by_cases ht:t.length=1
   ·obtain⟨x,rfl⟩:=List.length_eq_one_iff.1 ht;exact alone7i_x n s m l x vm vl vt w hW h
   ·exact alone7o_x n s m l t ht vm vl vt w hW h
  exact aloneX_x k n s m l t vm vl vt w h ⟨k1,k2,k3,k4,k5,k6,k7,k8⟩
end Go.Proofs.YtfjmlfbohenmfaaGreat
