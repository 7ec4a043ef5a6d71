/-
  DtSingleq.
-/
import Derived.Test.YtfjmlfbohenmfaaGreatCoreWithinLawZM2
set_option maxRecDepth 100000
set_option maxHeartbeats 32000000
namespace Go.Proofs.YtfjmlfbohenmfaaGreat
open Go.RowKit
theorem fixIn_any(n:Int)(w:World):Calls Tryz.prog 137 #[.int .i64 n] w fun e w'=>e= .returned (.bool (Dt.isFix n))∧w=w':=by
 by_cases h1: -1152921504606846976≤n
 ·by_cases h2:n≤1152921504606846975
  ·have HE:Hid (Dt.isFix n=true):=by show _=_;unfold Dt.isFix;rw[decide_eq_true h1,decide_eq_true h2];rfl
   rw[HE.out];go_enter Tryz.func137,Tryz.ntmps137;go_wp2;go_ret;exact⟨by simp_all,rfl⟩
  ·have HE:Hid (Dt.isFix n=false):=by show _=_;unfold Dt.isFix;rw[decide_eq_false h2];simp
   rw[HE.out];go_enter Tryz.func137,Tryz.ntmps137;go_wp2;go_ret;exact⟨by simp_all,rfl⟩
 ·have HE:Hid (Dt.isFix n=false):=by show _=_;unfold Dt.isFix;rw[decide_eq_false h1];rfl
  rw[HE.out];go_enter Tryz.func137,Tryz.ntmps137;go_wp2;go_ret;exact⟨by simp_all,rfl⟩
namespace Dt
def emptyB(n:Int)(s:ByteArray)(a b c:Nat):Bool:=(n==0)&&s.toList.isEmpty&&(a+b+c==0)
theorem emptyB_eq(n:Int)(s:ByteArray)(m:List Int)(l t:List D):emptyB n s m.length l.length t.length=(decide (n=0)&&s.data.toList.isEmpty&&m.isEmpty&&l.isEmpty&&t.isEmpty):=by
 unfold emptyB;rw[ByteArray.toList_eq];cases m <;> cases l <;> cases t <;> simp[Bool.beq_eq_decide_eq] <;> rfl
end Dt
theorem dEmpty_any(k n:Int)(s:ByteArray)(am al at':Option Addr)(lm cm ll cl lt ct:Nat)(w:World)(h1:lm≤140737488355328)(h2:ll≤140737488355328)(h3:lt≤140737488355328):
  Calls Tryz.prog 138 #[.agg #[.int .i64 k,.int .i64 n,.string s,.slice am lm cm,.slice al ll cl,.slice at' lt ct]] w fun e w'=>e= .returned (.bool (Dt.emptyB n s lm ll lt))∧Below w.heap.size w w':=by
 have hs3:(((lm:Int)+(ll:Int)+(lt:Int))==0)=(lm+ll+lt==0):=by
  rw[Bool.eq_iff_iff];simp;omega
 obtain⟨E,hE⟩:∃E,E=(lm+ll+lt==0):=⟨_,rfl⟩
 have HB:Hid (Dt.emptyB n s lm ll lt=((n==0)&&s.toList.isEmpty&&E)):=by show _=_;rw[hE];rfl
 rw[←hE]at hs3;rw[HB.out];clear hE;go_enter Tryz.func138,Tryz.ntmps138;go_wp2;all_goals
  go_ret;exact⟨by simp_all,(Below.refl _ _).alloc (Nat.le_refl _) _⟩
theorem dAscii_any(s:ByteArray)(w:World)(hs:s.size≤140737488355328):
  Calls Tryz.prog 139 #[.string s] w fun e w'=>e= .returned (.bool (decide (s.data.toList.length≤256)&&s.data.toList.all (fun c=>decide (c.toNat<128))))∧w=w':=by
 obtain⟨R,hR⟩:∃R,(decide (s.data.toList.length≤256)&&s.data.toList.all (fun c=>decide (c.toNat<128)))=R:=⟨_,rfl⟩
 rw[hR];have hsz:=Fx.size_toList s;by_cases h:s.size≤256
 case neg=>
  have HR:Hid (R=false):=by show _=_;rw[←hR,decide_eq_false (by omega)];rfl
  have hi:¬ ((s.size:Int)≤256):=by omega
  clear hR hsz;go_enter Tryz.func139,Tryz.ntmps139;go_wp2;go_ret;exact⟨by rw[HR.out];rfl,rfl⟩
 have hi:¬ (256<(s.size:Int)):=by omega
 have h0:R=(Lx.tl s 0).all (fun c=>decide (c.toNat<128)):=by rw[←hR,decide_eq_true (by omega)];unfold Lx.tl;simp
 have H0:=zh h0;clear hR h0 hsz;go_enter Tryz.func139,Tryz.ntmps139;go_wp2_with fail
 go_loop [9] (fun v=>∃k:Nat,v= .int .i64 k∧k≤s.size∧Hid (R=(Lx.tl s k).all (fun c=>decide (c.toNat<128)))) (fun v=>s.size - (intOf v).toNat)
 case atStart=>exact⟨0,rfl,by omega,H0⟩
 case round=>
  obtain⟨k,rfl,hk,HR⟩:=hrel;by_cases hlt:k<s.size
  case neg=>
   have hge:(s.size:Int)≤(k:Int):=by omega
   have HE:Hid (R=true):=by show _=_;rw[HR.out,Lx.tl_nil s k (by omega)];rfl
   go_wp2;go_ret;exact⟨by rw[HE.out];rfl,rfl⟩
  have hlti:(k:Int)<(s.size:Int):=by omega
  have hr:=HR.out;rw[Lx.tl_cons s k hlt,List.all_cons]at hr;by_cases hc:s[k].toNat<128
  ·rw[decide_eq_true hc,Bool.true_and]at hr;have HN:=zh hr;have hci:¬ (128≤(s[k].toNat:Int)):=by omega
   clear hr hc;go_wp2
   go_round
   case rel=>exact⟨k+1,by simp,by omega,HN⟩
   case measure=>simp[intOf];omega
  ·rw[decide_eq_false hc,Bool.false_and]at hr;have HN:=zh hr;have hci:128≤(s[k].toNat:Int):=by omega
   clear hr hc;go_wp2;go_ret;exact⟨by rw[HN.out];rfl,rfl⟩
namespace Dt
theorem bv_zero(x m:BitVec 64)(k:Nat)(hm:m.toNat=2 ^ k - 1):x&&& ~~~m=0#64↔x.toNat<2 ^ k:=by
 constructor
 ·intro h;have e:x=x&&& m:=by
   have hs:x=(x&&& m)|||(x&&& ~~~m):=by
    rw[←BitVec.and_or_distrib_left,BitVec.or_not_self,BitVec.and_allOnes]
   rw[h,BitVec.or_zero]at hs;exact hs
  have e2:=congrArg BitVec.toNat e;rw[BitVec.toNat_and,hm,Nat.and_two_pow_sub_one_eq_mod]at e2;rw[e2];exact Nat.mod_lt _ (Nat.two_pow_pos k)
 ·intro h;have e:x&&& m=x:=by
   apply BitVec.eq_of_toNat_eq
   rw[BitVec.toNat_and,hm,Nat.and_two_pow_sub_one_eq_mod,Nat.mod_eq_of_lt h]
  rw[←e,BitVec.and_assoc,BitVec.and_not_self];exact BitVec.and_zero
theorem andNot_zero(n M:Int)(k:Nat)(hk:k≤62)(hM:(BitVec.ofInt 64 M).toNat=2 ^ k - 1)(hn: -9223372036854775808≤n∧n≤9223372036854775807):bits .andNot .i64 n M=0↔0≤n∧n<2 ^ k:=by
 have e:bits .andNot .i64 n M=IntKind.i64.wrap ((BitVec.ofInt 64 n&&& ~~~BitVec.ofInt 64 M).toNat:Int):=rfl;rw[e,IntKind.wrap_i64];obtain⟨x,hx⟩:∃x,BitVec.ofInt 64 n=x:=⟨_,rfl⟩
 have hz:=bv_zero x (BitVec.ofInt 64 M) k hM;rw[hx];obtain⟨y,hy⟩:∃y,(x&&& ~~~BitVec.ofInt 64 M)=y:=⟨_,rfl⟩
 rw[hy]at hz ⊢;have hyl:=y.isLt;have hy0:y=0#64↔y.toNat=0:=⟨fun h=>by rw[h];rfl,fun h=>BitVec.eq_of_toNat_eq h⟩
 have hxn:x.toNat=(n % 2 ^ 64).toNat:=by rw[←hx,BitVec.toNat_ofInt];rfl
 have hp:2 ^ k≤2 ^ 62:=Nat.pow_le_pow_right (by omega) hk;have hpi:((2 ^ k:Nat):Int)=(2:Int) ^ k:=by simp
 rw[←hpi];rw[hy0]at hz;constructor
 ·intro h;have:=hz.1 (by omega);omega
 ·intro h;have:=hz.2 (by omega);omega
end Dt
theorem dSymbol_any(s:ByteArray)(w:World)(hs:s.size≤140737488355328):
  Calls Tryz.prog 90 #[.string s] w fun e w'=>e= .returned (.bool (Lx.symbol s.data.toList))∧w=w':=by
 by_cases h:s.size≤1000000
 ·exact(Symbol_any s w h).mono fun _ _ ⟨a,b⟩=>⟨a,b.symm⟩
 have hsz:=Fx.size_toList s;have hne:∀t:List UInt8,t.length≤3→(s.toList==t)=false:=fun t ht=>by
  rw[ByteArray.toList_eq,beq_eq_false_iff_ne];intro e;rw[e]at hsz;omega
 have hF:Hid (Lx.symbol s.data.toList=false):=by
  show _=_;unfold Lx.symbol;have e1:=hne [43] (by simp);have e2:=hne [45] (by simp);have e3:=hne [46,46,46] (by simp);rw[ByteArray.toList_eq]at e1 e2 e3;rw[e1,e2,e3,decide_eq_false (by omega)];simp
 rw[hF.out];have e1:=hne [43] (by simp);have e2:=hne [45] (by simp);have e3:=hne [46,46,46] (by simp);have e0:=hne [] (by simp);have e00:s.toList.isEmpty=false:=by
  rw[ByteArray.toList_eq]
  cases hh:s.data.toList with
  |nil=>rw[hh]at hsz;simp at hsz;omega
  |cons a b=>rfl
 have h32:(32:Int)<(s.size:Int):=by omega
 clear hF hne hsz;go_enter Tryz.func90,Tryz.ntmps90;go_wp2;go_ret;exact⟨by simp_all,rfl⟩
theorem wrong_any(x:Int)(w:World):Calls Tryz.prog 140 #[.int .i64 x] w fun e w'=>e= .returned (.bool (!Dt.mayMark x))∧w=w':=by
 by_cases h1:1≤x
 ·by_cases h2:x≤1048576
  ·have HE:Hid (Dt.mayMark x=true):=by show _=_;unfold Dt.mayMark;rw[decide_eq_true h1,decide_eq_true h2];rfl
   have h1':¬x<1:=by omega
   have h2':¬1048576<x:=by omega
   rw[HE.out];go_enter Tryz.func140,Tryz.ntmps140;go_wp2;go_ret;exact⟨by simp_all,rfl⟩
  ·have HE:Hid (Dt.mayMark x=false):=by show _=_;unfold Dt.mayMark;rw[decide_eq_false h2];simp
   have h1':¬x<1:=by omega
   have h2':1048576<x:=by omega
   rw[HE.out];go_enter Tryz.func140,Tryz.ntmps140;go_wp2;go_ret;exact⟨by simp_all,rfl⟩
 ·have HE:Hid (Dt.mayMark x=false):=by show _=_;unfold Dt.mayMark;rw[decide_eq_false h1];rfl
  have h1':x<1:=by omega
  rw[HE.out];go_enter Tryz.func140,Tryz.ntmps140;go_wp2;go_ret;exact⟨by simp_all,rfl⟩
namespace Dt
end Dt
theorem dIndexFunc_any{F:Nat→Prop}(a:Option Addr)(c:Nat)(m:List Int)(w:World)(hm:Dt.IRow F w (.slice a m.length c) m)(hl:m.length≤140737488355328):
  Calls Tryz.prog 163 #[.slice a m.length c,.func (.func 140) #[] #[]] w fun e w'=>(∃x:Int,e= .returned (.int .i64 x)∧decide (0≤x)= !m.all Dt.mayMark)∧w=w':=by
 obtain⟨_,_,he,_,hc⟩:=hm;cases he;obtain⟨R,hR⟩:∃R,R= !m.all Dt.mayMark:=⟨_,rfl⟩
 rw[←hR];have H0:Hid (R= !(m.drop 0).all Dt.mayMark):=by show _=_;rw[List.drop_zero];exact hR
 have HC:=zh hc;clear hc hR;go_enter Tryz.func163,Tryz.ntmps163;go_wp2_with fail
 go_loop [8] (fun v=>∃k:Nat,v= .int .i64 k∧k≤m.length∧Hid (R= !(m.drop k).all Dt.mayMark)) (fun v=>m.length - (intOf v).toNat)
 case atStart=>exact⟨0,rfl,by omega,H0⟩
 case round=>
  obtain⟨k,rfl,hk,HR⟩:=hrel;by_cases hlt:k<m.length
  case neg=>
   have hge:(m.length:Int)≤(k:Int):=by omega
   have HE:Hid (R=false):=by show _=_;rw[HR.out,List.drop_eq_nil_of_le (by omega)];rfl
   go_wp2;go_ret;exact⟨⟨-1,rfl,by rw[HE.out];rfl⟩,rfl⟩
  have hlti:(k:Int)<(m.length:Int):=by omega
  have hr:=HR.out;rw[List.drop_eq_getElem_cons hlt,List.all_cons]at hr;obtain⟨b,o,rfl,_,hb,hcell⟩:=HC.out (by intro h0;rw[h0]at hlt;simp at hlt);have hk0:=hcell k hlt;obtain⟨x,hx⟩:∃x,m[k]=x:=⟨_,rfl⟩
  rw[hx]at hk0 hr;have hwr:=fun w=>wrong_any x w
  cases hmx:Dt.mayMark x
  ·rw[hmx]at hr hwr;have HN:Hid (R=true):=by show _=_;rw[hr];rfl
   clear hr hcell hx hmx;go_wp2_with(go_at_call 140;refine(hwr _).mono ?_;rintro e w1 ⟨rfl,rfl⟩)
   go_ret;exact⟨⟨k,rfl,by rw[HN.out];simp⟩,rfl⟩
  ·rw[hmx,Bool.true_and]at hr;rw[hmx]at hwr;have HN:=zh hr;clear hr hcell hx hmx;go_wp2_with(go_at_call 140;refine(hwr _).mono ?_;rintro e w1 ⟨rfl,rfl⟩)
   go_round
   case rel=>exact⟨k+1,by simp,by omega,HN⟩
   case measure=>simp[intOf];omega
theorem dContainsFunc_any{F:Nat→Prop}(a:Option Addr)(c:Nat)(m:List Int)(w:World)(hm:Dt.IRow F w (.slice a m.length c) m)(hl:m.length≤140737488355328):
  Calls Tryz.prog 141 #[.slice a m.length c,.func (.func 140) #[] #[]] w fun e w'=>e= .returned (.bool (!m.all Dt.mayMark))∧w=w':=by
 have hi:=dIndexFunc_any a c m w hm hl;obtain⟨R,hR⟩:∃R,R= !m.all Dt.mayMark:=⟨_,rfl⟩
 rw[←hR]at hi ⊢;clear hR;go_enter Tryz.func141,Tryz.ntmps141;go_wp2_with fail
 refine hi.mono ?_;rintro e w1 ⟨⟨x,rfl,hx⟩,rfl⟩;go_wp2;go_ret;exact⟨by rw[←hx];rfl,rfl⟩
end Go.Proofs.YtfjmlfbohenmfaaGreat
