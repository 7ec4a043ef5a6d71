/-
  CoSmallq.
-/
import Derived.Test.YtfjmlfbohenmfaaGreatCoreWithinLawZM5
import Derived.Test.YtfjmlfbohenmfaaGreatCoreWithinLawZM6
import Derived.Test.YtfjmlfbohenmfaaGreatDtSingleq
import Derived.Test.YtfjmlfbohenmfaaGreatDtSameq
import Derived.Test.YtfjmlfbohenmfaaGreatCoreWithinLawZM2
set_option maxRecDepth 100000
set_option maxHeartbeats 32000000
namespace Go.Proofs.YtfjmlfbohenmfaaGreat
open Go.RowKit
attribute [local go_sem] Oper.semAt_some
namespace Co
open Dt
theorem none_B(d:D):((d.k==0)&&((d.n==0)&&(d.s.toList.isEmpty&&(d.m.length+d.l.length+d.t.length==0))))=none_ d:=by
 cases d with
 |mk k n s m l t=>
  show((k==0)&&((n==0)&&(s.toList.isEmpty&&(m.length+l.length+t.length==0))))=(decide (k=0)&&decide (n=0)&&s.data.toList.isEmpty&&m.isEmpty&&l.isEmpty&&t.isEmpty)
  rw[ByteArray.toList_eq];cases m <;> cases l <;> cases t <;> simp[Bool.beq_eq_decide_eq,Bool.and_assoc] <;> rfl
theorem wf_lens{d:D}(h:Dt.Wf d):d.m.length≤140737488355328∧d.l.length≤140737488355328∧d.t.length≤140737488355328∧d.s.size≤140737488355328:=by
 cases d with
 |mk k n s m l t=>
  rw[Dt.Wf]at h;exact⟨h.2.2.1,h.2.2.2.1,h.2.2.2.2.1,h.2.1⟩
end Co
theorem zeroC_any{F:Nat→Prop}(d:Dt.D)(vm vl vt:Value)(w:World)(hW:Dt.Wf d)(h:Dt.Rep F w d vm vl vt):
  Calls Tryz.prog 68 #[.agg #[.int .i64 d.k,.int .i64 d.n,.string d.s,vm,vl,vt]] w fun e w'=>e= .returned (.bool (Co.none_ d))∧Below w.heap.size w w':=by
 obtain⟨⟨am,cm,rfl,_⟩,⟨al,cl,rfl,_⟩,⟨at_,ct,rfl,_⟩⟩:=(Dt.rep_iff _ _ _ _ _ _).1 h;obtain⟨h1,h2,h3,-⟩:=Co.wf_lens hW;have hB:=Co.none_B d;obtain⟨R,hR⟩:∃R,R=Co.none_ d:=⟨_,rfl⟩
 rw[←hR]at hB ⊢;obtain⟨dk,e0⟩:∃x,d.k=x:=⟨_,rfl⟩
 obtain⟨dn,e1⟩:∃x,d.n=x:=⟨_,rfl⟩
 obtain⟨ds,e2⟩:∃x,d.s=x:=⟨_,rfl⟩
 obtain⟨lm,e3⟩:∃x,d.m.length=x:=⟨_,rfl⟩
 obtain⟨ll,e4⟩:∃x,d.l.length=x:=⟨_,rfl⟩
 obtain⟨lt,e5⟩:∃x,d.t.length=x:=⟨_,rfl⟩
 rw[e0,e1,e2,e3,e4,e5]at hB;rw[e3]at h1;rw[e4]at h2;rw[e5]at h3;rw[e0,e1,e2,e3,e4,e5];have hs3:(((lm:Int)+(ll:Int)+(lt:Int))==0)=(lm+ll+lt==0):=by
  rw[Bool.eq_iff_iff];simp;omega
 obtain⟨E,hE⟩:∃E,E=(lm+ll+lt==0):=⟨_,rfl⟩
 rw[←hE]at hs3 hB;have HB:=zh hB;clear hE hR hB e0 e1 e2 e3 e4 e5 h;go_enter Tryz.func68,Tryz.ntmps68;go_wp2;all_goals
  go_ret;exact⟨by rw[←HB.out];simp_all,(Below.refl _ _).alloc (Nat.le_refl _) _⟩
theorem noneC_any{F:Nat→Prop}(d:Dt.D)(vm vl vt:Value)(w:World)(hW:Dt.Wf d)(h:Dt.Rep F w d vm vl vt):
  Calls Tryz.prog 93 #[.agg #[.int .i64 d.k,.int .i64 d.n,.string d.s,vm,vl,vt]] w fun e w'=>e= .returned (.bool (Co.none_ d))∧Below w.heap.size w w':=by
 obtain⟨⟨am,cm,rfl,_⟩,⟨al,cl,rfl,_⟩,⟨at_,ct,rfl,_⟩⟩:=(Dt.rep_iff _ _ _ _ _ _).1 h;obtain⟨h1,h2,h3,-⟩:=Co.wf_lens hW;have hB:=Co.none_B d;obtain⟨R,hR⟩:∃R,R=Co.none_ d:=⟨_,rfl⟩
 rw[←hR]at hB ⊢;obtain⟨dk,e0⟩:∃x,d.k=x:=⟨_,rfl⟩
 obtain⟨dn,e1⟩:∃x,d.n=x:=⟨_,rfl⟩
 obtain⟨ds,e2⟩:∃x,d.s=x:=⟨_,rfl⟩
 obtain⟨lm,e3⟩:∃x,d.m.length=x:=⟨_,rfl⟩
 obtain⟨ll,e4⟩:∃x,d.l.length=x:=⟨_,rfl⟩
 obtain⟨lt,e5⟩:∃x,d.t.length=x:=⟨_,rfl⟩
 rw[e0,e1,e2,e3,e4,e5]at hB;rw[e3]at h1;rw[e4]at h2;rw[e5]at h3;rw[e0,e1,e2,e3,e4,e5];have hs3:(((lm:Int)+(ll:Int)+(lt:Int))==0)=(lm+ll+lt==0):=by
  rw[Bool.eq_iff_iff];simp;omega
 obtain⟨E,hE⟩:∃E,E=(lm+ll+lt==0):=⟨_,rfl⟩
 rw[←hE]at hs3 hB;have HB:=zh hB;clear hE hR hB e0 e1 e2 e3 e4 e5 h;go_enter Tryz.func93,Tryz.ntmps93;go_wp2;all_goals
  go_ret;exact⟨by rw[←HB.out];simp_all,(Below.refl _ _).alloc (Nat.le_refl _) _⟩
theorem varC_any(n:Int)(w:World):
  Calls Tryz.prog 83 #[.int .i64 n] w fun e w'=>e= .returned (.bool (Co.var n))∧w=w':=by
 obtain⟨R,hR⟩:∃R,R=Co.var n:=⟨_,rfl⟩
 have HR:Hid (R=(decide (1≤n)&&decide (n≤1048576))):=hR;rw[←hR];clear hR;go_enter Tryz.func83,Tryz.ntmps83;go_wp2;all_goals
  go_ret;exact⟨by rw[HR.out];first|(simp_all;done)|(simp_all;omega),rfl⟩
theorem numC_any(n:Int)(w:World):
  Calls Tryz.prog 96 #[.int .i64 n] w fun e w'=>e= .returned (.bool (Co.var n))∧w=w':=by
 obtain⟨R,hR⟩:∃R,R=Co.var n:=⟨_,rfl⟩
 have HR:Hid (R=(decide (1≤n)&&decide (n≤1048576))):=hR;rw[←hR];clear hR;go_enter Tryz.func96,Tryz.ntmps96;go_wp2;all_goals
  go_ret;exact⟨by rw[HR.out];first|(simp_all;done)|(simp_all;omega),rfl⟩
namespace Co
def IdxIs(l:List Int)(s:Int)(x:Int):Prop:=(x= -1∧s∉l)∨∃k:Nat,x=k∧∃h:k<l.length,l[k]=s∧s∉l.take k
theorem IdxIs.at{l:List Int}{x:Int}{i:Nat}(hi:i<l.length)(h:IdxIs l l[i] x):(x !=(i:Int))=(l.take i).contains l[i]:=by
 rcases h with⟨_,h⟩|⟨k,rfl,hk,h1,h2⟩
 ·exact absurd (List.getElem_mem hi) h
 ·by_cases hki:k<i
  ·have e1:((k:Int) !=(i:Int))=true:=by simp;omega
   have e2:l[i]∈l.take i:=by
    rw[←h1];exact List.mem_take_iff_getElem.2 ⟨k,by omega,rfl⟩
   rw[e1];exact(List.contains_iff_mem.2 e2).symm
  ·by_cases hik:i<k
   ·exact absurd (List.mem_take_iff_getElem.2 ⟨i,by omega,rfl⟩) h2
   ·obtain rfl:k=i:=by omega
    rw[show((k:Int) !=(k:Int))=false by simp];simpa using h2
theorem not_take{l:List Int}{n y:Int}{k:Nat}(hk:k<l.length)(hy:l[k]=y)(h:n∉l.take k)(hne:¬y=n):n∉l.take (k+1):=by
 rw[List.take_succ_eq_append_getElem hk,hy];intro hm;rcases List.mem_append.1 hm with hm|hm
 ·exact h hm
 ·exact hne (List.mem_singleton.1 hm).symm
theorem contains_no{l:List Int}{n:Int}(h:n∉l):l.contains n=false:=by simpa using h
end Co
theorem indexI_any{F:Nat→Prop}(v:Value)(l:List Int)(s:Int)(w:World)(h:Dt.IRow F w v l)(hl:l.length≤140737488355328):
  Calls Tryz.prog 52 #[v,.int .i64 s] w fun e w'=>(∃x:Int,e= .returned (.int .i64 x)∧Co.IdxIs l s x)∧w=w':=by
 obtain⟨a,c,rfl,_,hc⟩:=h;have HC:=zh hc;clear hc;go_enter Tryz.func52,Tryz.ntmps52;go_wp2
 go_loop [8] (fun v=>∃k:Nat,v= .int .i64 k∧k≤l.length∧Hid (s∉l.take k)) (fun v=>l.length - (intOf v).toNat)
 case atStart=>exact⟨0,rfl,by omega,by show s∉_;simp⟩
 case round=>
  obtain⟨k,rfl,hk,HR⟩:=hrel;by_cases hlt:k<l.length
  ·have hlti:(k:Int)<(l.length:Int):=by omega
   obtain⟨b,o,rfl,_,_,hcell⟩:=HC.out (by intro h0;rw[h0]at hlt;simp at hlt);have x0:=hcell k hlt;obtain⟨y,hy⟩:∃y,l[k]=y:=⟨_,rfl⟩
   rw[hy]at x0;have HY:=zh hy;clear hy hcell;by_cases hxy:s=y
   ·subst hxy;have HN:Hid (Co.IdxIs l s (k:Int)):= .inr ⟨k,rfl,hlt,HY.out,HR.out⟩;go_wp2;go_ret;exact⟨⟨_,rfl,HN.out⟩,rfl⟩
   ·have HN:Hid (s∉l.take (k+1)):=Co.not_take hlt HY.out HR.out (fun e=>hxy e.symm);have hyx:(s==y)=false:=by simpa using hxy
    have hyx2:(y==s)=false:=by simpa using fun e=>hxy (Eq.symm e)
    clear hxy;go_wp2
    go_round
    case rel=>exact⟨k+1,by simp,by omega,HN⟩
    case measure=>simp[intOf];omega
  ·have hge:(l.length:Int)≤(k:Int):=by omega
   have HN:Hid (s∉l):=by have h:=HR.out;rw[List.take_of_length_le (by omega)]at h;exact h
   go_wp2;go_ret;exact⟨⟨-1,rfl,.inl ⟨rfl,HN.out⟩⟩,rfl⟩
theorem inI_any{F:Nat→Prop}(v:Value)(l:List Int)(s:Int)(w:World)(h:Dt.IRow F w v l)(hl:l.length≤140737488355328):
  Calls Tryz.prog 67 #[v,.int .i64 s] w fun e w'=>e= .returned (.bool (l.contains s))∧w=w':=by
 obtain⟨a,c,rfl,_,hc⟩:=h;have HC:=zh hc;obtain⟨R,hR⟩:∃R,R=l.contains s:=⟨_,rfl⟩
 rw[←hR];have HR0:=zh hR;clear hc hR;go_enter Tryz.func67,Tryz.ntmps67;go_wp2
 go_loop [5] (fun v=>∃k:Nat,v= .int .i64 k∧k≤l.length∧Hid (s∉l.take k)) (fun v=>l.length - (intOf v).toNat)
 case atStart=>exact⟨0,rfl,by omega,by show s∉_;simp⟩
 case round=>
  obtain⟨k,rfl,hk,HR⟩:=hrel;by_cases hlt:k<l.length
  ·have hlti:(k:Int)<(l.length:Int):=by omega
   obtain⟨b,o,rfl,_,_,hcell⟩:=HC.out (by intro h0;rw[h0]at hlt;simp at hlt);have x0:=hcell k hlt;obtain⟨y,hy⟩:∃y,l[k]=y:=⟨_,rfl⟩
   rw[hy]at x0;have HY:=zh hy;clear hy hcell;by_cases hxy:y=s
   ·subst hxy;have HN:Hid (R=true):=by show R=true;rw[HR0.out,←HY.out];exact List.contains_iff_mem.2 (List.getElem_mem hlt)
    go_wp2;go_ret;exact⟨by rw[HN.out];rfl,rfl⟩
   ·have HN:Hid (s∉l.take (k+1)):=Co.not_take hlt HY.out HR.out hxy;have hyx:(y==s)=false:=by simpa using hxy
    clear hxy;go_wp2
    go_round
    case rel=>exact⟨k+1,by simp,by omega,HN⟩
    case measure=>simp[intOf];omega
  ·have hge:(l.length:Int)≤(k:Int):=by omega
   have HN:Hid (R=false):=by
    have h:=HR.out;rw[List.take_of_length_le (by omega)]at h;show R=false;rw[HR0.out];exact Co.contains_no h
   go_wp2;go_ret;exact⟨by rw[HN.out];rfl,rfl⟩
end Go.Proofs.YtfjmlfbohenmfaaGreat
