/-
 The walk of the reference's skip: the place of the next word.
-/
import Derived.Test.YtfjmlfbohenmfaaGreatLexRefAb
import Derived.Test.YtfjmlfbohenmfaaGreatCoreBBM2
namespace Go.Proofs.YtfjmlfbohenmfaaGreat
open Go.RowKit
namespace Lx
theorem com_end2(s:ByteArray)(m o:Nat)(h:s.size≤m+1):com (tl s m) o=none:=by
 by_cases hm:m<s.size
 ·rw[tl_cons s m hm,tl_nil s (m+1) h,com];simp;rw[com]
 ·rw[tl_nil s m (by omega),com]
theorem com_at(s:ByteArray)(m o:Nat)(h:m+1<s.size):com (tl s m) o=
  if s[m]=35∧s[m+1]=124 then com (tl s (m+2)) (o+1)
  else if s[m]=124∧s[m+1]=35 then(if o≤1 then some (tl s (m+2))else com (tl s (m+2)) (o - 1))
  else com (tl s (m+1)) o:=by
 have e1:(tl s (m+1)).head?=some s[m+1]:=by rw[tl_cons s (m+1) h];rfl
 have e2:(tl s (m+1)).tail=tl s (m+2):=by rw[tl_cons s (m+1) h];rfl
 rw[tl_cons s m (by omega),com,e1,e2];simp only[Bool.and_eq_true,beq_iff_eq,Option.some.injEq]
theorem dw_at(s:ByteArray)(m:Nat)(h:m<s.size)(c:UInt8)(hc:s[m]≠c):(tl s m).dropWhile (· !=c)=(tl s (m+1)).dropWhile (· !=c):=by
 rw[tl_cons s m h,List.dropWhile_cons_of_pos (by simpa using hc)]
theorem dw_end(s:ByteArray)(m:Nat)(hm:m≤s.size)(c:UInt8)(h:(hlt:m<s.size)→s[m]=c):(tl s m).dropWhile (· !=c)=tl s m:=by
 by_cases hlt:m<s.size
 ·rw[tl_cons s m hlt,List.dropWhile_cons_of_neg (by simpa using h hlt)]
 ·rw[tl_nil s m (by omega)];rfl
theorem pair_eq(s z:ByteArray)(m:Nat)(a b:UInt8)(h:m+1<s.size)(hz:s.extract m (m+2)=z):(z.toList==[a,b])=(s[m]==a&&s[m+1]==b):=by
 rw[ByteArray.toList_eq,←hz,Lib.extract_data];have e:(s.data.toList.drop m).take (m+2 - m)=[s[m],s[m+1]]:=by
  rw[show s.data.toList.drop m=tl s m from rfl,tl_cons s m (by omega),tl_cons s (m+1) h,show m+2 - m=2 by omega]
  rfl
 rw[e];simp[List.cons_beq_cons]
def SkipV(s:ByteArray)(g:List UInt8×Bool):Value:= .tuple #[.int .i64 ((s.size - g.1.length:Nat):Int),.int .i64 (if g.2=true then 0 else 31)]
theorem skip_ok(s:ByteArray)(m:Nat)(hm:m≤s.size):SkipV s (tl s m,true)= .tuple #[.int .i64 (m:Int),.int .i64 0]:=by
 unfold SkipV;rw[if_pos rfl,show s.size - (tl s m,true).1.length=m by rw[tl_len];omega]
theorem skip_no(s:ByteArray)(m:Nat)(hm:m≤s.size):SkipV s (tl s m,false)= .tuple #[.int .i64 (m:Int),.int .i64 31]:=by
 unfold SkipV;rw[if_neg (by simp),show s.size - (tl s m,false).1.length=m by rw[tl_len];omega]
end Lx
set_option maxRecDepth 100000 in
set_option maxHeartbeats 8000000 in
theorem skipR_any(s:ByteArray)(n0 f0:Nat)(w:World)(hs:s.size≤1000000)(hn0:n0≤s.size)(hf0:s.size - n0≤f0):
  Calls Tryz.prog 144 #[.string s,.int .i64 n0] w fun e w'=>e= .returned (Lx.SkipV s (Lx.gap f0 (Lx.tl s n0)))∧w=w':=by
 obtain⟨G,hG⟩:∃G,Lx.gap f0 (Lx.tl s n0)=G:=⟨_,rfl⟩
 rw[hG];go_enter Tryz.func144,Tryz.ntmps144;go_wp2_with fail
 go_loop [1] (fun v=>∃n f:Nat,v= .int .i64 n∧n≤s.size∧s.size - n≤f∧Hid (Lx.gap f (Lx.tl s n)=G)) (fun v=>s.size - (intOf v).toNat)
 case atStart=>exact⟨n0,f0,rfl,hn0,hf0,hG⟩
 case round=>
  obtain⟨n,f,rfl,hn,hf,HG⟩:=hrel;clear hG;by_cases hlt:n<s.size
  case neg=>
   have hge:¬ (n:Int)<(s.size:Int):=by omega
   have HR:Hid (Lx.SkipV s G= .tuple #[.int .i64 (n:Int),.int .i64 0]):=by
    show _=_;rw[←HG.out,Lx.tl_nil s n (by omega),Lx.gap_nil,←Lx.tl_nil s n (by omega)];exact Lx.skip_ok s n hn
   clear HG;go_wp2
   go_ret2
   exact⟨by rw[HR.out];rfl,rfl⟩
  obtain⟨f,rfl⟩:∃g,f=g+1:=⟨f - 1,by omega⟩
  have hlti:(n:Int)<(s.size:Int):=by omega
  have hg:=HG.out;rw[Lx.gap_step f s n hlt,Lx.pk_in s n 0 hlt]at hg;cases hw:Lx.white s[n]
  case true=>
   have hw':Lx.white s[n+0]=true:=hw;rw[if_pos hw']at hg;have HG2:=zh hg;clear hg HG hw';go_wp2_with fail
   refine(blankR_any _ _).mono ?_;rintro e w1 ⟨rfl,rfl⟩;rw[hw];go_wp2
   go_round
   case rel=>exact⟨n+1,f,by go_num,by omega,by omega,HG2⟩
   case measure=>simp[intOf];omega
  have hw':¬Lx.white s[n+0]=true:=by show ¬Lx.white s[n]=true;rw[hw];simp
  rw[if_neg hw']at hg;clear hw';by_cases h59:s[n]=59
  case pos=>
   rw[if_pos (show(s[n+0]==59)=true by simpa using h59)]at hg;have h59i:((s[n].toNat:Int)==59)=true:=by rw[h59];rfl
   have hstep:=Lx.dw_at s n hlt 10 (by rw[h59];decide);rw[hstep]at hg;have HG2:=zh hg;have H59:=zh h59;clear hg HG hstep h59;go_wp2_with fail
   refine(blankR_any _ _).mono ?_;rintro e w1 ⟨rfl,rfl⟩;rw[hw];go_wp2_with fail
   go_loop [1] (fun v=>∃k:Nat,v= .int .i64 k∧n≤k∧k≤s.size∧Hid (Lx.gap f ((Lx.tl s k).dropWhile (· !=10))=G)) (fun v=>s.size - (intOf v).toNat)
   case atStart=>exact⟨n,rfl,Nat.le_refl _,hn,by show _=_;rw[Lx.dw_at s n hlt 10 (by rw[H59.out];decide)];exact HG2.out⟩
   case round=>
    obtain⟨k,rfl,hnk,hk,HK⟩:=hrel;by_cases hks:k<s.size
    case neg=>
     have hge:¬ (k:Int)<(s.size:Int):=by omega
     have HK2:Hid (Lx.gap f (Lx.tl s k)=G):=by
      show _=_;rw[←HK.out,Lx.dw_end s k hk 10 (fun h=>absurd h hks)]
     go_wp2
     go_round
     case rel=>exact⟨k,f,rfl,hk,by omega,HK2⟩
     case measure=>simp[intOf];omega
    have hki:(k:Int)<(s.size:Int):=by omega
    by_cases h10:s[k]=10
    ·have HK2:Hid (Lx.gap f (Lx.tl s k)=G):=by
      show _=_;rw[←HK.out,Lx.dw_end s k hk 10 (fun _=>h10)]
     have hkn:n<k:=by
      rcases Nat.lt_or_ge n k with h|h
      ·exact h
      ·have e:k=n:=by omega
       subst e;rw[H59.out]at h10;exact absurd h10 (by decide)
     have h10i:((s[k].toNat:Int) !=10)=false:=by rw[h10];rfl
     clear h10;go_wp2
     go_round
     case rel=>exact⟨k,f,rfl,hk,by omega,HK2⟩
     case measure=>simp[intOf];omega
    ·have HK2:Hid (Lx.gap f ((Lx.tl s (k+1)).dropWhile (· !=10))=G):=by
      show _=_;rw[←HK.out,Lx.dw_at s k hks 10 h10]
     have h10i:((s[k].toNat:Int) !=10)=true:=by
      have:¬ ((s[k].toNat:Int)=10):=fun h=>h10 (UInt8.toNat_inj.1 (by show s[k].toNat=10;omega))
      simpa using this
     clear h10;go_wp2
     go_round
     case rel=>exact⟨k+1,by go_num,by omega,by omega,HK2⟩
     case measure=>simp[intOf];omega
  rw[if_neg (show ¬ (s[n+0]==59)=true by simpa using h59)]at hg;have h59i:((s[n].toNat:Int)==59)=false:=by
   rw[beq_eq_false_iff_ne];exact fun h=>h59 (UInt8.toNat_inj.1 (by show s[n].toNat=59;omega))
  have plain:¬ (s[n]=35∧∃h:n+1<s.size,s[n+1]=124)→Hid (Lx.SkipV s G= .tuple #[.int .i64 (n:Int),.int .i64 0]):=by
   intro hno;show _=_;rw[←hg,if_neg,Lx.skip_ok s n hn];intro h;rw[Bool.and_eq_true]at h;apply hno;refine⟨by simpa using h.1,?_⟩;by_cases hl:n+1<s.size
   ·exact⟨hl,by have:=h.2;rw[Lx.pk_in s n 1 hl]at this;simpa using this⟩
   ·have:=h.2;rw[Lx.pk_out s n 1 (by omega)]at this;simp at this
  by_cases hl:n+1<s.size
  case neg=>
   have HR:=plain (fun h=>hl h.2.1);have hli:¬ (n:Int)+1<(s.size:Int):=by omega
   clear hg HG plain;go_wp2_with fail
   refine(blankR_any _ _).mono ?_;rintro e w1 ⟨rfl,rfl⟩;rw[hw];go_wp2
   go_ret2
   exact⟨by rw[HR.out];rfl,rfl⟩
  have hli:(n:Int)+1<(s.size:Int):=by omega
  by_cases h35:s[n]=35
  case neg=>
   have HR:=plain (fun h=>h35 h.1);have h35i:((s[n].toNat:Int)==35)=false:=by
    rw[beq_eq_false_iff_ne];exact fun h=>h35 (UInt8.toNat_inj.1 (by show s[n].toNat=35;omega))
   clear hg HG plain;go_wp2_with fail
   refine(blankR_any _ _).mono ?_;rintro e w1 ⟨rfl,rfl⟩;rw[hw];go_wp2
   go_ret2
   exact⟨by rw[HR.out];rfl,rfl⟩
  have h35i:((s[n].toNat:Int)==35)=true:=by rw[h35];rfl
  by_cases h124:s[n+1]=124
  case neg=>
   have HR:=plain (fun h=>h124 h.2.2);have h124i:((s[n+1].toNat:Int)==124)=false:=by
    rw[beq_eq_false_iff_ne];exact fun h=>h124 (UInt8.toNat_inj.1 (by show s[n+1].toNat=124;omega))
   clear hg HG plain h35;go_wp2_with fail
   refine(blankR_any _ _).mono ?_;rintro e w1 ⟨rfl,rfl⟩;rw[hw];go_wp2
   go_ret2
   exact⟨by rw[HR.out];rfl,rfl⟩
  have h124i:((s[n+1].toNat:Int)==124)=true:=by rw[h124];rfl
  rw[if_pos (by rw[Lx.pk_in s n 1 hl,show s[n+0]=35 from h35,h124];rfl)]at hg;obtain⟨C,hC⟩:∃C,Lx.com (Lx.tl s n) 0=C:=⟨_,rfl⟩
  rw[hC]at hg;have HC0:Hid (Lx.com (Lx.tl s (n+2)) 1=C):=by
   show _=_;rw[←hC,Lx.com_at s n 0 hl,if_pos ⟨h35,h124⟩]
  have HG2:=zh hg;clear hg HG plain hC h35 h124;go_wp2_with fail
  refine(blankR_any _ _).mono ?_;rintro e w1 ⟨rfl,rfl⟩;rw[hw];go_wp2_with fail
  go_loop [1,7] (fun v vo=>∃m o:Nat,v= .int .i64 m∧vo= .int .i64 o∧n+2≤m∧m≤s.size∧o≤m∧Hid ((1≤o∧Lx.com (Lx.tl s m) o=C)∨(o=0∧C=some (Lx.tl s m)))) (fun v _=>s.size - (intOf v).toNat)
  case atStart=>exact⟨n+2,1,by go_num,rfl,by omega,by omega,by omega,.inl ⟨by omega,HC0.out⟩⟩
  case round=>
   obtain⟨m,o,rfl,rfl,hnm,hm,hom,HM⟩:=hrel;by_cases ho:o=0
   ·subst ho;have HE:Hid (Lx.gap f (Lx.tl s m)=G):=by
     show _=_;rcases HM.out with⟨h,_⟩|⟨_,h⟩
     ·omega
     ·have:=HG2.out;rw[h]at this;exact this
    go_wp2
    go_round
    case rel=>exact⟨m,f,rfl,hm,by omega,HE⟩
    case measure=>simp[intOf];omega
   have hoi:0<(o:Int):=by omega
   have HM1:Hid (Lx.com (Lx.tl s m) o=C):=by
    show _=_;rcases HM.out with⟨_,h⟩|⟨h,_⟩
    ·exact h
    ·exact absurd h ho
   by_cases hml:m+1<s.size
   case neg=>
    have hmli:(s.size:Int)≤(m:Int)+1:=by omega
    have HR:Hid (Lx.SkipV s G= .tuple #[.int .i64 (n:Int),.int .i64 31]):=by
     show _=_;have:=HG2.out;rw[←HM1.out,Lx.com_end2 s m o (by omega)]at this;rw[←this];exact Lx.skip_no s n hn
    clear HM HM1;go_wp2
    go_ret2
    exact⟨by rw[HR.out];rfl,rfl⟩
   have hmli:¬ (s.size:Int)≤(m:Int)+1:=by omega
   obtain⟨z,hz⟩:∃z,s.extract m (m+2)=z:=⟨_,rfl⟩
   have p1:=Lx.pair_eq s z m 35 124 hml hz;have p2:=Lx.pair_eq s z m 124 35 hml hz;have hco:=Lx.com_at s m o hml;by_cases c1:s[m]=35∧s[m+1]=124
   ·rw[if_pos c1]at hco;have hp1:(z.toList==[35,124])=true:=by rw[p1,c1.1,c1.2];rfl
    have HN:Hid ((1≤o+1∧Lx.com (Lx.tl s (m+2)) (o+1)=C)∨(o+1=0∧C=some (Lx.tl s (m+2)))):= .inl ⟨by omega,by rw[←hco];exact HM1.out⟩;clear p1 p2 hco c1 HM HM1;go_wp2
    go_round
    case rel=>exact⟨m+2,o+1,by go_num,by go_num,by omega,by omega,by omega,HN⟩
    case measure=>simp[intOf];omega
   rw[if_neg c1]at hco;have hp1:(z.toList==[35,124])=false:=by
    rw[p1,Bool.and_eq_false_iff];by_cases h:s[m]=35
    ·exact .inr (by simpa using fun h2=>c1 ⟨h,h2⟩)
    ·exact .inl (by simpa using h)
   by_cases c2:s[m]=124∧s[m+1]=35
   ·rw[if_pos c2]at hco;have hp2:(z.toList==[124,35])=true:=by rw[p2,c2.1,c2.2];rfl
    have HN:Hid ((1≤o - 1∧Lx.com (Lx.tl s (m+2)) (o - 1)=C)∨(o - 1=0∧C=some (Lx.tl s (m+2)))):=by
     by_cases h1:o≤1
     ·rw[if_pos h1]at hco;exact .inr ⟨by omega,by rw[←HM1.out,hco]⟩
     ·rw[if_neg h1]at hco;exact .inl ⟨by omega,by rw[←hco];exact HM1.out⟩
    have hsub:((o - 1:Nat):Int)=(o:Int) - 1:=by omega
    have HSUB:=zh hsub;clear p1 p2 hco c1 c2 HM HM1 hsub;go_wp2
    go_round
    case rel=>exact⟨m+2,o - 1,by go_num,by rw[HSUB.out],by omega,by omega,by omega,HN⟩
    case measure=>simp[intOf];omega
   rw[if_neg c2]at hco;have hp2:(z.toList==[124,35])=false:=by
    rw[p2,Bool.and_eq_false_iff];by_cases h:s[m]=124
    ·exact .inr (by simpa using fun h2=>c2 ⟨h,h2⟩)
    ·exact .inl (by simpa using h)
   have HN:Hid ((1≤o∧Lx.com (Lx.tl s (m+1)) o=C)∨(o=0∧C=some (Lx.tl s (m+1)))):= .inl ⟨by omega,by rw[←hco];exact HM1.out⟩;clear p1 p2 hco c1 c2 HM HM1;go_wp2
   go_round
   case rel=>exact⟨m+1,o,by go_num,rfl,by omega,by omega,by omega,HN⟩
   case measure=>simp[intOf];omega
end Go.Proofs.YtfjmlfbohenmfaaGreat
