/-
  TbSymRq, CdSymRq.
-/
import Derived.Test.YtfjmlfbohenmfaaGreatLexRefCq
import Derived.Test.YtfjmlfbohenmfaaGreatCoreWithinLawZM2
set_option maxRecDepth 100000
set_option maxHeartbeats 32000000
namespace Go.Proofs.YtfjmlfbohenmfaaGreat
open Go.RowKit
theorem SymbolR2_any(s:ByteArray)(w:World)(hs:s.size≤140737488355328):
  Calls Tryz.prog 95 #[.string s] w fun e w'=>e= .returned (.bool (Lx.symbol s.data.toList))∧w=w':=by
 obtain⟨R,hR⟩:∃R,Lx.symbol s.data.toList=R:=⟨_,rfl⟩
 rw[hR];unfold Lx.symbol at hR;rw[←ByteArray.toList_eq]at hR;cases h1:(s.toList==[43])
 case true=>
  have HF:Hid (R=true):=by show _=_;rw[←hR,h1];rfl
  clear hR;go_enter Tryz.func95,Tryz.ntmps95;go_wp2;go_ret;exact⟨by rw[HF.out];rfl,rfl⟩
 cases h2:(s.toList==[45])
 case true=>
  have HF:Hid (R=true):=by show _=_;rw[←hR,h1,h2];rfl
  clear hR;go_enter Tryz.func95,Tryz.ntmps95;go_wp2;go_ret;exact⟨by rw[HF.out];rfl,rfl⟩
 cases h3:(s.toList==[46,46,46])
 case true=>
  have HF:Hid (R=true):=by show _=_;rw[←hR,h1,h2,h3];rfl
  clear hR;go_enter Tryz.func95,Tryz.ntmps95;go_wp2;go_ret;exact⟨by rw[HF.out];rfl,rfl⟩
 rw[h1,h2,h3,ByteArray.toList_eq]at hR;simp only[Bool.false_or]at hR;have hlen:s.data.toList.length=s.size:=Fx.size_toList s;by_cases h0:s.size=0
 ·have h0i:(s.size:Int)<1:=by omega
  have HF:Hid (R=false):=by
   show _=_;rw[←hR,show s.data.toList=[]from List.length_eq_zero_iff.1 (by omega)];rfl
  clear hR;go_enter Tryz.func95,Tryz.ntmps95;go_wp2;go_ret;exact⟨by rw[HF.out];rfl,rfl⟩
 have h0i:¬ (s.size:Int)<1:=by omega
 have hpos:0<s.size:=by omega
 by_cases h32:32<s.size
 ·have h32i:32<(s.size:Int):=by omega
  have HF:Hid (R=false):=by
   show _=_;rw[←hR,hlen,decide_eq_false (show ¬s.size≤32 by omega)];simp
  clear hR;go_enter Tryz.func95,Tryz.ntmps95;go_wp2;go_ret;exact⟨by rw[HF.out];rfl,rfl⟩
 have h32i:¬32<(s.size:Int):=by omega
 have hcons:s.data.toList=s[0] :: Lx.tl s 1:=by
  have:=Lx.tl_cons s 0 hpos;rw[←this];unfold Lx.tl;simp
 have hR2:R=(Lx.begins s[0]&&(Lx.goes s[0]&&(Lx.tl s 1).all Lx.goes)):=by
  rw[←hR,hlen,decide_eq_true (show s.size≤32 by omega),hcons];simp
 have hl:=letterR_any s[0] w;cases hb:Lx.begins s[0]
 ·have HF:Hid (R=false):=by show _=_;rw[hR2,hb];rfl
  rw[hb]at hl;clear hR hR2 hcons hlen;go_enter Tryz.func95,Tryz.ntmps95;go_wp2_with fail
  refine hl.mono ?_;rintro e w1 ⟨rfl,rfl⟩;go_wp2;go_ret;exact⟨by rw[HF.out];rfl,rfl⟩
 have H1:Hid (R=(Lx.tl s 1).all Lx.goes):=by
  show _=_;rw[hR2,hb,Lx.goes_more,hb];simp
 rw[hb]at hl;clear hR hR2 hcons hlen;go_enter Tryz.func95,Tryz.ntmps95;go_wp2_with fail
 refine hl.mono ?_;rintro e w1 ⟨rfl,rfl⟩;clear hl;go_wp2_with fail
 go_loop [3] (fun vi=>∃k:Nat,vi= .int .i64 k∧1≤k∧k≤s.size∧Hid (R=(Lx.tl s k).all Lx.goes)) (fun vi=>s.size - (intOf vi).toNat)
 case atStart=>exact⟨1,rfl,by omega,by omega,H1⟩
 case round=>
  obtain⟨k,rfl,hk1,hk,HR⟩:=hrel;by_cases hlt:k<s.size
  case neg=>
   have hge:¬ (k:Int)<(s.size:Int):=by omega
   have HE:Hid (R=true):=by show _=_;rw[HR.out,Lx.tl_nil s k (by omega)];rfl
   go_wp2;go_ret;exact⟨by rw[HE.out];rfl,rfl⟩
  have hlti:(k:Int)<(s.size:Int):=by omega
  have hr:=HR.out;rw[Lx.tl_cons s k hlt,List.all_cons,Lx.goes_more]at hr;have hl2:=letterR_any s[k] w;have hi2:=isInR_any s[k] Lx.moreB w (by decide);cases hb2:Lx.begins s[k]
  ·rw[hb2]at hl2 hr;cases hm:Lx.moreB.data.toList.contains s[k]
   ·rw[hm]at hi2 hr;have HE:Hid (R=false):=hr;clear hr HR hb2 hm;go_wp2_with fail
    refine hl2.mono ?_;rintro e w1 ⟨rfl,rfl⟩;go_wp2_with fail
    refine hi2.mono ?_;rintro e w1 ⟨rfl,rfl⟩;go_wp2;go_ret;exact⟨by rw[HE.out];rfl,rfl⟩
   ·rw[hm]at hi2 hr;have HN:Hid (R=(Lx.tl s (k+1)).all Lx.goes):=by show _=_;rw[hr];simp
    clear hr HR hb2 hm;go_wp2_with fail
    refine hl2.mono ?_;rintro e w1 ⟨rfl,rfl⟩;go_wp2_with fail
    refine hi2.mono ?_;rintro e w1 ⟨rfl,rfl⟩;go_wp2
    go_round
    case rel=>exact⟨k+1,by go_num,by omega,by omega,HN⟩
    case measure=>simp[intOf];omega
  ·rw[hb2]at hl2 hr;have HN:Hid (R=(Lx.tl s (k+1)).all Lx.goes):=by show _=_;rw[hr];simp
   clear hr HR hb2;go_wp2_with fail
   refine hl2.mono ?_;rintro e w1 ⟨rfl,rfl⟩;go_wp2
   go_round
   case rel=>exact⟨k+1,by go_num,by omega,by omega,HN⟩
   case measure=>simp[intOf];omega
end Go.Proofs.YtfjmlfbohenmfaaGreat
