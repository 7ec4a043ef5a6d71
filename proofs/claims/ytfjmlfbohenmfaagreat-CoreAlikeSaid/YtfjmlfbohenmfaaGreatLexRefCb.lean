/-
 The walks of the reference's hex, escaped, Symbol.
-/
import Derived.Test.YtfjmlfbohenmfaaGreatLexRefAb
import Derived.Test.YtfjmlfbohenmfaaGreatCoreBBM2
namespace Go.Proofs.YtfjmlfbohenmfaaGreat
open Go.RowKit
namespace Lx
def twoK:Nat→Nat→List UInt8→Int
 |0,v,_=>if v≤127 then(v:Int)else -1
 |_+1,_,[]=> -1
 |k+1,v,c :: r=>match hexOf c with
  |some x=>twoK k (16*v+x) r
  |none=> -1
theorem two_K(t:List UInt8):two t=twoK 2 0 t:=by
 match t with
 |[]=>rfl
 |[c]=>
  show(-1:Int)=twoK 2 0 [c];unfold twoK;split
  ·rfl
  ·rfl
 |h :: l :: r=>
  show(match hexOf h,hexOf l with
   |some x,some y=>if x≤7 then((16*x+y:Nat):Int)else -1
   |_,_=> -1)=(match hexOf h with
   |some x=>(match hexOf l with
    |some y=>(if 16*(16*0+x)+y≤127 then((16*(16*0+x)+y:Nat):Int)else -1)
    |none=> -1)
   |none=> -1)
  rcases hx:hexOf h with _|x
  ·rfl
  ·rcases hy:hexOf l with _|y
   ·rfl
   ·have:=hexOf_bd h x hx;have:=hexOf_bd l y hy;show(if x≤7 then((16*x+y:Nat):Int)else -1)=(if 16*(16*0+x)+y≤127 then((16*(16*0+x)+y:Nat):Int)else -1)
    by_cases h7:x≤7
    ·rw[if_pos h7,if_pos (by omega)];simp
    ·rw[if_neg h7,if_neg (by omega)]
theorem twoK_zero(v:Nat)(t:List UInt8):twoK (2 - 2) v t=if v≤127 then(v:Int)else -1:=rfl
theorem hex_dig(c:UInt8)(h:figure c=true):hexOf c=some (c.toNat - 48)∧48≤c.toNat∧c.toNat≤57:=by
 refine⟨by unfold hexOf;rw[if_pos h],?_⟩;unfold figure at h;simpa using h
theorem hex_let(c:UInt8)(h:figure c=false)(h2:97≤c.toNat∧c.toNat≤102):hexOf c=some (c.toNat - 87):=by
 unfold hexOf;rw[if_neg (by rw[h];simp),if_pos (by simp;omega)]
theorem hex_no(c:UInt8)(h:figure c=false)(h2:¬ (97≤c.toNat∧c.toNat≤102)):hexOf c=none:=by
 unfold hexOf;rw[if_neg (by rw[h];simp),if_neg (by simp;omega)]
def esc(t:List UInt8):Int×Int:=
 match t with
 |[]=>(-1,1)
 |c :: r=>if c==110 then(10,1)else if c==116 then(9,1)else if c==92 then(92,1)else if c==34 then(34,1)else if c==120 then(two r,3)else(-1,1)
theorem esc_cons(c:UInt8)(r:List UInt8):esc (c :: r)=if c==110 then(10,1)else if c==116 then(9,1)else if c==92 then(92,1)else if c==34 then(34,1)else if c==120 then(two r,3)else(-1,1):=rfl
end Lx
set_option maxRecDepth 100000 in
set_option maxHeartbeats 1000000 in
theorem hexR_any(s:ByteArray)(n:Nat)(w:World)(hs:s.size≤1000000)(hn:n≤s.size):
  Calls Tryz.prog 175 #[.string s,.int .i64 n] w fun e w'=>e= .returned (.int .i64 (Lx.two (Lx.tl s n)))∧w=w':=by
 have h0:=Lx.two_K (Lx.tl s n);obtain⟨R,hR⟩:∃R,Lx.two (Lx.tl s n)=R:=⟨_,rfl⟩
 rw[hR]at h0 ⊢;have H0:=zh h0;clear h0 hR;go_enter Tryz.func175,Tryz.ntmps175;go_wp2_with fail
 go_loop [5,6] (fun vv vi=>∃k v:Nat,vv= .int .i64 v∧vi= .int .i64 ((n+k:Nat):Int)∧k≤2∧v<16 ^ k∧Hid (R=Lx.twoK (2 - k) v (Lx.tl s (n+k)))) (fun _ vi=>n+2 - (intOf vi).toNat)
 case atStart=>exact⟨0,0,rfl,rfl,by omega,by simp,H0⟩
 case round=>
  obtain⟨k,v,rfl,rfl,hk,hv,HR⟩:=hrel;by_cases hk2:k=2
  ·subst hk2;have hge:¬ (((n+2:Nat):Int)<(n:Int)+2):=by omega
   have hv256:v<256:=by omega
   by_cases h7:v≤127
   ·have HE:Hid (R=(v:Int)):=by show _=_;rw[HR.out,Lx.twoK_zero,if_pos h7]
    have h7i:¬ (127<(v:Int)):=by omega
    clear HR hv;go_wp2;go_ret;exact⟨by rw[HE.out];rfl,rfl⟩
   ·have HE:Hid (R= -1):=by show _=_;rw[HR.out,Lx.twoK_zero,if_neg h7]
    have h7i:127<(v:Int):=by omega
    clear HR hv;go_wp2;go_ret;exact⟨by rw[HE.out];rfl,rfl⟩
  have hlt:((n+k:Nat):Int)<(n:Int)+2:=by omega
  have hv16:v<16:=by
   rcases Nat.lt_or_ge k 1 with h|h
   ·have:k=0:=by omega
    subst this;simp at hv;omega
   ·have:k=1:=by omega
    subst this;simpa using hv
  obtain⟨d,hd⟩:∃d,2 - k=d+1:=⟨1 - k,by omega⟩
  have hr:=HR.out;rw[hd]at hr;by_cases hin:n+k<s.size
  case neg=>
   have hgi:(s.size:Int)≤((n+k:Nat):Int):=by omega
   have HE:Hid (R= -1):=by show _=_;rw[hr,Lx.tl_nil s (n+k) (by omega)];rfl
   clear HR hr hv;go_wp2;go_ret;exact⟨by rw[HE.out];rfl,rfl⟩
  have hgi:¬ ((s.size:Int)≤((n+k:Nat):Int)):=by omega
  rw[Lx.tl_cons s (n+k) hin]at hr;unfold Lx.twoK at hr;obtain⟨c,hc⟩:∃c,s[n+k]=c:=⟨_,rfl⟩
  rw[hc]at hr;have hd2:d=2 - (k+1):=by omega
  have hpow:16*v+15<16 ^ (k+1):=by
   rw[Nat.pow_succ];omega
  cases hf:Lx.figure c
  case true=>
   obtain⟨e1,e2,e3⟩:=Lx.hex_dig c hf;rw[e1]at hr;have HN:Hid (R=Lx.twoK (2 - (k+1)) (16*v+(c.toNat - 48)) (Lx.tl s (n+k+1))):=by show _=_;rw[hr,hd2]
   have HC:=zh hc;have HP:Hid (16*v+(c.toNat - 48)<16 ^ (k+1)):=by show _<_;omega
   have e2i:48≤(c.toNat:Int):=by omega
   have e3i:(c.toNat:Int)≤57:=by omega
   have hdg:=digitR_any c w;rw[hf]at hdg;clear HR hr hv e1 hpow hd hd2 hf;go_wp2_with fail
   refine hdg.mono ?_;rintro e w1 ⟨rfl,rfl⟩;go_wp2
   go_round
   case rel=>exact⟨k+1,16*v+(c.toNat - 48),by(first|go_num|(congr 1;omega)),by go_num,by omega,HP.out,by rw[Nat.add_assoc]at HN;exact HN⟩
   case measure=>simp[intOf];omega
  have hdg:=digitR_any c w;rw[hf]at hdg;by_cases hl:97≤c.toNat∧c.toNat≤102
  ·rw[Lx.hex_let c hf hl]at hr;obtain⟨l1,l2⟩:=hl;have HN:Hid (R=Lx.twoK (2 - (k+1)) (16*v+(c.toNat - 87)) (Lx.tl s (n+k+1))):=by show _=_;rw[hr,hd2]
   have HP:Hid (16*v+(c.toNat - 87)<16 ^ (k+1)):=by show _<_;omega
   have e2i:97≤(c.toNat:Int):=by omega
   have e3i:(c.toNat:Int)≤102:=by omega
   clear HR hr hv hpow hd hd2 hf;go_wp2_with fail
   refine hdg.mono ?_;rintro e w1 ⟨rfl,rfl⟩;go_wp2
   go_round
   case rel=>exact⟨k+1,16*v+(c.toNat - 87),by(first|go_num|(congr 1;omega)),by go_num,by omega,HP.out,by rw[Nat.add_assoc]at HN;exact HN⟩
   case measure=>simp[intOf];omega
  ·rw[Lx.hex_no c hf hl]at hr;have HE:Hid (R= -1):=hr;clear HR hr hv hpow hd hd2 hf;by_cases l1:97≤(c.toNat:Int)
   ·have l2:¬ (c.toNat:Int)≤102:=by omega
    go_wp2_with fail
    refine hdg.mono ?_;rintro e w1 ⟨rfl,rfl⟩;go_wp2;go_ret;exact⟨by rw[HE.out];rfl,rfl⟩
   ·go_wp2_with fail
    refine hdg.mono ?_;rintro e w1 ⟨rfl,rfl⟩;go_wp2;go_ret;exact⟨by rw[HE.out];rfl,rfl⟩
set_option maxRecDepth 100000 in
set_option maxHeartbeats 1000000 in
theorem escapedR_any(s:ByteArray)(n:Nat)(w:World)(hs:s.size≤1000000)(hn:n<s.size):
  Calls Tryz.prog 172 #[.string s,.int .i64 n] w fun e w'=>e= .returned (.tuple #[.int .i64 (Lx.esc (Lx.tl s n)).1,.int .i64 (Lx.esc (Lx.tl s n)).2])∧w=w':=by
 obtain⟨E,hE⟩:∃E,Lx.esc (Lx.tl s n)=E:=⟨_,rfl⟩
 have hx:=hexR_any s (n+1) w hs (by omega);obtain⟨X,hX⟩:∃X,Lx.two (Lx.tl s (n+1))=X:=⟨_,rfl⟩
 rw[hX]at hx;rw[hE];rw[Lx.tl_cons s n hn,Lx.esc_cons,hX]at hE;obtain⟨c,hc⟩:∃c,s[n]=c:=⟨_,rfl⟩
 rw[hc]at hE;have hb0:(0:Int)≤(c.toNat:Int):=by omega
 have hb1:(c.toNat:Int)≤255:=by have:=c.toNat_lt;omega
 rw[show(c==110)=((c.toNat:Int)==110)from Lx.beq_nat c 110 (by omega),show(c==116)=((c.toNat:Int)==116)from Lx.beq_nat c 116 (by omega),show(c==92)=((c.toNat:Int)==92)from Lx.beq_nat c 92 (by omega),show(c==34)=((c.toNat:Int)==34)from Lx.beq_nat c 34 (by omega),show(c==120)=((c.toNat:Int)==120)from Lx.beq_nat c 120 (by omega)]at hE;have HE:=zh hE;clear hE hX;cases h1:((c.toNat:Int)==110)
 case true=>
  have HF:Hid (E=(10,1)):=by show _=_;rw[←HE.out,h1];rfl
  go_enter Tryz.func172,Tryz.ntmps172;go_wp2
  go_ret2
  exact⟨by rw[HF.out];rfl,rfl⟩
 cases h2:((c.toNat:Int)==116)
 case true=>
  have HF:Hid (E=(9,1)):=by show _=_;rw[←HE.out,h1,h2];rfl
  go_enter Tryz.func172,Tryz.ntmps172;go_wp2
  go_ret2
  exact⟨by rw[HF.out];rfl,rfl⟩
 cases h3:((c.toNat:Int)==92)
 case true=>
  have HF:Hid (E=((c.toNat:Int),1)):=by
   show _=_;rw[←HE.out,h1,h2,h3];have:(c.toNat:Int)=92:=by simpa using h3
   rw[this];rfl
  go_enter Tryz.func172,Tryz.ntmps172;go_wp2
  go_ret2
  exact⟨by rw[HF.out];rfl,rfl⟩
 cases h4:((c.toNat:Int)==34)
 case true=>
  have HF:Hid (E=((c.toNat:Int),1)):=by
   show _=_;rw[←HE.out,h1,h2,h3,h4];have:(c.toNat:Int)=34:=by simpa using h4
   rw[this];rfl
  go_enter Tryz.func172,Tryz.ntmps172;go_wp2
  go_ret2
  exact⟨by rw[HF.out];rfl,rfl⟩
 cases h5:((c.toNat:Int)==120)
 case true=>
  have HF:Hid (E=(X,3)):=by show _=_;rw[←HE.out,h1,h2,h3,h4,h5];rfl
  go_enter Tryz.func172,Tryz.ntmps172;go_wp2_with fail
  rw[show((n:Int)+1)=((n+1:Nat):Int)by omega];refine hx.mono ?_;rintro e w1 ⟨rfl,rfl⟩;go_wp2
  go_ret2
  exact⟨by rw[HF.out];rfl,rfl⟩
 have HF:Hid (E=(-1,1)):=by show _=_;rw[←HE.out,h1,h2,h3,h4,h5];rfl
 go_enter Tryz.func172,Tryz.ntmps172;go_wp2
 go_ret2
 exact⟨by rw[HF.out];rfl,rfl⟩
set_option maxRecDepth 100000 in
theorem isInR_any(c:UInt8)(z:ByteArray)(w:World)(hz:z.size≤1000):
  Calls Tryz.prog 115 #[.int .u8 (c.toNat:Int),.string z] w fun e w'=>e= .returned (.bool (z.data.toList.contains c))∧w=w':=by
 obtain⟨R,hR⟩:∃R,z.data.toList.contains c=R:=⟨_,rfl⟩
 rw[hR];have H0:Hid (R=(Lx.tl z 0).contains c):=by show _=_;rw[←hR];unfold Lx.tl;simp
 clear hR;go_enter Tryz.func115,Tryz.ntmps115;go_wp2_with fail
 go_loop [5] (fun vi=>∃k:Nat,vi= .int .i64 k∧k≤z.size∧Hid (R=(Lx.tl z k).contains c)) (fun vi=>z.size - (intOf vi).toNat)
 case atStart=>exact⟨0,rfl,by omega,H0⟩
 case round=>
  obtain⟨k,rfl,hk,HR⟩:=hrel;by_cases hlt:k<z.size
  case neg=>
   have hge:¬ (k:Int)<(z.size:Int):=by omega
   have HE:Hid (R=false):=by show _=_;rw[HR.out,Lx.tl_nil z k (by omega)];rfl
   go_wp2;go_ret;exact⟨by rw[HE.out];rfl,rfl⟩
  have hlti:(k:Int)<(z.size:Int):=by omega
  have hr:=HR.out;rw[Lx.tl_cons z k hlt,List.contains_cons]at hr;by_cases he:z[k]=c
  ·have HE:Hid (R=true):=by show _=_;rw[hr,he];simp
   have hb:((z[k].toNat:Int)==(c.toNat:Int))=true:=by rw[he];simp
   have hb2:(z[k].toNat==c.toNat)=true:=by rw[he];simp
   clear hr HR he;go_wp2;go_ret;exact⟨by rw[HE.out];rfl,rfl⟩
  ·have hne:z[k].toNat≠c.toNat:=fun h=>he (UInt8.toNat_inj.1 h)
   have HN:Hid (R=(Lx.tl z (k+1)).contains c):=by
    show _=_;rw[hr,show(c==z[k])=false by rw[beq_eq_false_iff_ne];exact fun h=>he h.symm];rfl
   have hb:((z[k].toNat:Int)==(c.toNat:Int))=false:=by rw[beq_eq_false_iff_ne];omega
   have hb2:(z[k].toNat==c.toNat)=false:=by rw[beq_eq_false_iff_ne];exact hne
   clear hr HR he hne;go_wp2
   go_round
   case rel=>exact⟨k+1,by go_num,by omega,HN⟩
   case measure=>simp[intOf];omega
namespace Lx
def signsB:ByteArray:=⟨#[33,36,37,38,42,47,58,60,61,62,63,94,95,126]⟩
def moreB:ByteArray:=⟨#[48,49,50,51,52,53,54,55,56,57,43,45,46,64]⟩
theorem begins_int(c:UInt8):begins c=((decide (97≤(c.toNat:Int))&&decide ((c.toNat:Int)≤122))||(decide (65≤(c.toNat:Int))&&decide ((c.toNat:Int)≤90))||signsB.data.toList.contains c):=by
 unfold begins;rw[low_int,show decide (65≤c.toNat)=decide (65≤(c.toNat:Int))from decide_eq_decide.2 (by omega),show decide (c.toNat≤90)=decide ((c.toNat:Int)≤90)from decide_eq_decide.2 (by omega)]
 rfl
theorem goes_more(c:UInt8):goes c=(begins c||moreB.data.toList.contains c):=by
 refine all_bytes goes (fun c=>begins c||moreB.data.toList.contains c) ?_ c;decide+kernel
end Lx
set_option maxRecDepth 100000 in
theorem letterR_any(c:UInt8)(w:World):
  Calls Tryz.prog 114 #[.int .u8 (c.toNat:Int)] w fun e w'=>e= .returned (.bool (Lx.begins c))∧w=w':=by
 have hi:=isInR_any c Lx.signsB w (by decide);have HB:=zh (Lx.begins_int c);obtain⟨f,hf⟩:∃f,Lx.signsB.data.toList.contains c=f:=⟨_,rfl⟩
 rw[hf]at hi;have HF:=zh hf;clear hf;have hr:(c.toNat:Int)<65∨(65≤(c.toNat:Int)∧(c.toNat:Int)≤90)∨(90<(c.toNat:Int)∧(c.toNat:Int)<97)∨(97≤(c.toNat:Int)∧(c.toNat:Int)≤122)∨122<(c.toNat:Int):=by omega
 rcases hr with h1|⟨h1,h2⟩|⟨h1,h2⟩|⟨h1,h2⟩|h1
 ·have HR:Hid (Lx.begins c=f):=by
   show _=_;rw[HB.out,HF.out,decide_eq_false (show ¬97≤(c.toNat:Int)by omega),decide_eq_false (show ¬65≤(c.toNat:Int)by omega)];simp
  go_enter Tryz.func114,Tryz.ntmps114;go_wp2_with fail
  refine hi.mono ?_;rintro e w1 ⟨rfl,rfl⟩;go_wp2;go_ret;exact⟨by rw[HR.out];rfl,rfl⟩
 ·have HR:Hid (Lx.begins c=true):=by
   show _=_;rw[HB.out,decide_eq_true (show 65≤(c.toNat:Int)by omega),decide_eq_true (show(c.toNat:Int)≤90 by omega)];simp
  go_enter Tryz.func114,Tryz.ntmps114;go_wp2;go_ret;exact⟨by rw[HR.out];rfl,rfl⟩
 ·have HR:Hid (Lx.begins c=f):=by
   show _=_;rw[HB.out,HF.out,decide_eq_false (show ¬97≤(c.toNat:Int)by omega),decide_eq_false (show ¬ (c.toNat:Int)≤90 by omega)];simp
  have d90:decide ((c.toNat:Int)≤90)=false:=decide_eq_false (by omega);go_enter Tryz.func114,Tryz.ntmps114;go_wp2_with fail
  refine hi.mono ?_;rintro e w1 ⟨rfl,rfl⟩;go_wp2;go_ret;exact⟨by rw[HR.out];rfl,rfl⟩
 ·have HR:Hid (Lx.begins c=true):=by
   show _=_;rw[HB.out,decide_eq_true (show 97≤(c.toNat:Int)by omega),decide_eq_true (show(c.toNat:Int)≤122 by omega)];simp
  go_enter Tryz.func114,Tryz.ntmps114;go_wp2;go_ret;exact⟨by rw[HR.out];rfl,rfl⟩
 ·have HR:Hid (Lx.begins c=f):=by
   show _=_;rw[HB.out,HF.out,decide_eq_false (show ¬ (c.toNat:Int)≤122 by omega),decide_eq_false (show ¬ (c.toNat:Int)≤90 by omega)];simp
  have d90:decide ((c.toNat:Int)≤90)=false:=decide_eq_false (by omega);have d122:decide ((c.toNat:Int)≤122)=false:=decide_eq_false (by omega);go_enter Tryz.func114,Tryz.ntmps114;go_wp2_with fail
  refine hi.mono ?_;rintro e w1 ⟨rfl,rfl⟩;go_wp2;go_ret;exact⟨by rw[HR.out];rfl,rfl⟩
set_option maxRecDepth 100000 in
set_option maxHeartbeats 2000000 in
theorem SymbolR_any(s:ByteArray)(w:World)(hs:s.size≤1000000):
  Calls Tryz.prog 95 #[.string s] w fun e w'=>e= .returned (.bool (Lx.symbol s.data.toList))∧w=w':=by
 obtain⟨R,hR⟩:∃R,Lx.symbol s.data.toList=R:=⟨_,rfl⟩
 rw[hR];unfold Lx.symbol at hR;rw[←ByteArray.toList_eq]at hR;cases h1:(s.toList==[43])
 case true=>
  have HF:Hid (R=true):=by show _=_;rw[←hR,h1];rfl
  clear hR;go_enter Tryz.func95,Tryz.ntmps95;go_wp2;go_ret;exact⟨by rw[HF.out];rfl,rfl⟩
 cases h2:(s.toList==[45])
 case true=>
  have HF:Hid (R=true):=by show _=_;rw[←hR,h1,h2];rfl
  clear hR;go_enter Tryz.func95,Tryz.ntmps95;go_wp2;go_ret;exact⟨by rw[HF.out];rfl,rfl⟩
 cases h3:(s.toList==[46,46,46])
 case true=>
  have HF:Hid (R=true):=by show _=_;rw[←hR,h1,h2,h3];rfl
  clear hR;go_enter Tryz.func95,Tryz.ntmps95;go_wp2;go_ret;exact⟨by rw[HF.out];rfl,rfl⟩
 rw[h1,h2,h3,ByteArray.toList_eq]at hR;simp only[Bool.false_or]at hR;have hlen:s.data.toList.length=s.size:=Fx.size_toList s;by_cases h0:s.size=0
 ·have h0i:(s.size:Int)<1:=by omega
  have HF:Hid (R=false):=by
   show _=_;rw[←hR,show s.data.toList=[]from List.length_eq_zero_iff.1 (by omega)];rfl
  clear hR;go_enter Tryz.func95,Tryz.ntmps95;go_wp2;go_ret;exact⟨by rw[HF.out];rfl,rfl⟩
 have h0i:¬ (s.size:Int)<1:=by omega
 have hpos:0<s.size:=by omega
 by_cases h32:32<s.size
 ·have h32i:32<(s.size:Int):=by omega
  have HF:Hid (R=false):=by
   show _=_;rw[←hR,hlen,decide_eq_false (show ¬s.size≤32 by omega)];simp
  clear hR;go_enter Tryz.func95,Tryz.ntmps95;go_wp2;go_ret;exact⟨by rw[HF.out];rfl,rfl⟩
 have h32i:¬32<(s.size:Int):=by omega
 have hcons:s.data.toList=s[0] :: Lx.tl s 1:=by
  have:=Lx.tl_cons s 0 hpos;rw[←this];unfold Lx.tl;simp
 have hR2:R=(Lx.begins s[0]&&(Lx.goes s[0]&&(Lx.tl s 1).all Lx.goes)):=by
  rw[←hR,hlen,decide_eq_true (show s.size≤32 by omega),hcons];simp
 have hl:=letterR_any s[0] w;cases hb:Lx.begins s[0]
 ·have HF:Hid (R=false):=by show _=_;rw[hR2,hb];rfl
  rw[hb]at hl;clear hR hR2 hcons hlen;go_enter Tryz.func95,Tryz.ntmps95;go_wp2_with fail
  refine hl.mono ?_;rintro e w1 ⟨rfl,rfl⟩;go_wp2;go_ret;exact⟨by rw[HF.out];rfl,rfl⟩
 have H1:Hid (R=(Lx.tl s 1).all Lx.goes):=by
  show _=_;rw[hR2,hb,Lx.goes_more,hb];simp
 rw[hb]at hl;clear hR hR2 hcons hlen;go_enter Tryz.func95,Tryz.ntmps95;go_wp2_with fail
 refine hl.mono ?_;rintro e w1 ⟨rfl,rfl⟩;clear hl;go_wp2_with fail
 go_loop [3] (fun vi=>∃k:Nat,vi= .int .i64 k∧1≤k∧k≤s.size∧Hid (R=(Lx.tl s k).all Lx.goes)) (fun vi=>s.size - (intOf vi).toNat)
 case atStart=>exact⟨1,rfl,by omega,by omega,H1⟩
 case round=>
  obtain⟨k,rfl,hk1,hk,HR⟩:=hrel;by_cases hlt:k<s.size
  case neg=>
   have hge:¬ (k:Int)<(s.size:Int):=by omega
   have HE:Hid (R=true):=by show _=_;rw[HR.out,Lx.tl_nil s k (by omega)];rfl
   go_wp2;go_ret;exact⟨by rw[HE.out];rfl,rfl⟩
  have hlti:(k:Int)<(s.size:Int):=by omega
  have hr:=HR.out;rw[Lx.tl_cons s k hlt,List.all_cons,Lx.goes_more]at hr;have hl2:=letterR_any s[k] w;have hi2:=isInR_any s[k] Lx.moreB w (by decide);cases hb2:Lx.begins s[k]
  ·rw[hb2]at hl2 hr;cases hm:Lx.moreB.data.toList.contains s[k]
   ·rw[hm]at hi2 hr;have HE:Hid (R=false):=hr;clear hr HR hb2 hm;go_wp2_with fail
    refine hl2.mono ?_;rintro e w1 ⟨rfl,rfl⟩;go_wp2_with fail
    refine hi2.mono ?_;rintro e w1 ⟨rfl,rfl⟩;go_wp2;go_ret;exact⟨by rw[HE.out];rfl,rfl⟩
   ·rw[hm]at hi2 hr;have HN:Hid (R=(Lx.tl s (k+1)).all Lx.goes):=by show _=_;rw[hr];simp
    clear hr HR hb2 hm;go_wp2_with fail
    refine hl2.mono ?_;rintro e w1 ⟨rfl,rfl⟩;go_wp2_with fail
    refine hi2.mono ?_;rintro e w1 ⟨rfl,rfl⟩;go_wp2
    go_round
    case rel=>exact⟨k+1,by go_num,by omega,by omega,HN⟩
    case measure=>simp[intOf];omega
  ·rw[hb2]at hl2 hr;have HN:Hid (R=(Lx.tl s (k+1)).all Lx.goes):=by show _=_;rw[hr];simp
   clear hr HR hb2;go_wp2_with fail
   refine hl2.mono ?_;rintro e w1 ⟨rfl,rfl⟩;go_wp2
   go_round
   case rel=>exact⟨k+1,by go_num,by omega,by omega,HN⟩
   case measure=>simp[intOf];omega
end Go.Proofs.YtfjmlfbohenmfaaGreat
