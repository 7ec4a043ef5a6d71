/-
  LexRefDq.
-/
import Derived.Test.YtfjmlfbohenmfaaGreatLexRefCq
import Derived.Test.YtfjmlfbohenmfaaGreatLexCharq
import Derived.Test.YtfjmlfbohenmfaaGreatCoreWithinLawZM3
import Derived.Test.YtfjmlfbohenmfaaGreatCoreWithinLawZM2
set_option maxRecDepth 100000
set_option maxHeartbeats 32000000
namespace Go.Proofs.YtfjmlfbohenmfaaGreat
open Go.RowKit Go.Sort
namespace Lx
def TokR(s:ByteArray)(n:Nat)(r:Res)(w:World)(e:Ending)(w':World):Prop:=
 ∃(k z m:Int) (x:ByteArray) (cc:Int),e= .returned (.tuple #[.agg #[.int .i64 k,.int .i64 (n:Int),.int .i64 z,.int .i64 m,.string x],.int .i64 cc])∧Below w.heap.size w w'∧
  match r with
  | .err c=>cc=c
  | .tok t rest=>cc=0∧k=t.k∧m=t.n∧x=⟨t.s.toArray⟩∧∃y:Nat,z=(y:Int)∧y≤s.size∧rest=tl s y
theorem TokR.err{s:ByteArray}{n:Nat}{r:Res}{w w':World}{k z m cc:Int}{x:ByteArray}(hr:r= .err cc)(hb:Below w.heap.size w w'):TokR s n r w (.returned (.tuple #[.agg #[.int .i64 k,.int .i64 (n:Int),.int .i64 z,.int .i64 m,.string x],.int .i64 cc])) w':=
 ⟨k,z,m,x,cc,rfl,hb,by rw[hr]⟩
theorem TokR.tok{s:ByteArray}{n y:Nat}{r:Res}{w w':World}{k m:Int}{x:List UInt8}{X:ByteArray}{z:Int}(hr:r= .tok ⟨k,m,x⟩ (tl s y))(hX:X=⟨x.toArray⟩)(hz:z=(y:Int))(hy:y≤s.size)(hb:Below w.heap.size w w'):TokR s n r w (.returned (.tuple #[.agg #[.int .i64 k,.int .i64 (n:Int),.int .i64 z,.int .i64 m,.string X],.int .i64 0])) w':=
 ⟨k,z,m,X,0,rfl,hb,by rw[hr];exact⟨rfl,rfl,rfl,hX,y,hz,hy,rfl⟩⟩
theorem bel2(w:World)(o p:Obj):Below w.heap.size w ((w.alloc o).alloc p):=((Below.refl _ _).alloc (Nat.le_refl _) _).alloc (by simp) _
def lf(c:UInt8):Bool:=low c||figure c
theorem nameLen_low(s:ByteArray)(b j:Nat)(hj:0<j)(hk:b+j≤s.size)(hl:low (pk (tl s b) 0)=true)(hin:∀i,i<j→(h:b+i<s.size)→lf s[b+i]=true)(hout:(h:b+j<s.size)→lf s[b+j]=false):nameLen (tl s b)=j:=by
 have h:=run_len lf s b (b+j) (by omega) hk (fun i h1 h2=>by
  have:=hin (i - b) (by omega) (by omega);simpa only[show b+(i - b)=i by omega]using this) (fun h=>hout h)
 unfold nameLen;rw[if_pos hl];have h0:=hin 0 hj (by omega);rw[tl_cons s b (by omega)]at h ⊢;rw[List.takeWhile_cons_of_pos (by simpa using h0),List.length_cons]at h;rw[List.tail_cons];show 1+((tl s (b+1)).takeWhile lf).length=j;omega
theorem low_white(c:UInt8)(h:low c=true):white c=false:=by
 have:=all_bytes (fun c=> !low c|| !white c) (fun _=>true) (by decide+kernel) c;simpa[h]using this
theorem str_ne(d:ByteArray)(l:List UInt8)(n:Nat)(hl:l.length=n)(h:d.size≠n):(d.toList==l)=false:=by
 rw[ByteArray.toList_eq,beq_eq_false_iff_ne];intro e;have:=congrArg List.length e;rw[Fx.size_toList]at this;omega
end Lx
theorem charR_any(s:ByteArray)(n:Nat)(w:World)(hs:s.size≤1000000)(hn:n+2≤s.size):
  Calls Tryz.prog 166 #[.string s,.int .i64 n] w (Lx.TokR s n (Lx.char (Lx.tl s n)) w):=by
 obtain⟨R,hR⟩:∃R,Lx.char (Lx.tl s n)=R:=⟨_,rfl⟩
 rw[hR];unfold Lx.char at hR;rw[Lx.tl_drop]at hR;by_cases hend:s.size≤n+2
 ·have hendi:(s.size:Int)≤(n:Int)+2:=by omega
  have HR:Hid (R= .err 31):=by show _=_;rw[←hR,Lx.tl_nil s (n+2) hend,if_pos rfl]
  clear hR;go_enter Tryz.func166,Tryz.ntmps166;go_wp2;refine bodyPost_ret (v:= .tuple #[.agg #[.int .i64 11,.int .i64 (n:Int),.int .i64 0,.int .i64 0,.string ⟨#[]⟩],.int .i64 31]) (by simp[results,Tryz.results166,go_sem]) rfl (.err HR.out (Lx.bel2 _ _ _))
 have hlt:n+2<s.size:=by omega
 have hendi:¬ (s.size:Int)≤(n:Int)+2:=by omega
 have hlti:(n:Int)+2<(s.size:Int):=by omega
 have hne:Lx.tl s (n+2)≠[]:=by rw[Lx.tl_cons s (n+2) hlt];simp
 rw[if_neg hne,Lx.pk_in s n 2 hlt]at hR;obtain⟨c,hc⟩:∃c,s[n+2]=c:=⟨_,rfl⟩
 have hp0:Lx.pk (Lx.tl s (n+2)) 0=c:=by rw[Lx.pk_in s (n+2) 0 hlt];exact hc
 rw[hc]at hR;have hb0:(0:Int)≤(c.toNat:Int):=by omega
 have hb1:(c.toNat:Int)≤255:=by have:=c.toNat_lt;omega
 have hsm:=fun wq=>smallR_any c wq
 have hbk:=fun wq=>blankR_any c wq
 cases hl:Lx.low c
 case false=>
  have hnl:Lx.nameLen (Lx.tl s (n+2))=1:=by unfold Lx.nameLen;rw[hp0,hl];rfl
  have ht1:(Lx.tl s (n+2)).take 1=[c]:=by rw[Lx.tl_cons s (n+2) hlt,hc];rfl
  have hnm:Lx.names [c]=(c.toNat:Int):=by unfold Lx.names;rw[if_pos (show [c].length=1 from rfl)];rfl
  rw[hnl,ht1,hnm,Lx.tl_drop]at hR;rw[hl]at hsm;cases hw:Lx.white c
  ·have HR:Hid (R= .tok ⟨11,(c.toNat:Int),[]⟩ (Lx.tl s (n+3))):=by
    show _=_;rw[←hR,hw,if_neg (by simp)]
   rw[hw]at hbk;clear hR hp0 hne hnl ht1 hnm;go_enter Tryz.func166,Tryz.ntmps166;go_wp2_with fail
   refine(hsm _).mono ?_;rintro e w1 ⟨rfl,rfl⟩;go_wp2_with fail
   refine(hbk _).mono ?_;rintro e w1 ⟨rfl,rfl⟩;go_wp2;refine bodyPost_ret (v:= .tuple #[.agg #[.int .i64 11,.int .i64 (n:Int),.int .i64 ((n:Int)+2+1),.int .i64 (c.toNat:Int),.string ⟨#[]⟩],.int .i64 0]) (by simp[results,Tryz.results166,go_sem]) rfl (.tok HR.out rfl (by omega) (by omega) (Lx.bel2 _ _ _))
  ·have HR:Hid (R= .err 30):=by
    show _=_;rw[←hR,hw,if_pos (by simp)]
   rw[hw]at hbk;clear hR hp0 hne hnl ht1 hnm;go_enter Tryz.func166,Tryz.ntmps166;go_wp2_with fail
   refine(hsm _).mono ?_;rintro e w1 ⟨rfl,rfl⟩;go_wp2_with fail
   refine(hbk _).mono ?_;rintro e w1 ⟨rfl,rfl⟩;go_wp2;refine bodyPost_ret (v:= .tuple #[.agg #[.int .i64 11,.int .i64 (n:Int),.int .i64 ((n:Int)+2+1),.int .i64 (c.toNat:Int),.string ⟨#[]⟩],.int .i64 30]) (by simp[results,Tryz.results166,go_sem]) rfl (.err HR.out (Lx.bel2 _ _ _))
 rw[hl]at hsm;rw[Lx.low_white c hl,Bool.or_false]at hR;have HP0:Hid (Lx.low (Lx.pk (Lx.tl s (n+2)) 0)=true):=by show _=_;rw[hp0];exact hl
 have HLF:Hid (Lx.lf c=true):=by show _=_;unfold Lx.lf;rw[hl];rfl
 have HC:=zh hc;have HR0:=zh hR;clear hR hp0 hne hbk hl;go_enter Tryz.func166,Tryz.ntmps166;go_wp2_with fail
 refine(hsm _).mono ?_;rintro e w1 ⟨rfl,rfl⟩;clear hsm hc;go_wp2_with fail
 go_loop [8] (fun vj=>∃j:Nat,vj= .int .i64 ((n+2+j:Nat):Int)∧n+2+j≤s.size∧Hid (∀i,i<j→(h:n+2+i<s.size)→Lx.lf s[n+2+i]=true)) (fun vj=>s.size+1 - (intOf vj).toNat)
 case atStart=>exact⟨0,by go_num,by omega,fun i h=>absurd h (by omega)⟩
 case round=>
  obtain⟨j,rfl,hj,HI⟩:=hrel
  -- the name's end, and what is behind it
  have fin:((h:n+2+j<s.size)→Lx.lf s[n+2+j]=false)→0<j∧Hid (∀d:ByteArray,s.extract (n+2) (n+2+j)=d→d.size=j∧R=(if(Lx.names d.data.toList<0)then .err 30 else .tok ⟨11,Lx.names d.data.toList,[]⟩ (Lx.tl s (n+2+j)))):=by
   intro hout;have hj0:0<j:=by
    rcases Nat.eq_zero_or_pos j with h|h
    ·subst h;have:=hout hlt;rw[show s[n+2+0]=c from HC.out,HLF.out]at this;cases this
    ·exact h
   refine⟨hj0,fun d hd=> ?_⟩;have hnl:=Lx.nameLen_low s (n+2) j hj0 hj HP0.out HI.out hout;have hdl:d.data.toList=(Lx.tl s (n+2)).take j:=by rw[←hd,Lib.extract_data,show n+2+j - (n+2)=j by omega];rfl
   refine⟨by rw[←hd];simp;omega,?_⟩;rw[←HR0.out,hnl,←hdl,Lx.tl_drop];simp only[decide_eq_true_eq]
  by_cases hin:n+2+j<s.size
  ·have hini:((n+2+j:Nat):Int)<(s.size:Int):=by omega
   obtain⟨d,hd⟩:∃d,s[n+2+j]=d:=⟨_,rfl⟩
   cases hl:Lx.low d
   case true=>
    have HN:Hid (∀i,i<j+1→(h:n+2+i<s.size)→Lx.lf s[n+2+i]=true):=by
     intro i hi h;by_cases e:i=j
     ·subst e;rw[hd];unfold Lx.lf;rw[hl];rfl
     ·exact HI.out i (by omega) h
    have h1:=smallR_any d;rw[hl]at h1;have H1:=zh h1;clear fin hl h1;go_wp2_with fail
    refine(H1.out _).mono ?_;rintro e w1 ⟨rfl,rfl⟩;go_wp2
    go_round
    case rel=>exact⟨j+1,by go_num,by omega,HN⟩
    case measure=>simp[intOf];omega
   cases hf:Lx.figure d
   case true=>
    have HN:Hid (∀i,i<j+1→(h:n+2+i<s.size)→Lx.lf s[n+2+i]=true):=by
     intro i hi h;by_cases e:i=j
     ·subst e;rw[hd];unfold Lx.lf;rw[hl,hf];rfl
     ·exact HI.out i (by omega) h
    have h1:=smallR_any d;have h2:=digitR_any d;rw[hl]at h1;rw[hf]at h2;have H1:=zh h1;have H2:=zh h2;clear fin hl hf h1 h2;go_wp2_with fail
    refine(H1.out _).mono ?_;rintro e w1 ⟨rfl,rfl⟩;go_wp2_with fail
    refine(H2.out _).mono ?_;rintro e w1 ⟨rfl,rfl⟩;go_wp2
    go_round
    case rel=>exact⟨j+1,by go_num,by omega,HN⟩
    case measure=>simp[intOf];omega
   obtain⟨hj0,HFIN⟩:=fin (fun h=>by rw[hd];unfold Lx.lf;rw[hl,hf];rfl);have h1:=smallR_any d;have h2:=digitR_any d;rw[hl]at h1;rw[hf]at h2;have H1:=zh h1;have H2:=zh h2;clear fin hl hf h1 h2;obtain⟨d9,hd9⟩:∃d9,s.extract (n+2) (n+2+j)=d9:=⟨_,rfl⟩
   obtain⟨hdz,hRR⟩:=HFIN.out d9 hd9;have HRR:=zh hRR;have i1:(n:Int)+2≤((n+2+j:Nat):Int):=by omega
   have i2:((n+2+j:Nat):Int)≤(s.size:Int):=by omega
   have hdp:0<d9.size:=by omega
   have hdpi:(0:Int)<(d9.size:Int):=by omega
   have hdle:d9.size≤1000000:=by omega
   clear hRR hdz;by_cases hone:d9.size=1
   ·have e1:=Lx.str_ne d9 [115,112,97,99,101] 5 rfl (by omega);have e2:=Lx.str_ne d9 [110,101,119,108,105,110,101] 7 rfl (by omega);have e3:=Lx.str_ne d9 [116,97,98] 3 rfl (by omega);have e4:=Lx.str_ne d9 [110,117,108] 3 rfl (by omega);have e5:((d9.size:Int)==1)=true:=by rw[beq_iff_eq];omega
    have hbb:=Lx.b8 d9[0];have hnm:Lx.names d9.data.toList=(d9[0].toNat:Int):=by
     unfold Lx.names;rw[if_pos (by rw[Fx.size_toList];exact hone)];have:=Lx.tl_cons d9 0 hdp;unfold Lx.tl at this;rw[List.drop_zero]at this;rw[this];rfl
    have HN:Hid (R= .tok ⟨11,(d9[0].toNat:Int),[]⟩ (Lx.tl s (n+2+j))):=by show _=_;rw[HRR.out,hnm,if_neg (by omega)]
    clear hnm hone;go_wp2_with fail
    refine(H1.out _).mono ?_;rintro e w1 ⟨rfl,rfl⟩;go_wp2_with fail
    refine(H2.out _).mono ?_;rintro e w1 ⟨rfl,rfl⟩;go_wp2;refine bodyPost_ret (v:= .tuple #[.agg #[.int .i64 11,.int .i64 (n:Int),.int .i64 ((n+2+j:Nat):Int),.int .i64 (d9[0].toNat:Int),(.string ⟨#[]⟩)],.int .i64 0]) (by simp[results,Tryz.results166,go_sem]) rfl (.tok HN.out rfl rfl (by omega) (Lx.bel2 _ _ _))
   have e5:((d9.size:Int)==1)=false:=by rw[beq_eq_false_iff_ne];omega
   have hnb:=Lx.names_bool d9 hone;cases e1:(d9.toList==[115,112,97,99,101])
   case true=>
    have HN:Hid (R= .tok ⟨11,32,[]⟩ (Lx.tl s (n+2+j))):=by show _=_;rw[HRR.out,hnb,e1];rfl
    clear hnb hone;go_wp2_with fail
    refine(H1.out _).mono ?_;rintro e w1 ⟨rfl,rfl⟩;go_wp2_with fail
    refine(H2.out _).mono ?_;rintro e w1 ⟨rfl,rfl⟩;go_wp2;refine bodyPost_ret (v:= .tuple #[.agg #[.int .i64 11,.int .i64 (n:Int),.int .i64 ((n+2+j:Nat):Int),.int .i64 32,(.string ⟨#[]⟩)],.int .i64 0]) (by simp[results,Tryz.results166,go_sem]) rfl (.tok HN.out rfl rfl (by omega) (Lx.bel2 _ _ _))
   cases e2:(d9.toList==[110,101,119,108,105,110,101])
   case true=>
    have HN:Hid (R= .tok ⟨11,10,[]⟩ (Lx.tl s (n+2+j))):=by show _=_;rw[HRR.out,hnb,e1,e2];rfl
    clear hnb hone;go_wp2_with fail
    refine(H1.out _).mono ?_;rintro e w1 ⟨rfl,rfl⟩;go_wp2_with fail
    refine(H2.out _).mono ?_;rintro e w1 ⟨rfl,rfl⟩;go_wp2;refine bodyPost_ret (v:= .tuple #[.agg #[.int .i64 11,.int .i64 (n:Int),.int .i64 ((n+2+j:Nat):Int),.int .i64 10,(.string ⟨#[]⟩)],.int .i64 0]) (by simp[results,Tryz.results166,go_sem]) rfl (.tok HN.out rfl rfl (by omega) (Lx.bel2 _ _ _))
   cases e3:(d9.toList==[116,97,98])
   case true=>
    have HN:Hid (R= .tok ⟨11,9,[]⟩ (Lx.tl s (n+2+j))):=by show _=_;rw[HRR.out,hnb,e1,e2,e3];rfl
    clear hnb hone;go_wp2_with fail
    refine(H1.out _).mono ?_;rintro e w1 ⟨rfl,rfl⟩;go_wp2_with fail
    refine(H2.out _).mono ?_;rintro e w1 ⟨rfl,rfl⟩;go_wp2;refine bodyPost_ret (v:= .tuple #[.agg #[.int .i64 11,.int .i64 (n:Int),.int .i64 ((n+2+j:Nat):Int),.int .i64 9,(.string ⟨#[]⟩)],.int .i64 0]) (by simp[results,Tryz.results166,go_sem]) rfl (.tok HN.out rfl rfl (by omega) (Lx.bel2 _ _ _))
   cases e4:(d9.toList==[110,117,108])
   case true=>
    have HN:Hid (R= .tok ⟨11,0,[]⟩ (Lx.tl s (n+2+j))):=by show _=_;rw[HRR.out,hnb,e1,e2,e3,e4];rfl
    clear hnb hone;go_wp2_with fail
    refine(H1.out _).mono ?_;rintro e w1 ⟨rfl,rfl⟩;go_wp2_with fail
    refine(H2.out _).mono ?_;rintro e w1 ⟨rfl,rfl⟩;go_wp2;refine bodyPost_ret (v:= .tuple #[.agg #[.int .i64 11,.int .i64 (n:Int),.int .i64 ((n+2+j:Nat):Int),.int .i64 0,(.string ⟨#[]⟩)],.int .i64 0]) (by simp[results,Tryz.results166,go_sem]) rfl (.tok HN.out rfl rfl (by omega) (Lx.bel2 _ _ _))
   rw[e1,e2,e3,e4]at hnb;simp only[Bool.false_eq_true,if_false]at hnb;have hh0:d9.data.toList.headD 0=d9[0]:=by
    have:=Lx.tl_cons d9 0 hdp;unfold Lx.tl at this;rw[List.drop_zero]at this;rw[this];rfl
   rw[hh0]at hnb;have hhx:=fun wq=>hexR_any d9 1 wq (by omega) hdp
   by_cases h3:d9.size=3
   case neg=>
    have e6:((d9.size:Int)==3)=false:=by rw[beq_eq_false_iff_ne];omega
    rw[if_neg (fun h=>h3 h.1)]at hnb;have HN:Hid (R= .err 30):=by show _=_;rw[HRR.out,hnb];rfl
    clear hnb hone h3 hh0 hhx;go_wp2_with fail
    refine(H1.out _).mono ?_;rintro e w1 ⟨rfl,rfl⟩;go_wp2_with fail
    refine(H2.out _).mono ?_;rintro e w1 ⟨rfl,rfl⟩;go_wp2;refine bodyPost_ret (v:= .tuple #[.agg #[.int .i64 11,.int .i64 (n:Int),.int .i64 ((n+2+j:Nat):Int),.int .i64 0,(.string ⟨#[]⟩)],.int .i64 30]) (by simp[results,Tryz.results166,go_sem]) rfl (.err HN.out (Lx.bel2 _ _ _))
   have e6:((d9.size:Int)==3)=true:=by rw[beq_iff_eq];omega
   by_cases h120:d9[0]=120
   case neg=>
    have e7:((d9[0].toNat:Int)==120)=false:=by
     rw[beq_eq_false_iff_ne];exact fun h=>h120 (UInt8.toNat_inj.1 (by show d9[0].toNat=120;omega))
    rw[if_neg (fun h=>h120 h.2)]at hnb;have HN:Hid (R= .err 30):=by show _=_;rw[HRR.out,hnb];rfl
    clear hnb hone h3 hh0 hhx h120;go_wp2_with fail
    refine(H1.out _).mono ?_;rintro e w1 ⟨rfl,rfl⟩;go_wp2_with fail
    refine(H2.out _).mono ?_;rintro e w1 ⟨rfl,rfl⟩;go_wp2;refine bodyPost_ret (v:= .tuple #[.agg #[.int .i64 11,.int .i64 (n:Int),.int .i64 ((n+2+j:Nat):Int),.int .i64 0,(.string ⟨#[]⟩)],.int .i64 30]) (by simp[results,Tryz.results166,go_sem]) rfl (.err HN.out (Lx.bel2 _ _ _))
   have e7:((d9[0].toNat:Int)==120)=true:=by rw[h120];rfl
   rw[if_pos ⟨h3,h120⟩]at hnb;obtain⟨X,hX⟩:∃X,Lx.two (Lx.tl d9 1)=X:=⟨_,rfl⟩
   rw[hX]at hnb hhx;by_cases hneg:X<0
   ·have hgi:¬ (0:Int)≤X:=by omega
    have hgd:decide ((0:Int)≤X)=false:=decide_eq_false hgi;have HN:Hid (R= .err 30):=by show _=_;rw[HRR.out,hnb,if_pos hneg]
    clear hnb hone h3 hh0 h120 hX hneg;go_wp2_with fail
    refine(H1.out _).mono ?_;rintro e w1 ⟨rfl,rfl⟩;go_wp2_with fail
    refine(H2.out _).mono ?_;rintro e w1 ⟨rfl,rfl⟩;go_wp2_with fail
    refine(hhx _).mono ?_;rintro e w1 ⟨rfl,rfl⟩;go_wp2;refine bodyPost_ret (v:= .tuple #[.agg #[.int .i64 11,.int .i64 (n:Int),.int .i64 ((n+2+j:Nat):Int),.int .i64 0,(.string ⟨#[]⟩)],.int .i64 30]) (by simp[results,Tryz.results166,go_sem]) rfl (.err HN.out (Lx.bel2 _ _ _))
   ·have hgi:(0:Int)≤X:=by omega
    have HN:Hid (R= .tok ⟨11,X,[]⟩ (Lx.tl s (n+2+j))):=by show _=_;rw[HRR.out,hnb,if_neg hneg]
    clear hnb hone h3 hh0 h120 hX hneg;go_wp2_with fail
    refine(H1.out _).mono ?_;rintro e w1 ⟨rfl,rfl⟩;go_wp2_with fail
    refine(H2.out _).mono ?_;rintro e w1 ⟨rfl,rfl⟩;go_wp2_with fail
    refine(hhx _).mono ?_;rintro e w1 ⟨rfl,rfl⟩;go_wp2_with fail
    refine(hhx _).mono ?_;rintro e w1 ⟨rfl,rfl⟩;go_wp2;refine bodyPost_ret (v:= .tuple #[.agg #[.int .i64 11,.int .i64 (n:Int),.int .i64 ((n+2+j:Nat):Int),.int .i64 X,(.string ⟨#[]⟩)],.int .i64 0]) (by simp[results,Tryz.results166,go_sem]) rfl (.tok HN.out rfl rfl (by omega) (Lx.bel2 _ _ _))
  ·have hini:¬ ((n+2+j:Nat):Int)<(s.size:Int):=by omega
   obtain⟨hj0,HFIN⟩:=fin (fun h=>absurd h hin);clear fin;obtain⟨d9,hd9⟩:∃d9,s.extract (n+2) (n+2+j)=d9:=⟨_,rfl⟩
   obtain⟨hdz,hRR⟩:=HFIN.out d9 hd9;have HRR:=zh hRR;have i1:(n:Int)+2≤((n+2+j:Nat):Int):=by omega
   have i2:((n+2+j:Nat):Int)≤(s.size:Int):=by omega
   have hdp:0<d9.size:=by omega
   have hdpi:(0:Int)<(d9.size:Int):=by omega
   have hdle:d9.size≤1000000:=by omega
   clear hRR hdz;by_cases hone:d9.size=1
   ·have e1:=Lx.str_ne d9 [115,112,97,99,101] 5 rfl (by omega);have e2:=Lx.str_ne d9 [110,101,119,108,105,110,101] 7 rfl (by omega);have e3:=Lx.str_ne d9 [116,97,98] 3 rfl (by omega);have e4:=Lx.str_ne d9 [110,117,108] 3 rfl (by omega);have e5:((d9.size:Int)==1)=true:=by rw[beq_iff_eq];omega
    have hbb:=Lx.b8 d9[0];have hnm:Lx.names d9.data.toList=(d9[0].toNat:Int):=by
     unfold Lx.names;rw[if_pos (by rw[Fx.size_toList];exact hone)];have:=Lx.tl_cons d9 0 hdp;unfold Lx.tl at this;rw[List.drop_zero]at this;rw[this];rfl
    have HN:Hid (R= .tok ⟨11,(d9[0].toNat:Int),[]⟩ (Lx.tl s (n+2+j))):=by show _=_;rw[HRR.out,hnm,if_neg (by omega)]
    clear hnm hone;go_wp2;refine bodyPost_ret (v:= .tuple #[.agg #[.int .i64 11,.int .i64 (n:Int),.int .i64 ((n+2+j:Nat):Int),.int .i64 (d9[0].toNat:Int),(.string ⟨#[]⟩)],.int .i64 0]) (by simp[results,Tryz.results166,go_sem]) rfl (.tok HN.out rfl rfl (by omega) (Lx.bel2 _ _ _))
   have e5:((d9.size:Int)==1)=false:=by rw[beq_eq_false_iff_ne];omega
   have hnb:=Lx.names_bool d9 hone;cases e1:(d9.toList==[115,112,97,99,101])
   case true=>
    have HN:Hid (R= .tok ⟨11,32,[]⟩ (Lx.tl s (n+2+j))):=by show _=_;rw[HRR.out,hnb,e1];rfl
    clear hnb hone;go_wp2;refine bodyPost_ret (v:= .tuple #[.agg #[.int .i64 11,.int .i64 (n:Int),.int .i64 ((n+2+j:Nat):Int),.int .i64 32,(.string ⟨#[]⟩)],.int .i64 0]) (by simp[results,Tryz.results166,go_sem]) rfl (.tok HN.out rfl rfl (by omega) (Lx.bel2 _ _ _))
   cases e2:(d9.toList==[110,101,119,108,105,110,101])
   case true=>
    have HN:Hid (R= .tok ⟨11,10,[]⟩ (Lx.tl s (n+2+j))):=by show _=_;rw[HRR.out,hnb,e1,e2];rfl
    clear hnb hone;go_wp2;refine bodyPost_ret (v:= .tuple #[.agg #[.int .i64 11,.int .i64 (n:Int),.int .i64 ((n+2+j:Nat):Int),.int .i64 10,(.string ⟨#[]⟩)],.int .i64 0]) (by simp[results,Tryz.results166,go_sem]) rfl (.tok HN.out rfl rfl (by omega) (Lx.bel2 _ _ _))
   cases e3:(d9.toList==[116,97,98])
   case true=>
    have HN:Hid (R= .tok ⟨11,9,[]⟩ (Lx.tl s (n+2+j))):=by show _=_;rw[HRR.out,hnb,e1,e2,e3];rfl
    clear hnb hone;go_wp2;refine bodyPost_ret (v:= .tuple #[.agg #[.int .i64 11,.int .i64 (n:Int),.int .i64 ((n+2+j:Nat):Int),.int .i64 9,(.string ⟨#[]⟩)],.int .i64 0]) (by simp[results,Tryz.results166,go_sem]) rfl (.tok HN.out rfl rfl (by omega) (Lx.bel2 _ _ _))
   cases e4:(d9.toList==[110,117,108])
   case true=>
    have HN:Hid (R= .tok ⟨11,0,[]⟩ (Lx.tl s (n+2+j))):=by show _=_;rw[HRR.out,hnb,e1,e2,e3,e4];rfl
    clear hnb hone;go_wp2;refine bodyPost_ret (v:= .tuple #[.agg #[.int .i64 11,.int .i64 (n:Int),.int .i64 ((n+2+j:Nat):Int),.int .i64 0,(.string ⟨#[]⟩)],.int .i64 0]) (by simp[results,Tryz.results166,go_sem]) rfl (.tok HN.out rfl rfl (by omega) (Lx.bel2 _ _ _))
   rw[e1,e2,e3,e4]at hnb;simp only[Bool.false_eq_true,if_false]at hnb;have hh0:d9.data.toList.headD 0=d9[0]:=by
    have:=Lx.tl_cons d9 0 hdp;unfold Lx.tl at this;rw[List.drop_zero]at this;rw[this];rfl
   rw[hh0]at hnb;have hhx:=fun wq=>hexR_any d9 1 wq (by omega) hdp
   by_cases h3:d9.size=3
   case neg=>
    have e6:((d9.size:Int)==3)=false:=by rw[beq_eq_false_iff_ne];omega
    rw[if_neg (fun h=>h3 h.1)]at hnb;have HN:Hid (R= .err 30):=by show _=_;rw[HRR.out,hnb];rfl
    clear hnb hone h3 hh0 hhx;go_wp2;refine bodyPost_ret (v:= .tuple #[.agg #[.int .i64 11,.int .i64 (n:Int),.int .i64 ((n+2+j:Nat):Int),.int .i64 0,(.string ⟨#[]⟩)],.int .i64 30]) (by simp[results,Tryz.results166,go_sem]) rfl (.err HN.out (Lx.bel2 _ _ _))
   have e6:((d9.size:Int)==3)=true:=by rw[beq_iff_eq];omega
   by_cases h120:d9[0]=120
   case neg=>
    have e7:((d9[0].toNat:Int)==120)=false:=by
     rw[beq_eq_false_iff_ne];exact fun h=>h120 (UInt8.toNat_inj.1 (by show d9[0].toNat=120;omega))
    rw[if_neg (fun h=>h120 h.2)]at hnb;have HN:Hid (R= .err 30):=by show _=_;rw[HRR.out,hnb];rfl
    clear hnb hone h3 hh0 hhx h120;go_wp2;refine bodyPost_ret (v:= .tuple #[.agg #[.int .i64 11,.int .i64 (n:Int),.int .i64 ((n+2+j:Nat):Int),.int .i64 0,(.string ⟨#[]⟩)],.int .i64 30]) (by simp[results,Tryz.results166,go_sem]) rfl (.err HN.out (Lx.bel2 _ _ _))
   have e7:((d9[0].toNat:Int)==120)=true:=by rw[h120];rfl
   rw[if_pos ⟨h3,h120⟩]at hnb;obtain⟨X,hX⟩:∃X,Lx.two (Lx.tl d9 1)=X:=⟨_,rfl⟩
   rw[hX]at hnb hhx;by_cases hneg:X<0
   ·have hgi:¬ (0:Int)≤X:=by omega
    have hgd:decide ((0:Int)≤X)=false:=decide_eq_false hgi;have HN:Hid (R= .err 30):=by show _=_;rw[HRR.out,hnb,if_pos hneg]
    clear hnb hone h3 hh0 h120 hX hneg;go_wp2_with fail
    refine(hhx _).mono ?_;rintro e w1 ⟨rfl,rfl⟩;go_wp2;refine bodyPost_ret (v:= .tuple #[.agg #[.int .i64 11,.int .i64 (n:Int),.int .i64 ((n+2+j:Nat):Int),.int .i64 0,(.string ⟨#[]⟩)],.int .i64 30]) (by simp[results,Tryz.results166,go_sem]) rfl (.err HN.out (Lx.bel2 _ _ _))
   ·have hgi:(0:Int)≤X:=by omega
    have HN:Hid (R= .tok ⟨11,X,[]⟩ (Lx.tl s (n+2+j))):=by show _=_;rw[HRR.out,hnb,if_neg hneg]
    clear hnb hone h3 hh0 h120 hX hneg;go_wp2_with fail
    refine(hhx _).mono ?_;rintro e w1 ⟨rfl,rfl⟩;go_wp2_with fail
    refine(hhx _).mono ?_;rintro e w1 ⟨rfl,rfl⟩;go_wp2;refine bodyPost_ret (v:= .tuple #[.agg #[.int .i64 11,.int .i64 (n:Int),.int .i64 ((n+2+j:Nat):Int),.int .i64 X,(.string ⟨#[]⟩)],.int .i64 0]) (by simp[results,Tryz.results166,go_sem]) rfl (.tok HN.out rfl rfl (by omega) (Lx.bel2 _ _ _))
end Go.Proofs.YtfjmlfbohenmfaaGreat
