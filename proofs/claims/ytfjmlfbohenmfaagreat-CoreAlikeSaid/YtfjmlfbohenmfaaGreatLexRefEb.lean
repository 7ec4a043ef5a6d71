/-
 The walk of the reference's run: a run of bytes.
-/
import Derived.Test.YtfjmlfbohenmfaaGreatLexRefCb
import Derived.Test.YtfjmlfbohenmfaaGreatLexRefDb
import Derived.Test.YtfjmlfbohenmfaaGreatCoreBBM2
namespace Go.Proofs.YtfjmlfbohenmfaaGreat
open Go.RowKit Go.Sort
namespace Lx
theorem runW_num(w rest:List UInt8)(h1:w≠[35,102])(h2:w≠[35,116])(h3:w≠[46])(hn:(figure (w.headD 0)||((w.headD 0==45||w.headD 0==43)&&decide (1<w.length)&&figure (pk w 1)))=true):runW w rest=if(Fx.parse w).2=0 then .tok ⟨9,(Fx.parse w).1,[]⟩ rest else if(Fx.parse w).2=5 then .err 30 else .err (Fx.parse w).2:=by
 unfold runW;rw[if_neg h1,if_neg h2,if_neg h3,if_pos hn]
theorem runW_sym(w rest:List UInt8)(h1:w≠[35,102])(h2:w≠[35,116])(h3:w≠[46])(hn:(figure (w.headD 0)||((w.headD 0==45||w.headD 0==43)&&decide (1<w.length)&&figure (pk w 1)))=false):runW w rest=if symbol w then .tok ⟨13,0,w⟩ rest else .err 30:=by
 unfold runW;rw[if_neg h1,if_neg h2,if_neg h3,if_neg (by rw[hn];simp)]
theorem ne_of_beq(d:ByteArray)(l:List UInt8)(h:(d.toList==l)=false):d.data.toList≠l:=by
 rw[ByteArray.toList_eq,beq_eq_false_iff_ne]at h;exact h
theorem eq_of_beq(d:ByteArray)(l:List UInt8)(h:(d.toList==l)=true):d.data.toList=l:=by
 rw[ByteArray.toList_eq,beq_iff_eq]at h;exact h
theorem dmk(d:ByteArray):d=⟨d.data.toList.toArray⟩:=by cases d;simp
end Lx
set_option maxRecDepth 100000 in
set_option maxHeartbeats 8000000 in
theorem runR_any(s:ByteArray)(n:Nat)(w:World)(hs:s.size≤1000000)(hn:n<s.size)(h0:Lx.stops s[n]=false)(hz:∀j,(hj:j<s.size)→s[j]≠0):
  Calls Tryz.prog 167 #[.string s,.int .i64 n] w (Lx.TokR s n (Lx.run (Lx.tl s n)) w):=by
 obtain⟨R,hR⟩:∃R,Lx.run (Lx.tl s n)=R:=⟨_,rfl⟩
 rw[hR];have HR0:=zh hR;have HZ:=zh hz;have H0:=zh h0;clear hR hz h0;go_enter Tryz.func167,Tryz.ntmps167;go_wp2_with fail
 go_loop [6] (fun vj=>∃j:Nat,vj= .int .i64 ((n+j:Nat):Int)∧n+j≤s.size∧Hid (∀i,i<j→(h:n+i<s.size)→Lx.stops s[n+i]=false)) (fun vj=>s.size+1 - (intOf vj).toNat)
 case atStart=>exact⟨0,by go_num,by omega,fun i h=>absurd h (by omega)⟩
 case round=>
  obtain⟨j,rfl,hj,HI⟩:=hrel;have fin:((h:n+j<s.size)→Lx.stops s[n+j]=true)→0<j∧Hid (∀d:ByteArray,s.extract n (n+j)=d→d.size=j∧R=Lx.runW d.data.toList (Lx.tl s (n+j))):=by
   intro hout;have hj0:0<j:=by
    rcases Nat.eq_zero_or_pos j with h|h
    ·subst h;have:=hout hn;rw[show Lx.stops s[n+0]=false from H0.out]at this;cases this
    ·exact h
   refine⟨hj0,fun d hd=>⟨by rw[←hd];simp;omega,?_⟩⟩;rw[←HR0.out];refine Lx.run_ext s n j d hd hj (fun i hi=> ?_) ?_
   ·rw[Lx.pk_in s n i (by omega),Lx.ends_stops _ (HZ.out _ _)];exact HI.out i hi (by omega)
   ·by_cases h:n+j<s.size
    ·rw[Lx.pk_in s n j h,Lx.ends_stops _ (HZ.out _ _)];exact hout h
    ·rw[Lx.pk_out s n j (by omega)];rfl
  by_cases hin:n+j<s.size
  ·have hm:=fun wq=>markR_in s (n+j) wq hin (by omega)
   cases hst:Lx.stops s[n+j]
   case false=>
    have HN:Hid (∀i,i<j+1→(h:n+i<s.size)→Lx.stops s[n+i]=false):=by
     intro i hi h;by_cases e:i=j
     ·subst e;exact hst
     ·exact HI.out i (by omega) h
    rw[hst]at hm;have HM:=zh hm;clear fin hst hm;go_wp2_with fail
    refine(HM.out _).mono ?_;rintro e w1 ⟨rfl,rfl⟩;go_wp2
    go_round
    case rel=>exact⟨j+1,by go_num,by omega,HN⟩
    case measure=>simp[intOf];omega
   obtain⟨hj0,HFIN⟩:=fin (fun _=>hst);rw[hst]at hm;have HM:=zh hm;clear fin hst hm;obtain⟨d,hd⟩:∃d,s.extract n (n+j)=d:=⟨_,rfl⟩
   obtain⟨hdz,hRR⟩:=HFIN.out d hd;have HRR:=zh hRR;have i1:(n:Int)≤((n+j:Nat):Int):=by omega
   have i2:((n+j:Nat):Int)≤(s.size:Int):=by omega
   have hdp:0<d.size:=by omega
   have hdpi:(0:Int)<(d.size:Int):=by omega
   have hdle:d.size≤1000000:=by omega
   clear hRR hdz;cases e1:(d.toList==[35,102])
   case true=>
    have e2:(d.toList==[35,116])=false:=by rw[ByteArray.toList_eq,Lx.eq_of_beq d _ e1];rfl
    have HN:Hid (R= .tok ⟨10,0,[]⟩ (Lx.tl s (n+j))):=by show _=_;rw[HRR.out,Lx.eq_of_beq d _ e1];rfl
    go_wp2_with fail
    refine(HM.out _).mono ?_;rintro e w1 ⟨rfl,rfl⟩;go_wp2;refine bodyPost_ret (v:= .tuple #[.agg #[.int .i64 10,.int .i64 (n:Int),.int .i64 ((n+j:Nat):Int),.int .i64 0,.string ⟨#[]⟩],.int .i64 0]) (by simp[results,Tryz.results167,go_sem]) rfl (.tok HN.out rfl rfl hj (Lx.bel2 _ _ _))
   cases e2:(d.toList==[35,116])
   case true=>
    have HN:Hid (R= .tok ⟨10,1,[]⟩ (Lx.tl s (n+j))):=by show _=_;rw[HRR.out,Lx.eq_of_beq d _ e2];rfl
    go_wp2_with fail
    refine(HM.out _).mono ?_;rintro e w1 ⟨rfl,rfl⟩;go_wp2;refine bodyPost_ret (v:= .tuple #[.agg #[.int .i64 10,.int .i64 (n:Int),.int .i64 ((n+j:Nat):Int),.int .i64 1,.string ⟨#[]⟩],.int .i64 0]) (by simp[results,Tryz.results167,go_sem]) rfl (.tok HN.out rfl rfl hj (Lx.bel2 _ _ _))
   cases e3:(d.toList==[46])
   case true=>
    have HN:Hid (R= .tok ⟨8,0,[]⟩ (Lx.tl s (n+j))):=by show _=_;rw[HRR.out,Lx.eq_of_beq d _ e3];rfl
    go_wp2_with fail
    refine(HM.out _).mono ?_;rintro e w1 ⟨rfl,rfl⟩;go_wp2;refine bodyPost_ret (v:= .tuple #[.agg #[.int .i64 8,.int .i64 (n:Int),.int .i64 ((n+j:Nat):Int),.int .i64 0,.string ⟨#[]⟩],.int .i64 0]) (by simp[results,Tryz.results167,go_sem]) rfl (.tok HN.out rfl rfl hj (Lx.bel2 _ _ _))
   have hd0:d.data.toList.headD 0=d[0]:=by
    have:=Lx.tl_cons d 0 hdp;unfold Lx.tl at this;rw[List.drop_zero]at this;rw[this];rfl
   have hnum:=Lx.runW_num d.data.toList (Lx.tl s (n+j)) (Lx.ne_of_beq d _ e1) (Lx.ne_of_beq d _ e2) (Lx.ne_of_beq d _ e3);have hsym:=Lx.runW_sym d.data.toList (Lx.tl s (n+j)) (Lx.ne_of_beq d _ e1) (Lx.ne_of_beq d _ e2) (Lx.ne_of_beq d _ e3);rw[hd0,Fx.size_toList]at hnum hsym;have HP:=zh (fun wq=>rParse_any d wq (by omega));have HS:=zh (fun wq=>SymbolR_any d wq (by omega));have hg0:=fun wq=>digitR_any d[0] wq
   cases f0:Lx.figure d[0]
   case true=>
    have HNUM:Hid (R=if(Fx.parse d.data.toList).2=0 then .tok ⟨9,(Fx.parse d.data.toList).1,[]⟩ (Lx.tl s (n+j))else if(Fx.parse d.data.toList).2=5 then .err 30 else .err (Fx.parse d.data.toList).2):=by
     show _=_;rw[HRR.out,hnum (by rw[f0];rfl)]
    rw[f0]at hg0;have HG0:=zh hg0;clear hnum hsym hg0 f0 hd0;go_wp2_with fail
    refine(HM.out _).mono ?_;rintro e w1 ⟨rfl,rfl⟩;go_wp2_with fail
    refine(HG0.out _).mono ?_;rintro e w1 ⟨rfl,rfl⟩;go_wp2_with fail
    refine(HP.out _).mono ?_;rintro e w1 ⟨rfl,rfl⟩;unfold Fx.R;by_cases p0:(Fx.parse d.data.toList).2=0
    ·have p0b:((Fx.parse d.data.toList).2==5)=false:=by rw[p0];rfl
     have HN:Hid (R= .tok ⟨9,(Fx.parse d.data.toList).1,[]⟩ (Lx.tl s (n+j))):=by show _=_;rw[HNUM.out,if_pos p0]
     obtain⟨q1,q2,hq⟩:∃q1 q2,Fx.parse d.data.toList=(q1,q2):=⟨_,_,rfl⟩
     rw[hq]at p0 p0b HN ⊢;have hq2:q2=0:=p0;subst hq2;clear p0 p0b hq;go_wp2;refine bodyPost_ret (v:= .tuple #[.agg #[.int .i64 9,.int .i64 (n:Int),.int .i64 ((n+j:Nat):Int),.int .i64 q1,.string ⟨#[]⟩],.int .i64 0]) (by simp[results,Tryz.results167,go_sem]) rfl (.tok HN.out rfl rfl hj (Lx.bel2 _ _ _))
    by_cases p5:(Fx.parse d.data.toList).2=5
    ·have HN:Hid (R= .err 30):=by show _=_;rw[HNUM.out,if_neg p0,if_pos p5]
     obtain⟨q1,q2,hq⟩:∃q1 q2,Fx.parse d.data.toList=(q1,q2):=⟨_,_,rfl⟩
     rw[hq]at p0 p5 ⊢;have hq2:q2=5:=p5;subst hq2;clear p0 p5 hq;go_wp2;refine bodyPost_ret (v:= .tuple #[.agg #[.int .i64 9,.int .i64 (n:Int),.int .i64 ((n+j:Nat):Int),.int .i64 q1,.string ⟨#[]⟩],.int .i64 30]) (by simp[results,Tryz.results167,go_sem]) rfl (.err HN.out (Lx.bel2 _ _ _))
    ·have HN:Hid (R= .err (Fx.parse d.data.toList).2):=by show _=_;rw[HNUM.out,if_neg p0,if_neg p5]
     obtain⟨q1,q2,hq⟩:∃q1 q2,Fx.parse d.data.toList=(q1,q2):=⟨_,_,rfl⟩
     rw[hq]at p0 p5 HN ⊢;have hq5:(q2==5)=false:=by rw[beq_eq_false_iff_ne];exact p5
     clear p0 p5 hq;go_wp2;refine bodyPost_ret (v:= .tuple #[.agg #[.int .i64 9,.int .i64 (n:Int),.int .i64 ((n+j:Nat):Int),.int .i64 q1,.string ⟨#[]⟩],.int .i64 q2]) (by simp[results,Tryz.results167,go_sem]) rfl (.err HN.out (Lx.bel2 _ _ _))
   rw[f0]at hg0;have HG0:=zh hg0
   -- no number by a sign: then it is a symbol's, or none
   have symb:(((d[0]==45||d[0]==43)&&decide (1<d.size)&&Lx.figure (Lx.pk d.data.toList 1))=false)→Hid (R=if Lx.symbol d.data.toList then .tok ⟨13,0,d.data.toList⟩ (Lx.tl s (n+j))else .err 30):=by
    intro h;show _=_;rw[HRR.out,hsym (by rw[f0,h];rfl)]
   by_cases hone:d.size≤1
   case pos=>
    have HSY:=symb (by rw[decide_eq_false (show ¬1<d.size by omega)];simp);have honei:¬ (1:Int)<(d.size:Int):=by omega
    clear hnum hsym hg0 f0 hd0 symb;go_wp2_with fail
    refine(HM.out _).mono ?_;rintro e w1 ⟨rfl,rfl⟩;go_wp2_with fail
    refine(HG0.out _).mono ?_;rintro e w1 ⟨rfl,rfl⟩;go_wp2_with fail
    refine(HS.out _).mono ?_;rintro e w1 ⟨rfl,rfl⟩;cases hsy:Lx.symbol d.data.toList
    ·have HN:Hid (R= .err 30):=by show _=_;rw[HSY.out,hsy];rfl
     clear hsy HSY;go_wp2;refine bodyPost_ret (v:= .tuple #[.agg #[.int .i64 0,.int .i64 (n:Int),.int .i64 ((n+j:Nat):Int),.int .i64 0,.string ⟨#[]⟩],.int .i64 30]) (by simp[results,Tryz.results167,go_sem]) rfl (.err HN.out (Lx.bel2 _ _ _))
    ·have HN:Hid (R= .tok ⟨13,0,d.data.toList⟩ (Lx.tl s (n+j))):=by show _=_;rw[HSY.out,hsy];rfl
     clear hsy HSY;go_wp2;refine bodyPost_ret (v:= .tuple #[.agg #[.int .i64 13,.int .i64 (n:Int),.int .i64 ((n+j:Nat):Int),.int .i64 0,.string d],.int .i64 0]) (by simp[results,Tryz.results167,go_sem]) rfl (.tok HN.out (Lx.dmk d) rfl hj (Lx.bel2 _ _ _))
   have honei:(1:Int)<(d.size:Int):=by omega
   have hp1:Lx.pk d.data.toList 1=d[1]:=by
    have:=Lx.pk_in d 0 1 (by omega);unfold Lx.tl at this;rw[List.drop_zero]at this;exact this
   rw[hp1]at hnum symb;have hg1:=fun wq=>digitR_any d[1] wq
   have b45:=Lx.beq_nat d[0] 45 (by omega);have b43:=Lx.beq_nat d[0] 43 (by omega);cases c45:((d[0].toNat:Int)==45)
   case true=>
    have e45:(d[0]==45)=true:=b45.trans c45;cases f1:Lx.figure d[1]
    case true=>
     have HNUM:Hid (R=if(Fx.parse d.data.toList).2=0 then .tok ⟨9,(Fx.parse d.data.toList).1,[]⟩ (Lx.tl s (n+j))else if(Fx.parse d.data.toList).2=5 then .err 30 else .err (Fx.parse d.data.toList).2):=by
      show _=_;rw[HRR.out,hnum (by rw[f0,f1,e45,decide_eq_true (show 1<d.size by omega)];rfl)]
     rw[f1]at hg1;have HG1:=zh hg1;clear hnum hsym hg0 f0 hd0 symb hp1 hg1 b45 b43 e45 f1;go_wp2_with fail
     refine(HM.out _).mono ?_;rintro e w1 ⟨rfl,rfl⟩;go_wp2_with fail
     refine(HG0.out _).mono ?_;rintro e w1 ⟨rfl,rfl⟩;go_wp2_with fail
     refine(HG1.out _).mono ?_;rintro e w1 ⟨rfl,rfl⟩;go_wp2_with fail
     refine(HP.out _).mono ?_;rintro e w1 ⟨rfl,rfl⟩;unfold Fx.R;by_cases p0:(Fx.parse d.data.toList).2=0
     ·have p0b:((Fx.parse d.data.toList).2==5)=false:=by rw[p0];rfl
      have HN:Hid (R= .tok ⟨9,(Fx.parse d.data.toList).1,[]⟩ (Lx.tl s (n+j))):=by show _=_;rw[HNUM.out,if_pos p0]
      obtain⟨q1,q2,hq⟩:∃q1 q2,Fx.parse d.data.toList=(q1,q2):=⟨_,_,rfl⟩
      rw[hq]at p0 p0b HN ⊢;have hq2:q2=0:=p0;subst hq2;clear p0 p0b hq;go_wp2;refine bodyPost_ret (v:= .tuple #[.agg #[.int .i64 9,.int .i64 (n:Int),.int .i64 ((n+j:Nat):Int),.int .i64 q1,.string ⟨#[]⟩],.int .i64 0]) (by simp[results,Tryz.results167,go_sem]) rfl (.tok HN.out rfl rfl hj (Lx.bel2 _ _ _))
     by_cases p5:(Fx.parse d.data.toList).2=5
     ·have HN:Hid (R= .err 30):=by show _=_;rw[HNUM.out,if_neg p0,if_pos p5]
      obtain⟨q1,q2,hq⟩:∃q1 q2,Fx.parse d.data.toList=(q1,q2):=⟨_,_,rfl⟩
      rw[hq]at p0 p5 ⊢;have hq2:q2=5:=p5;subst hq2;clear p0 p5 hq;go_wp2;refine bodyPost_ret (v:= .tuple #[.agg #[.int .i64 9,.int .i64 (n:Int),.int .i64 ((n+j:Nat):Int),.int .i64 q1,.string ⟨#[]⟩],.int .i64 30]) (by simp[results,Tryz.results167,go_sem]) rfl (.err HN.out (Lx.bel2 _ _ _))
     ·have HN:Hid (R= .err (Fx.parse d.data.toList).2):=by show _=_;rw[HNUM.out,if_neg p0,if_neg p5]
      obtain⟨q1,q2,hq⟩:∃q1 q2,Fx.parse d.data.toList=(q1,q2):=⟨_,_,rfl⟩
      rw[hq]at p0 p5 HN ⊢;have hq5:(q2==5)=false:=by rw[beq_eq_false_iff_ne];exact p5
      clear p0 p5 hq;go_wp2;refine bodyPost_ret (v:= .tuple #[.agg #[.int .i64 9,.int .i64 (n:Int),.int .i64 ((n+j:Nat):Int),.int .i64 q1,.string ⟨#[]⟩],.int .i64 q2]) (by simp[results,Tryz.results167,go_sem]) rfl (.err HN.out (Lx.bel2 _ _ _))
    have HSY:=symb (by rw[f1];simp);rw[f1]at hg1;have HG1:=zh hg1;clear hnum hsym hg0 f0 hd0 symb hp1 hg1 b45 b43 e45 f1;go_wp2_with fail
    refine(HM.out _).mono ?_;rintro e w1 ⟨rfl,rfl⟩;go_wp2_with fail
    refine(HG0.out _).mono ?_;rintro e w1 ⟨rfl,rfl⟩;go_wp2_with fail
    refine(HG1.out _).mono ?_;rintro e w1 ⟨rfl,rfl⟩;go_wp2_with fail
    refine(HS.out _).mono ?_;rintro e w1 ⟨rfl,rfl⟩;cases hsy:Lx.symbol d.data.toList
    ·have HN:Hid (R= .err 30):=by show _=_;rw[HSY.out,hsy];rfl
     clear hsy HSY;go_wp2;refine bodyPost_ret (v:= .tuple #[.agg #[.int .i64 0,.int .i64 (n:Int),.int .i64 ((n+j:Nat):Int),.int .i64 0,.string ⟨#[]⟩],.int .i64 30]) (by simp[results,Tryz.results167,go_sem]) rfl (.err HN.out (Lx.bel2 _ _ _))
    ·have HN:Hid (R= .tok ⟨13,0,d.data.toList⟩ (Lx.tl s (n+j))):=by show _=_;rw[HSY.out,hsy];rfl
     clear hsy HSY;go_wp2;refine bodyPost_ret (v:= .tuple #[.agg #[.int .i64 13,.int .i64 (n:Int),.int .i64 ((n+j:Nat):Int),.int .i64 0,.string d],.int .i64 0]) (by simp[results,Tryz.results167,go_sem]) rfl (.tok HN.out (Lx.dmk d) rfl hj (Lx.bel2 _ _ _))
   cases c43:((d[0].toNat:Int)==43)
   case true=>
    have e43:(d[0]==43)=true:=b43.trans c43;cases f1:Lx.figure d[1]
    case true=>
     have HNUM:Hid (R=if(Fx.parse d.data.toList).2=0 then .tok ⟨9,(Fx.parse d.data.toList).1,[]⟩ (Lx.tl s (n+j))else if(Fx.parse d.data.toList).2=5 then .err 30 else .err (Fx.parse d.data.toList).2):=by
      show _=_;rw[HRR.out,hnum (by rw[f0,f1,e43,decide_eq_true (show 1<d.size by omega)];simp)]
     rw[f1]at hg1;have HG1:=zh hg1;clear hnum hsym hg0 f0 hd0 symb hp1 hg1 b45 b43 e43 f1;go_wp2_with fail
     refine(HM.out _).mono ?_;rintro e w1 ⟨rfl,rfl⟩;go_wp2_with fail
     refine(HG0.out _).mono ?_;rintro e w1 ⟨rfl,rfl⟩;go_wp2_with fail
     refine(HG1.out _).mono ?_;rintro e w1 ⟨rfl,rfl⟩;go_wp2_with fail
     refine(HP.out _).mono ?_;rintro e w1 ⟨rfl,rfl⟩;unfold Fx.R;by_cases p0:(Fx.parse d.data.toList).2=0
     ·have p0b:((Fx.parse d.data.toList).2==5)=false:=by rw[p0];rfl
      have HN:Hid (R= .tok ⟨9,(Fx.parse d.data.toList).1,[]⟩ (Lx.tl s (n+j))):=by show _=_;rw[HNUM.out,if_pos p0]
      obtain⟨q1,q2,hq⟩:∃q1 q2,Fx.parse d.data.toList=(q1,q2):=⟨_,_,rfl⟩
      rw[hq]at p0 p0b HN ⊢;have hq2:q2=0:=p0;subst hq2;clear p0 p0b hq;go_wp2;refine bodyPost_ret (v:= .tuple #[.agg #[.int .i64 9,.int .i64 (n:Int),.int .i64 ((n+j:Nat):Int),.int .i64 q1,.string ⟨#[]⟩],.int .i64 0]) (by simp[results,Tryz.results167,go_sem]) rfl (.tok HN.out rfl rfl hj (Lx.bel2 _ _ _))
     by_cases p5:(Fx.parse d.data.toList).2=5
     ·have HN:Hid (R= .err 30):=by show _=_;rw[HNUM.out,if_neg p0,if_pos p5]
      obtain⟨q1,q2,hq⟩:∃q1 q2,Fx.parse d.data.toList=(q1,q2):=⟨_,_,rfl⟩
      rw[hq]at p0 p5 ⊢;have hq2:q2=5:=p5;subst hq2;clear p0 p5 hq;go_wp2;refine bodyPost_ret (v:= .tuple #[.agg #[.int .i64 9,.int .i64 (n:Int),.int .i64 ((n+j:Nat):Int),.int .i64 q1,.string ⟨#[]⟩],.int .i64 30]) (by simp[results,Tryz.results167,go_sem]) rfl (.err HN.out (Lx.bel2 _ _ _))
     ·have HN:Hid (R= .err (Fx.parse d.data.toList).2):=by show _=_;rw[HNUM.out,if_neg p0,if_neg p5]
      obtain⟨q1,q2,hq⟩:∃q1 q2,Fx.parse d.data.toList=(q1,q2):=⟨_,_,rfl⟩
      rw[hq]at p0 p5 HN ⊢;have hq5:(q2==5)=false:=by rw[beq_eq_false_iff_ne];exact p5
      clear p0 p5 hq;go_wp2;refine bodyPost_ret (v:= .tuple #[.agg #[.int .i64 9,.int .i64 (n:Int),.int .i64 ((n+j:Nat):Int),.int .i64 q1,.string ⟨#[]⟩],.int .i64 q2]) (by simp[results,Tryz.results167,go_sem]) rfl (.err HN.out (Lx.bel2 _ _ _))
    have HSY:=symb (by rw[f1];simp);rw[f1]at hg1;have HG1:=zh hg1;clear hnum hsym hg0 f0 hd0 symb hp1 hg1 b45 b43 e43 f1;go_wp2_with fail
    refine(HM.out _).mono ?_;rintro e w1 ⟨rfl,rfl⟩;go_wp2_with fail
    refine(HG0.out _).mono ?_;rintro e w1 ⟨rfl,rfl⟩;go_wp2_with fail
    refine(HG1.out _).mono ?_;rintro e w1 ⟨rfl,rfl⟩;go_wp2_with fail
    refine(HS.out _).mono ?_;rintro e w1 ⟨rfl,rfl⟩;cases hsy:Lx.symbol d.data.toList
    ·have HN:Hid (R= .err 30):=by show _=_;rw[HSY.out,hsy];rfl
     clear hsy HSY;go_wp2;refine bodyPost_ret (v:= .tuple #[.agg #[.int .i64 0,.int .i64 (n:Int),.int .i64 ((n+j:Nat):Int),.int .i64 0,.string ⟨#[]⟩],.int .i64 30]) (by simp[results,Tryz.results167,go_sem]) rfl (.err HN.out (Lx.bel2 _ _ _))
    ·have HN:Hid (R= .tok ⟨13,0,d.data.toList⟩ (Lx.tl s (n+j))):=by show _=_;rw[HSY.out,hsy];rfl
     clear hsy HSY;go_wp2;refine bodyPost_ret (v:= .tuple #[.agg #[.int .i64 13,.int .i64 (n:Int),.int .i64 ((n+j:Nat):Int),.int .i64 0,.string d],.int .i64 0]) (by simp[results,Tryz.results167,go_sem]) rfl (.tok HN.out (Lx.dmk d) rfl hj (Lx.bel2 _ _ _))
   have HSY:=symb (by rw[show(d[0]==45)=false from b45.trans c45,show(d[0]==43)=false from b43.trans c43];rfl);clear hnum hsym hg0 f0 hd0 symb hp1 hg1 b45 b43;go_wp2_with fail
   refine(HM.out _).mono ?_;rintro e w1 ⟨rfl,rfl⟩;go_wp2_with fail
   refine(HG0.out _).mono ?_;rintro e w1 ⟨rfl,rfl⟩;go_wp2_with fail
   refine(HS.out _).mono ?_;rintro e w1 ⟨rfl,rfl⟩;cases hsy:Lx.symbol d.data.toList
   ·have HN:Hid (R= .err 30):=by show _=_;rw[HSY.out,hsy];rfl
    clear hsy HSY;go_wp2;refine bodyPost_ret (v:= .tuple #[.agg #[.int .i64 0,.int .i64 (n:Int),.int .i64 ((n+j:Nat):Int),.int .i64 0,.string ⟨#[]⟩],.int .i64 30]) (by simp[results,Tryz.results167,go_sem]) rfl (.err HN.out (Lx.bel2 _ _ _))
   ·have HN:Hid (R= .tok ⟨13,0,d.data.toList⟩ (Lx.tl s (n+j))):=by show _=_;rw[HSY.out,hsy];rfl
    clear hsy HSY;go_wp2;refine bodyPost_ret (v:= .tuple #[.agg #[.int .i64 13,.int .i64 (n:Int),.int .i64 ((n+j:Nat):Int),.int .i64 0,.string d],.int .i64 0]) (by simp[results,Tryz.results167,go_sem]) rfl (.tok HN.out (Lx.dmk d) rfl hj (Lx.bel2 _ _ _))
  ·have hm:=fun wq=>markR_out s (n+j) wq (by omega) (by omega)
   obtain⟨hj0,HFIN⟩:=fin (fun h=>absurd h hin);have HM:=zh hm;clear fin hm;obtain⟨d,hd⟩:∃d,s.extract n (n+j)=d:=⟨_,rfl⟩
   obtain⟨hdz,hRR⟩:=HFIN.out d hd;have HRR:=zh hRR;have i1:(n:Int)≤((n+j:Nat):Int):=by omega
   have i2:((n+j:Nat):Int)≤(s.size:Int):=by omega
   have hdp:0<d.size:=by omega
   have hdpi:(0:Int)<(d.size:Int):=by omega
   have hdle:d.size≤1000000:=by omega
   clear hRR hdz;cases e1:(d.toList==[35,102])
   case true=>
    have e2:(d.toList==[35,116])=false:=by rw[ByteArray.toList_eq,Lx.eq_of_beq d _ e1];rfl
    have HN:Hid (R= .tok ⟨10,0,[]⟩ (Lx.tl s (n+j))):=by show _=_;rw[HRR.out,Lx.eq_of_beq d _ e1];rfl
    go_wp2_with fail
    refine(HM.out _).mono ?_;rintro e w1 ⟨rfl,rfl⟩;go_wp2;refine bodyPost_ret (v:= .tuple #[.agg #[.int .i64 10,.int .i64 (n:Int),.int .i64 ((n+j:Nat):Int),.int .i64 0,.string ⟨#[]⟩],.int .i64 0]) (by simp[results,Tryz.results167,go_sem]) rfl (.tok HN.out rfl rfl hj (Lx.bel2 _ _ _))
   cases e2:(d.toList==[35,116])
   case true=>
    have HN:Hid (R= .tok ⟨10,1,[]⟩ (Lx.tl s (n+j))):=by show _=_;rw[HRR.out,Lx.eq_of_beq d _ e2];rfl
    go_wp2_with fail
    refine(HM.out _).mono ?_;rintro e w1 ⟨rfl,rfl⟩;go_wp2;refine bodyPost_ret (v:= .tuple #[.agg #[.int .i64 10,.int .i64 (n:Int),.int .i64 ((n+j:Nat):Int),.int .i64 1,.string ⟨#[]⟩],.int .i64 0]) (by simp[results,Tryz.results167,go_sem]) rfl (.tok HN.out rfl rfl hj (Lx.bel2 _ _ _))
   cases e3:(d.toList==[46])
   case true=>
    have HN:Hid (R= .tok ⟨8,0,[]⟩ (Lx.tl s (n+j))):=by show _=_;rw[HRR.out,Lx.eq_of_beq d _ e3];rfl
    go_wp2_with fail
    refine(HM.out _).mono ?_;rintro e w1 ⟨rfl,rfl⟩;go_wp2;refine bodyPost_ret (v:= .tuple #[.agg #[.int .i64 8,.int .i64 (n:Int),.int .i64 ((n+j:Nat):Int),.int .i64 0,.string ⟨#[]⟩],.int .i64 0]) (by simp[results,Tryz.results167,go_sem]) rfl (.tok HN.out rfl rfl hj (Lx.bel2 _ _ _))
   have hd0:d.data.toList.headD 0=d[0]:=by
    have:=Lx.tl_cons d 0 hdp;unfold Lx.tl at this;rw[List.drop_zero]at this;rw[this];rfl
   have hnum:=Lx.runW_num d.data.toList (Lx.tl s (n+j)) (Lx.ne_of_beq d _ e1) (Lx.ne_of_beq d _ e2) (Lx.ne_of_beq d _ e3);have hsym:=Lx.runW_sym d.data.toList (Lx.tl s (n+j)) (Lx.ne_of_beq d _ e1) (Lx.ne_of_beq d _ e2) (Lx.ne_of_beq d _ e3);rw[hd0,Fx.size_toList]at hnum hsym;have HP:=zh (fun wq=>rParse_any d wq (by omega));have HS:=zh (fun wq=>SymbolR_any d wq (by omega));have hg0:=fun wq=>digitR_any d[0] wq
   cases f0:Lx.figure d[0]
   case true=>
    have HNUM:Hid (R=if(Fx.parse d.data.toList).2=0 then .tok ⟨9,(Fx.parse d.data.toList).1,[]⟩ (Lx.tl s (n+j))else if(Fx.parse d.data.toList).2=5 then .err 30 else .err (Fx.parse d.data.toList).2):=by
     show _=_;rw[HRR.out,hnum (by rw[f0];rfl)]
    rw[f0]at hg0;have HG0:=zh hg0;clear hnum hsym hg0 f0 hd0;go_wp2_with fail
    refine(HM.out _).mono ?_;rintro e w1 ⟨rfl,rfl⟩;go_wp2_with fail
    refine(HG0.out _).mono ?_;rintro e w1 ⟨rfl,rfl⟩;go_wp2_with fail
    refine(HP.out _).mono ?_;rintro e w1 ⟨rfl,rfl⟩;unfold Fx.R;by_cases p0:(Fx.parse d.data.toList).2=0
    ·have p0b:((Fx.parse d.data.toList).2==5)=false:=by rw[p0];rfl
     have HN:Hid (R= .tok ⟨9,(Fx.parse d.data.toList).1,[]⟩ (Lx.tl s (n+j))):=by show _=_;rw[HNUM.out,if_pos p0]
     obtain⟨q1,q2,hq⟩:∃q1 q2,Fx.parse d.data.toList=(q1,q2):=⟨_,_,rfl⟩
     rw[hq]at p0 p0b HN ⊢;have hq2:q2=0:=p0;subst hq2;clear p0 p0b hq;go_wp2;refine bodyPost_ret (v:= .tuple #[.agg #[.int .i64 9,.int .i64 (n:Int),.int .i64 ((n+j:Nat):Int),.int .i64 q1,.string ⟨#[]⟩],.int .i64 0]) (by simp[results,Tryz.results167,go_sem]) rfl (.tok HN.out rfl rfl hj (Lx.bel2 _ _ _))
    by_cases p5:(Fx.parse d.data.toList).2=5
    ·have HN:Hid (R= .err 30):=by show _=_;rw[HNUM.out,if_neg p0,if_pos p5]
     obtain⟨q1,q2,hq⟩:∃q1 q2,Fx.parse d.data.toList=(q1,q2):=⟨_,_,rfl⟩
     rw[hq]at p0 p5 ⊢;have hq2:q2=5:=p5;subst hq2;clear p0 p5 hq;go_wp2;refine bodyPost_ret (v:= .tuple #[.agg #[.int .i64 9,.int .i64 (n:Int),.int .i64 ((n+j:Nat):Int),.int .i64 q1,.string ⟨#[]⟩],.int .i64 30]) (by simp[results,Tryz.results167,go_sem]) rfl (.err HN.out (Lx.bel2 _ _ _))
    ·have HN:Hid (R= .err (Fx.parse d.data.toList).2):=by show _=_;rw[HNUM.out,if_neg p0,if_neg p5]
     obtain⟨q1,q2,hq⟩:∃q1 q2,Fx.parse d.data.toList=(q1,q2):=⟨_,_,rfl⟩
     rw[hq]at p0 p5 HN ⊢;have hq5:(q2==5)=false:=by rw[beq_eq_false_iff_ne];exact p5
     clear p0 p5 hq;go_wp2;refine bodyPost_ret (v:= .tuple #[.agg #[.int .i64 9,.int .i64 (n:Int),.int .i64 ((n+j:Nat):Int),.int .i64 q1,.string ⟨#[]⟩],.int .i64 q2]) (by simp[results,Tryz.results167,go_sem]) rfl (.err HN.out (Lx.bel2 _ _ _))
   rw[f0]at hg0;have HG0:=zh hg0
   -- no number by a sign: then it is a symbol's, or none
   have symb:(((d[0]==45||d[0]==43)&&decide (1<d.size)&&Lx.figure (Lx.pk d.data.toList 1))=false)→Hid (R=if Lx.symbol d.data.toList then .tok ⟨13,0,d.data.toList⟩ (Lx.tl s (n+j))else .err 30):=by
    intro h;show _=_;rw[HRR.out,hsym (by rw[f0,h];rfl)]
   by_cases hone:d.size≤1
   case pos=>
    have HSY:=symb (by rw[decide_eq_false (show ¬1<d.size by omega)];simp);have honei:¬ (1:Int)<(d.size:Int):=by omega
    clear hnum hsym hg0 f0 hd0 symb;go_wp2_with fail
    refine(HM.out _).mono ?_;rintro e w1 ⟨rfl,rfl⟩;go_wp2_with fail
    refine(HG0.out _).mono ?_;rintro e w1 ⟨rfl,rfl⟩;go_wp2_with fail
    refine(HS.out _).mono ?_;rintro e w1 ⟨rfl,rfl⟩;cases hsy:Lx.symbol d.data.toList
    ·have HN:Hid (R= .err 30):=by show _=_;rw[HSY.out,hsy];rfl
     clear hsy HSY;go_wp2;refine bodyPost_ret (v:= .tuple #[.agg #[.int .i64 0,.int .i64 (n:Int),.int .i64 ((n+j:Nat):Int),.int .i64 0,.string ⟨#[]⟩],.int .i64 30]) (by simp[results,Tryz.results167,go_sem]) rfl (.err HN.out (Lx.bel2 _ _ _))
    ·have HN:Hid (R= .tok ⟨13,0,d.data.toList⟩ (Lx.tl s (n+j))):=by show _=_;rw[HSY.out,hsy];rfl
     clear hsy HSY;go_wp2;refine bodyPost_ret (v:= .tuple #[.agg #[.int .i64 13,.int .i64 (n:Int),.int .i64 ((n+j:Nat):Int),.int .i64 0,.string d],.int .i64 0]) (by simp[results,Tryz.results167,go_sem]) rfl (.tok HN.out (Lx.dmk d) rfl hj (Lx.bel2 _ _ _))
   have honei:(1:Int)<(d.size:Int):=by omega
   have hp1:Lx.pk d.data.toList 1=d[1]:=by
    have:=Lx.pk_in d 0 1 (by omega);unfold Lx.tl at this;rw[List.drop_zero]at this;exact this
   rw[hp1]at hnum symb;have hg1:=fun wq=>digitR_any d[1] wq
   have b45:=Lx.beq_nat d[0] 45 (by omega);have b43:=Lx.beq_nat d[0] 43 (by omega);cases c45:((d[0].toNat:Int)==45)
   case true=>
    have e45:(d[0]==45)=true:=b45.trans c45;cases f1:Lx.figure d[1]
    case true=>
     have HNUM:Hid (R=if(Fx.parse d.data.toList).2=0 then .tok ⟨9,(Fx.parse d.data.toList).1,[]⟩ (Lx.tl s (n+j))else if(Fx.parse d.data.toList).2=5 then .err 30 else .err (Fx.parse d.data.toList).2):=by
      show _=_;rw[HRR.out,hnum (by rw[f0,f1,e45,decide_eq_true (show 1<d.size by omega)];rfl)]
     rw[f1]at hg1;have HG1:=zh hg1;clear hnum hsym hg0 f0 hd0 symb hp1 hg1 b45 b43 e45 f1;go_wp2_with fail
     refine(HM.out _).mono ?_;rintro e w1 ⟨rfl,rfl⟩;go_wp2_with fail
     refine(HG0.out _).mono ?_;rintro e w1 ⟨rfl,rfl⟩;go_wp2_with fail
     refine(HG1.out _).mono ?_;rintro e w1 ⟨rfl,rfl⟩;go_wp2_with fail
     refine(HP.out _).mono ?_;rintro e w1 ⟨rfl,rfl⟩;unfold Fx.R;by_cases p0:(Fx.parse d.data.toList).2=0
     ·have p0b:((Fx.parse d.data.toList).2==5)=false:=by rw[p0];rfl
      have HN:Hid (R= .tok ⟨9,(Fx.parse d.data.toList).1,[]⟩ (Lx.tl s (n+j))):=by show _=_;rw[HNUM.out,if_pos p0]
      obtain⟨q1,q2,hq⟩:∃q1 q2,Fx.parse d.data.toList=(q1,q2):=⟨_,_,rfl⟩
      rw[hq]at p0 p0b HN ⊢;have hq2:q2=0:=p0;subst hq2;clear p0 p0b hq;go_wp2;refine bodyPost_ret (v:= .tuple #[.agg #[.int .i64 9,.int .i64 (n:Int),.int .i64 ((n+j:Nat):Int),.int .i64 q1,.string ⟨#[]⟩],.int .i64 0]) (by simp[results,Tryz.results167,go_sem]) rfl (.tok HN.out rfl rfl hj (Lx.bel2 _ _ _))
     by_cases p5:(Fx.parse d.data.toList).2=5
     ·have HN:Hid (R= .err 30):=by show _=_;rw[HNUM.out,if_neg p0,if_pos p5]
      obtain⟨q1,q2,hq⟩:∃q1 q2,Fx.parse d.data.toList=(q1,q2):=⟨_,_,rfl⟩
      rw[hq]at p0 p5 ⊢;have hq2:q2=5:=p5;subst hq2;clear p0 p5 hq;go_wp2;refine bodyPost_ret (v:= .tuple #[.agg #[.int .i64 9,.int .i64 (n:Int),.int .i64 ((n+j:Nat):Int),.int .i64 q1,.string ⟨#[]⟩],.int .i64 30]) (by simp[results,Tryz.results167,go_sem]) rfl (.err HN.out (Lx.bel2 _ _ _))
     ·have HN:Hid (R= .err (Fx.parse d.data.toList).2):=by show _=_;rw[HNUM.out,if_neg p0,if_neg p5]
      obtain⟨q1,q2,hq⟩:∃q1 q2,Fx.parse d.data.toList=(q1,q2):=⟨_,_,rfl⟩
      rw[hq]at p0 p5 HN ⊢;have hq5:(q2==5)=false:=by rw[beq_eq_false_iff_ne];exact p5
      clear p0 p5 hq;go_wp2;refine bodyPost_ret (v:= .tuple #[.agg #[.int .i64 9,.int .i64 (n:Int),.int .i64 ((n+j:Nat):Int),.int .i64 q1,.string ⟨#[]⟩],.int .i64 q2]) (by simp[results,Tryz.results167,go_sem]) rfl (.err HN.out (Lx.bel2 _ _ _))
    have HSY:=symb (by rw[f1];simp);rw[f1]at hg1;have HG1:=zh hg1;clear hnum hsym hg0 f0 hd0 symb hp1 hg1 b45 b43 e45 f1;go_wp2_with fail
    refine(HM.out _).mono ?_;rintro e w1 ⟨rfl,rfl⟩;go_wp2_with fail
    refine(HG0.out _).mono ?_;rintro e w1 ⟨rfl,rfl⟩;go_wp2_with fail
    refine(HG1.out _).mono ?_;rintro e w1 ⟨rfl,rfl⟩;go_wp2_with fail
    refine(HS.out _).mono ?_;rintro e w1 ⟨rfl,rfl⟩;cases hsy:Lx.symbol d.data.toList
    ·have HN:Hid (R= .err 30):=by show _=_;rw[HSY.out,hsy];rfl
     clear hsy HSY;go_wp2;refine bodyPost_ret (v:= .tuple #[.agg #[.int .i64 0,.int .i64 (n:Int),.int .i64 ((n+j:Nat):Int),.int .i64 0,.string ⟨#[]⟩],.int .i64 30]) (by simp[results,Tryz.results167,go_sem]) rfl (.err HN.out (Lx.bel2 _ _ _))
    ·have HN:Hid (R= .tok ⟨13,0,d.data.toList⟩ (Lx.tl s (n+j))):=by show _=_;rw[HSY.out,hsy];rfl
     clear hsy HSY;go_wp2;refine bodyPost_ret (v:= .tuple #[.agg #[.int .i64 13,.int .i64 (n:Int),.int .i64 ((n+j:Nat):Int),.int .i64 0,.string d],.int .i64 0]) (by simp[results,Tryz.results167,go_sem]) rfl (.tok HN.out (Lx.dmk d) rfl hj (Lx.bel2 _ _ _))
   cases c43:((d[0].toNat:Int)==43)
   case true=>
    have e43:(d[0]==43)=true:=b43.trans c43;cases f1:Lx.figure d[1]
    case true=>
     have HNUM:Hid (R=if(Fx.parse d.data.toList).2=0 then .tok ⟨9,(Fx.parse d.data.toList).1,[]⟩ (Lx.tl s (n+j))else if(Fx.parse d.data.toList).2=5 then .err 30 else .err (Fx.parse d.data.toList).2):=by
      show _=_;rw[HRR.out,hnum (by rw[f0,f1,e43,decide_eq_true (show 1<d.size by omega)];simp)]
     rw[f1]at hg1;have HG1:=zh hg1;clear hnum hsym hg0 f0 hd0 symb hp1 hg1 b45 b43 e43 f1;go_wp2_with fail
     refine(HM.out _).mono ?_;rintro e w1 ⟨rfl,rfl⟩;go_wp2_with fail
     refine(HG0.out _).mono ?_;rintro e w1 ⟨rfl,rfl⟩;go_wp2_with fail
     refine(HG1.out _).mono ?_;rintro e w1 ⟨rfl,rfl⟩;go_wp2_with fail
     refine(HP.out _).mono ?_;rintro e w1 ⟨rfl,rfl⟩;unfold Fx.R;by_cases p0:(Fx.parse d.data.toList).2=0
     ·have p0b:((Fx.parse d.data.toList).2==5)=false:=by rw[p0];rfl
      have HN:Hid (R= .tok ⟨9,(Fx.parse d.data.toList).1,[]⟩ (Lx.tl s (n+j))):=by show _=_;rw[HNUM.out,if_pos p0]
      obtain⟨q1,q2,hq⟩:∃q1 q2,Fx.parse d.data.toList=(q1,q2):=⟨_,_,rfl⟩
      rw[hq]at p0 p0b HN ⊢;have hq2:q2=0:=p0;subst hq2;clear p0 p0b hq;go_wp2;refine bodyPost_ret (v:= .tuple #[.agg #[.int .i64 9,.int .i64 (n:Int),.int .i64 ((n+j:Nat):Int),.int .i64 q1,.string ⟨#[]⟩],.int .i64 0]) (by simp[results,Tryz.results167,go_sem]) rfl (.tok HN.out rfl rfl hj (Lx.bel2 _ _ _))
     by_cases p5:(Fx.parse d.data.toList).2=5
     ·have HN:Hid (R= .err 30):=by show _=_;rw[HNUM.out,if_neg p0,if_pos p5]
      obtain⟨q1,q2,hq⟩:∃q1 q2,Fx.parse d.data.toList=(q1,q2):=⟨_,_,rfl⟩
      rw[hq]at p0 p5 ⊢;have hq2:q2=5:=p5;subst hq2;clear p0 p5 hq;go_wp2;refine bodyPost_ret (v:= .tuple #[.agg #[.int .i64 9,.int .i64 (n:Int),.int .i64 ((n+j:Nat):Int),.int .i64 q1,.string ⟨#[]⟩],.int .i64 30]) (by simp[results,Tryz.results167,go_sem]) rfl (.err HN.out (Lx.bel2 _ _ _))
     ·have HN:Hid (R= .err (Fx.parse d.data.toList).2):=by show _=_;rw[HNUM.out,if_neg p0,if_neg p5]
      obtain⟨q1,q2,hq⟩:∃q1 q2,Fx.parse d.data.toList=(q1,q2):=⟨_,_,rfl⟩
      rw[hq]at p0 p5 HN ⊢;have hq5:(q2==5)=false:=by rw[beq_eq_false_iff_ne];exact p5
      clear p0 p5 hq;go_wp2;refine bodyPost_ret (v:= .tuple #[.agg #[.int .i64 9,.int .i64 (n:Int),.int .i64 ((n+j:Nat):Int),.int .i64 q1,.string ⟨#[]⟩],.int .i64 q2]) (by simp[results,Tryz.results167,go_sem]) rfl (.err HN.out (Lx.bel2 _ _ _))
    have HSY:=symb (by rw[f1];simp);rw[f1]at hg1;have HG1:=zh hg1;clear hnum hsym hg0 f0 hd0 symb hp1 hg1 b45 b43 e43 f1;go_wp2_with fail
    refine(HM.out _).mono ?_;rintro e w1 ⟨rfl,rfl⟩;go_wp2_with fail
    refine(HG0.out _).mono ?_;rintro e w1 ⟨rfl,rfl⟩;go_wp2_with fail
    refine(HG1.out _).mono ?_;rintro e w1 ⟨rfl,rfl⟩;go_wp2_with fail
    refine(HS.out _).mono ?_;rintro e w1 ⟨rfl,rfl⟩;cases hsy:Lx.symbol d.data.toList
    ·have HN:Hid (R= .err 30):=by show _=_;rw[HSY.out,hsy];rfl
     clear hsy HSY;go_wp2;refine bodyPost_ret (v:= .tuple #[.agg #[.int .i64 0,.int .i64 (n:Int),.int .i64 ((n+j:Nat):Int),.int .i64 0,.string ⟨#[]⟩],.int .i64 30]) (by simp[results,Tryz.results167,go_sem]) rfl (.err HN.out (Lx.bel2 _ _ _))
    ·have HN:Hid (R= .tok ⟨13,0,d.data.toList⟩ (Lx.tl s (n+j))):=by show _=_;rw[HSY.out,hsy];rfl
     clear hsy HSY;go_wp2;refine bodyPost_ret (v:= .tuple #[.agg #[.int .i64 13,.int .i64 (n:Int),.int .i64 ((n+j:Nat):Int),.int .i64 0,.string d],.int .i64 0]) (by simp[results,Tryz.results167,go_sem]) rfl (.tok HN.out (Lx.dmk d) rfl hj (Lx.bel2 _ _ _))
   have HSY:=symb (by rw[show(d[0]==45)=false from b45.trans c45,show(d[0]==43)=false from b43.trans c43];rfl);clear hnum hsym hg0 f0 hd0 symb hp1 hg1 b45 b43;go_wp2_with fail
   refine(HM.out _).mono ?_;rintro e w1 ⟨rfl,rfl⟩;go_wp2_with fail
   refine(HG0.out _).mono ?_;rintro e w1 ⟨rfl,rfl⟩;go_wp2_with fail
   refine(HS.out _).mono ?_;rintro e w1 ⟨rfl,rfl⟩;cases hsy:Lx.symbol d.data.toList
   ·have HN:Hid (R= .err 30):=by show _=_;rw[HSY.out,hsy];rfl
    clear hsy HSY;go_wp2;refine bodyPost_ret (v:= .tuple #[.agg #[.int .i64 0,.int .i64 (n:Int),.int .i64 ((n+j:Nat):Int),.int .i64 0,.string ⟨#[]⟩],.int .i64 30]) (by simp[results,Tryz.results167,go_sem]) rfl (.err HN.out (Lx.bel2 _ _ _))
   ·have HN:Hid (R= .tok ⟨13,0,d.data.toList⟩ (Lx.tl s (n+j))):=by show _=_;rw[HSY.out,hsy];rfl
    clear hsy HSY;go_wp2;refine bodyPost_ret (v:= .tuple #[.agg #[.int .i64 13,.int .i64 (n:Int),.int .i64 ((n+j:Nat):Int),.int .i64 0,.string d],.int .i64 0]) (by simp[results,Tryz.results167,go_sem]) rfl (.tok HN.out (Lx.dmk d) rfl hj (Lx.bel2 _ _ _))
end Go.Proofs.YtfjmlfbohenmfaaGreat
