/-
  LexRefGq.
-/
import Derived.Test.YtfjmlfbohenmfaaGreatCoreWithinLawZM5
import Derived.Test.YtfjmlfbohenmfaaGreatCoreWithinLawZM3
import Derived.Test.YtfjmlfbohenmfaaGreatCoreWithinLawZM2
set_option maxRecDepth 100000
set_option maxHeartbeats 32000000
namespace Go.Proofs.YtfjmlfbohenmfaaGreat
open Go.RowKit Go.Sort
namespace Lx
theorem put5_bel{n R:Nat}{w a:World}(h:Below n w a)(hR:n≤R)(k a' z m:Int)(x:ByteArray):Below n w (put5 a R k a' z m x):=
 ((((h.setCell (p:=⟨R,0,none⟩) hR _).setCell (p:=⟨R,1,none⟩) hR _).setCell (p:=⟨R,2,none⟩) hR _).setCell (p:=⟨R,3,none⟩) hR _).setCell (p:=⟨R,4,none⟩) hR _
theorem TkAt.bel{w w':World}{T n:Nat}{k a z m:Int}{x:ByteArray}(h:TkAt w T k a z m x)(hb:Below n w w')(hT:T<n):TkAt w' T k a z m x:=
 ⟨(hb.cell (p:=⟨T,0,none⟩) hT).trans h.c0,(hb.cell (p:=⟨T,1,none⟩) hT).trans h.c1,(hb.cell (p:=⟨T,2,none⟩) hT).trans h.c2,(hb.cell (p:=⟨T,3,none⟩) hT).trans h.c3,(hb.cell (p:=⟨T,4,none⟩) hT).trans h.c4,fun j=>(hb.frozen (p:=⟨T,j,none⟩) hT).trans (h.fz j),Nat.lt_of_lt_of_le h.lt hb.size⟩
theorem ext0(s:ByteArray)(m:Nat)(hm:m≤s.size)(i:Nat)(h:i<m):(s.extract 0 m).size=m∧tl (s.extract 0 m) i=s[i] :: tl (s.extract 0 m) (i+1):=by
 have h1:(s.extract 0 m).size=m:=by simp;omega
 refine⟨h1,?_⟩;rw[tl_cons _ i (by omega)];congr 1;rw[ByteArray.getElem_extract];simp
theorem own_form{w:World}{b:Nat}{pv:Value}{ps:List UInt8}(ho:w.ownsRow b 5 1 pv ps.length (ps.map byteV)):∃a c,pv= .slice a ps.length c:=by
 rcases Joins.ownsRow_forms ho with⟨rfl,hz⟩|⟨g,cap,rfl,_⟩
 ·exact⟨none,0,by rw[hz]⟩
 ·exact⟨_,_,rfl⟩
theorem str_none(t:List UInt8)(h:strEnd t.tail=none):str t= .err 31:=by unfold str;rw[h]
theorem str_some(t b r:List UInt8)(h:strEnd t.tail=some (b,r)):str t=(match quoted b with|some q=>if q.length≤256 then .tok ⟨12,0,q⟩ r else .err 30|none=> .err 30):=by unfold str;rw[h];rfl
end Lx
theorem strR_any(s:ByteArray)(n:Nat)(w:World)(hs:s.size≤1000000)(hn:n<s.size):
  Calls Tryz.prog 165 #[.string s,.int .i64 n] w (Lx.TokR s n (Lx.str (Lx.tl s n)) w):=by
 obtain⟨i0,hi,hz0,hz1,hz2⟩:=info_parts Lx.infoU8;obtain⟨RES,hRES⟩:∃RES,Lx.str (Lx.tl s n)=RES:=⟨_,rfl⟩
 rw[hRES];have HRES:=zh hRES;clear hRES;go_enter Tryz.func165,Tryz.ntmps165;go_wp2_with fail
 go_loop [7] (fun vm=>∃m:Nat,vm= .int .i64 m∧n+1≤m∧m≤s.size+1∧Hid (Lx.Way s (n+1) m)) (fun vm=>s.size+2 - (intOf vm).toNat)
 case atStart=>exact⟨n+1,by go_num,by omega,by omega,Lx.Way.start s (n+1)⟩
 case round=>
  obtain⟨m,rfl,hm1,hm2,HW⟩:=hrel;by_cases hms:m<s.size
  case neg=>
   have hmi:¬ (m:Int)<(s.size:Int):=by omega
   have hmj:(s.size:Int)≤(m:Int):=by omega
   have HN:Hid (RES= .err 31):=by
    show _=_;rw[←HRES.out];refine Lx.str_none _ ?_;rw[Lx.tl_tail];have:=HW.out;unfold Lx.Way at this;rw[this,Lx.tl_nil s m (by omega)];simp[Lx.strEnd]
   go_wp2;refine bodyPost_ret (v:= .tuple #[.agg #[.int .i64 12,.int .i64 (n:Int),.int .i64 0,.int .i64 0,.string ⟨#[]⟩],.int .i64 31]) (by simp[results,Tryz.results165,go_sem]) rfl (.err HN.out (Lx.bel2 _ _ _))
  have hmi:(m:Int)<(s.size:Int):=by omega
  have hst:=Lx.strEnd_step s m hms;obtain⟨c,hc⟩:∃c,s[m]=c:=⟨_,rfl⟩
  rw[hc]at hst;have b34:(c==34)=((c.toNat:Int)==34):=Lx.beq_nat c 34 (by omega);have b92:(c==92)=((c.toNat:Int)==92):=Lx.beq_nat c 92 (by omega);cases c34:((c.toNat:Int)==34)
  case false=>
   have n34:((c.toNat:Int) !=34)=true:=by unfold bne;rw[c34];rfl
   rw[if_neg (by rw[b34.trans c34];simp)]at hst;cases c92:((c.toNat:Int)==92)
   case true=>
    rw[if_pos (b92.trans c92)]at hst;have HW2:Hid (Lx.Way s (n+1) (m+2)):=Lx.Way.step 2 HW.out hm1 hst;clear hst b34 b92;go_wp2
    go_round
    case rel=>exact⟨m+2,by go_num,by omega,by omega,HW2⟩
    case measure=>simp[intOf];omega
   case false=>
    rw[if_neg (by rw[b92.trans c92];simp)]at hst;have HW2:Hid (Lx.Way s (n+1) (m+1)):=Lx.Way.step 1 HW.out hm1 hst;clear hst b34 b92;go_wp2
    go_round
    case rel=>exact⟨m+1,by go_num,by omega,by omega,HW2⟩
    case measure=>simp[intOf];omega
  have n34:((c.toNat:Int) !=34)=false:=by unfold bne;rw[c34];rfl
  rw[if_pos (b34.trans c34)]at hst;obtain⟨X,hX⟩:∃X,s.extract 0 m=X:=⟨_,rfl⟩
  have hXs:X.size=m:=by rw[←hX];simp;omega
  have hbody:(Lx.tl s (n+1)).take (m - (n+1))=Lx.tl X (n+1):=by
   unfold Lx.tl;rw[←hX,Lib.extract_data,List.drop_zero,Nat.sub_zero,List.drop_take]
  have hse:Lx.strEnd (Lx.tl s (n+1))=some (Lx.tl X (n+1),Lx.tl s (m+1)):=by
   have:=HW.out;unfold Lx.Way at this;rw[this,hst,←hbody];simp
  have hgood:=(Lx.strEnd_good _ _ _ _ (Nat.le_refl _) hse).1;have hres:RES=(match Lx.quoted (Lx.tl X (n+1))with|some q=>if q.length≤256 then .tok ⟨12,0,q⟩ (Lx.tl s (m+1))else .err 30|none=> .err 30):=by
   rw[←HRES.out];refine Lx.str_some _ _ _ ?_;rw[Lx.tl_tail];exact hse
  have hx0:∀i,(h:i<m)→(h2:i<s.size)→Lx.tl X i=s[i]'h2 :: Lx.tl X (i+1):=fun i h h2=>by have:=(Lx.ext0 s m (Nat.le_of_lt hms) i h).2;rw[hX]at this;exact this
  have HX:=zh hx0;have HRS:=zh hres;have HG0:=zh hgood;have hmj:¬ (s.size:Int)≤(m:Int):=by omega
  have m0:(0:Int)≤(m:Int):=by omega
  have m1:(m:Int)≤(s.size:Int):=by omega
  clear hst b34 b92 hbody hse hgood hres HW HRES c34 hx0;obtain⟨R,hR⟩:∃R,w.heap.size=R:=⟨_,rfl⟩
  obtain⟨w2,hw2⟩:∃w2,(w.alloc (.cells #[.int .i64 0,.int .i64 0,.int .i64 0,.int .i64 0,.string ⟨#[]⟩] 144)).alloc (.cells #[.int .i64 12,.int .i64 (n:Int),.int .i64 ((m:Int)+1),.int .i64 0,.string ⟨#[]⟩] 144)=w2:=⟨_,rfl⟩
  have hb2:Below w.heap.size w w2:=by rw[←hw2];exact Lx.bel2 _ _ _
  have hT:=Lx.TkAt.alloc (w.alloc (.cells #[.int .i64 0,.int .i64 0,.int .i64 0,.int .i64 0,.string ⟨#[]⟩] 144)) 12 n ((m:Int)+1) 0 ⟨#[]⟩ 144;have hRR:=(Lx.TkAt.alloc w 0 0 0 0 ⟨#[]⟩ 144).below ((Below.refl _ (w.alloc (.cells #[.int .i64 0,.int .i64 0,.int .i64 0,.int .i64 0,.string ⟨#[]⟩] 144))).alloc (Nat.le_refl _) (.cells #[.int .i64 12,.int .i64 (n:Int),.int .i64 ((m:Int)+1),.int .i64 0,.string ⟨#[]⟩] 144));rw[hw2]at hT hRR;rw[World.size_alloc,hR]at hT;rw[hR]at hRR hb2;have hsz2:w2.heap.size=R+2:=by rw[←hw2];simp;omega
  have HT2:=zh hT;have HR2:=zh hRR;have HB2:=zh hb2;have HSZ2:=zh hsz2;have HRW:=zh hR;clear hT hRR hb2 hsz2;go_wp2_with fail
  have HXS:=zh hXs;clear hw2 hR hXs hc
  go_loopw [8,9] (fun vb vi wr=>∃(i:Nat) (acc:List UInt8) (bv:Value),vb=bv∧vi= .int .i64 i∧n+1≤i∧i≤m∧acc.length≤i∧Hid (Lx.quoted (Lx.tl X (n+1))=(Lx.quoted (Lx.tl X i)).map (acc++ ·))∧Hid (Lx.good (Lx.tl X i)=true)∧Hid (wr.ownsRow (R+2) 5 1 bv acc.length (acc.map Lx.byteV))∧Hid (Lx.TkAt wr R 0 0 0 0 ⟨#[]⟩)∧Hid (Lx.TkAt wr (R+1) 12 n ((m:Int)+1) 0 ⟨#[]⟩)∧Hid (Below R w wr)∧Hid (R+2≤wr.heap.size)) (fun _ vi _=>m+1 - (intOf vi).toNat)
  case atStart=>exact⟨n+1,[],_,rfl,by go_num,by omega,by omega,by simp,by show _=_;simp,HG0,World.ownsRow_nil _ _ _ _,HR2,HT2,HB2,Nat.le_of_eq HSZ2.out.symm⟩
  case round=>
   obtain⟨i,acc,bv,rfl,rfl,hi1,hi2,hal,HQ,HG,HO,HR1,HT1,HB1,HL⟩:=hrel;have hTR:R≠R+1:=by omega
   by_cases him:i<m
   case neg=>
    obtain rfl:i=m:=by omega
    have hge:¬ (i:Int)<(i:Int):=by omega
    have hq:Lx.quoted (Lx.tl X (n+1))=some acc:=by
     rw[HQ.out,Lx.tl_nil X i (by rw[HXS.out];exact Nat.le_refl _)];simp[Lx.quoted]
    obtain⟨ba,bc,rfl⟩:=Lx.own_form HO.out;by_cases hbig:256<acc.length
    ·have hbigi:256<(acc.length:Int):=by omega
     have HN:Hid (RES= .err 30):=by show _=_;rw[HRS.out,hq];simp only[];rw[if_neg (by omega)]
     clear hq;have u0:=HT1.out.c0;have u1:=HT1.out.c1;have u2:=HT1.out.c2;have u3:=HT1.out.c3;have u4:=HT1.out.c4;have uz:=HT1.out.fz;have r0:=HR1.out.c0;have r1:=HR1.out.c1;have r2:=HR1.out.c2;have r3:=HR1.out.c3;have r4:=HR1.out.c4;have rz:=HR1.out.fz;go_wp2;have HF:=Lx.put5_at HR1.out 12 (n:Int) ((i:Int)+1) 0 ⟨#[]⟩;have HFB:=Lx.put5_bel HB1.out (Nat.le_refl R) 12 (n:Int) ((i:Int)+1) 0 ⟨#[]⟩;obtain⟨F,hF⟩:∃F,Lx.put5 wr R 12 (n:Int) ((i:Int)+1) 0 ⟨#[]⟩=F:=⟨_,rfl⟩
     rw[hF]at HF HFB;unfold Lx.put5 at hF;rw[hF];have f0:=HF.c0;have f1:=HF.c1;have f2:=HF.c2;have f3:=HF.c3;have f4:=HF.c4;exact bodyPost_ret (v:= .tuple #[.agg #[.int .i64 12,.int .i64 (n:Int),.int .i64 ((i:Int)+1),.int .i64 0,.string ⟨#[]⟩],.int .i64 30]) (by simp[results,Tryz.results165,go_sem,f0,f1,f2,f3,f4]) rfl (.err HN.out (by rw[HRW.out];exact HFB))
    have hbigi:¬256<(acc.length:Int):=by omega
    have HN:Hid (RES= .tok ⟨12,0,acc⟩ (Lx.tl s (i+1))):=by show _=_;rw[HRS.out,hq];simp only[];rw[if_pos (by omega)]
    have hcv:=Lx.conv_own acc HO.out;obtain⟨q,hqq⟩:∃q:ByteArray,(⟨acc.toArray⟩:ByteArray)=q:=⟨_,rfl⟩
    rw[hqq]at hcv;have HQQ:=zh hqq;clear hq hqq;have d4:=HT1.out.c4;have t3:=HT1.out.set4 q;have R3:=HR1.out.other (R+1) 4 (.string q) hTR;have u0:=t3.c0;have u1:=t3.c1;have u2:=t3.c2;have u3:=t3.c3;have u4:=t3.c4;have uz:=HT1.out.fz;have r0:=R3.c0;have r1:=R3.c1;have r2:=R3.c2;have r3:=R3.c3;have r4:=R3.c4;have rz:=R3.fz;have HR3:=zh R3;have HB3:=zh (HB1.out.setCell (p:=⟨R+1,4,none⟩) (Nat.le_succ R) (.string q));clear t3 R3;go_wp2;have HF:=Lx.put5_at HR3.out 12 (n:Int) ((i:Int)+1) 0 q;have HFB:=Lx.put5_bel HB3.out (Nat.le_refl R) 12 (n:Int) ((i:Int)+1) 0 q;obtain⟨F,hF⟩:∃F,Lx.put5 (wr.setCell ⟨R+1,4,none⟩ (.string q)) R 12 (n:Int) ((i:Int)+1) 0 q=F:=⟨_,rfl⟩
    rw[hF]at HF HFB;unfold Lx.put5 at hF;rw[hF];have f0:=HF.c0;have f1:=HF.c1;have f2:=HF.c2;have f3:=HF.c3;have f4:=HF.c4;exact bodyPost_ret (v:= .tuple #[.agg #[.int .i64 12,.int .i64 (n:Int),.int .i64 ((i:Int)+1),.int .i64 0,.string q],.int .i64 0]) (by simp[results,Tryz.results165,go_sem,f0,f1,f2,f3,f4]) rfl (.tok HN.out HQQ.out.symm (by omega) (by omega) (by rw[HRW.out];exact HFB))
   have himi:(i:Int)<(m:Int):=by omega
   have his:i<s.size:=by omega
   have hx:=HX.out i him his;obtain⟨c,hc⟩:∃c,s[i]=c:=⟨_,rfl⟩
   rw[hc]at hx;have hcb:=Lx.b8 c;have b92:(c==92)=((c.toNat:Int)==92):=Lx.beq_nat c 92 (by omega);have hg:=HG.out;have hq:=HQ.out;rw[hx]at hg hq;cases c92:((c.toNat:Int)==92)
   case true=>
    have e92:c=92:=by simpa using b92.trans c92
    have hne:Lx.tl X (i+1)≠[]:=by
     intro h;rw[h,e92,Lx.good_92]at hg;cases hg
    have hi1m:i+1<m:=by
     rcases Nat.lt_or_ge (i+1) m with h|h
     ·exact h
     ·exact absurd (Lx.tl_nil X (i+1) (by rw[HXS.out];exact h)) hne
    rw[e92]at hg hq;rw[Lx.quoted_92e _ hne]at hq;have hes:=fun wq=>escapedR_any X (i+1) wq (by rw[HXS.out];omega) (by rw[HXS.out];exact hi1m)
    have hel:=Lx.esc_len _ hne;have hge:=Lx.good_92e _ hne hg;obtain⟨e1,e2,he⟩:∃e1 e2,Lx.esc (Lx.tl X (i+1))=(e1,e2):=⟨_,_,rfl⟩
    rw[he]at hq hes hel hge;simp only[]at hq hes hel hge;by_cases hneg:e1<0
    ·rw[if_pos hneg]at hq;have HN:Hid (RES= .err 30):=by show _=_;rw[HRS.out,hq];rfl
     have HES:=zh hes;clear hg hq hx hes hel hge he hne b92 e92;go_wp2_with fail
     rw[show(i:Int)+1=((i+1:Nat):Int)by omega];refine(HES.out _).mono ?_;rintro e w4 ⟨rfl,rfl⟩;have u0:=HT1.out.c0;have u1:=HT1.out.c1;have u2:=HT1.out.c2;have u3:=HT1.out.c3;have u4:=HT1.out.c4;have uz:=HT1.out.fz;have r0:=HR1.out.c0;have r1:=HR1.out.c1;have r2:=HR1.out.c2;have r3:=HR1.out.c3;have r4:=HR1.out.c4;have rz:=HR1.out.fz;go_wp2;have HF:=Lx.put5_at HR1.out 12 (n:Int) ((m:Int)+1) 0 ⟨#[]⟩;have HFB:=Lx.put5_bel HB1.out (Nat.le_refl R) 12 (n:Int) ((m:Int)+1) 0 ⟨#[]⟩;obtain⟨F,hF⟩:∃F,Lx.put5 wr R 12 (n:Int) ((m:Int)+1) 0 ⟨#[]⟩=F:=⟨_,rfl⟩
     rw[hF]at HF HFB;unfold Lx.put5 at hF;rw[hF];have f0:=HF.c0;have f1:=HF.c1;have f2:=HF.c2;have f3:=HF.c3;have f4:=HF.c4;exact bodyPost_ret (v:= .tuple #[.agg #[.int .i64 12,.int .i64 (n:Int),.int .i64 ((m:Int)+1),.int .i64 0,.string ⟨#[]⟩],.int .i64 30]) (by simp[results,Tryz.results165,go_sem,f0,f1,f2,f3,f4]) rfl (.err HN.out (by rw[HRW.out];exact HFB))
    rw[if_neg hneg]at hq;obtain⟨l1,l2,l3⟩:=hel hneg;have l4:=hge hneg;rw[Lx.tl_len,HXS.out]at l2;obtain⟨f,rfl⟩:∃f:Nat,e2=(f:Int):=⟨e2.toNat,by omega⟩
    rw[Int.toNat_natCast]at hq l2 l4;rw[Lx.tl_drop]at hq l4;have HQ2:Hid (Lx.quoted (Lx.tl X (n+1))=(Lx.quoted (Lx.tl X (i+1+f))).map ((acc++[UInt8.ofNat e1.toNat])++ ·)):=hq.trans (Lx.map_acc acc _ _ _ rfl);have HG2:=zh l4;have HES:=zh hes;have hcn:((UInt8.ofNat e1.toNat).toNat:Int)=e1:=by rw[UInt8.toNat_ofNat'];omega
    have HCN:=zh hcn;have hO:=HO.out;have hszl:=HL.out;have he0:0≤e1:=by omega
    have hne1:¬e1<0:=hneg;clear hg hq hx hes hel hge he hne b92 e92 l4 hcn;go_wp2_with fail
    rw[show(i:Int)+1=((i+1:Nat):Int)by omega];refine(HES.out _).mono ?_;rintro e w4 ⟨rfl,rfl⟩;go_wp2_with(at_builtin;refine wpList_append_own _ rfl _ _ 197 rfl (R+2) 5 i0 (.int .u8 0) 1 1 Tryz.underlying197 hi hz0 hz1 hz2 rfl (by decide) _ _ _ rfl (hO.alloc _) ⟨wr.heap.size,0,none⟩ 1 1 [.int .u8 e1] rfl rfl (cell_one_new _ _ _) (fun x hx=>by simp at hx;subst hx;rfl) (by unfold maxLen;omega) (by omega) (by simp;omega) ?_;intro v' w3 hown' hgrow3 hnil3)
    have hbz:Below (R+2) wr w3:=Below.grown ((Below.refl (R+2) wr).alloc hszl _) hgrow3 (by simp;omega) (fun j hj=>(hO.lt _ hj).1);go_roundw
    case rel=>exact⟨i+1+f,acc++[UInt8.ofNat e1.toNat],_,rfl,by go_num,by omega,by omega,by simp;omega,HQ2,HG2,by show World.ownsRow _ _ _ _ _ _ _;rw[List.length_append,List.map_append,List.map_singleton];unfold Lx.byteV at*;rw[HCN.out];exact hown',HR1.out.bel hbz (by omega),HT1.out.bel hbz (by omega),HB1.out.trans (hbz.mono (by omega)),Nat.le_trans HL.out hbz.size⟩
    case measure=>simp[intOf];omega
   have ne92:(c==92)=false:=b92.trans c92;rw[Lx.good_plain c _ ne92]at hg;rw[Lx.quoted_plain c _ ne92]at hq;have hwt:=fun wq=>blankR_any c wq
   have b32:(c==32)=((c.toNat:Int)==32):=Lx.beq_nat c 32 (by omega);have plain:(Lx.white c&&c !=32)=false→Hid (Lx.quoted (Lx.tl X (n+1))=(Lx.quoted (Lx.tl X (i+1))).map ((acc++[c])++ ·)):=by
    intro h;rw[h]at hq;exact hq.trans (Lx.map_acc acc c _ _ rfl)
   have HG2:=zh hg;cases hw:Lx.white c
   case true=>
    rw[hw]at hwt;cases c32:((c.toNat:Int)==32)
    case false=>
     have n32:((c.toNat:Int) !=32)=true:=by unfold bne;rw[c32];rfl
     have HN:Hid (RES= .err 30):=by
      show _=_;rw[HRS.out,hq,hw,show(c !=32)=true by unfold bne;rw[b32.trans c32];rfl];rfl
     have HWT:=zh hwt;clear hg hq hx hwt b92 b32 plain;go_wp2_with fail
     refine(HWT.out _).mono ?_;rintro e w4 ⟨rfl,rfl⟩;have u0:=HT1.out.c0;have u1:=HT1.out.c1;have u2:=HT1.out.c2;have u3:=HT1.out.c3;have u4:=HT1.out.c4;have uz:=HT1.out.fz;have r0:=HR1.out.c0;have r1:=HR1.out.c1;have r2:=HR1.out.c2;have r3:=HR1.out.c3;have r4:=HR1.out.c4;have rz:=HR1.out.fz;go_wp2;have HF:=Lx.put5_at HR1.out 12 (n:Int) ((m:Int)+1) 0 ⟨#[]⟩;have HFB:=Lx.put5_bel HB1.out (Nat.le_refl R) 12 (n:Int) ((m:Int)+1) 0 ⟨#[]⟩;obtain⟨F,hF⟩:∃F,Lx.put5 wr R 12 (n:Int) ((m:Int)+1) 0 ⟨#[]⟩=F:=⟨_,rfl⟩
     rw[hF]at HF HFB;unfold Lx.put5 at hF;rw[hF];have f0:=HF.c0;have f1:=HF.c1;have f2:=HF.c2;have f3:=HF.c3;have f4:=HF.c4;exact bodyPost_ret (v:= .tuple #[.agg #[.int .i64 12,.int .i64 (n:Int),.int .i64 ((m:Int)+1),.int .i64 0,.string ⟨#[]⟩],.int .i64 30]) (by simp[results,Tryz.results165,go_sem,f0,f1,f2,f3,f4]) rfl (.err HN.out (by rw[HRW.out];exact HFB))
    have n32:((c.toNat:Int) !=32)=false:=by unfold bne;rw[c32];rfl
    have HQ2:=plain (by rw[hw,show(c !=32)=false by unfold bne;rw[b32.trans c32];rfl];rfl);have HWT:=zh hwt;clear hg hq hx hwt b92 b32 plain;have hO:=HO.out;have hszl:=HL.out;go_wp2_with fail
    refine(HWT.out _).mono ?_;rintro e w4 ⟨rfl,rfl⟩;go_wp2_with(at_builtin;refine wpList_append_own _ rfl _ _ 197 rfl (R+2) 5 i0 (.int .u8 0) 1 1 Tryz.underlying197 hi hz0 hz1 hz2 rfl (by decide) _ _ _ rfl (hO.alloc _) ⟨wr.heap.size,0,none⟩ 1 1 [.int .u8 (c.toNat:Int)] rfl rfl (cell_one_new _ _ _) (fun x hx=>by simp at hx;subst hx;rfl) (by unfold maxLen;omega) (by omega) (by simp;omega) ?_;intro v' w3 hown' hgrow3 hnil3)
    have hbz:Below (R+2) wr w3:=Below.grown ((Below.refl (R+2) wr).alloc hszl _) hgrow3 (by simp;omega) (fun j hj=>(hO.lt _ hj).1);go_roundw
    case rel=>exact⟨i+1,acc++[c],_,rfl,by go_num,by omega,by omega,by simp;omega,HQ2,HG2,by show World.ownsRow _ _ _ _ _ _ _;rw[List.length_append,List.map_append];exact hown',HR1.out.bel hbz (by omega),HT1.out.bel hbz (by omega),HB1.out.trans (hbz.mono (by omega)),Nat.le_trans HL.out hbz.size⟩
    case measure=>simp[intOf];omega
   have HQ2:=plain (by rw[hw];rfl);rw[hw]at hwt;have HWT:=zh hwt;clear hg hq hx hwt b92 b32 plain;have hO:=HO.out;have hszl:=HL.out;go_wp2_with fail
   refine(HWT.out _).mono ?_;rintro e w4 ⟨rfl,rfl⟩;go_wp2_with(at_builtin;refine wpList_append_own _ rfl _ _ 197 rfl (R+2) 5 i0 (.int .u8 0) 1 1 Tryz.underlying197 hi hz0 hz1 hz2 rfl (by decide) _ _ _ rfl (hO.alloc _) ⟨wr.heap.size,0,none⟩ 1 1 [.int .u8 (c.toNat:Int)] rfl rfl (cell_one_new _ _ _) (fun x hx=>by simp at hx;subst hx;rfl) (by unfold maxLen;omega) (by omega) (by simp;omega) ?_;intro v' w3 hown' hgrow3 hnil3)
   have hbz:Below (R+2) wr w3:=Below.grown ((Below.refl (R+2) wr).alloc hszl _) hgrow3 (by simp;omega) (fun j hj=>(hO.lt _ hj).1);go_roundw
   case rel=>exact⟨i+1,acc++[c],_,rfl,by go_num,by omega,by omega,by simp;omega,HQ2,HG2,by show World.ownsRow _ _ _ _ _ _ _;rw[List.length_append,List.map_append];exact hown',HR1.out.bel hbz (by omega),HT1.out.bel hbz (by omega),HB1.out.trans (hbz.mono (by omega)),Nat.le_trans HL.out hbz.size⟩
   case measure=>simp[intOf];omega
end Go.Proofs.YtfjmlfbohenmfaaGreat
