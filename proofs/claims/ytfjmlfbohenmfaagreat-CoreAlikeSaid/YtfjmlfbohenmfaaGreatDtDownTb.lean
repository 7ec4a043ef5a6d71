/-
 The step of datum.walk's inner function where each part is looked at.
-/
import Derived.Test.YtfjmlfbohenmfaaGreatCoreBBM8
import Derived.Test.YtfjmlfbohenmfaaGreatCoreBBM2
namespace Go.Proofs.YtfjmlfbohenmfaaGreat
open Go.RowKit
set_option maxRecDepth 100000 in
set_option maxHeartbeats 16000000 in
theorem downS_step(n nY:Nat)(hn:3≤n){N l:Nat}{lb:Nat→Prop}{B0:Nat}(hlb:∀k,lb k→k<B0){J Jx:List Dt.P→World→Prop}(hJ:Rb.BelFrom B0 J)(hJx:Rb.BelFrom B0 Jx)
  (hY : ∀ pre x W1, J pre W1 → Dt.VP x W1 → pre.length < N → YieldAt Fence.wide nY Tryz.prog l (Dt.encP x) W1 fun e W' =>
   (e= .returned (.bool true)∧J (pre++[x]) W'∧Keep lb W1 W')∨(e= .returned (.bool false)∧Jx (pre++[x]) W'∧Keep lb W1 W'))
  (x:Dt.D) (hl:∀y∈x.l,Dt.DownS n J Jx N l lb B0 y) (ht:∀y∈x.t,Dt.DownS n J Jx N l lb B0 y):Dt.DownS n J Jx N l lb B0 x:=by
 intro F deep a vm vl vt w p d s t u y pre0 hW hFi hR hF hE hA hB0 hd ha hck hj0 hlen;obtain⟨w1,hw1⟩:∃w1,w.alloc (.cells #[.int .i64 x.k,.int .i64 x.n,.string x.s,vm,vl,vt] 25)=w1:=⟨_,rfl⟩
 have hb1:Below w.heap.size w w1:=by rw[←hw1];exact(Below.refl _ _).alloc (Nat.le_refl _) _
 have hE1:=hE.below hb1;have hR1:=hR.below hb1;have hz1:w.heap.size<w1.heap.size:=by rw[←hw1];simp
 have hsix:=Dt.six_new w x.k x.n x.s vm vl vt 25;rw[hw1]at hsix;have d0:w1.cell? ⟨w.heap.size,0,none⟩=some (.int .i64 x.k):=hsix 0 (by omega);have d1:w1.cell? ⟨w.heap.size,1,none⟩=some (.int .i64 x.n):=hsix 1 (by omega);have d2:w1.cell? ⟨w.heap.size,2,none⟩=some (.string x.s):=hsix 2 (by omega);have d3:w1.cell? ⟨w.heap.size,3,none⟩=some vm:=hsix 3 (by omega);have d4:w1.cell? ⟨w.heap.size,4,none⟩=some vl:=hsix 4 (by omega);have d5:w1.cell? ⟨w.heap.size,5,none⟩=some vt:=hsix 5 (by omega);have hsg:=dSingle_any (F:=F) x vm vl vt w1 hW hR1;have c1:¬64<deep:=fun h=>by rw[Dt.chk_deep h]at hck;exact absurd hck (by simp)
 have c2:¬4096≤a:=fun h=>by rw[Dt.chk_long c1 h]at hck;exact absurd hck (by simp)
 have hS:Dt.single x=true:=by
  cases hS:Dt.single x with
  |true=>rfl
  |false=>rw[Dt.chk_bad c1 c2 hS]at hck;exact absurd hck (by simp)
 rw[hS]at hsg;have hC:=Dt.chk_good (d:=x) c1 c2 hS;obtain⟨M,hM⟩:∃M,M=Dt.chk x deep a:=⟨_,rfl⟩
 rw[←hM]at hC hck ⊢;have hL0:(Dt.chks x.l (deep+1) (a+1)).1=0:=by
  apply Classical.byContradiction
  intro h;rw[if_neg h]at hC;rw[hC]at hck;exact h hck
 rw[if_pos hL0]at hC;have HC:=zh hC;have HL0:=zh hL0;have HCK:=zh hck;have HE1:=zh hE1;have HB1:=zh hb1;have HR1:=zh hR1;obtain⟨hLb,hTb⟩:=Dt.wf_len hW;have HWF:=zh hW;have HFI:=zh hFi;have HWL:=zh (Dt.wf_l hW);have HWT:=zh (Dt.wf_t hW);have HFL:=zh (Dt.fine_l hFi);have HFT:=zh (Dt.fine_t hFi);have HF:=zh hF;have HA:=zh hA;have HL:=zh hl;have HT:=zh ht;have HJ0:=zh hj0;have HLEN:=zh hlen;have HJ:=zh hJ;have HJX:=zh hJx;have HYY:=zh hY;have HB0:=zh hB0;obtain⟨D0,hD0⟩:∃D0,w.heap.size=D0:=⟨_,rfl⟩
 rw[hD0]at d0 d1 d2 d3 d4 d5 hz1;have hpD:p≠D0:=by have:=block_lt_of_cell hE.cp;simp only at this;omega
 have hdD:d≠D0:=by obtain⟨b,hb⟩:=hE.cd;have:=block_lt_of_cell hb;simp only at this;omega
 have htD:t≠D0:=by have:=block_lt_of_cell hE.ct;simp only at this;omega
 have HD0:=zh hD0;have HPL:Hid (p<D0∧d<D0∧t<D0∧∀k,lb k→k<D0):=by
  obtain⟨bq,hbq⟩:=hE.cd;have h1:=block_lt_of_cell hE.cp;have h2:=block_lt_of_cell hbq;have h3:=block_lt_of_cell hE.ct;simp only at h1 h2 h3;exact⟨by omega,by omega,by omega,fun k hk=>by have:=hlb k hk;have:=HB0.out;omega⟩
 have cp:=hE1.cp;have c1i:¬ (64:Int)<(deep:Int):=by omega
 have hn1:1≤n:=by omega
 have c2i:¬ (4096:Int)≤(a:Int):=by omega
 clear hsix hE hR hE1 hR1 hb1 hW hF hA hl ht hj0 hlen hJ hJx hY hC hL0 hck hS hM hFi c1 c2 hB0;refine callsIn_of_wp Tryz.func104 rfl trivial ?_ rfl;simp only[Tryz.ntmps104,List.size_toArray,List.length_cons,List.length_nil,Nat.reduceAdd,Nat.reduceSub,Array.replicate_succ,Array.replicate_zero,List.push_toArray,List.append_toArray,List.nil_append,List.cons_append]
 gi_wp2_with (refine⟨trivial,?_⟩;gi_at_call 105;refine(callsIn_wide.2 hsg).mono ?_;clear hsg hw1 hD0 cp;rintro e w2 ⟨rfl,hb2⟩;have HB2:=zh hb2;have HE2:=zh (HE1.out.below hb2);clear hb2;refine Hid.out ?_)
 refine zh ?_;have hlt2:=HB2.out.size;have hxc:∀i v,w1.cell? ⟨D0,i,none⟩=some v→w2.cell? ⟨D0,i,none⟩=some v:=fun i v h=>(HB2.out.cell (p:=⟨D0,i,none⟩) hz1).trans h
 have e0:=hxc _ _ d0;have e1:=hxc _ _ d1;have e2:=hxc _ _ d2;have e3:=hxc _ _ d3;have e4:=hxc _ _ d4;have e5:=hxc _ _ d5;have hz2:D0<w2.heap.size:=Nat.lt_of_lt_of_le hz1 hlt2;have HK2:Hid (Keep (Dt.Ch p d t lb) w w2):=((Keep.refl (Dt.Ch p d t lb) w).below HB1.out).below HB2.out;have HR2:=zh ((Dt.rep_iff F w2 x vm vl vt).1 (HR1.out.below HB2.out));have HRR2:=zh (HR1.out.below HB2.out);obtain⟨cp2,⟨b0,cd2⟩,cs2,ct2,cu2,cy2,fp2,fd2,ft2⟩:=HE2.out;have hns:=Dt.neq_seeF y;obtain⟨⟨am,cm,rfl,-⟩,⟨al,cl,rfl,hcl,hL0⟩,⟨at_,ct,rfl,hct,hT0⟩⟩:=HR2.out;have HRL:=zh hL0;have HRT:=zh hT0;obtain⟨g1,g2,g3,g4,g5,g6,g7,g8,g9,g10,g11,g12,g13,g14,g15,g16,g17,g18,g19,g20,g21⟩:=HA.out;have hlbD:¬lb D0:=fun h=>Nat.lt_irrefl _ (HPL.out.2.2.2 _ h)
 clear hxc d0 d1 d2 d3 d4 d5 hL0 hT0 hz1
 gi_upto_region 8 with(fail)
 gi_cut []from 67 (fun W=>Hid (Dt.EnvS W p d s t u y l (a+1) false∧Keep (Dt.Ch p d t lb) w2 W∧W.heap.size=w2.heap.size∧Below B0 w2 W))
 case first=>
  gi_wp2_with fail
  all_goals gi_meet
  all_goals exact Dt.genS2 HE2.out HA.out (by simp)
 case rest=>
  obtain⟨w3,rfl⟩:∃v,v=wc:=⟨_,rfl⟩
  obtain⟨hE3,hK3,hs3,hb3⟩:=hcut.out;have hz3:D0<w3.heap.size:=by omega
  have hB3:B0≤w3.heap.size:=by have:=HB0.out;have:=HB1.out.size;omega
  have hk3:∀i v,w2.cell? ⟨D0,i,none⟩=some v→w3.cell? ⟨D0,i,none⟩=some v:=fun i v h=>(hK3.cell i hz2 (fun h=>h.elim (Ne.symm hpD) (fun h=>h.elim (Ne.symm hdD) (fun h=>h.elim (Ne.symm htD) hlbD)))).trans h
  have f0:=hk3 _ _ e0;have f1:=hk3 _ _ e1;have f2:=hk3 _ _ e2;have f3:=hk3 _ _ e3;have f4:=hk3 _ _ e4;have f5:=hk3 _ _ e5;have HE3:=zh hE3;have HK3:=zh hK3;have HKW3:=zh (HK2.out.trans hK3);obtain⟨cp3,⟨b3,cd3⟩,cs3,ct3,cu3,cy3,fp3,fd3,ft3⟩:=hE3;have HJ3:Hid (J pre0 w3):=HJ.out _ _ _ HJ0.out HB0.out (((HB1.out.mono HB0.out).trans (HB2.out.mono (Nat.le_trans HB0.out HB1.out.size))).trans hb3);have HRR3:Hid (Dt.Rep F w3 x (Value.slice am x.m.length cm) (Value.slice al x.l.length cl) (Value.slice at_ x.t.length ct)):=Dt.Rep.keep hK3 (fun k hk _=>HF.out k hk) _ HRR2.out;have HB3:=zh hB3;clear hcut hK3 hs3 hb3 hk3 e0 e1 e2 e3 e4 e5 cp2 cd2 cs2 ct2 cu2 cy2 fp2 fd2 ft2 cp3 cd3 cu3 fp3 fd3 hB3
  gi_upto_if 35 with(fail)
  gi_cut []from 67 (fun W=>Hid ((∃sp,Dt.Mid J Jx x pre0 p d s t u y l lb [x] (a+1) sp w W)∧Keep (Dt.Ch p d t lb) w3 W))
  case first=>
   gi_wp2_with fail
   refine⟨trivial,(see_in nY (n - 1) l y (by omega) (R:=fun e W=>∃p:Dt.P,p.d=x∧((e= .returned (.bool true)∧J (pre0++[p]) W∧Keep lb w3 W)∨(e= .returned (.bool false)∧Jx (pre0++[p]) W∧Keep lb w3 W))) x _ _ _ w3 HWF.out HFI.out HRR3.out cy3 ?_ ?_).mono ?_⟩
   ·intro p hp W1 hb1 hv;obtain⟨fn,tmps,assign,body,h1,h2⟩:=HYY.out pre0 p W1 (HJ.out _ _ _ HJ3.out HB3.out (hb1.mono HB3.out)) hv (by have:=HLEN.out;have:=Dt.preOne x;omega);refine⟨fn,tmps,assign,body,h1,h2.mono ?_⟩;rintro e W (⟨h3,h4,h5⟩|⟨h3,h4,h5⟩)
    ·exact⟨p,hp,.inl ⟨h3,h4,((Keep.refl _ w3).below hb1).trans h5⟩⟩
    ·exact⟨p,hp,.inr ⟨h3,h4,((Keep.refl _ w3).below hb1).trans h5⟩⟩
   ·rintro e W ⟨p,-,⟨h,-⟩|⟨h,-⟩⟩
    ·exact⟨_,h⟩
    ·exact⟨_,h⟩
   rintro e W5 ⟨hx,hxd,⟨rfl,hj5,hk5⟩|⟨rfl,hj5,hk5⟩⟩;all_goals
    have hE5:=HE3.out.round HA.out hk5;have ct5:=hE5.ct;have ft5:=hE5.ft;have HJ5:=zh hj5;have HK5:=zh hk5;clear hj5 hk5 hE5
    gi_wp2_with fail
    gi_meet
   ·exact⟨⟨false,Dt.mid_see false HE3.out HA.out HKW3.out HK5.out hxd HB3.out HJ.out HJX.out HJ5.out⟩,(HK5.out.mono (fun k _ h=> .inr (.inr (.inr h)))).setCell (B:=t) (.inr (.inr (.inl rfl))) 0 _⟩
   ·exact⟨⟨true,Dt.mid_see true HE3.out HA.out HKW3.out HK5.out hxd HB3.out HJ.out HJX.out HJ5.out⟩,(HK5.out.mono (fun k _ h=> .inr (.inr (.inr h)))).setCell (B:=t) (.inr (.inr (.inl rfl))) 0 _⟩
  case rest=>
   obtain⟨w4,rfl⟩:∃v,v=wc:=⟨_,rfl⟩
   obtain⟨⟨sp4,hM4⟩,hK4⟩:=hcut.out;have hz4:D0<w4.heap.size:=Nat.lt_of_lt_of_le hz3 hK4.size;have hk4:∀i v,w3.cell? ⟨D0,i,none⟩=some v→w4.cell? ⟨D0,i,none⟩=some v:=fun i v h=>(hK4.cell i hz3 (fun h=>h.elim (Ne.symm hpD) (fun h=>h.elim (Ne.symm hdD) (fun h=>h.elim (Ne.symm htD) hlbD)))).trans h
   have i4:=hk4 _ _ f4;have i5:=hk4 _ _ f5;have HM4:=zh hM4;have HKQ4:=zh (HK3.out.trans hK4);have HB4:=zh (Nat.le_trans HB3.out hK4.size);obtain⟨wb,hwb⟩:∃wb,w4.alloc (.cells #[.slice al x.l.length cl,.slice at_ x.t.length ct] 23)=wb:=⟨_,rfl⟩
   obtain⟨G,hG⟩:∃G,w4.heap.size=G:=⟨_,rfl⟩
   clear hcut hM4 hK4 hk4 f0 f1 f2 f3 f4 f5 cs3 ct3 cy3 hns HJ3 HRR3 hz3 HB1 HB2 HE1 HE2 HE3;have hbb:Below w4.heap.size w4 wb:=by rw[←hwb];exact(Below.refl _ _).alloc (Nat.le_refl _) _
   have hzb:G<wb.heap.size:=by rw[←hwb,World.size_alloc,hG];omega
   obtain⟨z0,z1⟩:=Dt.two_new w4 (.slice al x.l.length cl) (.slice at_ x.t.length ct) 23;rw[hwb,hG]at z0 z1;have hGC:¬Dt.Ch p d t lb G:=by obtain⟨q1,q2,q3,q4⟩:=HPL.out;rintro(h|h|h|h);omega;omega;omega;exact absurd (q4 _ h) (by omega)
   have HMB:=zh (HM4.out.below HJ.out HJX.out HB4.out hbb);have HKQ:=zh (HKQ4.out.below hbb);have HBB:=zh (Nat.le_trans HB4.out hbb.size);clear hbb
   gi_wp2_with fail
   clear hwb hG i4 i5 HM4 HKQ4 HB4 hz4
   gi_loopw [46] (fun v wr=>∃(i q:Nat) (sp:Bool),v= .int .i64 i∧i≤2∧q≤4096∧Hid (Dt.Mid J Jx x pre0 p d s t u y l lb (Dt.doneS x i) q sp w wr)∧Hid (Keep (Dt.Ch p d t lb) wb wr)∧Hid (sp=false→Dt.AtS x deep a M i q)) (fun v _=>2 - (intOf v).toNat)
   case atStart=>exact⟨0,a+1,sp4,rfl,by omega,by omega,HMB.out,Keep.refl _ _,fun _=> .inl ⟨rfl,rfl,HL0.out⟩⟩
   case round=>
    obtain⟨i,q0,sp0,rfl,hi2,hq0,HST,HKW,HZ⟩:=hrel;have z0r:=(HKW.out.cell 0 hzb hGC).trans z0;have z1r:=(HKW.out.cell 1 hzb hGC).trans z1;clear z0 z1 HMB;rcases(by omega:i=0∨i=1∨i=2)with rfl|rfl|rfl
    ·gi_wp2_with fail
     obtain⟨wo,hwo⟩:∃wo,wo=wr:=⟨_,rfl⟩
     rw[←hwo]at HST HKW z0r z1r ⊢;clear hwo
     gi_loopw [52] (fun v wr=>∃(j q:Nat) (sp:Bool),v= .int .i64 j∧j≤x.l.length∧q≤4096∧Hid (Dt.Mid J Jx x pre0 p d s t u y l lb (Dt.doneS x 0++Dt.pres (x.l.take j)) q sp w wr)∧Hid (Keep (Dt.Ch p d t lb) wb wr)∧Hid (sp=false→Dt.InL x deep a j q)) (fun v _=>x.l.length - (intOf v).toNat)
     case atStart=>exact⟨0,q0,sp0,rfl,by omega,hq0,by simpa[Dt.pres]using HST,HKW,fun h=>Dt.inl_start (HZ.out h)⟩
     case round=>
      obtain⟨j,q,sp,rfl,hj,hq,HM,HKJ,HD⟩:=hrel;clear HST HKW HZ z0r z1r;by_cases hlt:j<x.l.length
      case neg=>
       have hge:(x.l.length:Int)≤(j:Int):=by omega
       have HME:Hid (Dt.Mid J Jx x pre0 p d s t u y l lb (Dt.doneS x (0+1)) q sp w wr):=by
        show Dt.Mid J Jx x pre0 p d s t u y l lb (Dt.doneS x (0+1)) q sp w wr;rw[←Dt.doneS_l x (by omega:x.l.length≤j)];exact HM.out
       have HDE:Hid (sp=false→Dt.AtS x deep a M (0+1) q):=fun h=>Dt.inl_end (by omega) (HD.out h) HC.out HCK.out
       clear HM HD
       gi_wp2
       go_roundw
       case rel=>exact⟨0+1,q,sp,rfl,by omega,hq,HME,HKJ,HDE⟩
       case measure=>simp[intOf]
      have hlti:(j:Int)<(x.l.length:Int):=by omega
      obtain⟨g,o,hao,hFg,hgl,hreps⟩:=HRL.out (by intro hc;rw[hc]at hlt;simp at hlt);have hreps':=Dt.Reps.keep (HKQ.out.trans HKJ.out) (fun k hk _=>HF.out k hk) _ hFg hgl hreps;obtain⟨vmj,vlj,vtj,hsx,hrp⟩:=hreps'.at j hlt;obtain⟨a1,n1,c1,a2,n2,c2,a3,n3,c3,rfl,rfl,rfl⟩:=hrp.forms;obtain⟨yd,hyy⟩:∃yd,x.l[j]=yd:=⟨_,rfl⟩
      have HX:=zh hyy;rw[hyy]at hsx hrp;subst hao;obtain⟨y0,y1,y2,y3,y4,y5⟩:=hsx;obtain⟨wc,hwc⟩:∃wc,wr.alloc (.cells #[.int .i64 yd.k,.int .i64 yd.n,.string yd.s,(.slice a1 n1 c1),(.slice a2 n2 c2),(.slice a3 n3 c3)] 25)=wc:=⟨_,rfl⟩
      have hbc:Below wr.heap.size wr wc:=by rw[←hwc];exact(Below.refl _ _).alloc (Nat.le_refl _) _
      have ct1:=HM.out.cell;have HBR:Hid (B0≤wr.heap.size):=Nat.le_trans HBB.out HKJ.out.size;have HMC:=zh (HM.out.below HJ.out HJX.out HBR.out hbc);have ct2:=HMC.out.cell;have HBC:=zh hbc;have HRP:=zh (hrp.below hbc)
      cases sp with
      |true=>
       clear hreps hreps' hyy hbc hrp hgl hFg HD HM
       gi_wp2
       go_ret;exact⟨rfl,true,HMC.out.stopped⟩
      |false=>
       obtain⟨hEc,xs,hxs,hJc⟩:=HMC.out.going;have HST:=Dt.inl_step hlt (HD.out rfl);rw[hyy]at HST;have cu2:=hEc.cu;have hsw:=Dt.six_new wr yd.k yd.n yd.s (.slice a1 n1 c1) (.slice a2 n2 c2) (.slice a3 n3 c3) 25;rw[hwc]at hsw;have hpx:=Dt.prefix_l hlt;rw[hyy]at hpx;have hN:(pre0++xs).length+(Dt.pre yd).length≤N:=by
        have h1:=hpx.length_le;have h2:=HLEN.out;have h3:xs.length=(Dt.doneS x 0++Dt.pres (x.l.take j)).length:=by rw[←hxs,List.length_map]
        rw[List.length_append]at h1 ⊢;omega
       have hcall:=HL.out x.l[j] (List.getElem_mem hlt) F (deep+1) q (.slice a1 n1 c1) (.slice a2 n2 c2) (.slice a3 n3 c3) wc p d s t u y (pre0++xs);rw[hyy]at hcall;have hwf:=HWL.out.at j hlt;have hfi:=Dt.fines_at HFL.out j hlt;rw[hyy]at hwf hfi;have hcall2:=hcall hwf hfi HRP.out HF.out hEc HA.out (Nat.le_trans HBR.out hbc.size) (by omega) hq HST.1 hJc hN;rw[show(((deep+1:Nat):Int))=(deep:Int)+1 by omega]at hcall2;obtain⟨q',hq''⟩:∃q',q'=(Dt.chk yd (deep+1) q).2:=⟨_,rfl⟩
       have hq':q'≤4096:=by rw[hq''];exact Dt.chk_le yd (deep+1) q hq
       rw[←hq'']at hcall2 HST;have HCALL:=zh hcall2;have HDN:=zh HST.2;have HPX:=zh hpx;have HXS:=zh hxs;obtain⟨YB,hYB⟩:∃YB,wr.heap.size=YB:=⟨_,rfl⟩
       rw[hYB]at hsw;have s0:wc.cell? ⟨YB,0,none⟩=some (.int .i64 yd.k):=hsw 0 (by omega);have s1:wc.cell? ⟨YB,1,none⟩=some (.int .i64 yd.n):=hsw 1 (by omega);have s2:wc.cell? ⟨YB,2,none⟩=some (.string yd.s):=hsw 2 (by omega);have s3:wc.cell? ⟨YB,3,none⟩=some (.slice a1 n1 c1):=hsw 3 (by omega);have s4:wc.cell? ⟨YB,4,none⟩=some (.slice a2 n2 c2):=hsw 4 (by omega);have s5:wc.cell? ⟨YB,5,none⟩=some (.slice a3 n3 c3):=hsw 5 (by omega);clear hreps hreps' hyy hbc hrp hgl hFg HD HM hEc hxs hJc HST hsw hpx hN hcall hwf hfi hcall2 hq''
       gi_wp2_with fail
       clear hwc;refine⟨trivial,(Dt.calls_wide HCALL.out).mono ?_⟩;rintro e w7 ⟨rfl,sp',hM7⟩;have HK7:=zh ((HKJ.out.below HBC.out).trans hM7.1);have HM7:Hid (Dt.Mid J Jx x pre0 p d s t u y l lb (Dt.doneS x 0++Dt.pres (x.l.take (j+1))) q' sp' w w7):=by
        have h:=Dt.Mid.child HMC.out.1 HXS.out HPX.out hM7;show Dt.Mid J Jx x pre0 p d s t u y l lb (Dt.doneS x 0++Dt.pres (x.l.take (j+1))) q' sp' w w7;rw[Dt.pres_snoc x.l j hlt,HX.out,←List.append_assoc];exact h
       clear hM7 HCALL HBC HRP ct1 ct2 cu2 s0 s1 s2 s3 s4 s5 y0 y1 y2 y3 y4 y5 hYB HKJ HMC HX
       gi_wp2
       go_roundw
       case rel=>first|exact⟨j+1,q',sp',by simp,by have:=hlt;omega,hq',HM7,HK7,fun _=>HDN.out⟩|exact⟨_,_,_,_,_,_,_,_,_,_,_,_,_,_,_,_,_,⟨j+1,q',sp',by simp,by have:=hlt;omega,hq',HM7,HK7,fun _=>HDN.out⟩,rfl⟩
       case measure=>simp[intOf];have:=hlt;omega
    ·gi_wp2_with fail
     obtain⟨wo,hwo⟩:∃wo,wo=wr:=⟨_,rfl⟩
     rw[←hwo]at HST HKW z0r z1r ⊢;clear hwo
     gi_loopw [52] (fun v wr=>∃(j q:Nat) (sp:Bool),v= .int .i64 j∧j≤x.t.length∧q≤4096∧Hid (Dt.Mid J Jx x pre0 p d s t u y l lb (Dt.doneS x 1++Dt.pres (x.t.take j)) q sp w wr)∧Hid (Keep (Dt.Ch p d t lb) wb wr)∧Hid (sp=false→Dt.InT x deep a j q)) (fun v _=>x.t.length - (intOf v).toNat)
     case atStart=>exact⟨0,q0,sp0,rfl,by omega,hq0,by simpa[Dt.pres]using HST,HKW,fun h=>Dt.int_start (HZ.out h)⟩
     case round=>
      obtain⟨j,q,sp,rfl,hj,hq,HM,HKJ,HD⟩:=hrel;clear HST HKW HZ z0r z1r;by_cases hlt:j<x.t.length
      case neg=>
       have hge:(x.t.length:Int)≤(j:Int):=by omega
       have HME:Hid (Dt.Mid J Jx x pre0 p d s t u y l lb (Dt.doneS x (1+1)) q sp w wr):=by
        show Dt.Mid J Jx x pre0 p d s t u y l lb (Dt.doneS x (1+1)) q sp w wr;rw[←Dt.doneS_t x (by omega:x.t.length≤j)];exact HM.out
       have HDE:Hid (sp=false→Dt.AtS x deep a M (1+1) q):=fun h=>Dt.int_end (by omega) (HD.out h) HC.out
       clear HM HD
       gi_wp2
       go_roundw
       case rel=>exact⟨1+1,q,sp,rfl,by omega,hq,HME,HKJ,HDE⟩
       case measure=>simp[intOf]
      have hlti:(j:Int)<(x.t.length:Int):=by omega
      obtain⟨g,o,hao,hFg,hgl,hreps⟩:=HRT.out (by intro hc;rw[hc]at hlt;simp at hlt);have hreps':=Dt.Reps.keep (HKQ.out.trans HKJ.out) (fun k hk _=>HF.out k hk) _ hFg hgl hreps;obtain⟨vmj,vlj,vtj,hsx,hrp⟩:=hreps'.at j hlt;obtain⟨a1,n1,c1,a2,n2,c2,a3,n3,c3,rfl,rfl,rfl⟩:=hrp.forms;obtain⟨yd,hyy⟩:∃yd,x.t[j]=yd:=⟨_,rfl⟩
      have HX:=zh hyy;rw[hyy]at hsx hrp;subst hao;obtain⟨y0,y1,y2,y3,y4,y5⟩:=hsx;obtain⟨wc,hwc⟩:∃wc,wr.alloc (.cells #[.int .i64 yd.k,.int .i64 yd.n,.string yd.s,(.slice a1 n1 c1),(.slice a2 n2 c2),(.slice a3 n3 c3)] 25)=wc:=⟨_,rfl⟩
      have hbc:Below wr.heap.size wr wc:=by rw[←hwc];exact(Below.refl _ _).alloc (Nat.le_refl _) _
      have ct1:=HM.out.cell;have HBR:Hid (B0≤wr.heap.size):=Nat.le_trans HBB.out HKJ.out.size;have HMC:=zh (HM.out.below HJ.out HJX.out HBR.out hbc);have ct2:=HMC.out.cell;have HBC:=zh hbc;have HRP:=zh (hrp.below hbc)
      cases sp with
      |true=>
       clear hreps hreps' hyy hbc hrp hgl hFg HD HM
       gi_wp2
       go_ret;exact⟨rfl,true,HMC.out.stopped⟩
      |false=>
       obtain⟨hEc,xs,hxs,hJc⟩:=HMC.out.going;have HST:=Dt.int_step hlt (HD.out rfl);rw[hyy]at HST;have cu2:=hEc.cu;have hsw:=Dt.six_new wr yd.k yd.n yd.s (.slice a1 n1 c1) (.slice a2 n2 c2) (.slice a3 n3 c3) 25;rw[hwc]at hsw;have hpx:=Dt.prefix_t hlt;rw[hyy]at hpx;have hN:(pre0++xs).length+(Dt.pre yd).length≤N:=by
        have h1:=hpx.length_le;have h2:=HLEN.out;have h3:xs.length=(Dt.doneS x 1++Dt.pres (x.t.take j)).length:=by rw[←hxs,List.length_map]
        rw[List.length_append]at h1 ⊢;omega
       have hcall:=HT.out x.t[j] (List.getElem_mem hlt) F (deep+1) q (.slice a1 n1 c1) (.slice a2 n2 c2) (.slice a3 n3 c3) wc p d s t u y (pre0++xs);rw[hyy]at hcall;have hwf:=HWT.out.at j hlt;have hfi:=Dt.fines_at HFT.out j hlt;rw[hyy]at hwf hfi;have hcall2:=hcall hwf hfi HRP.out HF.out hEc HA.out (Nat.le_trans HBR.out hbc.size) (by omega) hq HST.1 hJc hN;rw[show(((deep+1:Nat):Int))=(deep:Int)+1 by omega]at hcall2;obtain⟨q',hq''⟩:∃q',q'=(Dt.chk yd (deep+1) q).2:=⟨_,rfl⟩
       have hq':q'≤4096:=by rw[hq''];exact Dt.chk_le yd (deep+1) q hq
       rw[←hq'']at hcall2 HST;have HCALL:=zh hcall2;have HDN:=zh HST.2;have HPX:=zh hpx;have HXS:=zh hxs;obtain⟨YB,hYB⟩:∃YB,wr.heap.size=YB:=⟨_,rfl⟩
       rw[hYB]at hsw;have s0:wc.cell? ⟨YB,0,none⟩=some (.int .i64 yd.k):=hsw 0 (by omega);have s1:wc.cell? ⟨YB,1,none⟩=some (.int .i64 yd.n):=hsw 1 (by omega);have s2:wc.cell? ⟨YB,2,none⟩=some (.string yd.s):=hsw 2 (by omega);have s3:wc.cell? ⟨YB,3,none⟩=some (.slice a1 n1 c1):=hsw 3 (by omega);have s4:wc.cell? ⟨YB,4,none⟩=some (.slice a2 n2 c2):=hsw 4 (by omega);have s5:wc.cell? ⟨YB,5,none⟩=some (.slice a3 n3 c3):=hsw 5 (by omega);clear hreps hreps' hyy hbc hrp hgl hFg HD HM hEc hxs hJc HST hsw hpx hN hcall hwf hfi hcall2 hq''
       gi_wp2_with fail
       clear hwc;refine⟨trivial,(Dt.calls_wide HCALL.out).mono ?_⟩;rintro e w7 ⟨rfl,sp',hM7⟩;have HK7:=zh ((HKJ.out.below HBC.out).trans hM7.1);have HM7:Hid (Dt.Mid J Jx x pre0 p d s t u y l lb (Dt.doneS x 1++Dt.pres (x.t.take (j+1))) q' sp' w w7):=by
        have h:=Dt.Mid.child HMC.out.1 HXS.out HPX.out hM7;show Dt.Mid J Jx x pre0 p d s t u y l lb (Dt.doneS x 1++Dt.pres (x.t.take (j+1))) q' sp' w w7;rw[Dt.pres_snoc x.t j hlt,HX.out,←List.append_assoc];exact h
       clear hM7 HCALL HBC HRP ct1 ct2 cu2 s0 s1 s2 s3 s4 s5 y0 y1 y2 y3 y4 y5 hYB HKJ HMC HX
       gi_wp2
       go_roundw
       case rel=>first|exact⟨j+1,q',sp',by simp,by have:=hlt;omega,hq',HM7,HK7,fun _=>HDN.out⟩|exact⟨_,_,_,_,_,_,_,_,_,_,_,_,_,_,_,_,_,⟨j+1,q',sp',by simp,by have:=hlt;omega,hq',HM7,HK7,fun _=>HDN.out⟩,rfl⟩
       case measure=>simp[intOf];have:=hlt;omega
    ·have HF2:Hid (∃sp,Dt.Mid J Jx x pre0 p d s t u y l lb (Dt.pre x) M.2 sp w wr):=by
      cases sp0 with
      |true=>exact⟨true,HST.out.stopped⟩
      |false=>exact⟨false,by rw[←Dt.doneS_two,Dt.ats_two (HZ.out rfl)];exact HST.out⟩
     clear HZ HST
     gi_wp2
     go_ret;exact⟨rfl,HF2.out⟩
end Go.Proofs.YtfjmlfbohenmfaaGreat
