/-
 core.walking.goes: the walk through a core's parts. (Expanded from src/XCoGoes.src by pp.py.)
-/
import Derived.Test.YtfjmlfbohenmfaaGreatCoreBBM10
import Derived.Test.YtfjmlfbohenmfaaGreatCoreBBM2
namespace Go.Proofs.YtfjmlfbohenmfaaGreat
open Go.RowKit Go.Maps Go.WideMaps
attribute [local go_sem] Oper.semAt_some
set_option maxRecDepth 100000 in
set_option maxHeartbeats 16000000 in
theorem coGoes_step(E:Co.WE)(hE:E.Ok)(c:Co.C)(hch:∀y∈c.l,Co.GoesIs E y):Co.GoesIs E c:=by
 intro G vm vl vt vp vk w deep win top cnt bdl sc bd fr n seen hWf hRep hG hdeep hWk hn hcnt hsc hbd hwin hJ htot;obtain⟨-,⟨ap,cp,rfl,hlcp,-⟩,⟨ak,ck,rfl,hlck,-⟩⟩:=(Co.rep_iff _ _ _ _ _ _ _ _).1 hRep;unfold Co.V;obtain⟨w1,hw1⟩:∃w1,w.alloc (.cells #[.int .i64 c.k,.int .i64 c.n,.string c.s,.int .i64 c.d.k,.int .i64 c.d.n,.string c.d.s,vm,vl,vt,.slice ap c.p.length cp,.slice ak c.l.length ck] 28)=w1:=⟨_,rfl⟩
 obtain⟨hb1,hs1⟩:=new_below hw1;obtain⟨C0,hC0⟩:∃C0,w.heap.size=C0:=⟨_,rfl⟩
 have Hc:=zh (Co.BcE.new hE hw1 hWk hJ);rw[hC0]at Hc;have HWK:=zh (hWk.below hb1);have HWK0:=zh hWk;have HRP:=zh (hRep.below hb1);have HC0:=zh hC0;have HB1:=zh hb1;have HJ1:Hid (E.J seen w1):=hE.jst _ _ _ hJ (keep_of_below hb1);have Hx:Hid (Hp w1 E.X #[.int .i64 (cnt:Int),.map (some E.ms),.map (some E.mb),.map E.mf,E.see,.bool false] 81):=HWK.out.hp;have HE:=zh hE;have HCH:=zh hch;have HWF:=zh hWf;have HG:=zh hG;have HN:=zh hn;have HSC:=zh hsc;have HBD:=zh hbd;have HWIN:=zh hwin;have HTOT:=zh htot;have x0:=Hx.out.cell 0 rfl;have x1:=Hx.out.cell 1 rfl;have x2:=Hx.out.cell 2 rfl;have x3:=Hx.out.cell 3 rfl;have x4:=Hx.out.cell 4 rfl;have x5:=Hx.out.cell 5 rfl;have c0:=Hc.out.cell 0 rfl;have c1:=Hc.out.cell 1 rfl;have c2:=Hc.out.cell 2 rfl;have c3:=Hc.out.cell 3 rfl;have c4:=Hc.out.cell 4 rfl;have c5:=Hc.out.cell 5 rfl;have c6:=Hc.out.cell 6 rfl;have c7:=Hc.out.cell 7 rfl;have c8:=Hc.out.cell 8 rfl;have c9:=Hc.out.cell 9 rfl;have c10:=Hc.out.cell 10 rfl;have hsg:=singleC_any c vm vl vt (.slice ap c.p.length cp) (.slice ak c.l.length ck) w1 hWf HRP.out;unfold Co.V at hsg;clear hb1 hs1 hE hch hWf hRep hG hWk hn hsc hbd hwin hJ htot;by_cases g1:128<deep
 ·have b1:decide ((128:Int)<(deep:Int))=true:=decide_eq_true (by omega);have HR:Hid (Co.GPost E c deep win top cnt bdl sc fr seen w (.returned (.int .i64 4)) w1):=Co.GPost.fault (by rw[Co.goes_fault (by rw[Co.here_deep g1];decide),Co.here_deep g1]) (by decide) HWK.out (Co.lows HE.out HWK0.out.hl HB1.out) hcnt;clear g1;go_enter Tryz.func36,Tryz.ntmps36;go_wp2;go_ret;exact HR.out
 have b1:decide ((128:Int)<(deep:Int))=false:=decide_eq_false (by omega);by_cases g2:8192≤cnt
 ·have b2:decide ((8192:Int)≤(cnt:Int))=true:=decide_eq_true (by omega);have HR:Hid (Co.GPost E c deep win top cnt bdl sc fr seen w (.returned (.int .i64 3)) w1):=Co.GPost.fault (by rw[Co.goes_fault (by rw[Co.here_long g1 g2];decide),Co.here_long g1 g2]) (by decide) HWK.out (Co.lows HE.out HWK0.out.hl HB1.out) hcnt;clear g1 g2;go_enter Tryz.func36,Tryz.ntmps36;go_wp2;go_ret;exact HR.out
 have b2:decide ((8192:Int)≤(cnt:Int))=false:=decide_eq_false (by omega);have HF70:Hid (∀wx,Below w1.heap.size w1 wx→Co.alone c=false∨(c.k=6∧top=false)→Co.GPost E c deep win top cnt bdl sc fr seen w (.returned (.int .i64 70)) wx):=fun wx hb ha=>
  Co.GPost.fault (by rw[Co.goes_fault (by rw[Co.here_alone g1 g2 ha];decide),Co.here_alone g1 g2 ha]) (by decide) (HWK.out.below hb) (Co.lows HE.out HWK0.out.hl ((btr HB1.out hb))) hcnt
 cases hal:Co.alone c
 ·have HAL:=zh hal;rw[hal]at hsg;clear hal g1 g2;go_enter Tryz.func36,Tryz.ntmps36;go_wp2_with fail
  refine hsg.mono ?_;rintro e w2 ⟨rfl,hb2⟩;have HR:=zh (HF70.out w2 hb2 (.inl HAL.out));clear hsg hb2 hw1;clear x0 x1 x2 x3 x4 x5 c0 c1 c2 c3 c4 c5 c6 c7 c8 c9 c10;go_wp2;go_ret;exact HR.out
 rw[hal]at hsg;have HAL:=zh hal;by_cases g3:c.k=6∧top=false
 ·have HAL:=zh g3;have b3:(c.k==6)=true:=by simpa using g3.1
  have b4:top=false:=g3.2;subst b4;clear hal g1 g2 g3;go_enter Tryz.func36,Tryz.ntmps36;go_wp2_with fail
  refine hsg.mono ?_;rintro e w2 ⟨rfl,hb2⟩;have HR:=zh (HF70.out w2 hb2 (.inr HAL.out));have Hc2:=zh (Hc.out.below HE.out HWK.out.hl hb2);clear hsg hb2 hw1;clear x0 x1 x2 x3 x4 x5 c0 c1 c2 c3 c4 c5 c6 c7 c8 c9 c10;have c0:=Hc2.out.cell 0 rfl;go_wp2;go_ret;exact HR.out
 have HNA:Hid (¬ (Co.alone c=false∨(c.k=6∧top=false))):=fun h=>h.elim (fun h=>by rw[HAL.out]at h;cases h) g3
 go_enter Tryz.func36,Tryz.ntmps36;go_upto_region 7 with fail
 clear hal
 go_cut [30] (fun v wx=>v= .bool false∧Below w1.heap.size w1 wx)
 case first=>
  clear g1 g2;go_wp2_with fail
  refine hsg.mono ?_;rintro e w2 ⟨rfl,hb2⟩;have Hc2:=zh (Hc.out.below HE.out HWK.out.hl hb2);have HB2:=zh hb2;clear hsg hb2 hw1;clear x0 x1 x2 x3 x4 x5 c0 c1 c2 c3 c4 c5 c6 c7 c8 c9 c10;have c0:=Hc2.out.cell 0 rfl;by_cases g4:c.k=6
  ·have b3:(c.k==6)=true:=by simpa using g4
   cases top with
   |false=>exact absurd ⟨g4,rfl⟩ g3
   |true=>
    clear g3 g4;go_wp2;go_meet;exact⟨rfl,HB2.out⟩
  ·have b3:(c.k==6)=false:=by simpa using g4
   clear g3 g4;go_wp2;go_meet;exact⟨rfl,HB2.out⟩
 case rest=>
  obtain⟨rfl,hb2⟩:=hcut;have Hc2:=zh (Hc.out.below HE.out HWK.out.hl hb2);have HWK2:=zh (HWK.out.below hb2);have Hx2:Hid (Hp wc E.X #[.int .i64 (cnt:Int),.map (some E.ms),.map (some E.mb),.map E.mf,E.see,.bool false] 81):=HWK2.out.hp;have HB2:Hid (Below w.heap.size w wc):=btr HB1.out hb2;have HRP2:Hid (Co.Rep G wc c vm vl vt (.slice ap c.p.length cp) (.slice ak c.l.length ck)):=HRP.out.below hb2;have HJ2:Hid (E.J seen wc):=HE.out.jst _ _ _ HJ1.out (keep_of_below hb2);have HG1:=zh g1;have HG2:=zh g2;clear hsg hb2 hw1 g1 g2 g3 Hc HWK Hx HJ1 HRP HF70 HB1;clear x0 x1 x2 x3 x4 x5 c0 c1 c2 c3 c4 c5 c6 c7 c8 c9 c10;have x0:=Hx2.out.cell 0 rfl;have x1:=Hx2.out.cell 1 rfl;have x2:=Hx2.out.cell 2 rfl;have x3:=Hx2.out.cell 3 rfl;have x4:=Hx2.out.cell 4 rfl;have x5:=Hx2.out.cell 5 rfl;have c0:=Hc2.out.cell 0 rfl;have c1:=Hc2.out.cell 1 rfl;have c2:=Hc2.out.cell 2 rfl;have c3:=Hc2.out.cell 3 rfl;have c4:=Hc2.out.cell 4 rfl;have c5:=Hc2.out.cell 5 rfl;have c6:=Hc2.out.cell 6 rfl;have c7:=Hc2.out.cell 7 rfl;have c8:=Hc2.out.cell 8 rfl;have c9:=Hc2.out.cell 9 rfl;have c10:=Hc2.out.cell 10 rfl;obtain⟨⟨hn1,hn2⟩,-,-,-,-,-,-⟩:=Co.wf_parts HWF.out;have hlk:=fun m=>((HWK2.out.hs.below (Co.drewN_below wc m)).has hn1 hn2)
  rw[HSC.out]at hlk;obtain⟨w2,rfl⟩:∃w2,w2=wc:=⟨_,rfl⟩
  obtain⟨B,hB⟩:∃B,B=decide ((c.k=2∨c.k=4)∧win.contains c.n=false):=⟨_,rfl⟩
  have HB:=zh hB;clear hB;go_upto_region 9 with fail
  go_cut [60] (fun v wx=>v= .bool B∧Below w2.heap.size w2 wx)
  case first=>
   by_cases h2:c.k=2∨c.k=4
   case neg=>
    have b3:(c.k==2)=false:=by simpa using fun e=>h2 (.inl e)
    have b4:(c.k==4)=false:=by simpa using fun e=>h2 (.inr e)
    have hB:B=false:=by rw[HB.out];exact decide_eq_false fun h=>h2 h.1
    subst hB;clear h2 hlk
    go_quiet (fail)
    go_wp2;go_meet;exact⟨rfl,⟨rfl,rfl,rfl,Nat.le_refl _,fun _ _=>rfl⟩⟩
   cases hct:win.contains c.n
   ·have hB:B=true:=by rw[HB.out];exact decide_eq_true ⟨h2,hct⟩
    subst hB;rw[hct]at hlk;clear hct;by_cases h3:c.k=2
    ·have b3:(c.k==2)=true:=by simpa using h3
     clear h2 h3
     go_quiet (fail)
     go_wp2;go_meet;exact⟨rfl,⟨rfl,rfl,rfl,Nat.le_refl _,fun _ _=>rfl⟩⟩
    ·have b3:(c.k==2)=false:=by simpa using h3
     have b4:(c.k==4)=true:=by simpa using h2.resolve_left h3
     clear h2 h3
     go_quiet (fail)
     go_wp2;go_meet;exact⟨rfl,⟨rfl,rfl,rfl,Nat.le_refl _,fun _ _=>rfl⟩⟩
   ·have hB:B=false:=by rw[HB.out];exact decide_eq_false fun h=>by rw[hct]at h;cases h.2
    subst hB;rw[hct]at hlk;clear hct;by_cases h3:c.k=2
    ·have b3:(c.k==2)=true:=by simpa using h3
     clear h2 h3
     go_quiet (fail)
     go_wp2;go_meet;exact⟨rfl,⟨rfl,rfl,rfl,Nat.le_refl _,fun _ _=>rfl⟩⟩
    ·have b3:(c.k==2)=false:=by simpa using h3
     have b4:(c.k==4)=true:=by simpa using h2.resolve_left h3
     clear h2 h3
     go_quiet (fail)
     go_wp2;go_meet;exact⟨rfl,⟨rfl,rfl,rfl,Nat.le_refl _,fun _ _=>rfl⟩⟩
  case rest=>
   obtain⟨rfl,hb3⟩:=hcut;obtain⟨w3,rfl⟩:∃w3,w3=wc:=⟨_,rfl⟩
   have Hc3:=zh (Hc2.out.below HE.out HWK2.out.hl hb3);have HWK3:=zh (HWK2.out.below hb3);have Hx3:Hid (Hp w3 E.X #[.int .i64 (cnt:Int),.map (some E.ms),.map (some E.mb),.map E.mf,E.see,.bool false] 81):=HWK3.out.hp;have HB3:Hid (Below w.heap.size w w3):=btr HB2.out hb3;have HRP3:Hid (Co.Rep G w3 c vm vl vt (.slice ap c.p.length cp) (.slice ak c.l.length ck)):=HRP2.out.below hb3;have HJ3:Hid (E.J seen w3):=HE.out.jst _ _ _ HJ2.out (keep_of_below hb3);clear hb3 Hc2 HWK2 Hx2 HB2 HRP2 HJ2 hlk;clear x0 x1 x2 x3 x4 x5 c0 c1 c2 c3 c4 c5 c6 c7 c8 c9 c10;have x0:=Hx3.out.cell 0 rfl;have x1:=Hx3.out.cell 1 rfl;have x2:=Hx3.out.cell 2 rfl;have x3:=Hx3.out.cell 3 rfl;have x4:=Hx3.out.cell 4 rfl;have x5:=Hx3.out.cell 5 rfl;have c0:=Hc3.out.cell 0 rfl;have c1:=Hc3.out.cell 1 rfl;have c2:=Hc3.out.cell 2 rfl;have c3:=Hc3.out.cell 3 rfl;have c4:=Hc3.out.cell 4 rfl;have c5:=Hc3.out.cell 5 rfl;have c6:=Hc3.out.cell 6 rfl;have c7:=Hc3.out.cell 7 rfl;have c8:=Hc3.out.cell 8 rfl;have c9:=Hc3.out.cell 9 rfl;have c10:=Hc3.out.cell 10 rfl
   go_upto_if 60 with fail
   go_cut [] (fun wx=>Co.Mid1 E c vm vl vt (.slice ap c.p.length cp) (.slice ak c.l.length ck) G C0 w cnt win sc bd fr seen wx)
   case first=>
    cases B with
    |false=>
     have HM:Hid (Co.Mid1 E c vm vl vt (.slice ap c.p.length cp) (.slice ak c.l.length ck) G C0 w cnt win sc bd fr seen w3):=by
      have hno:¬ ((c.k=2∨c.k=4)∧win.contains c.n=false):=of_decide_eq_false HB.out.symm;refine⟨fr,n,HWK3.out,Hc3.out,HRP3.out,Co.lows HE.out HWK0.out.hl HB3.out,by have:=HN.out;omega,fun x=> ?_,fun h=>hno ⟨h.1,h.2.2⟩,HJ3.out⟩;rw[if_neg hno];simp
     go_wp2;go_meet;exact HM.out
    |true=>
     have hyes:(c.k=2∨c.k=4)∧win.contains c.n=false:=of_decide_eq_true HB.out.symm
     cases hmf:E.mf with
     |none=>
      have HR:Hid (Co.GPost E c deep win top cnt bdl sc fr seen w (.returned (.int .i64 70)) w3):=by
       have h4:(c.k=2∨c.k=4)∧E.mf.isSome=false∧win.contains c.n=false:=⟨hyes.1,by rw[hmf];rfl,hyes.2⟩
       have e:=Co.here_free (opn:=E.mf.isSome) (bd:=bdl) HG1.out HG2.out HNA.out h4;exact Co.GPost.fault (by rw[Co.goes_fault (by rw[e];decide),e]) (by decide) HWK3.out (Co.lows HE.out HWK0.out.hl HB3.out) hcnt
      rw[hmf]at x3;have heq:(binOp .eql 79 (.map none) (.map none)).run Tryz.prog w3= .ok (.bool true) w3:=run_eql_map_nil w3 _ _ _ none Tryz.underlying79;clear hyes hmf;go_wp2;go_ret;exact HR.out
     |some fb=>
      obtain⟨w4,hw4,hs4,hk4⟩:=((HWK3.out.hf fb hmf).below (Co.drew_below w3)).put (by have:=HN.out;unfold maxLen;omega) hn1 hn2;have hkw:Keep (fun k=>k=fb) w3 w4:=(keep_of_below (Co.drew_below w3)).trans hk4;have HM:Hid (Co.Mid1 E c vm vl vt (.slice ap c.p.length cp) (.slice ak c.l.length ck) G C0 w cnt win sc bd fr seen w4):=by
       have hfo:E.own fb:= .inr (.inr (.inr hmf));have hno:∀k,E.own k→k≠fb→True:=fun _ _ _=>trivial
       refine⟨(fun x=>fr x||decide (x=c.n)),n+1,⟨HWK3.out.hp.keep hkw (fun e=>HE.out.xf (by rw[e];exact hmf)),(HWK3.out.hs.keep hkw (fun e=>HE.out.sf (by rw[e];exact hmf))).mono (Nat.le_succ n),(HWK3.out.hb.keep hkw (fun e=>HE.out.bf (by rw[e];exact hmf))).mono (Nat.le_succ n),fun b hb=>by rw[hmf]at hb;cases hb;exact hs4,Nat.le_trans HWK3.out.hl hkw.size⟩,Hc3.out.own HE.out HWK3.out.hl (hkw.le (fun k e=>by rw[e];exact hfo)),Co.Rep.keep hkw (fun b hb _ e=>HG.out b hb (by rw[e];exact .inl hfo)) c HRP3.out,(Co.lows HE.out HWK0.out.hl HB3.out).trans (Co.KE.own HE.out HWK3.out.hl (hkw.le (fun k e=>by rw[e];exact hfo))),by have:=HN.out;omega,fun x=> ?_,fun h=>(by rw[hmf]at h;cases h.2.1),HE.out.jst _ _ _ HJ3.out (hkw.le (fun k e=>by rw[e];exact hfo))⟩;rw[if_pos hyes];simp
      rw[hmf]at x3;have heq:(binOp .eql 79 (.map (some fb)) (.map none)).run Tryz.prog w3= .ok (.bool false) w3:=run_eql_map_nil w3 _ _ _ (some fb) Tryz.underlying79;clear hyes hmf hs4 hk4 hkw;go_wp2
      go_region
      go_wp2;go_meet;exact HM.out
   case rest=>
    obtain⟨fr1,n1,hwk,hbc,hrep,hkp,hn1',hfr1,hnofree,hj⟩:=hcut;obtain⟨w4,rfl⟩:∃w4,w4=wc:=⟨_,rfl⟩
    have HL0:Hid (Co.L1 E c vm vl vt (.slice ap c.p.length cp) (.slice ak c.l.length ck) G C0 w cnt bdl sc bd fr1 n1 seen 0 w4):=
     ⟨n1,⟨hwk.hp,hwk.hs.ext (fun x=>by simp),hwk.hb.ext (fun x=>by simp),hwk.hf,hwk.hl⟩,hbc,hrep,hkp,Nat.le_refl _,hj,rfl⟩
    have HN1:=zh hn1';have HFR1:=zh hfr1;have HNF:=zh hnofree;clear HWK3 Hx3 HB3 HRP3 HJ3 HB Hc3;clear x0 x1 x2 x3 x4 x5 c0 c1 c2 c3 c4 c5 c6 c7 c8 c9 c10;have c9:=hbc.cell 9 rfl;clear hwk hbc hrep hkp hn1' hfr1 hnofree hj;have hpl:c.p.length≤32:=Co.alone_p32 HAL.out;go_upto_block 1 with fail
    clear c9
    go_cut [] (fun wx=>Co.L1 E c vm vl vt (.slice ap c.p.length cp) (.slice ak c.l.length ck) G C0 w cnt bdl sc bd fr1 n1 seen c.p.length wx)
    case first=>
     go_wp2
     go_loopw [75] (fun v wr=>∃j:Nat,v= .int .i64 j∧j≤c.p.length∧Hid (Co.L1 E c vm vl vt (.slice ap c.p.length cp) (.slice ak c.l.length ck) G C0 w cnt bdl sc bd fr1 n1 seen j wr)) (fun v _=>c.p.length - (intOf v).toNat)
     case atStart=>exact⟨0,rfl,by omega,HL0⟩
     case round=>
      clear HL0;obtain⟨j,rfl,hj,HL⟩:=hrel;by_cases hlt:j<c.p.length
      case neg=>
       have hge:(c.p.length:Int)≤(j:Int):=by omega
       have HE1:Hid (Co.L1 E c vm vl vt (.slice ap c.p.length cp) (.slice ak c.l.length ck) G C0 w cnt bdl sc bd fr1 n1 seen c.p.length wr):=by
        have:=HL.out;rw[show j=c.p.length by omega]at this;exact this
       go_wp2;go_meet;exact HE1.out
      have hlti:(j:Int)<(c.p.length:Int):=by omega
      obtain⟨n',hwk,hbc,hrep,hkp,hn',hjs,hany⟩:=HL.out;obtain⟨-,⟨_,_,he,_,hrow⟩,-⟩:=(Co.rep_iff _ _ _ _ _ _ _ _).1 hrep;injection he with he1 he2 he3
      subst he1;clear he2 he3;obtain⟨b,o',rfl,hGb,hbl,hcell⟩:=hrow (by intro h0;rw[h0]at hlt;simp at hlt);have p0:=hcell j hlt;obtain⟨x,hx⟩:∃x,c.p[j]=x:=⟨_,rfl⟩
      rw[hx]at p0;obtain⟨-,-,-,-,hpr,-,-⟩:=Co.wf_parts HWF.out;obtain⟨hx1,hx2⟩:=hpr x (by rw[←hx];exact List.getElem_mem hlt);have hnd:c.p.Nodup:=by
       rcases Co.alone_p HAL.out with e|e
       ·rw[e]at hlt;simp at hlt
       ·exact e.2
      have hlk:=hwk.hb.has hx1 hx2;have hnb:=Co.not_before hnd hlt;rw[hx]at hnb;rw[hnb,Bool.or_false,HBD.out]at hlk;have x2:=hwk.hp.cell 2 rfl;have HWKR:=zh hwk;have HBCR:=zh hbc;have HREPR:=zh hrep;have HKPR:=zh hkp;have HNR:=zh hn';have HJR:=zh hjs;have HANY:=zh hany;have HX:=zh hx;clear hwk hbc hrep hkp hn' hjs hany hx hcell hrow hpr hnb hnd;cases hbx:bdl.contains x
      case true=>
       have HR:Hid (Co.GPost E c deep win top cnt bdl sc fr seen w (.returned (.int .i64 70)) wr):=by
        have e:=Co.here_last (opn:=E.mf.isSome) (bd:=bdl) (win:=win) HG1.out HG2.out HNA.out HNF.out;rw[if_pos (by rw[List.any_eq_true];exact⟨x,by rw[←HX.out];exact List.getElem_mem hlt,hbx⟩)]at e;exact Co.GPost.fault (by rw[Co.goes_fault (by rw[e];decide),e]) (by decide) HWKR.out HKPR.out hcnt
       rw[hbx]at hlk;clear hbx;go_wp2;go_ret;exact HR.out
      case false=>
       rw[hbx]at hlk;have hm1:n'<maxLen:=by have h1:=HNR.out;have h2:=HN1.out;unfold maxLen;omega
       have hd:=Co.drew_below wr;obtain⟨v0,st0,W1,e1,k1,q1⟩:=(HWKR.out.hb.below hd).entry hm1 hx1 hx2;obtain⟨W2,e2,s2,k2⟩:=q1 W1 rfl;have k02:Keep (fun k=>k=E.mb) wr W2:=(keep_of_below hd).trans (k1.trans k2);obtain⟨v1,st1,W3,e3,k3,q3⟩:=(HWKR.out.hs.keep k02 HE.out.sb).entry hm1 hx1 hx2;obtain⟨W4,e4,s4,k4⟩:=q3 W3 rfl;have k24:Keep (fun k=>k=E.ms) W2 W4:=k3.trans k4;have k04:Keep (fun k=>k=E.mb∨k=E.ms) wr W4:=(k02.le fun k e=> .inl e).trans (k24.le fun k e=> .inr e);have hown:∀k,k=E.mb∨k=E.ms→E.own k:=fun k e=>e.elim (fun e=> .inr (.inr (.inl e))) (fun e=> .inr (.inl e))
       have HL4:Hid (Co.L1 E c vm vl vt (.slice (some ⟨b,o',none⟩) c.p.length cp) (.slice ak c.l.length ck) G C0 w cnt bdl sc bd fr1 n1 seen (j+1) W4):=by
        refine⟨n'+1,⟨HWKR.out.hp.keep k04 (fun e=>e.elim HE.out.xb HE.out.xs),s4.ext fun y=> ?_,(s2.keep k24 (fun e=>HE.out.sb e.symm)).ext fun y=> ?_,fun b hb=>((HWKR.out.hf b hb).keep k04 (fun e=>e.elim (fun e=>HE.out.bf (by rw[hb,e])) (fun e=>HE.out.sf (by rw[hb,e])))).mono (Nat.le_succ _),Nat.le_trans HWKR.out.hl k04.size⟩,HBCR.out.own HE.out HWKR.out.hl (k04.le hown),Co.Rep.keep k04 (fun b hb _ e=>HG.out b hb (.inl (hown b e))) c HREPR.out,HKPR.out.trans (Co.KE.own HE.out HWKR.out.hl (k04.le hown)),by have:=HNR.out;omega,HE.out.jst _ _ _ HJR.out (k04.le hown),?_⟩
        ·rw[Co.contains_take hlt,HX.out,Bool.or_assoc]
        ·rw[Co.contains_take hlt,HX.out,Bool.or_assoc]
        ·rw[List.take_succ_eq_append_getElem hlt,List.any_append,HANY.out,HX.out];simp only[List.any_cons,List.any_nil,Bool.or_false,Bool.false_or];exact hbx
       have x1:=HWKR.out.hp.cell 1 rfl;clear hm1 hd k1 q1 s2 k2 k02 k3 q3 s4 k4 k24 k04 hown hbx;go_wp2
       go_region
       go_wp2;go_roundw
       case rel=>exact⟨j+1,by simp,by omega,HL4⟩
       case measure=>simp[intOf];omega
    case rest=>
     obtain⟨w5,rfl⟩:∃w5,w5=wc:=⟨_,rfl⟩
     obtain⟨n',hwk,hbc,hrep,hkp,hn',hjs,hany⟩:=hcut;rw[List.take_length]at hwk hany;clear HL0;have hx5:=hwk.hp;have x0:=hx5.cell 0 rfl;have xf0:=hx5.frz 0;obtain⟨w6,hw6⟩:∃w6,w5.setCell ⟨E.X,0,none⟩ (.int .i64 ((cnt:Int)+1))=w6:=⟨_,rfl⟩
     have k56:Keep (fun k=>k=E.X) w5 w6:=by rw[←hw6];exact set_keep _ _ _ _
     have hx6:Hp w6 E.X #[.int .i64 ((cnt:Int)+1),.map (some E.ms),.map (some E.mb),.map E.mf,E.see,.bool false] 81:=by rw[←hw6];exact hx5.set 0 _
     have hxo:∀k,k=E.X→E.own k:=fun k e=> .inl e
     have hbc6:=hbc.own HE.out hwk.hl (k56.le hxo);have HBC6:=zh hbc6;have HREP6:Hid (Co.Rep G w6 c vm vl vt (.slice ap c.p.length cp) (.slice ak c.l.length ck)):=Co.Rep.keep k56 (fun b hb _ e=>HG.out b hb (.inl (hxo b e))) c hrep;have HKP6:Hid (Co.KE E w w6):=hkp.trans (Co.KE.own HE.out hwk.hl (k56.le hxo));have HWK6:Hid (Co.Wk E w6 (cnt+1) false (fun x=>sc x||c.p.contains x) (fun x=>bd x||c.p.contains x) fr1 n'):=
      ⟨hx6,hwk.hs.keep k56 (fun e=>HE.out.xs e.symm),hwk.hb.keep k56 (fun e=>HE.out.xb e.symm),fun b hb=>(hwk.hf b hb).keep k56 (fun e=>HE.out.xf (by rw[hb,e])),Nat.le_trans hwk.hl k56.size⟩
     have HJ6:Hid (E.J seen w6):=HE.out.jst _ _ _ hjs (k56.le hxo);have HN6:Hid (n'≤n1+32):=by show n'≤n1+32;omega
     have HANY:=zh hany;clear hwk hbc hrep hkp hn' hjs hany hx5 k56 hxo hbc6;go_upto_region 21 with fail
     clear x0 xf0;have HX6:=zh hx6;obtain⟨B2,hB2,hgd,hnil,htl⟩:∃B2:Bool,(binOp .neq 75 E.see .nilFunc).run Tryz.prog w6= .ok (.bool B2) w6∧(∀x y,(eqGuard .neq 75 x y E.see .nilFunc).run Tryz.prog w6= .ok () w6)∧(B2=false→∀pre x W,E.J pre W→E.J (pre++[x]) W)∧(B2=true→∃f cap,E.see= .func (.func f) #[] cap∧(∀args w,(callFunc f args).run Tryz.prog w= .ok (.enter f args) w)∧∀(G:Nat→Prop) (pre:List Co.C) (x:Co.C) (vm vl vt vp vk:Value) (W:World),E.J pre W→pre++[x]<+:E.tot→Co.Wf x→Co.Rep G W x vm vl vt vp vk→(∀k,G k→¬E.ch k)→Calls Tryz.prog f (#[Co.V x vm vl vt vp vk]++cap) W (Co.Told E pre x W)):=by
      rcases HE.out.told with⟨e,h⟩|⟨f,cap,e,h0,h⟩
      ·exact⟨false,by rw[e];exact Co.neq_see0 w6,fun x y=>(by rw[e];rfl),fun _=>h,fun e=>(by cases e)⟩
      ·exact⟨true,by rw[e];exact Co.neq_see _ _ _ w6,fun x y=>(by rw[e];rfl),fun e=>(by cases e),fun _=>⟨f,cap,e,h0,h⟩⟩
     have HNIL:=zh hnil;have HTL:=zh htl;have x4:=hx6.cell 4 rfl;clear hnil htl hx6
     go_upto_if 111 with fail
     clear hgd hB2 x4 hw6
     go_cut [] (fun wx=>Co.Mid3 E c vm vl vt (.slice ap c.p.length cp) (.slice ak c.l.length ck) G C0 w cnt sc bd fr1 n1 seen wx)
     case first=>
      cases B2 with
      |false=>
       have HM:Hid (Co.Mid3 E c vm vl vt (.slice ap c.p.length cp) (.slice ak c.l.length ck) G C0 w cnt sc bd fr1 n1 seen w6):=
        ⟨n',false,HWK6.out,HBC6.out,HREP6.out,HKP6.out,HN6.out,.inl ⟨rfl,HNIL.out rfl _ _ _ HJ6.out⟩⟩
       go_wp2;go_meet;exact HM.out
      |true=>
       obtain⟨f,cap,hse,hent,hcall⟩:=HTL.out rfl;have HX0:Hid (Hp w6.drew E.X #[.int .i64 ((cnt:Int)+1),.map (some E.ms),.map (some E.mb),.map E.mf,.func (.func f) #[] cap,.bool false] 81):=by
        have h:=HX6.out;rw[hse]at h;exact h.below (Co.drew_below w6)
       have HS0:Hid ((∃d,Hp w6.drew E.X #[.int .i64 ((cnt:Int)+1),.map (some E.ms),.map (some E.mb),.map E.mf,.func (.func f) #[] cap,.bool d] 81)∧Co.Bc w6.drew C0 c vm vl vt (.slice ap c.p.length cp) (.slice ak c.l.length ck)):=
        ⟨⟨false,HX0.out⟩,HBC6.out.bc.keep (S:=fun _=>False) (keep_of_below (Co.drew_below w6)) id⟩
       have HCALL:=zh hcall;have HPRE:Hid (seen++[c]<+:E.tot):=by
        refine List.IsPrefix.trans ?_ HTOT.out;obtain⟨ck',cn',cs',cd',cp',cl'⟩:=c;rw[Co.parts];exact⟨Co.partsL cl',by simp⟩
       have HSE:=zh hse;clear hcall hse;go_wp2;refine wp_region_noPanic ?_;refine wp_region_held_drew (S:=fun W=>(∃d,Hp W E.X #[.int .i64 ((cnt:Int)+1),.map (some E.ms),.map (some E.mb),.map E.mf,.func (.func f) #[] cap,.bool d] 81)∧Co.Bc W C0 c vm vl vt (.slice ap c.p.length cp) (.slice ak c.l.length ck)) (by kernel_rfl) HS0.out (fun hHeld=> ?_);refine Zm.u 0 ?_ rfl ?_ ?_;rotate_left
       ·intro w hSw;clear hSw;go_simp;try with_reducible rfl
       simp only[Act.put,za,zb,zc];refine Zm.u 1 ?_ rfl ?_ ?_;rotate_left
       ·intro w hSw;clear hSw;go_simp;try with_reducible rfl
       simp only[Act.put,za,zb,zc];refine Zm.u 2 ?_ rfl ?_ ?_;rotate_left
       ·intro w hSw;clear hSw;go_simp;try with_reducible rfl
       simp only[Act.put,za,zb,zc];refine Zm.u 3 ?_ rfl ?_ ?_;rotate_left
       ·intro w hSw;clear hSw;go_simp;try with_reducible rfl
       simp only[Act.put,za,zb,zc];refine Zm.u 4 ?_ rfl ?_ ?_;rotate_left
       ·intro w hSw;obtain⟨⟨_,hX⟩,-⟩:=hSw;have q4:=hX.cell 4 rfl;clear hX;go_simp;try with_reducible rfl
       simp only[Act.put,za,zb,zc];refine Zm.u 5 ?_ rfl ?_ ?_;rotate_left
       ·intro w hSw;obtain⟨-,hC⟩:=hSw;have hC:Hp w C0 _ _:=hC;have q0:=hC.cell 0 rfl;have q1:=hC.cell 1 rfl;have q2:=hC.cell 2 rfl;have q3:=hC.cell 3 rfl;have q4:=hC.cell 4 rfl;have q5:=hC.cell 5 rfl;have q6:=hC.cell 6 rfl;have q7:=hC.cell 7 rfl;have q8:=hC.cell 8 rfl;have q9:=hC.cell 9 rfl;have q10:=hC.cell 10 rfl;clear hC;go_simp;try with_reducible rfl
       simp only[Act.put,za,zb,zc];refine Zm.r 6 rfl (fun K hK=> ?_);go_simp;refine(HCALL.out G seen c vm vl vt (.slice ap c.p.length cp) (.slice ak c.l.length ck) w6.drew (HE.out.jst _ _ _ HJ6.out (keep_of_below (Co.drew_below w6))) HPRE.out HWF.out (HREP6.out.below (Co.drew_below w6)) HG.out).mono ?_;intro e w7 htold;obtain⟨b,rfl,hbj,hbx,hk7,hkd7⟩:=htold.b;dsimp only;have hx7:=HX0.out.keep hk7 (HE.out.lo _ (.inl rfl));have HKD7:Hid (Co.KD E w6 w7):=(Co.KD.own HE.out HWK6.out.hl (keep_of_below (Co.drew_below w6))).trans hkd7;have HBE7:=zh (HBC6.out.kd HKD7.out);clear hkd7;have hS7:(∃d,Hp w7 E.X #[.int .i64 ((cnt:Int)+1),.map (some E.ms),.map (some E.mb),.map E.mf,.func (.func f) #[] cap,.bool d] 81)∧Co.Bc w7 C0 c vm vl vt (.slice ap c.p.length cp) (.slice ak c.l.length ck):=
        ⟨⟨false,hx7⟩,HBE7.out.bc⟩
       have HS7:=zh hS7;have HX7:=zh hx7;have HBJ:=zh hbj;have HBX:=zh hbx;have HK7:Hid (Keep E.lb w6 w7):=(keep_of_below (Co.drew_below w6)).trans hk7;clear htold hx7 hS7 hbj hbx hk7;refine hK.out _ _ HS7.out (fun hHeld=> ?_);clear hK K;try simp only[Act.put,za,zb,zc]
       refine Zm.u 7 ?_ rfl ?_ ?_;rotate_left
       ·intro w hSw;clear hSw;go_simp;try with_reducible rfl
       simp only[Act.put,za,zb,zc];refine Zm.u 8 ?_ rfl ?_ ?_;rotate_left
       ·intro w hSw;clear hSw;go_simp;try with_reducible rfl
       simp only[Act.put,za,zb,zc];refine Zm.u 9 ?_ rfl ?_ ?_;rotate_left
       ·intro w hSw;clear hSw;go_simp;try with_reducible rfl
       simp only[Act.put,za,zb,zc];have xf5:=HX7.out.frz 5;have x5:=HX7.out.cell 5 rfl;refine Zm.r 10 rfl (fun K hK=> ?_);go_simp;refine hK.out _ _ ⟨⟨!b,HX7.out.set 5 _⟩,HS7.out.2.keep (set_keep w7 E.X 5 _) (fun e=>HBE7.out.no (.inl e))⟩ (fun hHeld=> ?_);clear hK K;try simp only[Act.put,za,zb,zc]
       refine wpAnyH_done (by kernel_rfl) ?_ _;refine NoPanic.normal ?_;have HM:Hid (Co.Mid3 E c vm vl vt (.slice ap c.p.length cp) (.slice ak c.l.length ck) G C0 w cnt sc bd fr1 n1 seen (w7.setCell ⟨E.X,5,none⟩ (.bool !b))):=by
        have k78:=set_keep w7 E.X 5 (.bool !b);have hxo:∀k,k=E.X→E.own k:=fun k e=> .inl e
        have hw7:Co.Wk E w7 (cnt+1) false (fun x=>sc x||c.p.contains x) (fun x=>bd x||c.p.contains x) fr1 n':=HWK6.out.keep HK7.out HE.out.lo;refine⟨n',!b,⟨?_,hw7.hs.keep k78 (fun e=>HE.out.xs e.symm),hw7.hb.keep k78 (fun e=>HE.out.xb e.symm),fun b' hb=>(hw7.hf b' hb).keep k78 (fun e=>HE.out.xf (by rw[hb,e])),Nat.le_trans hw7.hl k78.size⟩,HBE7.out.own HE.out hw7.hl (k78.le hxo),?_,(HKP6.out.trans ⟨HK7.out.le fun k e=> .inr e,HKD7.out⟩).trans (Co.KE.own HE.out hw7.hl (k78.le hxo)),HN6.out,?_⟩
        ·have h:=HX7.out.set 5 (.bool !b);rw[←HSE.out]at h;exact h
        ·exact Co.Rep.keep k78 (fun b' hb' _ e=>HG.out b' hb' (.inl (hxo b' e))) c (Co.Rep.keep HK7.out (fun b' hb' _ e=>HG.out b' hb' (.inr e)) c HREP6.out)
        ·cases b with
         |true=>exact .inl ⟨rfl,HE.out.jst _ _ _ (HBJ.out rfl) (k78.le hxo)⟩
         |false=>exact .inr ⟨rfl,HE.out.jxst _ _ _ (HBX.out rfl) (k78.le hxo)⟩
       go_wp2;go_meet;exact HM.out
     case rest=>
      obtain⟨w9,rfl⟩:∃w9,w9=wc:=⟨_,rfl⟩
      clear HX6 HNIL HTL HWK6 HBC6 HREP6 HKP6 HJ6 HN6;obtain⟨n9,dn9,hwk,hbc,hrep,hkp,hn9,hcase⟩:=hcut;obtain⟨win',hwin'⟩:∃win',win'=Co.inner c.k c.p win:=⟨_,rfl⟩
      obtain⟨T,hT⟩:∃T,T=(top&&decide (c.k=9)):=⟨_,rfl⟩
      obtain⟨RL,hRL⟩:∃RL,RL=Co.goesL E.mf.isSome c.l (deep+1) win' T (cnt+1) (bdl++c.p):=⟨_,rfl⟩
      have HRG:Hid (Co.goes E.mf.isSome c deep win top cnt bdl=RL):=by
       have e:=Co.here_last (opn:=E.mf.isSome) (bd:=bdl) (win:=win) HG1.out HG2.out HNA.out HNF.out;rw[if_neg (by rw[HANY.out];simp)]at e;show _=RL;rw[Co.goes_fine e,hRL,hT,hwin']
      have HSC9:Hid (∀x,(sc x||c.p.contains x)=win'.contains x):=by
       intro x;rw[HSC.out,hwin'];unfold Co.inner;rcases Co.alone_p HAL.out with e|⟨e,-⟩
       ·rw[e];split <;> simp
       ·rw[if_pos e,Bool.eq_iff_iff];simp
      have HL20:Hid (Co.L2 E c vm vl vt (.slice ap c.p.length cp) (.slice ak c.l.length ck) G C0 w deep win' T RL fr1 seen 0 w9):=by
       refine⟨cnt+1,dn9,_,_,fr1,n9,hwk,hbc,hrep,hkp,by have:=HN1.out;omega,by have:=HG2.out;omega,?_⟩;rcases hcase with⟨rfl,hj⟩|⟨rfl,hx⟩
       ·refine .inl ⟨rfl,bdl++c.p,by rw[List.drop_zero];exact hRL.symm,fun x=> ?_,HSC9.out,fun x hx=> ?_,fun x=> ?_,?_⟩
        ·rw[HBD.out,Bool.eq_iff_iff];simp
        ·rw[hwin']at hx;exact Co.inner_sub HWIN.out x hx
        ·rw[List.take_zero,Co.freesL];simp
        ·rw[List.take_zero,Co.partsL];exact hj
       ·refine .inr ⟨rfl,seen++[c],?_,hx⟩;rw[Co.parts_cons];exact(List.prefix_append_right_inj seen).2 ((List.cons_prefix_cons).2 ⟨rfl,List.nil_prefix⟩)
      have HT:=zh hT;have HWI:=zh hwin';have hll:c.l.length≤140737488355328:=(Co.wf_parts HWF.out).2.2.2.2.2.1;have c10:=hbc.cell 10 rfl;clear hwk hbc hrep hkp hn9 hcase hwin' hT hRL;go_upto_block 3 with fail
      clear c10
      go_cut [] (fun wx=>Co.L2 E c vm vl vt (.slice ap c.p.length cp) (.slice ak c.l.length ck) G C0 w deep win' T RL fr1 seen c.l.length wx)
      case first=>
       go_wp2
       go_loopw [125] (fun v wr=>∃j:Nat,v= .int .i64 j∧j≤c.l.length∧Hid (Co.L2 E c vm vl vt (.slice ap c.p.length cp) (.slice ak c.l.length ck) G C0 w deep win' T RL fr1 seen j wr)) (fun v _=>c.l.length - (intOf v).toNat)
       case atStart=>exact⟨0,rfl,by omega,HL20⟩
       case round=>
        clear HL20;obtain⟨j,rfl,hj,HL⟩:=hrel;by_cases hlt:j<c.l.length
        case neg=>
         have hge:(c.l.length:Int)≤(j:Int):=by omega
         have HE1:Hid (Co.L2 E c vm vl vt (.slice ap c.p.length cp) (.slice ak c.l.length ck) G C0 w deep win' T RL fr1 seen c.l.length wr):=by
          have:=HL.out;rw[show j=c.l.length by omega]at this;exact this
         go_wp2;go_meet;exact HE1.out
        have hlti:(j:Int)<(c.l.length:Int):=by omega
        have hl2:=HL.out;obtain⟨cnt',dn,sc',bd',fr',n',hwk,hbc,hrep,-⟩:=hl2;obtain⟨-,-,⟨_,_,he,_,hrow⟩⟩:=(Co.rep_iff _ _ _ _ _ _ _ _).1 hrep;injection he with he1 he2 he3
        subst he1;clear he2 he3;obtain⟨b,o',rfl,hGb,hbl,hreps⟩:=hrow (by intro h0;rw[h0]at hlt;simp at hlt);obtain⟨um,ul,ut,up,uk,hel,hry⟩:=hreps.at j hlt;obtain⟨y,hy⟩:∃y,c.l[j]=y:=⟨_,rfl⟩
        rw[hy]at hel hry;obtain⟨e0,e1,e2,e3,e4,e5,e6,e7,e8,e9,e10⟩:=hel;have HBC:=zh hbc;have hcall:∀W1,Below wr.heap.size wr W1→Calls Tryz.prog 36 #[.pointer (some ⟨E.X,0,none⟩),.agg #[.int .i64 y.k,.int .i64 y.n,.string y.s,.int .i64 y.d.k,.int .i64 y.d.n,.string y.d.s,um,ul,ut,up,uk],.int .i64 ((deep:Int)+1),.bool T] W1 (Co.CP E c vm vl vt (.slice ap c.p.length cp) (.slice (some ⟨b,o',none⟩) c.l.length ck) G C0 w deep win' T RL fr1 seen j):=fun W1 hb1=>by
         have h:=HL.out.call HE.out HCH.out hlt (by have:=HG1.out;omega) HWF.out HG.out HTOT.out hb1 (by rw[hy];exact hry.below hb1);rw[hy]at h;unfold Co.V at h;exact h
        have HCALL:=zh hcall;obtain⟨b1,n1',q1,b2,n2',q2,b3,n3',q3,b4,n4',q4,b5,n5',q5,rfl,rfl,rfl,rfl,rfl⟩:=hry.forms5;have hW10:wr.alloc (.cells #[.int .i64 y.k,.int .i64 y.n,.string y.s,.int .i64 y.d.k,.int .i64 y.d.n,.string y.d.s,.slice b1 n1' q1,.slice b2 n2' q2,.slice b3 n3' q3,.slice b4 n4' q4,.slice b5 n5' q5] 28)=wr.alloc (.cells #[.int .i64 y.k,.int .i64 y.n,.string y.s,.int .i64 y.d.k,.int .i64 y.d.n,.string y.d.s,.slice b1 n1' q1,.slice b2 n2' q2,.slice b3 n3' q3,.slice b4 n4' q4,.slice b5 n5' q5] 28):=rfl;obtain⟨hb10,-⟩:=new_below hW10;have HB10:=zh hb10;have k0:=(HBC.out.bc.keep (S:=fun _=>False) (keep_of_below hb10) id:Hp _ _ _ _).cell 0 rfl;clear hwk hbc hrep hrow hreps hry hy hcall hW10 hb10
        cases top with
        |false=>
         obtain rfl:T=false:=by rw[HT.out];rfl
         go_wp2_with fail
         refine(HCALL.out _ HB10.out).mono ?_;rintro e w11 ⟨r,rfl,⟨hr0,hr1,c2,sc2,bd2,fr2,n2,hwk2,hk2,hc2⟩|⟨rfl,hl2⟩⟩
         ·have HR:Hid (Co.GPost E c deep win false cnt bdl sc fr seen w (.returned (.int .i64 r)) w11):=Co.GPost.fault (by rw[HRG.out];exact hr1) hr0 hwk2 hk2 hc2;have hrb:(r !=0)=true:=by simpa using hr0
          clear hr0 hr1 hwk2 hk2 hc2 k0 e0 e1 e2 e3 e4 e5 e6 e7 e8 e9 e10;go_wp2;go_ret;exact HR.out
         ·have HL2:=zh hl2;clear hl2 k0 e0 e1 e2 e3 e4 e5 e6 e7 e8 e9 e10;go_wp2;go_roundw
          case rel=>exact⟨j+1,by simp,by omega,HL2⟩
          case measure=>simp[intOf];omega
        |true=>
         have b9:(c.k==9)=T:=by rw[HT.out,Bool.true_and,Bool.eq_iff_iff];simp
         go_wp2_with fail
         refine(HCALL.out _ HB10.out).mono ?_;rintro e w11 ⟨r,rfl,⟨hr0,hr1,c2,sc2,bd2,fr2,n2,hwk2,hk2,hc2⟩|⟨rfl,hl2⟩⟩
         ·have HR:Hid (Co.GPost E c deep win true cnt bdl sc fr seen w (.returned (.int .i64 r)) w11):=Co.GPost.fault (by rw[HRG.out];exact hr1) hr0 hwk2 hk2 hc2;have hrb:(r !=0)=true:=by simpa using hr0
          clear hr0 hr1 hwk2 hk2 hc2 k0 b9 e0 e1 e2 e3 e4 e5 e6 e7 e8 e9 e10;go_wp2;go_ret;exact HR.out
         ·have HL2:=zh hl2;clear hl2 k0 b9 e0 e1 e2 e3 e4 e5 e6 e7 e8 e9 e10;go_wp2;go_roundw
          case rel=>exact⟨j+1,by simp,by omega,HL2⟩
          case measure=>simp[intOf];omega
      case rest=>
       obtain⟨w12,rfl⟩:∃w12,w12=wc:=⟨_,rfl⟩
       have hl3:=hcut.to3;have HL30:Hid (Co.L3 E c vm vl vt (.slice ap c.p.length cp) (.slice ak c.l.length ck) G C0 w win' RL fr1 seen 0 w12):=hl3;clear HL20;obtain⟨_,_,_,_,_,_,-,hbc,-⟩:=hl3;have c9:=hbc.cell 9 rfl;clear hcut hbc;go_wp2;clear c9
       go_loopw [147] (fun v wr=>∃j:Nat,v= .int .i64 j∧j≤c.p.length∧Hid (Co.L3 E c vm vl vt (.slice ap c.p.length cp) (.slice ak c.l.length ck) G C0 w win' RL fr1 seen j wr)) (fun v _=>c.p.length - (intOf v).toNat)
       case atStart=>exact⟨0,rfl,by omega,HL30⟩
       case round=>
        clear HL30;obtain⟨j,rfl,hj,HL⟩:=hrel;by_cases hlt:j<c.p.length
        case neg=>
         have hge:(c.p.length:Int)≤(j:Int):=by omega
         have HE1:Hid (Co.GPost E c deep win top cnt bdl sc fr seen w (.returned (.int .i64 0)) wr):=by
          have h:=HL.out;rw[show j=c.p.length by omega]at h;obtain⟨cnt',dn,sc',bd',fr',n',hwk,hbc,hrep,hkp,hn,hc,hcase⟩:=h;refine⟨0,cnt',dn,sc',bd',fr',n',rfl,hwk,hkp,fun _=>hn,hc,?_⟩;rcases hcase with⟨rfl,bdl',hrl,hbd,hsc',hfr,hJ⟩|⟨e,h⟩
          ·rw[HRG.out,hrl];refine .inl ⟨rfl,rfl,fun _=>⟨rfl,hbd,fun x=> ?_,fun x=> ?_,hJ⟩⟩
           ·rw[hsc',List.take_length,←HSC9.out,HSC.out];cases hpx:c.p.contains x
            ·simp
            ·have hx:=List.contains_iff_mem.1 hpx;have hnw:win.contains x=false:=by
              rw[Bool.eq_false_iff];intro h2;have h3:=HWIN.out x (List.contains_iff_mem.1 h2);have h4:=HANY.out;rw[List.any_eq_false]at h4;exact h4 x hx (List.contains_iff_mem.2 h3)
             rw[hnw];simp
           ·rw[hfr,HFR1.out,Bool.or_assoc];congr 1;obtain⟨k0,kn,ks,kd,kp',kl⟩:=c;rw[HWI.out,Co.frees,Bool.eq_iff_iff];simp only[Bool.or_eq_true,List.contains_iff_mem,List.mem_append];exact Iff.rfl
          ·exact .inr ⟨e,rfl,h⟩
         go_wp2;go_ret;exact HE1.out
        have hlti:(j:Int)<(c.p.length:Int):=by omega
        obtain⟨cnt',dn,sc',bd',fr',n',hwk,hbc,hrep,hkp,hn,hc,hcase⟩:=HL.out;have hrep0:=hrep;obtain⟨-,⟨_,_,he,_,hrow⟩,-⟩:=(Co.rep_iff _ _ _ _ _ _ _ _).1 hrep0;injection he with he1 he2 he3
        subst he1;clear he2 he3;obtain⟨b,o',rfl,hGb,hbl,hcell⟩:=hrow (by intro h0;rw[h0]at hlt;simp at hlt);have p0:=hcell j hlt;obtain⟨x,hx⟩:∃x,c.p[j]=x:=⟨_,rfl⟩
        rw[hx]at p0;obtain⟨-,-,-,-,hpr,-,-⟩:=Co.wf_parts HWF.out;obtain⟨hx1,hx2⟩:=hpr x (by rw[←hx];exact List.getElem_mem hlt);obtain⟨w13,hdel,hs13,hk13⟩:=hwk.hs.del hx1 hx2 0;have x1:=hwk.hp.cell 1 rfl;have hown:∀k,k=E.ms→E.own k:=fun k e=> .inr (.inl e)
        have HL4:Hid (Co.L3 E c vm vl vt (.slice (some ⟨b,o',none⟩) c.p.length cp) (.slice ak c.l.length ck) G C0 w win' RL fr1 seen (j+1) w13):=by
         refine⟨cnt',dn,_,bd',fr',n',⟨hwk.hp.keep hk13 (fun e=>HE.out.xs e),hs13,hwk.hb.keep hk13 (fun e=>HE.out.sb e.symm),fun b' hb'=>(hwk.hf b' hb').keep hk13 (fun e=>HE.out.sf (by rw[hb',e])),Nat.le_trans hwk.hl hk13.size⟩,hbc.own HE.out hwk.hl (hk13.le hown),Co.Rep.keep hk13 (fun b' hb' _ e=>HG.out b' hb' (.inl (hown b' e))) c hrep,hkp.trans (Co.KE.own HE.out hwk.hl (hk13.le hown)),hn,hc,?_⟩;rcases hcase with⟨e,bdl',hrl,hbd,hsc',hfr,hJ⟩|⟨e,pre,hpre,hxx⟩
         ·refine .inl ⟨e,bdl',hrl,hbd,fun y=> ?_,hfr,HE.out.jst _ _ _ hJ (hk13.le hown)⟩;rw[hsc',Co.contains_take hlt,hx,Bool.not_or,Bool.and_assoc]
         ·exact .inr ⟨e,pre,hpre,HE.out.jxst _ _ _ hxx (hk13.le hown)⟩
        clear hwk hbc hrep hrep0 hkp hn hc hcase hrow hcell hx hpr hs13 hk13 hown;go_wp2;go_roundw
        case rel=>exact⟨j+1,by simp,by omega,HL4⟩
        case measure=>simp[intOf];omega
mutual
theorem coGoes_any(E:Co.WE)(hE:E.Ok):∀c:Co.C,Co.GoesIs E c
 | .mk k n s d p l=>coGoes_step E hE (.mk k n s d p l) (coGoesL_any E hE l)
theorem coGoesL_any(E:Co.WE)(hE:E.Ok):∀(l:List Co.C),∀y∈l,Co.GoesIs E y
 |[],_,h=>absurd h (by simp)
 |c :: r,y,h=>(List.mem_cons.1 h).elim (fun e=>by rw[e];exact coGoes_any E hE c) (fun h'=>coGoesL_any E hE r y h')
end
end Go.Proofs.YtfjmlfbohenmfaaGreat
