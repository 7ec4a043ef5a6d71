/-
  Several texts of this proof in one: CoRFreeq, CoRPartsq, CoBesPq, CoBesq, CoGlobq, CoTellq, CoRAsq.
-/
import Derived.Test.YtfjmlfbohenmfaaGreatCoreWithinLawZM3
import Derived.Test.YtfjmlfbohenmfaaGreatCoreWithinLawZM2
import Derived.Deep.CutBlock
import Derived.Test.YtfjmlfbohenmfaaGreatMinq
import Derived.StillTailTactics
import Derived.Test.YtfjmlfbohenmfaaGreatCoAlikeq
import Derived.Test.YtfjmlfbohenmfaaGreatCoreWithinLawZM1
import Derived.Sort.KeysCollected
import Derived.Test.YtfjmlfbohenmfaaGreatPutq
set_option maxRecDepth 100000
set_option maxHeartbeats 32000000
namespace Go.Proofs.YtfjmlfbohenmfaaGreat
open Go.RowKit
attribute [local go_sem] Oper.semAt_some
namespace Co
def FreeIs(c:C):Prop:=∀(G Fw Fo:Nat→Prop) (vm vl vt vp vk iv ov:Value) (win out:List Int) (w:World),Wf c→Snd c→Rep G w c vm vl vt vp vk→Dt.IRow Fw w iv win→Dt.IRow Fo w ov out→win.length+32*(parts c).length≤1000000→out.length+(parts c).length≤100000→
 Calls Tryz.prog 54 #[V c vm vl vt vp vk,iv,ov] w fun e w'=>∃v',e= .returned v'∧Dt.IRow (fun k=>Fo k∨w.heap.size≤k) w' v' (free c win out)∧Below w.heap.size w w'
theorem free_eq(c:C)(win out:List Int):free c win out=freeL c.l (inner c.k c.p win) (if(c.k=2∨c.k=4)∧win.contains c.n=false then put out c.n else out):=by
 obtain⟨k,n,s,d,p,l⟩:=c;rw[free]
 rfl
theorem parts_len(c:C):(parts c).length=1+(partsL c.l).length:=by
 obtain⟨k,n,s,d,p,l⟩:=c;rw[parts,List.length_cons];show _+1=1+(partsL l).length;omega
mutual
theorem free_len:∀(c:C) (win out:List Int),(free c win out).length≤out.length+(parts c).length
 | .mk k n s d p l,win,out=>by
  rw[free_eq,parts_len];have h:=freeL_len l (inner k p win) (if(k=2∨k=4)∧win.contains n=false then put out n else out);have h2:(if(k=2∨k=4)∧win.contains n=false then put out n else out).length≤out.length+1:=by
   split
   ·exact put_len out n
   ·omega
  show(freeL l _ _).length≤out.length+(1+(partsL l).length);exact Nat.le_trans h (by omega)
theorem freeL_len:∀(l:List C) (win out:List Int),(freeL l win out).length≤out.length+(partsL l).length
 |[],_,_=>by rw[freeL];omega
 |c :: r,win,out=>by
  rw[freeL,partsL,List.length_append];have h1:=free_len c win out;have h2:=freeL_len r win (free c win out);omega
end
theorem partsL_split{l:List C}{j:Nat}(hj:j<l.length):(partsL l).length=(partsL (l.take j)).length+((parts l[j]).length+(partsL (l.drop (j+1))).length):=by
 induction l generalizing j with
 |nil=>simp at hj
 |cons a r ih=>
  cases j with
  |zero=>rw[partsL,List.length_append];simp[partsL]
  |succ j=>
   have:=ih (j:=j) (by simpa using hj);rw[partsL,List.length_append,List.take_succ_cons,partsL,List.length_append,this];simp;omega
structure FInv(Fw Fo:Nat→Prop)(c:C)(w:World)(cs:Array Value)(win2 out1:List Int)(iv2:Value)(j:Nat)(ov:Value)(wr:World):Prop where
 row:∃oj,Dt.IRow (fun k=>Fo k∧k<w.heap.size∨w.heap.size≤k) wr ov oj∧freeL c.l win2 out1=freeL (c.l.drop j) win2 oj∧oj.length≤out1.length+(partsL (c.l.take j)).length
 iv:Dt.IRow (fun k=>Fw k∧k<w.heap.size∨w.heap.size≤k) wr iv2 win2
 bx:Hp wr w.heap.size cs 28
 kb:Below (w.heap.size+1) wr wr
 bl:Below w.heap.size w wr
end Co
theorem coRFree_step(c:Co.C)(hch:∀y∈c.l,Co.FreeIs y):Co.FreeIs c:=by
 intro G Fw Fo vm vl vt vp vk iv ov win out w hW hS hR hI hO hwl hol;obtain⟨hal,hl8,hsl⟩:=Co.snd_parts hS;obtain⟨-,hrp,hrk⟩:=(Co.rep_iff _ _ _ _ _ _ _ _).1 hR;obtain⟨b1,n1,q1,b2,n2,q2,b3,n3,q3,b4,n4,q4,b5,n5,q5,rfl,rfl,rfl,rfl,rfl⟩:=hR.forms5;obtain⟨_,_,he5,_,_⟩:=id hrk;injection he5 with he5a he5b he5c
 subst he5b;clear he5a he5c;obtain⟨_,_,he4,_,_⟩:=id hrp;injection he4 with he4a he4b he4c
 subst he4b;clear he4a he4c;have hp32:=Co.alone_p32 hal;have hpl:=Co.parts_len c;unfold Co.V;obtain⟨w1,hw1⟩:∃w1,w.alloc (.cells #[.int .i64 c.k,.int .i64 c.n,.string c.s,.int .i64 c.d.k,.int .i64 c.d.n,.string c.d.s,.slice b1 n1 q1,.slice b2 n2 q2,.slice b3 n3 q3,.slice b4 c.p.length q4,.slice b5 c.l.length q5] 28)=w1:=⟨_,rfl⟩
 obtain⟨hb1,hs1⟩:=new_below hw1;obtain⟨j0,hj,hj0,hj1,hj2⟩:=info_parts Dt.infoI;have HJ:=hd hj;have HJ0:=hd hj0;have HJ1:=hd hj1;have HJ2:=hd hj2;have Hc:=hd (Hp.new hw1);have HB1:=hd hb1;have HS1:=hd hs1;have HR:=hd hR;have HPW:=hd hrp;have HI:=hd (Co.irow_mono (G:=(fun k=>Fw k∧k<w.heap.size∨w.heap.size≤k)) (fun b hb hl=> .inl ⟨hb,hl⟩) hI);have HO:=hd (Co.irow_mono (G:=(fun k=>Fo k∧k<w.heap.size∨w.heap.size≤k)) (fun b hb hl=> .inl ⟨hb,hl⟩) hO);have HWL:Hid (Co.Wfs c.l):=(Co.wf_parts hW).2.2.2.2.2.2;have HSL:=hd hsl;have HCH:=hd hch;obtain⟨c0,c1,c2,c3,c4,c5,c6,c7,c8,c9,c10⟩:=Hc.out.c11;clear hb1 hs1 hR hI hO hrp hrk hW hS hal hch hsl hj hj0 hj1 hj2;go_enter Tryz.func54,Tryz.ntmps54;go_upto_region 1 with fail
 clear hw1;obtain⟨DB,hDB⟩:∃DB,decide ((c.k=2∨c.k=4)∧win.contains c.n=false)=DB:=⟨_,rfl⟩
 have HDB:=hd hDB;obtain⟨o1,ho1⟩:∃o1,(if(c.k=2∨c.k=4)∧win.contains c.n=false then Co.put out c.n else out)=o1:=⟨_,rfl⟩
 have HO1:=hd ho1;clear hDB ho1
 go_cut [23] (fun v wx=>v= .bool DB∧wx=w1)
 case first=>
  have hin:=inI_any iv win c.n w1 (HI.out.below HB1.out) (by omega);obtain⟨R,hR⟩:∃R,win.contains c.n=R:=⟨_,rfl⟩
  rw[hR]at hin HDB;clear hR;by_cases gq:c.k=2∨c.k=4
  case neg=>
   have t4:(c.k==2)=false:=by rw[beq_eq_false_iff_ne];omega
   have t5:(c.k==4)=false:=by rw[beq_eq_false_iff_ne];omega
   obtain rfl:DB=false:=by rw[←HDB.out];exact decide_eq_false (fun h=>gq h.1)
   clear gq;go_wp2;go_meet;exact⟨rfl,rfl⟩
  have t45:(c.k==2)=true∨((c.k==2)=false∧(c.k==4)=true):=by
   rcases gq with e|e
   ·exact .inl (by simpa using e)
   ·exact .inr ⟨by rw[beq_eq_false_iff_ne];omega,by simpa using e⟩
  obtain rfl:DB= !R:=by
   rw[←HDB.out];cases R
   ·exact decide_eq_true ⟨gq,rfl⟩
   ·exact decide_eq_false (fun h=>by cases h.2)
  clear gq;rcases t45 with t4|⟨t4,t5⟩
  all_goals
   go_wp2_with((go_at_call 67;refine hin.mono ?_;rintro e w5 ⟨rfl,rfl⟩))
   go_meet;exact⟨rfl,rfl⟩
 case rest=>
  obtain⟨rfl,hw⟩:=hcut;obtain rfl:w1=wc:=hw.symm
  go_upto_if 23 with fail
  go_cut [2] (fun v wx=>∃ov1:Value,ov1=v∧Dt.IRow (fun k=>Fo k∧k<w.heap.size∨w.heap.size≤k) wx ov1 o1∧Below w1.heap.size w1 wx)
  case first=>
   by_cases hd:(c.k=2∨c.k=4)∧win.contains c.n=false
   ·obtain rfl:DB=true:=by rw[←HDB.out];exact decide_eq_true hd
    obtain rfl:o1=Co.put out c.n:=by rw[←HO1.out];exact if_pos hd
    have hpu:=putR_any ov out c.n w1 (HO.out.below HB1.out) (by omega);clear hd;go_wp2_with((go_at_call 55;refine hpu.mono ?_;rintro e w5 ⟨v',rfl,hi5,hb5⟩;have HI5:=hd hi5;have HB5:=hd hb5;clear hi5 hb5 hpu))
    go_meet;exact⟨_,rfl,Co.irow_mono (fun b hb _=> .inr (by have:=HS1.out;omega)) HI5.out,HB5.out⟩
   ·obtain rfl:DB=false:=by rw[←HDB.out];exact decide_eq_false hd
    obtain rfl:o1=out:=by rw[←HO1.out];exact if_neg hd
    clear hd;go_wp2;go_meet;exact⟨_,rfl,HO.out.below HB1.out,Below.refl _ _⟩
  case rest=>
   obtain⟨ov1,hv1,hi1,hbw1⟩:=hcut;subst hv1;obtain⟨w2,rfl⟩:∃w2,w2=wc:=⟨_,rfl⟩
   have HI1:=hd hi1;have HBW1:=hd hbw1;have HC2:Hid (Hp w2 w.heap.size #[.int .i64 c.k,.int .i64 c.n,.string c.s,.int .i64 c.d.k,.int .i64 c.d.n,.string c.d.s,.slice b1 n1 q1,.slice b2 n2 q2,.slice b3 n3 q3,.slice b4 c.p.length q4,.slice b5 c.l.length q5] 28):=Hc.out.below hbw1;have HB2:Hid (Below w.heap.size w w2):=btr HB1.out hbw1;have HSZ2:Hid (w.heap.size<w2.heap.size):=by have h1:=HS1.out;have h2:=hbw1.size;show _<_;omega
   clear hi1 hbw1 c0 c1 c2 c3 c4 c5 c6 c7 c8 c9 c10;have hcF:Hp w2 w.heap.size _ _:=HC2.out;have c0:=hcF.cell 0 rfl;clear hcF
   go_upto_if 31 with fail
   go_cut [7] (fun v wx=>∃iv1:Value,iv1=v∧Dt.IRow (fun k=>Fw k∧k<w.heap.size∨w.heap.size≤k) wx iv1 (Co.inner c.k c.p win)∧Below w2.heap.size w2 wx)
   case first=>
    by_cases hk8:c.k=8
    case neg=>
     have hkb:(c.k==8)=false:=by simpa using hk8
     have HE:Hid ((fun v wx=>∃iv1:Value,iv1=v∧Dt.IRow (fun k=>Fw k∧k<w.heap.size∨w.heap.size≤k) wx iv1 (Co.inner c.k c.p win)∧Below w2.heap.size w2 wx) iv w2):=⟨_,rfl,by unfold Co.inner;rw[if_neg hk8];exact HI.out.below HB2.out,Below.refl _ _⟩
     clear hk8 c0;go_wp2;go_meet;exact HE.out
    have hkb:(c.k==8)=true:=by simpa using hk8
    have HK8:=hd hk8;clear hk8;go_wp2;clear c0;obtain⟨wD,hwD⟩:∃wD,w2.drew=wD:=⟨_,rfl⟩
    have hbD:=Co.drew_below w2;rw[hwD]at hbD;have HSD:Hid (Hp wD w.heap.size #[.int .i64 c.k,.int .i64 c.n,.string c.s,.int .i64 c.d.k,.int .i64 c.d.n,.string c.d.s,.slice b1 n1 q1,.slice b2 n2 q2,.slice b3 n3 q3,.slice b4 c.p.length q4,.slice b5 c.l.length q5] 28):=HC2.out.below hbD;have HBD:=hd hbD;have hbw:Below w.heap.size w wD:=btr HB2.out hbD;have HSR1:Hid (Ap.Src2 wD iv win.length (Co.ints win)):=(HI.out.below hbw).src2;have HPD:Hid (Dt.IRow G wD (.slice b4 c.p.length q4) c.p):=HPW.out.below hbw;have hn1:0+win.length≤maxLen:=by unfold maxLen;omega
    have hn2:(0+win.length)*8≤140737488355328:=by omega
    have hn3:(0+win.length)+c.p.length≤maxLen:=by unfold maxLen;omega
    have hn4:((0+win.length)+c.p.length)*8≤140737488355328:=by omega
    clear hbD hbw;refine wp_region_noPanic ?_;refine wp_region_held_drew (S:=fun w'=>Hp w' w.heap.size #[.int .i64 c.k,.int .i64 c.n,.string c.s,.int .i64 c.d.k,.int .i64 c.d.n,.string c.d.s,.slice b1 n1 q1,.slice b2 n2 q2,.slice b3 n3 q3,.slice b4 c.p.length q4,.slice b5 c.l.length q5] 28) (by kernel_rfl) (by rw[hwD];exact HSD.out) (fun hHeld=> ?_);rw[hwD]at hHeld ⊢;clear hwD;refine Zm.u 0 ?_ rfl ?_ ?_;rotate_left
    ·intro w9 hSw;clear hSw;go_simp
     try with_reducible rfl
    simp only[Act.put,Zm.a,Zm.b,Zm.c];refine Zm.u 2 ?_ rfl ?_ ?_;rotate_left
    ·intro w9 hSw;clear hSw;go_simp
     try with_reducible rfl
    simp only[Act.put,Zm.a,Zm.b,Zm.c];refine Zm.u 3 ?_ rfl ?_ ?_;rotate_left
    ·intro w9 hSw;have hC:Hp w9 w.heap.size _ _:=hSw;have c9:=hC.cell 9 rfl;clear hC;clear hSw;go_simp
     try with_reducible rfl
    simp only[Act.put,Zm.a,Zm.b,Zm.c];refine Zm.r 1 rfl (fun K hK=> ?_);refine Ap.step2 rfl (.const (.slice none 0 0)) (.tmp 32) 22 (by kernel_rfl) wD.heap.size 3 j0 (.int .i64 0) 1 8 Tryz.underlying22 HJ.out HJ0.out HJ1.out HJ2.out rfl (by decide) (.slice none 0 0) 0 [] (by kernel_rfl) (World.ownsRow_nil _ _ _ _) iv win.length (Co.ints win) (by kernel_rfl) HSR1.out (by unfold Co.ints;simp) (by unfold Co.ints;intro u hu;obtain⟨x,-,rfl⟩:=List.mem_map.1 hu;rfl) hn1 hn2 (Nat.le_refl _) ?_;intro v1 wE hown1 hgrow1 hat1;obtain⟨a1',c1',rfl⟩:=Dt.row_form hown1;have hkE:Keep (fun _=>False) wD wE:=(Co.grown_keep2 (Below.refl _ _) hgrow1).le (fun k e=>by simp[Value.ownBlock]at e);have HSE:Hid (Hp wE w.heap.size #[.int .i64 c.k,.int .i64 c.n,.string c.s,.int .i64 c.d.k,.int .i64 c.d.n,.string c.d.s,.slice b1 n1 q1,.slice b2 n2 q2,.slice b3 n3 q3,.slice b4 c.p.length q4,.slice b5 c.l.length q5] 28):=HSD.out.keep hkE id;have HOW1:=hd hown1;have HKE:=hd hkE;have HSR2:Hid (Ap.Src2 wE (.slice b4 c.p.length q4) c.p.length (Co.ints c.p)):=(HPD.out.keep hkE (fun _ _ _ h=>h)).src2;have hbE:wD.heap.size≤wE.heap.size:=hkE.size;clear hown1 hgrow1 hat1 hkE;refine hK.out _ _ HSE.out (fun hHeld=> ?_);clear hK K;refine Zm.r 4 rfl (fun K hK=> ?_);refine Ap.step2 rfl (.tmp 33) (.tmp 35) 22 (by kernel_rfl) wD.heap.size 3 j0 (.int .i64 0) 1 8 Tryz.underlying22 HJ.out HJ0.out HJ1.out HJ2.out rfl (by decide) (.slice a1' (0+win.length) c1') (0+win.length) ([]++Co.ints win) (by kernel_rfl) HOW1.out (.slice b4 c.p.length q4) c.p.length (Co.ints c.p) (by kernel_rfl) HSR2.out (by unfold Co.ints;simp) (by unfold Co.ints;intro u hu;obtain⟨x,-,rfl⟩:=List.mem_map.1 hu;rfl) hn3 hn4 hbE ?_;intro v2 wG hown2 hgrow2 hat2;obtain⟨a2',c2',rfl⟩:=Dt.row_form hown2;have hkG:Keep (fun k=>wD.heap.size≤k) wD wG:=(HKE.out.le fun k e=>e.elim).trans ((Co.grown_keep2 (Below.refl _ _) hgrow2).le (fun k e=>(Dt.own_lt HOW1.out k e).1));have HSG:Hid (Hp wG w.heap.size #[.int .i64 c.k,.int .i64 c.n,.string c.s,.int .i64 c.d.k,.int .i64 c.d.n,.string c.d.s,.slice b1 n1 q1,.slice b2 n2 q2,.slice b3 n3 q3,.slice b4 c.p.length q4,.slice b5 c.l.length q5] 28):=HSD.out.keep hkG (fun e=>by have h1:=HBD.out.size;have h2:=HSZ2.out;have e:wD.heap.size≤w.heap.size:=e;omega);have HE:Hid ((fun v wx=>∃iv1:Value,iv1=v∧Dt.IRow (fun k=>Fw k∧k<w.heap.size∨w.heap.size≤k) wx iv1 (Co.inner c.k c.p win)∧Below w2.heap.size w2 wx) (.slice a2' (0+win.length+c.p.length) c2') wG):=by
     have hbw:Below w2.heap.size w2 wG:=HBD.out.trans ((hkG.to_below (n:=w2.heap.size) (fun k e=>by have:=HBD.out.size;omega) (by have:=HBD.out.size;omega)));refine⟨_,rfl,?_,hbw⟩;have hi:Dt.IRow (fun k=>wD.heap.size≤k) wG (.slice a2' (0+win.length+c.p.length) c2') (win++c.p):=Dt.IRow.of_own (by
      have h:=hown2;rw[List.length_append];unfold Co.ints at h;simp only[Nat.zero_add,List.nil_append]at h ⊢;rw[List.map_append];exact h)
     unfold Co.inner;rw[if_pos HK8.out];exact Co.irow_mono (fun b hb hl=> .inr (by have h1:=HBD.out.size;have h2:=HSZ2.out;omega)) hi
    clear hown2 hgrow2 hat2 hkG;refine hK.out _ _ HSG.out (fun hHeld=> ?_);clear hK K;refine Zm.u 5 ?_ rfl ?_ ?_;rotate_left
    ·intro w9 hSw;clear hSw;go_simp
     try with_reducible rfl
    simp only[Act.put,Zm.a,Zm.b,Zm.c];refine wpAnyH_done (by kernel_rfl) ?_ _;refine NoPanic.normal ?_;clear HSD HBD HSR1 HPD HSE HOW1 HKE HSR2 HSG;go_wp2;go_meet;have h:=HE.out;simp only[Nat.zero_add]at h;exact h
   case rest=>
    obtain⟨iv1,hiv,hi2,hbw2⟩:=hcut;subst hiv;obtain⟨w3,rfl⟩:∃w3,w3=wc:=⟨_,rfl⟩
    have HB3:Hid (Below w.heap.size w w3):=btr HB2.out hbw2;have HINV:Hid (Co.FInv Fw Fo c w #[.int .i64 c.k,.int .i64 c.n,.string c.s,.int .i64 c.d.k,.int .i64 c.d.n,.string c.d.s,.slice b1 n1 q1,.slice b2 n2 q2,.slice b3 n3 q3,.slice b4 c.p.length q4,.slice b5 c.l.length q5] (Co.inner c.k c.p win) o1 iv1 0 ov1 w3):=⟨⟨_,HI1.out.below hbw2,by rw[List.drop_zero],by omega⟩,hi2,HC2.out.below hbw2,Below.refl _ _,HB3.out⟩
    have hwl2:(Co.inner c.k c.p win).length+32*(Co.partsL c.l).length≤1000000:=by
     unfold Co.inner;split
     ·rw[List.length_append];omega
     ·omega
    have hol2:o1.length+(Co.partsL c.l).length≤100000:=by
     rw[←HO1.out];split
     ·have:=Co.put_len out c.n;omega
     ·omega
    clear hi2 hbw2 c0;go_wp2
    go_loopw [2,8] (fun v2 v8 wr=>∃(j:Nat) (ovj:Value),ovj=v2∧v8= .int .i64 j∧j≤c.l.length∧Hid (Co.FInv Fw Fo c w #[.int .i64 c.k,.int .i64 c.n,.string c.s,.int .i64 c.d.k,.int .i64 c.d.n,.string c.d.s,.slice b1 n1 q1,.slice b2 n2 q2,.slice b3 n3 q3,.slice b4 c.p.length q4,.slice b5 c.l.length q5] (Co.inner c.k c.p win) o1 iv1 j ovj wr)) (fun _ v8 _=>c.l.length - (intOf v8).toNat)
    case atStart=>exact⟨0,_,rfl,rfl,by omega,HINV⟩
    case round=>
     clear HINV;obtain⟨j,ovj,hov,rfl,hj,HL⟩:=hrel;subst hov;have hcr:Hp wr w.heap.size _ _:=HL.out.bx;have c10:=hcr.cell 10 rfl;clear hcr;obtain⟨oj,hoj,hfj,hlj⟩:=HL.out.row;by_cases hlt:j<c.l.length
     case neg=>
      have hge:(c.l.length:Int)≤(j:Int):=by omega
      obtain rfl:j=c.l.length:=by omega
      have HF:Hid (Dt.IRow (fun k=>Fo k∨w.heap.size≤k) wr ovj (Co.free c win out)):=by
       rw[Co.free_eq,HO1.out,hfj,List.drop_length,Co.freeL];exact Co.irow_mono (fun b hb _=>hb.imp (fun h=>h.1) id) hoj
      have HBL:Hid (Below w.heap.size w wr):=HL.out.bl;clear hoj hfj hlj;go_wp2;go_ret;exact⟨_,rfl,HF.out,HBL.out⟩
     have hlti:(j:Int)<(c.l.length:Int):=by omega
     obtain⟨-,-,⟨_,_,he,_,hrow⟩⟩:=(Co.rep_iff _ _ _ _ _ _ _ _).1 (HR.out.below HL.out.bl);injection he with he1 he2 he3
     subst he1;clear he2 he3;obtain⟨kb,ko,rfl,hGk,hkl,hreps⟩:=hrow (by intro h0;rw[h0]at hlt;simp at hlt);obtain⟨um,ul,ut,up,uk,hel,hry⟩:=hreps.at j hlt;have hmem:c.l[j]∈c.l:=List.getElem_mem hlt;have hsp:=Co.partsL_split hlt;have hcall:=HCH.out c.l[j] hmem G _ _ um ul ut up uk iv1 ovj (Co.inner c.k c.p win) oj wr (HWL.out.at j hlt) (HSL.out.at _ hmem) hry HL.out.iv hoj (by omega) (by omega);have hnx:Co.freeL c.l (Co.inner c.k c.p win) o1=Co.freeL (c.l.drop (j+1)) (Co.inner c.k c.p win) (Co.free c.l[j] (Co.inner c.k c.p win) oj):=by rw[hfj,List.drop_eq_getElem_cons hlt,Co.freeL]
     have hnl:(Co.free c.l[j] (Co.inner c.k c.p win) oj).length≤o1.length+(Co.partsL (c.l.take (j+1))).length:=by
      have h1:=Co.free_len c.l[j] (Co.inner c.k c.p win) oj;rw[Co.partsL_take hlt,List.length_append];omega
     obtain⟨y,hy⟩:∃y,c.l[j]=y:=⟨_,rfl⟩
     rw[hy]at hel hry hcall hnx hnl;obtain⟨g1,i1,r1,g2,i2,r2,g3,i3,r3,g4,i4,r4,g5,i5,r5,rfl,rfl,rfl,rfl,rfl⟩:=hry.forms5;unfold Co.V at hcall;obtain⟨e0,e1,e2,e3,e4,e5,e6,e7,e8,e9,e10⟩:=hel;have HNX:=hd hnx;have HNL:=hd hnl;clear hnx hnl hrow hreps hry hmem hGk hkl hy hsp hoj hfj hlj;go_wp2_with fail
     refine hcall.mono ?_;rintro e w6 ⟨v',rfl,hi6,hb6⟩;have HN:Hid (Co.FInv Fw Fo c w #[.int .i64 c.k,.int .i64 c.n,.string c.s,.int .i64 c.d.k,.int .i64 c.d.n,.string c.d.s,.slice b1 n1 q1,.slice b2 n2 q2,.slice b3 n3 q3,.slice b4 c.p.length q4,.slice (some ⟨kb,ko,none⟩) c.l.length q5] (Co.inner c.k c.p win) o1 iv1 (j+1) v' w6):=⟨⟨_,Co.irow_mono (fun b hb _=>hb.elim id (fun h=> .inr (by have:=HL.out.bl.size;omega))) hi6,HNX.out,HNL.out⟩,HL.out.iv.below hb6,HL.out.bx.below hb6,Below.refl _ _,HL.out.bl.trans (hb6.mono HL.out.bl.size)⟩
     clear hcall hi6 hb6 e0 e1 e2 e3 e4 e5 e6 e7 e8 e9 e10 c10;go_wp2;go_roundw
     case rel=>exact⟨j+1,v',rfl,by simp,by omega,HN⟩
     case measure=>simp[intOf];omega
mutual
theorem coRFree_any:∀c:Co.C,Co.FreeIs c
 | .mk k n s d p l=>coRFree_step (.mk k n s d p l) (coRFreeL_any l)
theorem coRFreeL_any:∀(l:List Co.C),∀y∈l,Co.FreeIs y
 |[],_,h=>absurd h (by simp)
 |c :: r,y,h=>(List.mem_cons.1 h).elim (fun e=>by rw[e];exact coRFree_any c) (fun h'=>coRFreeL_any r y h')
end
namespace Co
def PartsPost(G:Nat→Prop)(c:C)(ls:List C)(w:World)(e:Ending)(w':World):Prop:=
 ∃v ps,e= .returned v∧w'.ownsRow w.heap.size 28 11 v ps.length (flatC ps)∧ps.map PC.c=ls∧(ps=[]→v= .slice none 0 0)∧(∀p∈ps,p.rep (fun k=>G k∧k<w.heap.size) w')∧Below w.heap.size w w'
theorem nil_none{w:World}{base:Nat}{v:Value}{ps:List PC}(h:w.ownsRow base 28 11 v ps.length (flatC ps))(hn:ps≠[]):∃g c,v= .slice (some ⟨g,0,none⟩) ps.length c:=by
 rcases h.2 with⟨-,h0⟩|⟨g,cap,cur,e,-⟩
 ·exact absurd (List.length_eq_zero_iff.1 h0) hn
 ·exact⟨g,cap,e⟩
end Co
theorem rParts_any{G:Nat→Prop}(c:Co.C)(vm vl vt vp vk:Value)(w:World)(hW:Co.Wf c)(hR:Co.Rep G w c vm vl vt vp vk):
  Calls Tryz.prog 53 #[Co.V c vm vl vt vp vk] w (Co.PartsPost G c (if Co.openE c=0 then Co.parts c else []) w):=by
 obtain⟨b1,n1,q1,b2,n2,q2,b3,n3,q3,b4,n4,q4,b5,n5,q5,rfl,rfl,rfl,rfl,rfl⟩:=hR.forms5;unfold Co.V;obtain⟨w1,hw1⟩:∃w1,w.alloc (.cells #[.int .i64 c.k,.int .i64 c.n,.string c.s,.int .i64 c.d.k,.int .i64 c.d.n,.string c.d.s,.slice b1 n1 q1,.slice b2 n2 q2,.slice b3 n3 q3,.slice b4 n4 q4,.slice b5 n5 q5] 28)=w1:=⟨_,rfl⟩
 obtain⟨w2,hw2⟩:∃w2,w1.alloc (.cells #[.slice none 0 0,.slice none 0 0,.int .i64 0,.bool true] 66)=w2:=⟨_,rfl⟩
 obtain⟨hb1,hs1⟩:=new_below hw1;obtain⟨hb2,hs2⟩:=new_below hw2;have Hc:Hid (Hp w2 w.heap.size _ _):=(Hp.new hw1).below hb2;have Hx:=hd (Hp.new hw2);have hb12:Below w.heap.size w w2:=btr hb1 hb2;have HB:=hd hb12;have HRW:Hid (Co.RW (fun k=>G k∧k<w.heap.size) w2 w1.heap.size w1.heap.size 0 true (.slice none 0 0) (.slice none 0 0) [] []):=
  ⟨Hx.out,World.ownsRow_nil _ _ _ _,(fun p hp=>nomatch hp),World.ownsRow_nil _ _ _ _,Nat.le_refl _,(fun e=>nomatch e),(fun e=>nomatch e),(fun k e=>nomatch e)⟩
 have hcall:=coRGoes_any c (fun k=>G k∧k<w.heap.size) (fun _=>False) w1.heap.size w1.heap.size true (.slice none 0 0) (.slice none 0 0) _ _ _ _ _ (.slice none 0 0) [] [] [] w2 1 true 0 hW ((Co.Rep.mono (fun b hb hl=>⟨hb,hl⟩) c hR).below hb12) (fun k hk=>by omega) HRW.out ⟨none,0,rfl,Nat.le_refl _,fun h=>absurd rfl h⟩ (fun k hk=>hk.elim) (by simp) (by omega) (fun _=>⟨by simp,by simp⟩);unfold Co.V at hcall;have hcall':Calls Tryz.prog 37 #[.pointer (some ⟨w1.heap.size,0,none⟩),.agg #[.int .i64 c.k,.int .i64 c.n,.string c.s,.int .i64 c.d.k,.int .i64 c.d.n,.string c.d.s,.slice b1 n1 q1,.slice b2 n2 q2,.slice b3 n3 q3,.slice b4 n4 q4,.slice b5 n5 q5],.int .i64 1,.slice none 0 0,.bool true] _ _:=hcall;obtain⟨y0,y1,y2,y3,y4,y5,y6,y7,y8,y9,y10⟩:=Hc.out.c11;have HS1:=hd hs1;obtain⟨LS,hLS⟩:∃LS,(if Co.openE c=0 then Co.parts c else [])=LS:=⟨_,rfl⟩
 rw[hLS];have HLS:=hd hLS;clear hb1 hs1 hs2 hb2 hb12 hW hR hcall hLS;go_enter Tryz.func53,Tryz.ntmps53;go_wp2_with fail
 refine hcall'.mono ?_;rintro e w7 ⟨rfl,e',pv',bv',ps',bd',g1,g2,-,-,-,g6⟩;obtain⟨g7,g8⟩:=g6 rfl;obtain⟨pa,pc,rfl⟩:=Dt.row_form g1.rp;have HX7:=hd g1.hp;have x2:=HX7.out.cell 2 rfl;have x0:=HX7.out.cell 0 rfl;have HBF:Hid (Below w.heap.size w w7):=HB.out.trans (g2.to_below (fun k h=>by have h1:=Co.WS.low HRW.out h;have h2:=HS1.out;omega) HB.out.size);have he:e'=Co.openE c:=g7;by_cases h0:e'=0
 ·have hb:(e' !=0)=false:=by simpa using h0
  have HP:Hid (Co.PartsPost G c LS w (.returned (.slice pa ps'.length pc)) w7):=by
   have hl:=HLS.out;rw[if_pos (he.symm.trans h0)]at hl;have hs1:=HS1.out;exact⟨_,ps',rfl,Rd.own_base g1.rp (by omega),by rw[(g8 h0).1];exact hl,fun e=>absurd (show Co.parts c=[]by have h:=(g8 h0).1;rw[e]at h;exact h.symm) (Co.parts_pos c),fun p hp=>g1.re p hp,HBF.out⟩
  clear y0 y1 y2 y3 y4 y5 y6 y7 y8 y9 y10;clear hcall' g1 g2 g6 g7 g8 he h0 hw1 hw2;go_wp2;go_ret;exact HP.out
 ·have hb:(e' !=0)=true:=by simpa using h0
  have HP:Hid (Co.PartsPost G c LS w (.returned (.slice none 0 0)) w7):=by
   have hl:=HLS.out;rw[if_neg (fun h=>h0 (he.trans h))]at hl;exact⟨_,[],rfl,World.ownsRow_nil _ _ _ _,hl,fun _=>rfl,(fun p hp=>nomatch hp),HBF.out⟩
  clear y0 y1 y2 y3 y4 y5 y6 y7 y8 y9 y10;clear hcall' g1 g2 g6 g7 g8 he h0 hw1 hw2;go_wp2;go_ret;exact HP.out
theorem rAll07_any{G:Nat→Prop}(c:Co.C)(vm vl vt vp vk:Value)(w:World)(hW:Co.Wf c)(hR:Co.Rep G w c vm vl vt vp vk):
  Calls Tryz.prog 24 #[Co.V c vm vl vt vp vk] w (Co.PartsPost G c (Co.all c) w):=by
 obtain⟨b1,n1,q1,b2,n2,q2,b3,n3,q3,b4,n4,q4,b5,n5,q5,rfl,rfl,rfl,rfl,rfl⟩:=hR.forms5;obtain⟨w1,hw1⟩:∃w1,w.alloc (.cells #[.int .i64 c.k,.int .i64 c.n,.string c.s,.int .i64 c.d.k,.int .i64 c.d.n,.string c.d.s,.slice b1 n1 q1,.slice b2 n2 q2,.slice b3 n3 q3,.slice b4 n4 q4,.slice b5 n5 q5] 28)=w1:=⟨_,rfl⟩
 obtain⟨hb1,hs1⟩:=new_below hw1;have hR':=Co.Rep.mono (G:=fun k=>G k∧k<w.heap.size) (fun b hb hl=>⟨hb,hl⟩) c hR;have hpa:=rParts_any c _ _ _ _ _ w1 hW (hR'.below hb1);unfold Co.V at hpa ⊢;have Hc:=hd (Hp.new hw1);have HB1:=hd hb1;have HR:=hd hR';have HW:=hd hW;obtain⟨y0,y1,y2,y3,y4,y5,y6,y7,y8,y9,y10⟩:=Hc.out.c11;clear hb1 hs1 hR hR' hW;go_enter Tryz.func24,Tryz.ntmps24;go_wp2_with fail
 refine hpa.mono ?_;rintro e w2 ⟨v,ps,rfl,hown,hmap,hnil,hrep,hb2⟩;have HC2:Hid (Hp w2 w.heap.size #[.int .i64 c.k,.int .i64 c.n,.string c.s,.int .i64 c.d.k,.int .i64 c.d.n,.string c.d.s,.slice b1 n1 q1,.slice b2 n2 q2,.slice b3 n3 q3,.slice b4 n4 q4,.slice b5 n5 q5] 28):=Hc.out.below hb2;have HB2:Hid (Below w.heap.size w w2):=btr HB1.out hb2;have HREP:Hid (∀p∈ps,p.rep (fun k=>G k∧k<w.heap.size) w2):=fun p hp=>Co.Rep.mono (fun b hb _=>hb.1) p.c (hrep p hp)
 have HOWN:Hid (w2.ownsRow w.heap.size 28 11 v ps.length (Co.flatC ps)):=Rd.own_base hown (by have:=HB1.out.size;omega);have HMAP:=hd hmap;have HNIL:=hd hnil;have HLW:Hid (w.heap.size<w2.heap.size):=HC2.out.lt;clear y0 y1 y2 y3 y4 y5 y6 y7 y8 y9 y10;clear hpa hown hrep hb2 hw1 hmap hnil;obtain⟨wD,hwD⟩:∃wD,w2.drew=wD:=⟨_,rfl⟩
 have hbD:=Co.drew_below w2;rw[hwD]at hbD;have HSD:Hid (Hp wD w.heap.size #[.int .i64 c.k,.int .i64 c.n,.string c.s,.int .i64 c.d.k,.int .i64 c.d.n,.string c.d.s,.slice b1 n1 q1,.slice b2 n2 q2,.slice b3 n3 q3,.slice b4 n4 q4,.slice b5 n5 q5] 28):=HC2.out.below hbD;have HBD:Hid (Below w.heap.size w wD):=btr HB2.out hbD;have HBD2:=hd hbD;clear hbD;by_cases ho:Co.openE c=0
 case neg=>
  have hps:ps=[]:=by have h:=HMAP.out;rw[if_neg ho]at h;exact List.map_eq_nil_iff.1 h
  obtain rfl:=HNIL.out hps;have HP:Hid (Co.PartsPost G c (Co.all c) w (.returned (.slice none 0 0)) wD):=by
   unfold Co.all;rw[if_neg (fun h=>ho h.1)];exact⟨_,[],rfl,World.ownsRow_nil _ _ _ _,rfl,fun _=>rfl,(fun p hp=>nomatch hp),HBD.out⟩
  have hn:=fun W=>Lib.run_eql_slice_nil (P:=Tryz.prog) W 26 28 none 0 0 0 0 Tryz.underlying26
  clear ho hps;go_wp2;refine wp_region_noPanic ?_;refine wp_region_held_drew (S:=fun _=>True) (by kernel_rfl) trivial (fun hHeld=> ?_);rw[hwD];clear hwD;refine Zm.u 0 ?_ rfl ?_ ?_;rotate_left
  ·intro w9 hSw;clear hSw;go_simp
   try with_reducible rfl
  simp only[Act.put,Zm.a,Zm.b,Zm.c];refine Zm.u 1 ?_ rfl ?_ ?_;rotate_left
  ·intro w9 hSw;clear hSw;go_simp
   try with_reducible rfl
  simp only[Act.put,Zm.a,Zm.b,Zm.c];refine Zm.u 2 ?_ rfl ?_ ?_;rotate_left
  ·intro w9 hSw;clear hSw;go_simp
   try with_reducible rfl
  simp only[Act.put,Zm.a,Zm.b,Zm.c];refine Zm.s 3 rfl ?_;simp only[Act.put,Zm.a,Zm.b,Zm.c];refine Zm.s 4 rfl ?_;simp only[Act.put,Zm.a,Zm.b,Zm.c];refine Zm.s 5 rfl ?_;simp only[Act.put,Zm.a,Zm.b,Zm.c];refine Zm.s 6 rfl ?_;simp only[Act.put,Zm.a,Zm.b,Zm.c];refine Zm.s 7 rfl ?_;simp only[Act.put,Zm.a,Zm.b,Zm.c];refine Zm.u 8 ?_ rfl ?_ ?_;rotate_left
  ·intro w9 hSw;clear hSw;go_simp
   try with_reducible rfl
  simp only[Act.put,Zm.a,Zm.b,Zm.c];refine wpAnyH_done (by kernel_rfl) ?_ _;refine NoPanic.normal ?_;go_wp2;go_ret;exact HP.out
 have hps:ps≠[]:=fun e=>by
  have h:=HMAP.out;rw[if_pos ho,e]at h;exact Co.parts_pos c h.symm
 obtain⟨vg,vc,rfl⟩:=Co.nil_none HOWN.out hps;have HSN:Hid (Co.Snd c):=by
  have h2:Co.goes true c 1 [] true 0 []=(0,(Co.goes true c 1 [] true 0 []).2):=Prod.ext ho rfl;exact(Co.goes_snd c h2).1
 have hpl:(Co.parts c).length≤8192:=by
  have h2:Co.goes true c 1 [] true 0 []=(0,(Co.goes true c 1 [] true 0 []).2):=Prod.ext ho rfl;have h3:=Co.goes_count c h2;omega
 have hfr:=coRFree_any c _ (fun _=>False) (fun _=>False) _ _ _ _ _ (.slice none 0 0) (.slice none 0 0) [] [] wD HW.out HSN.out (HR.out.below HBD.out) ⟨none,0,rfl,Nat.le_refl _,fun h=>absurd rfl h⟩ ⟨none,0,rfl,Nat.le_refl _,fun h=>absurd rfl h⟩ (by simp;omega) (by simp;omega);unfold Co.V at hfr;have hfl:=Co.free_len c [] [];rw[List.length_nil,Nat.zero_add]at hfl;have hn:=fun W=>Lib.run_eql_slice_nil (P:=Tryz.prog) W 26 28 (some ⟨vg,0,none⟩) ps.length vc 0 0 Tryz.underlying26
 have HALL:Hid (Co.all c=if Co.check c (Co.free c [] [])=0 then Co.parts c else []):=by
  show _=_;unfold Co.all;by_cases e:Co.check c (Co.free c [] [])=0
  ·rw[if_pos ⟨ho,e⟩,if_pos e]
  ·rw[if_neg (fun h=>e h.2),if_neg e]
 have HMP:Hid (ps.map Co.PC.c=Co.parts c):=by have h:=HMAP.out;rw[if_pos ho]at h;exact h
 clear ho hps;go_wp2;refine wp_region_noPanic ?_;refine wp_region_held_drew (S:=fun w'=>Hp w' w.heap.size #[.int .i64 c.k,.int .i64 c.n,.string c.s,.int .i64 c.d.k,.int .i64 c.d.n,.string c.d.s,.slice b1 n1 q1,.slice b2 n2 q2,.slice b3 n3 q3,.slice b4 n4 q4,.slice b5 n5 q5] 28) (by kernel_rfl) (by rw[hwD];exact HSD.out) (fun hHeld=> ?_);rw[hwD]at hHeld ⊢;clear hwD;refine Zm.u 0 ?_ rfl ?_ ?_;rotate_left
 ·intro w9 hSw;clear hSw;go_simp
  try with_reducible rfl
 simp only[Act.put,Zm.a,Zm.b,Zm.c];refine Zm.u 1 ?_ rfl ?_ ?_;rotate_left
 ·intro w9 hSw;clear hSw;go_simp
  try with_reducible rfl
 simp only[Act.put,Zm.a,Zm.b,Zm.c];refine Zm.u 2 ?_ rfl ?_ ?_;rotate_left
 ·intro w9 hSw;clear hSw;go_simp
  try with_reducible rfl
 simp only[Act.put,Zm.a,Zm.b,Zm.c];refine Zm.u 3 ?_ rfl ?_ ?_;rotate_left
 ·intro w9 hSw;have hC:Hp w9 w.heap.size _ _:=hSw;obtain⟨y0,y1,y2,y3,y4,y5,y6,y7,y8,y9,y10⟩:=hC.c11;clear hC;clear hSw;go_simp
  try with_reducible rfl
 simp only[Act.put,Zm.a,Zm.b,Zm.c];refine Zm.u 4 ?_ rfl ?_ ?_;rotate_left
 ·intro w9 hSw;have hC:Hp w9 w.heap.size _ _:=hSw;obtain⟨y0,y1,y2,y3,y4,y5,y6,y7,y8,y9,y10⟩:=hC.c11;clear hC;clear hSw;go_simp
  try with_reducible rfl
 simp only[Act.put,Zm.a,Zm.b,Zm.c];refine Zm.r 5 rfl (fun K hK=> ?_);go_simp;refine hfr.mono ?_;rintro e w4 ⟨fv,rfl,hfi,hb4⟩;obtain⟨fa,fc,rfl,hfc,hfp⟩:=hfi;have HFI:Hid (Dt.IRow (fun k=>False∨wD.heap.size≤k) w4 (.slice fa (Co.free c [] []).length fc) (Co.free c [] [])):=⟨fa,fc,rfl,hfc,hfp⟩
 have HB4:Hid (Below w.heap.size w w4):=btr HBD.out hb4;have HBW4:=hd hb4;have HS4:Hid (Hp w4 w.heap.size #[.int .i64 c.k,.int .i64 c.n,.string c.s,.int .i64 c.d.k,.int .i64 c.d.n,.string c.d.s,.slice b1 n1 q1,.slice b2 n2 q2,.slice b3 n3 q3,.slice b4 n4 q4,.slice b5 n5 q5] 28):=HSD.out.below hb4;have hck:=rCheck07_any c _ _ _ _ _ (.slice fa (Co.free c [] []).length fc) (Co.free c [] []) w4 HW.out (HR.out.below HB4.out) HFI.out (by omega);unfold Co.V at hck;obtain⟨N,hN⟩:∃N,(Co.free c [] []).length=N:=⟨_,rfl⟩
 obtain⟨E,hE⟩:∃E,Co.check c (Co.free c [] [])=E:=⟨_,rfl⟩
 rw[hN]at hck ⊢;rw[hE]at hck HALL;clear hfp hfc hb4 hN hE
 try simp only[Act.put,Zm.a,Zm.b,Zm.c]
 refine hK.out _ _ HS4.out (fun hHeld=> ?_);clear hK K;refine Zm.r 6 rfl (fun K hK=> ?_);go_simp;refine hck.mono ?_;rintro e w5 ⟨rfl,hb5⟩;have HB5:Hid (Below w.heap.size w w5):=btr HB4.out hb5;have HS5:Hid (Hp w5 w.heap.size #[.int .i64 c.k,.int .i64 c.n,.string c.s,.int .i64 c.d.k,.int .i64 c.d.n,.string c.d.s,.slice b1 n1 q1,.slice b2 n2 q2,.slice b3 n3 q3,.slice b4 n4 q4,.slice b5 n5 q5] 28):=HS4.out.below hb5;have HW5:Hid (Below w2.heap.size w2 w5):=((btr HBD2.out HBW4.out)).trans (hb5.mono (by have h1:=HBD2.out.size;have h2:=HBW4.out.size;omega));clear hb5
 try simp only[Act.put,Zm.a,Zm.b,Zm.c]
 refine hK.out _ _ HS5.out (fun hHeld=> ?_);clear hK K;by_cases hE:E=0
 ·have hEb:(E !=0)=false:=by simpa using hE
  have HP:Hid (Co.PartsPost G c (Co.all c) w (.returned (.slice (some ⟨vg,0,none⟩) ps.length vc)) w5):=by
   rw[HALL.out,if_pos hE];exact⟨_,ps,rfl,Dt.own_keep (S:=fun _=>False) HOWN.out (keep_of_below HW5.out) (fun _ _ h=>h),HMP.out,fun e=>absurd (by rw[←HMP.out,e];rfl) (Co.parts_pos c),fun p hp=>(HREP.out p hp).below HW5.out,HB5.out⟩
  clear hE;refine Zm.u 7 ?_ rfl ?_ ?_;rotate_left
  ·intro w9 hSw;clear hSw;go_simp
   try with_reducible rfl
  simp only[Act.put,Zm.a,Zm.b,Zm.c];refine Zm.u 8 ?_ rfl ?_ ?_;rotate_left
  ·intro w9 hSw;clear hSw;go_simp
   try with_reducible rfl
  simp only[Act.put,Zm.a,Zm.b,Zm.c];refine wpAnyH_done (by kernel_rfl) ?_ _;refine NoPanic.normal ?_;go_wp2;go_ret;exact HP.out
 ·have hEb:(E !=0)=true:=by simpa using hE
  have HP:Hid (Co.PartsPost G c (Co.all c) w (.returned (.slice none 0 0)) w5):=by
   rw[HALL.out,if_neg hE];exact⟨_,[],rfl,World.ownsRow_nil _ _ _ _,rfl,fun _=>rfl,(fun p hp=>nomatch hp),HB5.out⟩
  clear hE;refine Zm.u 7 ?_ rfl ?_ ?_;rotate_left
  ·intro w9 hSw;clear hSw;go_simp
   try with_reducible rfl
  simp only[Act.put,Zm.a,Zm.b,Zm.c];refine Zm.u 8 ?_ rfl ?_ ?_;rotate_left
  ·intro w9 hSw;clear hSw;go_simp
   try with_reducible rfl
  simp only[Act.put,Zm.a,Zm.b,Zm.c];refine wpAnyH_done (by kernel_rfl) ?_ _;refine NoPanic.normal ?_;go_wp2;go_ret;exact HP.out
end Go.Proofs.YtfjmlfbohenmfaaGreat
namespace Go.Proofs.YtfjmlfbohenmfaaGreat
namespace Co
open Dt (D)
abbrev Asks:=List (Int×Int)→Int→Int→Bool×List (Int×Int)
def stepsG(st:Asks)(m:List (Int×Int)):List Int→List Int→Bool×List (Int×Int)
 |[],_=>(true,m)
 |_,[]=>(true,m)
 |x :: p,y :: q=>if(st m x y).1 then stepsG st (st m x y).2 p q else st m x y
mutual
def besideG(st:Asks):C→C→Nat→Int→List (Int×Int)→Bool×Int×List (Int×Int)
 | .mk k n s d p l,b,deep,left,m=>
  if left - 1<0∨128<deep then(false,left - 1,m)
  else if like (.mk k n s d p l) b=false then(false,left - 1,m)
  else if(stepsG st m p b.p).1=false then(false,left - 1,m)
  else if(k=2∨k=4)∧(st (stepsG st m p b.p).2 n b.n).1=false then(false,left - 1,m)
  else if ¬ (k=2∨k=4)∧n≠b.n then(false,left - 1,m)
  else besideGL st l b.l (deep+1) (left - 1) (if k=2∨k=4 then(st (stepsG st m p b.p).2 n b.n).2 else(stepsG st m p b.p).2)
def besideGL(st:Asks):List C→List C→Nat→Int→List (Int×Int)→Bool×Int×List (Int×Int)
 |[],_,_,left,m=>(true,left,m)
 |a :: r,bs,deep,left,m=>match bs with
  |[]=>(true,left,m)
  |b :: q=>if(besideG st a b deep left m).1=false then besideG st a b deep left m else besideGL st r q deep (besideG st a b deep left m).2.1 (besideG st a b deep left m).2.2
end
theorem stepsG_step:∀(p q:List Int) (m:List (Int×Int)),stepsG step m p q=steps m p q
 |[],_,m=>by rw[stepsG,steps]
 |_ :: _,[],m=>by rw[stepsG,steps];all_goals (intro h;cases h)
 |x :: p,y :: q,m=>by rw[stepsG,steps,stepsG_step p q]
mutual
theorem besideG_step:∀(a b:C) (deep:Nat) (left:Int) (m:List (Int×Int)),besideG step a b deep left m=beside a b deep left m
 | .mk k n s d p l,b,deep,left,m=>by rw[besideG,beside,stepsG_step,besideGL_step]
theorem besideGL_step:∀(a b:List C) (deep:Nat) (left:Int) (m:List (Int×Int)),besideGL step a b deep left m=besideL a b deep left m
 |[],b,deep,left,m=>by rw[besideGL,besideL]
 |c :: r,[],deep,left,m=>by rw[besideGL,besideL]
 |c :: r,b :: q,deep,left,m=>by rw[besideGL,besideL];simp only[besideG_step c b,besideGL_step r q]
end
def eqs:Asks:=fun m x y=>(decide (x=y),m)
theorem stepsG_eqs:∀(p q:List Int),p.length=q.length→stepsG eqs [] p q=(decide (p=q),[])
 |[],[],_=>rfl
 |[],_ :: _,h=>by simp at h
 |_ :: _,[],h=>by simp at h
 |x :: p,y :: q,h=>by
  rw[stepsG];show(if decide (x=y)=true then stepsG eqs [] p q else(decide (x=y),[]))=_;rw[stepsG_eqs p q (by simpa using h)];by_cases e:x=y
  ·rw[if_pos (decide_eq_true e)];simp[e]
  ·rw[decide_eq_false e,if_neg (by simp)];simp[e]
theorem like_len{a b:C}(h:like a b=true):a.k=b.k∧a.s=b.s∧a.p.length=b.p.length∧a.l.length=b.l.length∧sd a.d b.d=true:=by
 unfold like at h;simpa[and_assoc]using h
mutual
theorem besideG_eqs:∀(a b:C) (deep:Nat) (left:Int),besideG eqs a b deep left []=((pairs a b deep left).1,(pairs a b deep left).2,[])
 | .mk k n s d p l,b,deep,left=>by
  rw[besideG,pairs];by_cases h1:left - 1<0∨128<deep
  ·rw[if_pos h1,if_pos h1]
  rw[if_neg h1,if_neg h1];cases h2:like (.mk k n s d p l) b
  ·rw[if_pos rfl];simp
  have hl:=(like_len h2).2.2.1;rw[if_neg (by simp),stepsG_eqs p b.p hl];by_cases h3:p=b.p
  ·rw[if_neg (by simp[h3])];by_cases h4:n=b.n
   ·rw[if_neg (show ¬ ((k=2∨k=4)∧(eqs (decide (p=b.p),([]:List (Int×Int))).2 n b.n).1=false)from fun h=>(by simp[eqs,h4]at h)),if_neg (show ¬ (¬ (k=2∨k=4)∧n≠b.n)from fun h=>h.2 h4),if_neg (show ¬ ((true&&decide (n=b.n)&&decide (p=b.p))=false)by simp[h3,h4])];have e:(if k=2∨k=4 then(eqs (decide (p=b.p),([]:List (Int×Int))).2 n b.n).2 else(decide (p=b.p),([]:List (Int×Int))).2)=[]:=by split <;> rfl
    rw[e,besideGL_eqs l b.l]
   ·rw[if_pos (by simp[h4]:(true&&decide (n=b.n)&&decide (p=b.p))=false)];by_cases hk:k=2∨k=4
    ·rw[if_pos ⟨hk,by simp[eqs,h4]⟩]
    ·rw[if_neg (fun h=>hk h.1),if_pos ⟨hk,h4⟩]
  ·rw[if_pos (by simp[h3]),if_pos (by simp[h3])]
theorem besideGL_eqs:∀(a b:List C) (deep:Nat) (left:Int),besideGL eqs a b deep left []=((pairsL a b deep left).1,(pairsL a b deep left).2,[])
 |[],b,deep,left=>by rw[besideGL,pairsL]
 |c :: r,[],deep,left=>by rw[besideGL,pairsL]
 |c :: r,b :: q,deep,left=>by
  rw[besideGL,pairsL];simp only[besideG_eqs c b];split
  ·rfl
  ·exact besideGL_eqs r q _ _
end
end Co
end Go.Proofs.YtfjmlfbohenmfaaGreat
namespace Go.Proofs.YtfjmlfbohenmfaaGreat
open Go.RowKit Go.Maps Go.WideMaps
attribute [local go_sem] Oper.semAt_some
namespace Co
structure AK where
 f:Nat
 cap:Array Value
 lb:Nat→Prop
 Sa:World→List (Int×Int)→Prop
 st:Asks
 g:Bool
 lim:Nat
def I64(x:Int):Prop:= -9223372036854775808≤x∧x≤9223372036854775807
def AK.room(E:AK)(left:Int)(j:Nat)(m:List (Int×Int)):Prop:=(m.length:Int)≤if E.g then 33*(8192 - left)+j else 0
def AK.Told(E:AK)(m:List (Int×Int))(x y:Int)(W:World)(e:Ending)(W':World):Prop:=
 e= .returned (.bool (E.st m x y).1)∧Keep E.lb W W'∧((E.st m x y).1=true→E.Sa W' (E.st m x y).2)
structure AK.Ok(E:AK):Prop where
 ent:∀args w,(callFunc E.f args).run Tryz.prog w= .ok (.enter E.f args) w
 keep:∀(S:Nat→Prop) W W' m,E.Sa W m→Keep S W W'→(∀k,E.lb k→¬S k)→E.Sa W' m
 len:∀m x y,(E.st m x y).2.length≤m.length+(if E.g then 1 else 0)
 lbl:∀k,E.lb k→k<E.lim
 told:∀W m x y,E.Sa W m→m.length≤1000000→I64 x→I64 y→Calls Tryz.prog E.f (#[.int .i64 x,.int .i64 y]++E.cap) W (E.Told m x y W)
theorem AK.Ok.room{E:AK}(hE:E.Ok){left:Int}{j:Nat}{m:List (Int×Int)}(h:E.room left j m)(x y:Int):E.room left (j+1) (E.st m x y).2:=by
 have:=hE.len m x y;unfold AK.room at h ⊢;split at h
 ·rename_i e;rw[if_pos e]at this ⊢;omega
 ·rename_i e;rw[if_neg e]at this ⊢;omega
theorem AK.room.more{E:AK}{left:Int}{i j:Nat}{m:List (Int×Int)}(h:E.room left i m)(hij:E.g=true→i≤j):E.room left j m:=by
 unfold AK.room at h ⊢;split at h
 ·rename_i e;have:=hij e;rw[if_pos e];omega
 ·rename_i e;rw[if_neg e];omega
theorem AK.room.down{E:AK}{left:Int}{m:List (Int×Int)}(h:E.room left 33 m):E.room (left - 1) 0 m:=by
 unfold AK.room at h ⊢;split at h
 ·rename_i e;rw[if_pos e];omega
 ·rename_i e;rw[if_neg e];omega
theorem AK.room.lim{E:AK}{left:Int}{j:Nat}{m:List (Int×Int)}(h:E.room left j m)(h1:0≤left)(h2:left≤8192)(h3:E.g=true→j≤33):m.length≤1000000:=by
 unfold AK.room at h;split at h
 ·rename_i e;have:=h3 e;omega
 ·omega
def LB(w:World)(L:Nat)(left:Int):Prop:=Hp w L #[.int .i64 left] 3
def ch(E:AK)(L k:Nat):Prop:=k=L∨E.lb k
def BPost(E:AK)(L:Nat)(a b:C)(deep:Nat)(left:Int)(m:List (Int×Int))(w:World)(e:Ending)(w':World):Prop:=
 e= .returned (.bool (besideG E.st a b deep left m).1)∧Keep (ch E L) w w'∧((besideG E.st a b deep left m).1=true→
  LB w' L (besideG E.st a b deep left m).2.1∧E.Sa w' (besideG E.st a b deep left m).2.2∧0≤(besideG E.st a b deep left m).2.1∧(besideG E.st a b deep left m).2.1≤left∧E.room (besideG E.st a b deep left m).2.1 0 (besideG E.st a b deep left m).2.2)
def BesIs(E:AK)(L:Nat)(a:C):Prop:=
 ∀(b:C) (G H:Nat→Prop) (vm vl vt vp vk um ul ut up uk:Value) (w:World) (deep:Nat) (left:Int) (m:List (Int×Int)),
  Wf a→Wf b→(∀k,G k→¬ch E L k)→(∀k,H k→¬ch E L k)→Rep G w a vm vl vt vp vk→Rep H w b um ul ut up uk→LB w L left→E.Sa w m→0≤left→left≤8192→deep≤4611686018427387904→(E.g=true→∀x∈parts a,x.p.length≤32)→E.room left 0 m→E.lim≤w.heap.size→
  Calls Tryz.prog 38 #[V a vm vl vt vp vk,V b um ul ut up uk,.int .i64 (deep:Int),.pointer (some ⟨L,0,none⟩),.func (.func E.f) #[] E.cap] w (BPost E L a b deep left m w)
structure Tw(a:C)(vm vl vt vp vk:Value)(b:C)(um ul ut up uk:Value)(G H:Nat→Prop)(A0 B0:Nat)(wx:World):Prop where
 ba:Bc wx A0 a vm vl vt vp vk
 bb:Bc wx B0 b um ul ut up uk
 ra:Rep G wx a vm vl vt vp vk
 rb:Rep H wx b um ul ut up uk
theorem Tw.keep{a b:C}{vm vl vt vp vk um ul ut up uk:Value}{G H S:Nat→Prop}{A0 B0:Nat}{wx wy:World}(h:Tw a vm vl vt vp vk b um ul ut up uk G H A0 B0 wx)(hk:Keep S wx wy)(h1:¬S A0)(h2:¬S B0)(h3:∀k,G k→¬S k)(h4:∀k,H k→¬S k):Tw a vm vl vt vp vk b um ul ut up uk G H A0 B0 wy:=
 ⟨h.ba.keep hk h1,h.bb.keep hk h2,Rep.keep hk (fun k hk' _=>h3 k hk') a h.ra,Rep.keep hk (fun k hk' _=>h4 k hk') b h.rb⟩
theorem Tw.below{a b:C}{vm vl vt vp vk um ul ut up uk:Value}{G H:Nat→Prop}{A0 B0:Nat}{wx wy:World}(h:Tw a vm vl vt vp vk b um ul ut up uk G H A0 B0 wx)(hk:Below wx.heap.size wx wy):Tw a vm vl vt vp vk b um ul ut up uk G H A0 B0 wy:=
 h.keep (S:=fun _=>False) (keep_of_below hk) id id (fun _ _=>id) (fun _ _=>id)
structure Q1(E:AK)(L:Nat)(a b:C)(left:Int)(m:List (Int×Int))(w:World)(T:World→Prop)(j:Nat)(wx:World):Prop where
 tw:T wx
 lb:LB wx L (left - 1)
 kp:Keep (ch E L) w wx
 ms:∃mj,E.Sa wx mj∧E.room left j mj∧stepsG E.st m a.p b.p=stepsG E.st mj (a.p.drop j) (b.p.drop j)
structure Q2(E:AK)(L:Nat)(a b:C)(left:Int)(m:List (Int×Int))(w:World)(T:World→Prop)(S:Bool)(wx:World):Prop where
 tw:T wx
 lb:LB wx L (left - 1)
 kp:Keep (ch E L) w wx
 ok:(stepsG E.st m a.p b.p).1=true
 sv:S=if a.k=2∨a.k=4 then(E.st (stepsG E.st m a.p b.p).2 a.n b.n).1 else decide (a.n=b.n)
 ms:S=true→E.Sa wx (if a.k=2∨a.k=4 then(E.st (stepsG E.st m a.p b.p).2 a.n b.n).2 else(stepsG E.st m a.p b.p).2)∧E.room left 33 (if a.k=2∨a.k=4 then(E.st (stepsG E.st m a.p b.p).2 a.n b.n).2 else(stepsG E.st m a.p b.p).2)
theorem Q2.below{E:AK}{L:Nat}{a b:C}{left:Int}{m:List (Int×Int)}{w wx wy:World}{T:World→Prop}{S:Bool}(hE:E.Ok)(h:Q2 E L a b left m w T S wx)(hT:T wy)(hb:Below wx.heap.size wx wy):Q2 E L a b left m w T S wy:=
 ⟨hT,Hp.below h.lb hb,h.kp.below hb,h.ok,h.sv,fun e=>⟨hE.keep (fun _=>False) _ _ _ (h.ms e).1 (keep_of_below hb) (fun _ _=>id),(h.ms e).2⟩⟩
structure Q3(E:AK)(L:Nat)(a b:C)(deep:Nat)(left:Int)(m:List (Int×Int))(w:World)(T:World→Prop)(j:Nat)(wx:World):Prop where
 tw:T wx
 kp:Keep (ch E L) w wx
 ms:∃lj mj,LB wx L lj∧E.Sa wx mj∧0≤lj∧lj≤left - 1∧E.room lj 0 mj∧besideG E.st a b deep left m=besideGL E.st (a.l.drop j) (b.l.drop j) (deep+1) lj mj
theorem bg_not{st:Asks}{a b:C}{deep:Nat}{left:Int}{m:List (Int×Int)}(h:(left - 1<0∨128<deep)∨like a b=false∨(stepsG st m a.p b.p).1=false∨(if a.k=2∨a.k=4 then(st (stepsG st m a.p b.p).2 a.n b.n).1 else decide (a.n=b.n))=false):(besideG st a b deep left m).1=false:=by
 obtain⟨k,n,s,d,p,l⟩:=a;rw[besideG];by_cases h1:left - 1<0∨128<deep
 ·rw[if_pos h1]
 rw[if_neg h1];by_cases h2:like (.mk k n s d p l) b=false
 ·rw[if_pos h2]
 rw[if_neg h2];by_cases h3:(stepsG st m p b.p).1=false
 ·rw[if_pos h3]
 rw[if_neg h3];have h4:(if k=2∨k=4 then(st (stepsG st m p b.p).2 n b.n).1 else decide (n=b.n))=false:=((h.resolve_left h1).resolve_left h2).resolve_left h3;by_cases hk:k=2∨k=4
 ·rw[if_pos hk]at h4;rw[if_pos ⟨hk,h4⟩]
 ·rw[if_neg hk]at h4;rw[if_neg (fun h=>hk h.1),if_pos ⟨hk,of_decide_eq_false h4⟩]
theorem bg_go{st:Asks}{a b:C}{deep:Nat}{left:Int}{m:List (Int×Int)}(h1:0≤left - 1)(h2:deep≤128)(h3:like a b=true)(h4:(stepsG st m a.p b.p).1=true)(h5:(if a.k=2∨a.k=4 then(st (stepsG st m a.p b.p).2 a.n b.n).1 else decide (a.n=b.n))=true):
  besideG st a b deep left m=besideGL st a.l b.l (deep+1) (left - 1) (if a.k=2∨a.k=4 then(st (stepsG st m a.p b.p).2 a.n b.n).2 else(stepsG st m a.p b.p).2):=by
 obtain⟨k,n,s,d,p,l⟩:=a;have h4:(stepsG st m p b.p).1=true:=h4;have h5:(if k=2∨k=4 then(st (stepsG st m p b.p).2 n b.n).1 else decide (n=b.n))=true:=h5;rw[besideG,if_neg (by omega),if_neg (by rw[h3];simp),if_neg (by rw[h4];simp)];by_cases hk:k=2∨k=4
 ·rw[if_pos hk]at h5;rw[if_neg (show ¬ ((k=2∨k=4)∧(st (stepsG st m p b.p).2 n b.n).1=false)from fun h=>by rw[h5]at h;cases h.2),if_neg (show ¬ (¬ (k=2∨k=4)∧n≠b.n)from fun h=>h.1 hk)]
  rfl
 ·rw[if_neg hk]at h5;rw[if_neg (show ¬ ((k=2∨k=4)∧(st (stepsG st m p b.p).2 n b.n).1=false)from fun h=>hk h.1),if_neg (show ¬ (¬ (k=2∨k=4)∧n≠b.n)from fun h=>h.2 (of_decide_eq_true h5))]
  rfl
theorem like_of{a b:C}(h1:a.k=b.k)(h2:a.s=b.s)(h3:a.p.length=b.p.length)(h4:a.l.length=b.l.length):like a b=sd a.d b.d:=by
 unfold like;rw[decide_eq_true h1,decide_eq_true h2,decide_eq_true h3,decide_eq_true h4];simp
theorem fm_num(k:Int):((fm k).2.1==1)=decide (k=2∨k=4):=by
 by_cases h:1≤k∧k≤10
 ·obtain rfl|rfl|rfl|rfl|rfl|rfl|rfl|rfl|rfl|rfl:k=1∨k=2∨k=3∨k=4∨k=5∨k=6∨k=7∨k=8∨k=9∨k=10:=by omega
  all_goals rfl
 ·unfold fm;rw[if_neg h,decide_eq_false (by omega)]
  rfl
theorem parts_p{a x:C}(hx0:x∈a.l){q:C}(hq:q∈parts x):q∈parts a:=by
 obtain⟨k,n,s,d,p,l⟩:=a;have hx:x∈l:=hx0;clear hx0;rw[parts];refine List.mem_cons_of_mem _ ?_;clear k n s d p
 induction l with
 |nil=>simp at hx
 |cons y r ih=>
  rw[partsL];rcases List.mem_cons.1 hx with rfl|h
  ·exact List.mem_append.2 (.inl hq)
  ·exact List.mem_append.2 (.inr (ih h))
theorem parts_self(a:C):a∈parts a:=by
 obtain⟨k,n,s,d,p,l⟩:=a;rw[parts];exact List.mem_cons_self ..
end Co
theorem coBes_step(E:Co.AK)(hE:E.Ok)(L:Nat)(hL:¬E.lb L)(a:Co.C)(hch:∀y∈a.l,Co.BesIs E L y):Co.BesIs E L a:=by
 intro b G H vm vl vt vp vk um ul ut up uk w deep left m hWa hWb hG hH hRa hRb hLB hSt hl0 hl1 hdeep hpar hroom hlim;obtain⟨-,⟨ap,cp,rfl,hlcp,-⟩,⟨ak,ck,rfl,hlck,-⟩⟩:=(Co.rep_iff _ _ _ _ _ _ _ _).1 hRa;obtain⟨-,⟨bp,dp,rfl,hldp,-⟩,⟨bk,dk,rfl,hldk,-⟩⟩:=(Co.rep_iff _ _ _ _ _ _ _ _).1 hRb;unfold Co.V;obtain⟨w1,hw1⟩:∃w1,w.alloc (.cells #[.int .i64 a.k,.int .i64 a.n,.string a.s,.int .i64 a.d.k,.int .i64 a.d.n,.string a.d.s,vm,vl,vt,.slice ap a.p.length cp,.slice ak a.l.length ck] 28)=w1:=⟨_,rfl⟩
 obtain⟨w2,hw2⟩:∃w2,w1.alloc (.cells #[.int .i64 b.k,.int .i64 b.n,.string b.s,.int .i64 b.d.k,.int .i64 b.d.n,.string b.d.s,um,ul,ut,.slice bp b.p.length dp,.slice bk b.l.length dk] 28)=w2:=⟨_,rfl⟩
 obtain⟨hb1,hs1⟩:=new_below hw1;obtain⟨hb2,hs2⟩:=new_below hw2;obtain⟨A0,hA0⟩:∃A0,w.heap.size=A0:=⟨_,rfl⟩
 obtain⟨B0,hB0⟩:∃B0,w1.heap.size=B0:=⟨_,rfl⟩
 have hb02:Below w.heap.size w w2:=hb1.trans (hb2.mono (by omega));have ha0:Co.Bc w1 w.heap.size a vm vl vt (.slice ap a.p.length cp) (.slice ak a.l.length ck):=Hp.new hw1;have hbb0:Co.Bc w2 w1.heap.size b um ul ut (.slice bp b.p.length dp) (.slice bk b.l.length dk):=Hp.new hw2;rw[hA0]at ha0;rw[hB0]at hbb0;have hll:L<w.heap.size:=hLB.lt;have hl2:Co.LB w2 L left:=hLB.below hb02;obtain⟨w3,hw3⟩:∃w3,w2.setCell ⟨L,0,none⟩ (.int .i64 (left - 1))=w3:=⟨_,rfl⟩
 have hk3:Keep (fun k=>k=L) w2 w3:=by rw[←hw3];exact set_keep _ _ _ _
 have hl3:Co.LB w3 L (left - 1):=by
  rw[←hw3];exact Hp.set hl2 0 _
 have htw2:Co.Tw a vm vl vt (.slice ap a.p.length cp) (.slice ak a.l.length ck) b um ul ut (.slice bp b.p.length dp) (.slice bk b.l.length dk) G H A0 B0 w2:=⟨ha0.keep (S:=fun _=>False) (keep_of_below hb2) id,hbb0,hRa.below hb02,hRb.below hb02⟩
 have HNL:Hid (¬Co.ch E L A0∧¬Co.ch E L B0∧A0≠L∧B0≠L∧A0=w.heap.size∧B0=w.heap.size+1):=
  ⟨fun h=>h.elim (fun e=>by omega) (fun h=>by have:=hE.lbl _ h;omega),fun h=>h.elim (fun e=>by omega) (fun h=>by have:=hE.lbl _ h;omega),by omega,by omega,by omega,by omega⟩
 have HTW:=hd (htw2.keep hk3 HNL.out.2.2.1 HNL.out.2.2.2.1 (fun k hk e=>hG k hk (.inl e)) (fun k hk e=>hH k hk (.inl e)));have HKP:Hid (Keep (Co.ch E L) w w3):=((Keep.refl _ w).below hb02).trans (hk3.le fun k e=> .inl e);have HL3:=hd hl3;have HST:Hid (E.Sa w3 m):=hE.keep _ _ _ _ (hE.keep (fun _=>False) _ _ _ hSt (keep_of_below hb02) (fun _ _=>id)) hk3 (fun k hk e=>hL (by rw[←e];exact hk));have HE:=hd hE;have HCH:=hd hch;have HWA:=hd hWa;have HWB:=hd hWb;have HG:=hd hG;have HH:=hd hH;have HPAR:=hd hpar;have HROOM:=hd hroom;have HLIM:=hd hlim;have HNLB:=hd hL;have hla:a.p.length≤140737488355328:=(Co.wf_parts hWa).2.2.2.1;have hlb:b.p.length≤140737488355328:=(Co.wf_parts hWb).2.2.2.1;have hka:a.l.length≤140737488355328:=(Co.wf_parts hWa).2.2.2.2.2.1;have hkb:b.l.length≤140737488355328:=(Co.wf_parts hWb).2.2.2.2.2.1;have HNOT:Hid (∀wx,Keep (Co.ch E L) w wx→(left - 1<0∨128<deep)∨Co.like a b=false∨(Co.stepsG E.st m a.p b.p).1=false∨(if a.k=2∨a.k=4 then(E.st (Co.stepsG E.st m a.p b.p).2 a.n b.n).1 else decide (a.n=b.n))=false→Co.BPost E L a b deep left m w (.returned (.bool false)) wx):=fun wx hk hn=>by
  have e:=Co.bg_not hn (deep:=deep) (left:=left);exact⟨by rw[e],hk,fun h=>by rw[e]at h;cases h⟩
 have HX:=hd hl2;have x0:=HX.out.cell 0 rfl;have xf0:=HX.out.frz 0;have HY:=hd hl3;have HA:Hid (Co.Bc w3 A0 a vm vl vt (.slice ap a.p.length cp) (.slice ak a.l.length ck)):=HTW.out.ba;have HB:Hid (Co.Bc w3 B0 b um ul ut (.slice bp b.p.length dp) (.slice bk b.l.length dk)):=HTW.out.bb;have y0:=HY.out.cell 0 rfl;obtain⟨a0,a1,a2,a3,a4,a5,a6,a7,a8,a9,a10⟩:=HA.out.c11;obtain⟨b0,b1,b2,b3,b4,b5,b6,b7,b8,b9,b10⟩:=HB.out.c11;clear hE hch hWa hWb hG hH hRa hRb hLB hSt hpar hroom hlim hL hb1 hb2 hb02 ha0 hbb0 hl2 hk3 hl3 htw2 hs1 hs2;by_cases g1:left - 1<0
 ·have t1:decide (left - 1<0)=true:=decide_eq_true g1;have HR:=hd (HNOT.out w3 HKP.out (.inl (.inl g1)));clear g1;go_enter Tryz.func38,Tryz.ntmps38;go_wp2;go_ret;exact HR.out
 have t1:decide (left - 1<0)=false:=decide_eq_false g1;by_cases g2:128<deep
 ·have t2:decide ((128:Int)<(deep:Int))=true:=decide_eq_true (by omega);have HR:=hd (HNOT.out w3 HKP.out (.inl (.inr g2)));clear g2;go_enter Tryz.func38,Tryz.ntmps38;go_wp2;go_ret;exact HR.out
 have t2:decide ((128:Int)<(deep:Int))=false:=decide_eq_false (by omega);by_cases g3:¬a.k=b.k
 ·have t3:(a.k !=b.k)=true:=by simpa using g3
  have HR:=hd (HNOT.out w3 HKP.out (.inr (.inl (by unfold Co.like;rw[decide_eq_false g3];rfl))));clear g3;go_enter Tryz.func38,Tryz.ntmps38;go_wp2;go_ret;exact HR.out
 have t3:(a.k !=b.k)=false:=by simpa using g3
 by_cases g4:¬a.s=b.s
 ·have s1:decide (a.s=b.s)=false:=decide_eq_false g4;have s2:(a.s.data==b.s.data)=false:=by rw[beq_eq_false_iff_ne];intro e;exact g4 (Dt.bytes_ext (by rw[e]))
  have s3:(a.s.data !=b.s.data)=true:=by rw[bne,s2];rfl
  have s4:(a.s==b.s)=false:=s2;have s5:(a.s !=b.s)=true:=s3;have s6:(a.s.toList==b.s.toList)=false:=by rw[ByteArray.toList_eq,ByteArray.toList_eq,beq_eq_false_iff_ne];exact fun e=>g4 (Dt.bytes_ext e)
  have s7:(a.s.toList !=b.s.toList)=true:=by rw[bne,s6];rfl
  have HR:=hd (HNOT.out w3 HKP.out (.inr (.inl (by unfold Co.like;rw[decide_eq_false g4];simp))));clear g4;go_enter Tryz.func38,Tryz.ntmps38;go_wp2;go_ret;exact HR.out
 have s1:decide (a.s=b.s)=true:=decide_eq_true (Classical.not_not.1 g4);have s2:(a.s.data==b.s.data)=true:=by rw[Classical.not_not.1 g4];simp
 have s3:(a.s.data !=b.s.data)=false:=by rw[bne,s2];rfl
 have s4:(a.s==b.s)=true:=s2;have s5:(a.s !=b.s)=false:=s3;have s6:(a.s.toList==b.s.toList)=true:=by rw[Classical.not_not.1 g4];simp
 have s7:(a.s.toList !=b.s.toList)=false:=by rw[bne,s6];rfl
 by_cases g5:¬a.p.length=b.p.length
 ·have t5:((a.p.length:Int) !=(b.p.length:Int))=true:=by rw[bne_iff_ne];exact fun e=>g5 (by omega)
  have HR:=hd (HNOT.out w3 HKP.out (.inr (.inl (by unfold Co.like;rw[decide_eq_false g5];simp))));clear g5;go_enter Tryz.func38,Tryz.ntmps38;go_wp2;go_ret;exact HR.out
 have t5:((a.p.length:Int) !=(b.p.length:Int))=false:=by rw[bne_eq_false_iff_eq];exact congrArg _ (Classical.not_not.1 g5)
 by_cases g6:¬a.l.length=b.l.length
 ·have t6:((a.l.length:Int) !=(b.l.length:Int))=true:=by rw[bne_iff_ne];exact fun e=>g6 (by omega)
  have HR:=hd (HNOT.out w3 HKP.out (.inr (.inl (by unfold Co.like;rw[decide_eq_false g6];simp))));clear g6;go_enter Tryz.func38,Tryz.ntmps38;go_wp2;go_ret;exact HR.out
 have t6:((a.l.length:Int) !=(b.l.length:Int))=false:=by rw[bne_eq_false_iff_eq];exact congrArg _ (Classical.not_not.1 g6)
 have hg3:=Classical.not_not.1 g3;have hg4:=Classical.not_not.1 g4;have hg5:=Classical.not_not.1 g5;have hg6:=Classical.not_not.1 g6;have HLK:Hid (Co.like a b=Co.sd a.d b.d):=Co.like_of hg3 hg4 hg5 hg6;have HG5:=hd hg5;have HG6:=hd hg6;have HQ0:Hid (Co.Q1 E L a b left m w (Co.Tw a vm vl vt (.slice ap a.p.length cp) (.slice ak a.l.length ck) b um ul ut (.slice bp b.p.length dp) (.slice bk b.l.length dk) G H A0 B0) 0 w3):=⟨HTW.out,HL3.out,HKP.out,m,HST.out,HROOM.out,rfl⟩
 have HP32:Hid (E.g=true→a.p.length≤32):=fun e=>HPAR.out e a (Co.parts_self a)
 clear g3 g4 g5 g6 hg3 hg4 hg5 hg6;go_enter Tryz.func38,Tryz.ntmps38;go_upto_block 0 with fail
 clear x0 xf0 y0 t1 t2 t3 s1 s2 s3 s4 s5 s6 s7 t5 t6 hw1 hw2 hw3 HTW HL3 HKP HST HX HY HA HB;clear a0 a1 a2 a3 a4 a5 a6 a7 a8 a9 a10 b0 b1 b2 b3 b4 b5 b6 b7 b8 b9 b10
 go_cut [] (fun wx=>Co.Q1 E L a b left m w (Co.Tw a vm vl vt (.slice ap a.p.length cp) (.slice ak a.l.length ck) b um ul ut (.slice bp b.p.length dp) (.slice bk b.l.length dk) G H A0 B0) a.p.length wx)
 case first=>
  go_wp2
  go_loopw [65] (fun v wr=>∃j:Nat,v= .int .i64 j∧j≤a.p.length∧Hid (Co.Q1 E L a b left m w (Co.Tw a vm vl vt (.slice ap a.p.length cp) (.slice ak a.l.length ck) b um ul ut (.slice bp b.p.length dp) (.slice bk b.l.length dk) G H A0 B0) j wr)) (fun v _=>a.p.length - (intOf v).toNat)
  case atStart=>exact⟨0,rfl,by omega,HQ0⟩
  case round=>
   clear HQ0;obtain⟨j,rfl,hj,HQ⟩:=hrel;by_cases hlt:j<a.p.length
   case neg=>
    have hge:(a.p.length:Int)≤(j:Int):=by omega
    have HE1:Hid (Co.Q1 E L a b left m w (Co.Tw a vm vl vt (.slice ap a.p.length cp) (.slice ak a.l.length ck) b um ul ut (.slice bp b.p.length dp) (.slice bk b.l.length dk) G H A0 B0) a.p.length wr):=by
     have:=HQ.out;rw[show j=a.p.length by omega]at this;exact this
    go_wp2;go_meet;exact HE1.out
   have hlti:(j:Int)<(a.p.length:Int):=by omega
   have hltn:j<b.p.length:=by have:=HG5.out;omega
   have hltb:(j:Int)<(b.p.length:Int):=by omega
   obtain⟨htw,hlb,hkp,mj,hst,hrm,hsp⟩:=HQ.out;obtain⟨-,⟨_,_,he,_,hrow⟩,-⟩:=(Co.rep_iff _ _ _ _ _ _ _ _).1 htw.ra;injection he with he1 he2 he3
   subst he1;clear he2 he3;obtain⟨ba,oa,rfl,hGa,hbla,hcella⟩:=hrow (by intro h0;rw[h0]at hlt;simp at hlt);have p0:=hcella j hlt;obtain⟨-,⟨_,_,he,_,hrow'⟩,-⟩:=(Co.rep_iff _ _ _ _ _ _ _ _).1 htw.rb;injection he with he1 he2 he3
   subst he1;clear he2 he3;obtain⟨bb,ob,rfl,hHb,hblb,hcellb⟩:=hrow' (by intro h0;rw[h0]at hltn;simp at hltn);have p1:=hcellb j hltn;have b4:=htw.bb.cell 4 rfl;have b9:=htw.bb.cell 9 rfl;obtain⟨x,hx⟩:∃x,a.p[j]=x:=⟨_,rfl⟩
   obtain⟨y,hy⟩:∃y,b.p[j]=y:=⟨_,rfl⟩
   rw[hx]at p0;rw[hy]at p1;have hx64:Co.I64 x:=by rw[←hx];exact(Co.wf_parts HWA.out).2.2.2.2.1 _ (List.getElem_mem hlt)
   have hy64:Co.I64 y:=by rw[←hy];exact(Co.wf_parts HWB.out).2.2.2.2.1 _ (List.getElem_mem hltn)
   rw[List.drop_eq_getElem_cons hlt,List.drop_eq_getElem_cons hltn,hx,hy,Co.stepsG]at hsp;have hcall:=HE.out.told wr mj x y hst (hrm.lim hl0 hl1 (fun e=>by have:=HP32.out e;omega)) hx64 hy64;have hrm':=HE.out.room hrm x y;unfold Co.AK.Told at hcall;obtain⟨R,hR⟩:∃R,(E.st mj x y).1=R:=⟨_,rfl⟩
   obtain⟨m',hm'⟩:∃m',(E.st mj x y).2=m':=⟨_,rfl⟩
   rw[hR,hm']at hcall;rw[hm']at hrm';rw[hR,hm']at hsp;have hent:=HE.out.ent;have HTW:=hd htw;have HLB:=hd hlb;have HKP:=hd hkp;have HSP:=hd hsp;have HRM:=hd hrm';have HRR:=hd hR;clear htw hlb hkp hst hrm hsp hrow hrow' hcella hcellb hx hy hx64 hy64 hrm' hR hm';go_wp2_with fail
   refine hcall.mono ?_;rintro e w4 ⟨rfl,hk4,hs4⟩;have hkc:Keep (Co.ch E L) wr w4:=hk4.le fun k hk=> .inr hk
   cases R with
   |false=>
    have HR:=hd (HNOT.out w4 (HKP.out.trans hkc) (.inr (.inr (.inl (by rw[HSP.out,if_neg (by simp)];exact HRR.out)))));clear hcall hent hk4 hs4 hkc p0 p1 b4 b9;go_wp2;go_ret;exact HR.out
   |true=>
    have HQ2:Hid (Co.Q1 E L a b left m w (Co.Tw a vm vl vt (.slice (some ⟨ba,oa,none⟩) a.p.length cp) (.slice ak a.l.length ck) b um ul ut (.slice (some ⟨bb,ob,none⟩) b.p.length dp) (.slice bk b.l.length dk) G H A0 B0) (j+1) w4):=
     ⟨HTW.out.keep hkc HNL.out.1 HNL.out.2.1 HG.out HH.out,HLB.out.keep hk4 HNLB.out,HKP.out.trans hkc,m',hs4 rfl,HRM.out,by rw[HSP.out,if_pos rfl]⟩
    clear hcall hent hk4 hs4 hkc p0 p1 b4 b9;go_wp2;go_roundw
    case rel=>exact⟨j+1,by simp,by omega,HQ2⟩
    case measure=>simp[intOf];omega
 case rest=>
  obtain⟨w4,rfl⟩:∃w4,w4=wc:=⟨_,rfl⟩
  clear HQ0;obtain⟨htw,hlb,hkp,mj,hst,hrm,hsp⟩:=hcut;rw[List.drop_length,Co.stepsG]at hsp;have HA:Hid (Co.Bc w4 A0 a vm vl vt (.slice ap a.p.length cp) (.slice ak a.l.length ck)):=htw.ba;have HB:Hid (Co.Bc w4 B0 b um ul ut (.slice bp b.p.length dp) (.slice bk b.l.length dk)):=htw.bb;have a0:=HA.out.cell 0 rfl;have a1:=HA.out.cell 1 rfl;have b1:=HB.out.cell 1 rfl;have hfm:=fun W=>forms_any a.k W
  obtain⟨fs,fh,fl,ft,hfv,hfh⟩:∃(fs:ByteArray) (fh fl ft:Int),Co.fmV a.k= .agg #[.string fs,.int .i64 fh,.int .i64 fl,.int .i64 ft]∧(fh==1)=decide (a.k=2∨a.k=4):=⟨_,_,_,_,rfl,Co.fm_num a.k⟩
  rw[hfv]at hfm;obtain⟨ik,hik⟩:∃ik,Co.isKind a.k=ik:=⟨_,rfl⟩
  rw[hik]at hfm;obtain⟨K,hK⟩:∃K,decide (a.k=2∨a.k=4)=K:=⟨_,rfl⟩
  rw[hK]at hfh;obtain⟨N0,hN0⟩:∃N0,(a.n==b.n)=N0:=⟨_,rfl⟩
  have hN1:decide (a.n=b.n)=N0:=by rw[←hN0];by_cases h:a.n=b.n <;> simp[h]
  have HN1:=hd hN1;have HK:=hd hK;have HTW:=hd htw;have HLB:=hd hlb;have HKP:=hd hkp;have HSP:=hd hsp;have HST:=hd hst;have HRM:=hd hrm;clear hfv hik hK htw hlb hkp hsp hst hrm hN1
  go_upto_if 93 with((go_at_call 49;refine(hfm _).mono ?_;rintro e w5 ⟨rfl,hb5⟩;clear hfm a0 a1 b1;have hw6:w5.alloc (.cells #[.string fs,.int .i64 fh,.int .i64 fl,.int .i64 ft] 88)=w5.alloc (.cells #[.string fs,.int .i64 fh,.int .i64 fl,.int .i64 ft] 88):=rfl;obtain⟨hb6,-⟩:=new_below hw6;have f0:=(Hp.new hw6).cell 0 rfl;have f1:=(Hp.new hw6).cell 1 rfl;have HB6:=hd ((btr hb5 hb6));clear hb5 hb6 hw6))
  obtain⟨w6,hw6⟩:∃w6,w5.alloc (.cells #[.string fs,.int .i64 fh,.int .i64 fl,.int .i64 ft] 88)=w6:=⟨_,rfl⟩
  rw[hw6]at f0 f1 HB6 ⊢;clear hw6;have HTW6:=hd (HTW.out.below HB6.out);have HLB6:Hid (Co.LB w6 L (left - 1)):=HLB.out.below HB6.out;have HKP6:Hid (Keep (Co.ch E L) w w6):=HKP.out.below HB6.out;have HST6:Hid (E.Sa w6 mj):=HE.out.keep (fun _=>False) _ _ _ HST.out (keep_of_below HB6.out) (fun _ _=>id);have HOK:Hid ((Co.stepsG E.st m a.p b.p).1=true):=by show _=_;rw[HSP.out]
  clear HTW HLB HKP HST HA HB
  go_cut [13] (fun v wx=>∃S:Bool,v= .bool S∧Co.Q2 E L a b left m w (Co.Tw a vm vl vt (.slice ap a.p.length cp) (.slice ak a.l.length ck) b um ul ut (.slice bp b.p.length dp) (.slice bk b.l.length dk) G H A0 B0) S wx)
  case first=>
   cases K with
   |false=>
    have hk:¬ (a.k=2∨a.k=4):=of_decide_eq_false HK.out;have HQ:Hid (Co.Q2 E L a b left m w (Co.Tw a vm vl vt (.slice ap a.p.length cp) (.slice ak a.l.length ck) b um ul ut (.slice bp b.p.length dp) (.slice bk b.l.length dk) G H A0 B0) N0 w6):=⟨HTW6.out,HLB6.out,HKP6.out,HOK.out,by rw[if_neg hk];exact HN1.out.symm,fun _=>by rw[if_neg hk,HSP.out];exact⟨HST6.out,HRM.out.more (fun e=>by have:=HP32.out e;omega)⟩⟩
    clear hk;go_wp2;go_meet;exact⟨N0,rfl,HQ.out⟩
   |true=>
    have hkt:a.k=2∨a.k=4:=of_decide_eq_true HK.out;have HKT:=hd hkt;clear hkt;have a1:=HTW6.out.ba.cell 1 rfl;have b1:=HTW6.out.bb.cell 1 rfl;have hcall:=HE.out.told w6 mj a.n b.n HST6.out (HRM.out.lim hl0 hl1 (fun e=>by have:=HP32.out e;omega)) (Co.wf_parts HWA.out).1 (Co.wf_parts HWB.out).1;have hrm':=HE.out.room HRM.out a.n b.n;unfold Co.AK.Told at hcall;obtain⟨R,hR⟩:∃R,(E.st mj a.n b.n).1=R:=⟨_,rfl⟩
    obtain⟨m',hm'⟩:∃m',(E.st mj a.n b.n).2=m':=⟨_,rfl⟩
    rw[hR,hm']at hcall;rw[hm']at hrm';have hent:=HE.out.ent;have HRM':=hd hrm';have HRR:=hd hR;have HMM:=hd hm';clear hrm' hR hm';go_wp2_with fail
    refine hcall.mono ?_;rintro e w7 ⟨rfl,hk7,hs7⟩;have hkc:Keep (Co.ch E L) w6 w7:=hk7.le fun k hk=> .inr hk
    have HQ:Hid (Co.Q2 E L a b left m w (Co.Tw a vm vl vt (.slice ap a.p.length cp) (.slice ak a.l.length ck) b um ul ut (.slice bp b.p.length dp) (.slice bk b.l.length dk) G H A0 B0) R w7):=⟨HTW6.out.keep hkc HNL.out.1 HNL.out.2.1 HG.out HH.out,HLB6.out.keep hk7 HNLB.out,HKP6.out.trans hkc,HOK.out,by rw[if_pos HKT.out,HSP.out];exact HRR.out.symm,fun e=>by rw[if_pos HKT.out,HSP.out];dsimp only;rw[HMM.out];exact⟨hs7 e,HRM'.out.more (fun e=>by have:=HP32.out e;omega)⟩⟩
    clear hcall hent hk7 hs7 hkc a1 b1;go_wp2;go_meet;exact⟨R,rfl,HQ.out⟩
  case rest=>
   obtain⟨S,rfl,hq⟩:=hcut;obtain⟨w7,rfl⟩:∃w7,w7=wc:=⟨_,rfl⟩
   have HQ:=hd hq;clear hq HTW6 HLB6 HKP6 HST6 f0 f1 hfh HB6 hN0;go_upto_region 14 with fail
   go_cut [119] (fun v wx=>∃Y:Bool,v= .bool Y∧Y= !(S&&Co.sd a.d b.d)∧Co.Q2 E L a b left m w (Co.Tw a vm vl vt (.slice ap a.p.length cp) (.slice ak a.l.length ck) b um ul ut (.slice bp b.p.length dp) (.slice bk b.l.length dk) G H A0 B0) S wx)
   case first=>
    cases S with
    |false=>
     go_wp2;go_meet;exact⟨_,rfl,rfl,HQ.out⟩
    |true=>
     have HA:Hid (Co.Bc w7 A0 a vm vl vt (.slice ap a.p.length cp) (.slice ak a.l.length ck)):=HQ.out.tw.ba;have HB:Hid (Co.Bc w7 B0 b um ul ut (.slice bp b.p.length dp) (.slice bk b.l.length dk)):=HQ.out.tw.bb;have hra:=fun W (hb:Below w7.heap.size w7 W)=>((Co.rep_iff _ _ _ _ _ _ _ _).1 (HQ.out.tw.below hb).ra).1
     have hrb:=fun W (hb:Below w7.heap.size w7 W)=>((Co.rep_iff _ _ _ _ _ _ _ _).1 (HQ.out.tw.below hb).rb).1
     have hza:=fun W (hb:Below w7.heap.size w7 W)=>zeroC_any a.d vm vl vt W (Co.wf_parts HWA.out).2.2.1 (hra W hb)
     have hzb:=fun W (hb:Below w7.heap.size w7 W)=>zeroC_any b.d um ul ut W (Co.wf_parts HWB.out).2.2.1 (hrb W hb)
     have hsd:=fun W (hb:Below w7.heap.size w7 W)=>dSame_any a.d b.d vm vl vt um ul ut W (Co.wf_parts HWA.out).2.2.1 (Co.wf_parts HWB.out).2.2.1 (hra W hb) (hrb W hb)
     have hX:Co.sd a.d b.d=Co.sd a.d b.d:=rfl
     conv at hX=>rhs;unfold Co.sd
     obtain⟨za,hza'⟩:∃za,Co.none_ a.d=za:=⟨_,rfl⟩
     obtain⟨zb,hzb'⟩:∃zb,Co.none_ b.d=zb:=⟨_,rfl⟩
     obtain⟨Z,hZ⟩:∃Z,Dt.sameD a.d b.d=Z:=⟨_,rfl⟩
     rw[hza',hzb',hZ]at hX;rw[hza']at hza;rw[hzb']at hzb;rw[hZ]at hsd;have HXX:=hd hX;clear hX;clear hza' hzb' hZ hra hrb;obtain⟨a0,a1,a2,a3,a4,a5,a6,a7,a8,a9,a10⟩:=HA.out.c11;go_wp2_with fail
     refine(hza w7 (Below.refl _ _)).mono ?_;rintro e w8 ⟨rfl,hb8⟩;clear a0 a1 a2 a3 a4 a5 a6 a7 a8 a9 a10;have HB8:=hd hb8;have hA8:=HA.out.below hb8;have hBB8:=HB.out.below hb8
     cases za with
     |true=>
      obtain⟨b0,b1,b2,b3,b4,b5,b6,b7,b8,b9,b10⟩:=HB.out.c11;clear b0 b1 b2 b3 b4 b5 b6 b7 b8 b9 b10;have HBB8:=hd hBB8;obtain⟨b0,b1,b2,b3,b4,b5,b6,b7,b8,b9,b10⟩:=HBB8.out.c11;clear hA8 hBB8 hb8;go_wp2_with fail
      refine(hzb w8 HB8.out).mono ?_;rintro e w9 ⟨rfl,hb9⟩;clear b0 b1 b2 b3 b4 b5 b6 b7 b8 b9 b10;have HB9:Hid (Below w7.heap.size w7 w9):=btr HB8.out hb9;have HA9:=hd (HA.out.below HB9.out);have HBB9:=hd (HB.out.below HB9.out);clear hb9
      cases zb with
      |true=>
       have HQ9:=hd (Co.Q2.below HE.out HQ.out (HQ.out.tw.below HB9.out) HB9.out);clear hza hzb hsd;go_wp2;go_meet;exact⟨_,rfl,by rw[HXX.out];rfl,HQ9.out⟩
      |false=>
       obtain⟨a0,a1,a2,a3,a4,a5,a6,a7,a8,a9,a10⟩:=HA9.out.c11;obtain⟨b0,b1,b2,b3,b4,b5,b6,b7,b8,b9,b10⟩:=HBB9.out.c11;go_wp2_with fail
       refine(hsd w9 HB9.out).mono ?_;rintro e w10 ⟨rfl,hb10⟩;clear a0 a1 a2 a3 a4 a5 a6 a7 a8 a9 a10 b0 b1 b2 b3 b4 b5 b6 b7 b8 b9 b10;have HB10:Hid (Below w7.heap.size w7 w10):=btr HB9.out hb10;have HQ10:=hd (Co.Q2.below HE.out HQ.out (HQ.out.tw.below HB10.out) HB10.out);clear hza hzb hsd hb10;go_wp2;go_meet;exact⟨_,rfl,by rw[HXX.out];rfl,HQ10.out⟩
     |false=>
      have HA8:=hd hA8;have HBB8:=hd hBB8;clear hA8 hBB8 hb8;obtain⟨a0,a1,a2,a3,a4,a5,a6,a7,a8,a9,a10⟩:=HA8.out.c11;obtain⟨b0,b1,b2,b3,b4,b5,b6,b7,b8,b9,b10⟩:=HBB8.out.c11;go_wp2_with fail
      refine(hsd w8 HB8.out).mono ?_;rintro e w10 ⟨rfl,hb10⟩;clear a0 a1 a2 a3 a4 a5 a6 a7 a8 a9 a10 b0 b1 b2 b3 b4 b5 b6 b7 b8 b9 b10;have HB10:Hid (Below w7.heap.size w7 w10):=btr HB8.out hb10;have HQ10:=hd (Co.Q2.below HE.out HQ.out (HQ.out.tw.below HB10.out) HB10.out);clear hza hzb hsd hb10;go_wp2;go_meet;exact⟨_,rfl,by rw[HXX.out];rfl,HQ10.out⟩
   case rest=>
    obtain⟨Y,rfl,hX,hq⟩:=hcut;obtain⟨w8,rfl⟩:∃w8,w8=wc:=⟨_,rfl⟩
    have HQ8:=hd hq;have HX:Hid ((S&&Co.sd a.d b.d)= !Y):=by show _=_;rw[hX,Bool.not_not]
    clear hq HQ hX
    cases Y with
    |true=>
     have HR:=hd (HNOT.out w8 HQ8.out.kp (by
      have h:(S&&Co.sd a.d b.d)=false:=HX.out;rw[Bool.and_eq_false_iff]at h;rcases h with h|h
      ·exact .inr (.inr (.inr (by rw[←HQ8.out.sv];exact h)))
      ·exact .inr (.inl (by rw[HLK.out];exact h))))
     go_wp2;go_ret;exact HR.out
    |false=>
     have HQ30:Hid (Co.Q3 E L a b deep left m w (Co.Tw a vm vl vt (.slice ap a.p.length cp) (.slice ak a.l.length ck) b um ul ut (.slice bp b.p.length dp) (.slice bk b.l.length dk) G H A0 B0) 0 w8):=by
      have h:(S&&Co.sd a.d b.d)=true:=HX.out;rw[Bool.and_eq_true]at h;obtain⟨hS,hD⟩:=h;have h2:=HQ8.out.ms hS;exact⟨HQ8.out.tw,HQ8.out.kp,left - 1,_,HQ8.out.lb,h2.1,by omega,Int.le_refl _,h2.2.down,by rw[List.drop_zero,List.drop_zero];exact Co.bg_go (by omega) (by omega) (by rw[HLK.out];exact hD) HQ8.out.ok (by rw[←HQ8.out.sv];exact hS)⟩
     have a10:=HQ8.out.tw.ba.cell 10 rfl;go_wp2;clear a10
     go_loopw [123] (fun v wr=>∃j:Nat,v= .int .i64 j∧j≤a.l.length∧Hid (Co.Q3 E L a b deep left m w (Co.Tw a vm vl vt (.slice ap a.p.length cp) (.slice ak a.l.length ck) b um ul ut (.slice bp b.p.length dp) (.slice bk b.l.length dk) G H A0 B0) j wr)) (fun v _=>a.l.length - (intOf v).toNat)
     case atStart=>exact⟨0,rfl,by omega,HQ30⟩
     case round=>
      clear HQ30;obtain⟨j,rfl,hj,HL⟩:=hrel;by_cases hlt:j<a.l.length
      case neg=>
       have hge:(a.l.length:Int)≤(j:Int):=by omega
       have HE1:Hid (Co.BPost E L a b deep left m w (.returned (.bool true)) wr):=by
        obtain⟨htw,hkp,lj,mj,h1,h2,h3,h4,h5,h6⟩:=HL.out;rw[show j=a.l.length by omega,List.drop_length,Co.besideGL]at h6;show Co.BPost E L a b deep left m w (.returned (.bool true)) wr;unfold Co.BPost;rw[h6];exact⟨rfl,hkp,fun _=>⟨h1,h2,h3,by show lj≤left;omega,h5⟩⟩
       go_wp2;go_ret;exact HE1.out
      have hlti:(j:Int)<(a.l.length:Int):=by omega
      have hltn:j<b.l.length:=by have:=HG6.out;omega
      have hltb:(j:Int)<(b.l.length:Int):=by omega
      obtain⟨htw,hkp,lj,mj,h1,h2,h3,h4,h5,h6⟩:=HL.out;obtain⟨wd,hwd⟩:∃wd,wr.drew=wd:=⟨_,rfl⟩
      have hbd:Below wr.heap.size wr wd:=by rw[←hwd];exact Co.drew_below wr
      have htwd:=htw.below hbd;obtain⟨-,-,⟨_,_,he,_,hrow⟩⟩:=(Co.rep_iff _ _ _ _ _ _ _ _).1 htwd.ra;injection he with he1 he2 he3
      subst he1;clear he2 he3;obtain⟨ba,oa,rfl,hGa,hbla,hrepsa⟩:=hrow (by intro h0;rw[h0]at hlt;simp at hlt);obtain⟨xm,xl,xt,xp,xk,hela,hrx⟩:=hrepsa.at j hlt;obtain⟨-,-,⟨_,_,he,_,hrow'⟩⟩:=(Co.rep_iff _ _ _ _ _ _ _ _).1 htwd.rb;injection he with he1 he2 he3
      subst he1;clear he2 he3;obtain⟨bb,ob,rfl,hHb,hblb,hrepsb⟩:=hrow' (by intro h0;rw[h0]at hltn;simp at hltn);obtain⟨ym,yl,yt,yp,yk,helb,hry⟩:=hrepsb.at j hltn;have hWx:Co.Wf a.l[j]:=Co.Wfs.at (Co.wf_parts HWA.out).2.2.2.2.2.2 j hlt;have hWy:Co.Wf b.l[j]:=Co.Wfs.at (Co.wf_parts HWB.out).2.2.2.2.2.2 j hltn;have hch:=HCH.out a.l[j] (List.getElem_mem hlt);have hpx:E.g=true→∀q∈Co.parts a.l[j],q.p.length≤32:=fun e q hq=>HPAR.out e q (Co.parts_p (List.getElem_mem hlt) hq)
      rw[List.drop_eq_getElem_cons hlt,List.drop_eq_getElem_cons hltn,Co.besideGL]at h6;obtain⟨x,hx⟩:∃x,a.l[j]=x:=⟨_,rfl⟩
      obtain⟨y,hy⟩:∃y,b.l[j]=y:=⟨_,rfl⟩
      rw[hx]at hela hrx hWx hch hpx h6;rw[hy]at helb hry hWy h6;have hcall:=hch y G H xm xl xt xp xk ym yl yt yp yk wd (deep+1) lj mj hWx hWy HG.out HH.out hrx hry (h1.below hbd) (HE.out.keep (fun _=>False) _ _ _ h2 (keep_of_below hbd) (fun _ _=>id)) h3 (by omega) (by omega) hpx h5 (by have:=HLIM.out;have:=hkp.size;have:=hbd.size;omega);obtain⟨⟨r1,r2,r3⟩,hR⟩:∃R,Co.besideG E.st x y (deep+1) lj mj=R:=⟨_,rfl⟩
      unfold Co.BPost at hcall;rw[hR]at hcall h6;unfold Co.V at hcall;dsimp only at hcall h6;rw[show((deep+1:Nat):Int)=(deep:Int)+1 from rfl]at hcall;obtain⟨e0,e1,e2,e3,e4,e5,e6,e7,e8,e9,e10⟩:=hela;obtain⟨q0,q1,q2,q3,q4,q5,q6,q7,q8,q9,q10⟩:=helb;have a10:=htwd.ba.cell 10 rfl;have b10:=htwd.bb.cell 10 rfl;have HTWD:=hd htwd;have HKPD:Hid (Keep (Co.ch E L) w wd):=hkp.below hbd;have H6:=hd h6;have H4:=hd h4;clear htw hkp h1 h2 h3 h4 h5 h6 hbd htwd hrow hrow' hrepsa hrepsb hrx hry hWx hWy hch hpx hx hy hR;go_wp2;refine wp_region_still_tail 14 (by kernel_rfl) (by kernel_rfl) ?_;change wpStill _ _ wr.drew _ _ _;rw[hwd];have HWD:=hd hwd;clear hwd;simp only[List.take_succ_cons,List.take_zero,List.drop_succ_cons,List.drop_zero]
      repeat still_step
      try refine wpStill_nil ?_
      go_wp2_with fail
      rw[HWD.out];refine hcall.mono ?_;rintro e w9 ⟨rfl,hk9,ht9⟩;clear e0 e1 e2 e3 e4 e5 e6 e7 e8 e9 e10 q0 q1 q2 q3 q4 q5 q6 q7 q8 q9 q10 a10 b10 hcall;have HK9:Hid (Keep (Co.ch E L) w w9):=HKPD.out.trans hk9;have HT9:=hd ht9;have HTW9:=hd (HTWD.out.keep hk9 HNL.out.1 HNL.out.2.1 HG.out HH.out);clear hk9 ht9
      cases r1 with
      |false=>
       have HR:Hid (Co.BPost E L a b deep left m w (.returned (.bool false)) w9):=by
        have e:Co.besideG E.st a b deep left m=(false,r2,r3):=by rw[H6.out];rfl
        show Co.BPost E L a b deep left m w (.returned (.bool false)) w9;unfold Co.BPost;rw[e];exact⟨rfl,HK9.out,fun h=>by cases h⟩
       go_wp2;go_ret;exact HR.out
      |true=>
       have HL9:Hid (Co.Q3 E L a b deep left m w (Co.Tw a vm vl vt (.slice ap a.p.length cp) (.slice (some ⟨ba,oa,none⟩) a.l.length ck) b um ul ut (.slice bp b.p.length dp) (.slice (some ⟨bb,ob,none⟩) b.l.length dk) G H A0 B0) (j+1) w9):=by
        obtain⟨h1,h2,h3,h4,h5⟩:=HT9.out rfl;exact⟨HTW9.out,HK9.out,r2,r3,h1,h2,h3,Int.le_trans h4 H4.out,h5,H6.out⟩
       go_wp2;go_roundw
       case rel=>exact⟨j+1,by simp,by omega,HL9⟩
       case measure=>simp[intOf];omega
mutual
theorem coBes_any(E:Co.AK)(hE:E.Ok)(L:Nat)(hL:¬E.lb L):∀a:Co.C,Co.BesIs E L a
 | .mk k n s d p l=>coBes_step E hE L hL (.mk k n s d p l) (coBesL_any E hE L hL l)
theorem coBesL_any(E:Co.AK)(hE:E.Ok)(L:Nat)(hL:¬E.lb L):∀(l:List Co.C),∀y∈l,Co.BesIs E L y
 |[],_,h=>absurd h (by simp)
 |c :: r,y,h=>(List.mem_cons.1 h).elim (fun e=>by rw[e];exact coBes_any E hE L hL c) (fun h'=>coBesL_any E hE L hL r y h')
end
end Go.Proofs.YtfjmlfbohenmfaaGreat
namespace Go.Proofs.YtfjmlfbohenmfaaGreat
open Go.RowKit Go.Shelf Go.Maps Go.WideMaps Go.Sort
attribute [local go_sem] Oper.semAt_some
namespace Co
abbrev Nm:=List UInt8
def putT:List Nm→Nm→List Nm
  |[],n=>[n]
  |x :: r,n=>if n<x then n :: x :: r else if n=x then x :: r else x :: putT r n
def putsT(l:List Nm):List Nm:=l.foldl putT []
theorem nm_lt{x y:Nm}(h:¬x<y)(h2:¬x=y):y<x:=by
  by_cases h3:y<x
  · exact h3
  · exact absurd (List.le_antisymm (List.not_lt.1 h3) (List.not_lt.1 h)) h2
theorem putT_mem:∀(l:List Nm) (n x:Nm),x∈putT l n↔x∈l∨x=n
  |[],n,x=>by rw[putT];simp
  | y :: r, n, x => by
    rw[putT];split
    · simp only[List.mem_cons]
      constructor
      · rintro(h|h|h)
        · exact .inr h
        · exact .inl (.inl h)
        · exact .inl (.inr h)
      · rintro((h|h)|h)
        · exact .inr (.inl h)
        · exact .inr (.inr h)
        · exact .inl h
    split
    · rename_i h1 h2
      subst h2;simp only[List.mem_cons];constructor
      · exact fun h=> .inl h
      · rintro(h|h)
        · exact h
        · exact .inl h
    · simp only[List.mem_cons]
      rw[putT_mem r n x];constructor
      · rintro(h|h|h)
        · exact .inl (.inl h)
        · exact .inl (.inr h)
        · exact .inr h
      · rintro((h|h)|h)
        · exact .inl h
        · exact .inr (.inl h)
        · exact .inr (.inr h)
theorem putT_sorted:∀ {l:List Nm} (n:Nm),l.Pairwise (· < ·)→(putT l n).Pairwise (· < ·)
  |[],n,_=>by rw[putT];simp
  | y :: r, n, h => by
    rw[List.pairwise_cons]at h;rw[putT];split
    · rename_i h1
      rw[List.pairwise_cons,List.pairwise_cons];refine⟨fun x hx=> ?_,h⟩;rcases List.mem_cons.1 hx with rfl|hx
      · exact h1
      · exact List.lt_trans h1 (h.1 x hx)
    split
    · rw[List.pairwise_cons];exact h
    · rename_i h1 h2
      rw[List.pairwise_cons];refine⟨fun x hx=> ?_,putT_sorted n h.2⟩;rcases(putT_mem r n x).1 hx with hx|rfl
      · exact h.1 x hx
      · exact nm_lt h1 h2
theorem foldl_putT:∀(l acc:List Nm),acc.Pairwise (· < ·)→(l.foldl putT acc).Pairwise (· < ·)∧∀x,x∈l.foldl putT acc↔x∈acc∨x∈l
  |[],acc,h=>⟨h,fun x=>by simp⟩
  | n :: r, acc, h => by
    obtain⟨h1,h2⟩:=foldl_putT r (putT acc n) (putT_sorted n h);rw[List.foldl_cons];refine⟨h1,fun x=> ?_⟩;rw[h2,putT_mem,List.mem_cons,or_assoc]
theorem putsT_mem(l:List Nm)(x:Nm):x∈putsT l↔x∈l:=by
  unfold putsT;rw[(foldl_putT l [] List.Pairwise.nil).2];simp
theorem putsT_sorted(l:List Nm):(putsT l).Pairwise (· < ·):=(foldl_putT l [] List.Pairwise.nil).1
def globsOf(l:List C):List Nm:=l.flatMap fun x=>if x.k=3∨x.k=5∨x.k=6 then [x.s.data.toList]else []
def globV(c:C):List Nm:=putsT (globsOf (all c))
theorem globsOf_app(a b:List C):globsOf (a++b)=globsOf a++globsOf b:=by unfold globsOf;rw[List.flatMap_append]
theorem str_list(s:ByteArray):(⟨s.data.toList.toArray⟩:ByteArray)=s:=by cases s;simp
def mSB:Vm.MK Tryz.prog Nm Bool where
  mt:=86
  kt:=9
  et:=4
  under:=Tryz.underlying86
  keyed:=string_keyed Tryz.underlying9
  kv:=fun x=> .string ⟨x.toArray⟩
  kl:=fun x=> .string x
  okK:=fun x=>x.length≤maxLen
  keyOf_:=fun k h=>by
    have:=keyOf_string_mk Tryz.underlying9 (P:=Tryz.prog) (s:=⟨k.toArray⟩) (by show k.toArray.size≤maxLen;simpa using h);simpa using this
  kl_inj:=fun a b h=>by cases h;rfl
  isKey:=fun _=>trivial
  ev:=fun b=> .bool b
  ed:=fun b=> .lit (.bool b)
  ed_inj:=fun a b h=>by cases h;rfl
  z:=false
  zero:=zeroB
  rd:=rdB
  rd_ev:=fun _=>rfl
  rd_inv:=mIB.rd_inv
def onT(q:Nm→Bool):Nm→Option Bool:=fun x=>if q x then some true else none
theorem onT_upd(q:Nm→Bool)(s:Nm):Vm.upd (onT q) s true=onT fun x=>q x||decide (x=s):=by
  funext x
  unfold Vm.upd onT;dsimp only;by_cases h:x=s
  · rw[if_pos h,if_pos (by simp[h])]
  · rw[if_neg h]
    by_cases hq:q x=true <;> simp[h,hq]
def TSet(w:World)(b n:Nat)(q:Nm→Bool):Prop:=Vm.Mp mSB w b n (onT q)
theorem TSet.ext{w:World}{b n:Nat}{q q':Nm→Bool}(h:TSet w b n q)(e:∀x,q x=q' x):TSet w b n q':=by rw[show q'=q from funext fun x=>(e x).symm];exact h
theorem TSet.mono{w:World}{b n m:Nat}{q:Nm→Bool}(h:TSet w b n q)(hm:n≤m):TSet w b m q:=Vm.Mp.mono h hm
theorem TSet.made(w:World):TSet (w.alloc (.map #[] 0)) w.heap.size 0 fun _=>false:=Vm.Mp.made mSB w
theorem TSet.put{w:World}{b n:Nat}{q:Nm→Bool}(h:TSet w b n q)(hn:n<maxLen){s:ByteArray}(hs:s.size≤maxLen):
    ∃w',(Instr.mapUpdate 86 (.map (some b)) (.string s) (.bool true)).run Tryz.prog w= .ok () w'∧TSet w' b (n+1) (fun x=>q x||decide (x=s.data.toList))∧Keep (fun k=>k=b) w w':=by
  obtain⟨w',h2,h3,h4⟩:=Vm.Mp.set h hn (s:=s.data.toList) (by show s.data.toList.length≤maxLen;simpa using hs) true;rw[onT_upd]at h3;rw[show mSB.kv s.data.toList= .string s from by show Value.string _=_;rw[str_list]]at h2;exact⟨w',h2,h3,h4⟩
theorem sortedT_of_perm{ss L:List Nm}(h:ss.Perm L)(hL:L.Pairwise (· < ·)):ss.mergeSort (fun x y=>decide (x≤y))=L:=by
  have e:=mergeSort_of_perm h;have e2:L.mergeSort leB=L:=List.mergeSort_of_pairwise (hL.imp fun {a b} hab=>by simp only[leB,decide_eq_true_eq];exact List.le_of_lt hab);exact e.trans e2
theorem fm_name(k:Int):((fm k).2.1==2)=decide (k=3∨k=5∨k=6):=by
  by_cases h:1≤k∧k≤10
  · obtain rfl|rfl|rfl|rfl|rfl|rfl|rfl|rfl|rfl|rfl:k=1∨k=2∨k=3∨k=4∨k=5∨k=6∨k=7∨k=8∨k=9∨k=10:=by omega
    all_goals rfl
  · unfold fm
    rw[if_neg h,decide_eq_false (by omega)]
    rfl
theorem nrow_mono{F G:Nat→Prop}{w:World}{v:Value}{l:List ByteArray}(hFG:∀b,F b→b<w.heap.size→G b)(h:Cd.NameRow F w v l):Cd.NameRow G w v l:=by
  obtain⟨a0,c0,i1,i2,i3⟩:=h;refine⟨a0,c0,i1,i2,fun hn=> ?_⟩;obtain⟨b,o,g1,g2,g3,g4⟩:=i3 hn;exact⟨b,o,g1,hFG b g2 g3,g3,g4⟩
theorem nameRow_of_own{w:World}{base:Nat}{v:Value}{l:List Nm}(h:w.ownsRow base 9 1 v l.length (l.map encStr)):Cd.NameRow (fun k=>base≤k) w v (l.map fun x=>⟨x.toArray⟩):=by
  have hc:=fun g hg=>h.cells (g:=g) hg
  rcases h.2 with⟨h1,h0⟩|⟨g,cap,cur,rfl,e2,e3,e4,_⟩
  · have:l=[]:=List.length_eq_zero_iff.1 h0
    subst this;exact⟨none,0,by rw[h1];rfl,Nat.le_refl _,fun hn=>absurd rfl hn⟩
  · refine⟨some ⟨g,0,none⟩,cap,by simp,by simpa using e4,fun _=>⟨g,0,rfl,e2,(Array.getElem?_eq_some_iff.1 e3).1,fun j hj=> ?_⟩⟩
    have hj':j<l.length:=by simpa using hj
    have:=hc g rfl j (encStr l[j]) (by simp[hj']);rw[show(⟨g,0,none⟩:Addr).add j=⟨g,0+j,none⟩by unfold Addr.add;split <;> simp_all]at this;rw[this];simp[encStr]
end Co
theorem sortsS(m:Nat):AnyZ.SortsIn Tryz.prog Tryz.sortedS_ren Fence.wide m:=
  ⟨fun blk off cap ss W hH hblk hsz=>callsIn_wide.2 (AnyM.slices_Sort_string Tryz.sortS blk off cap ss W hH hblk hsz),
   fun p cap W=>callsIn_wide.2 (AnyM.slices_Sort_string_none Tryz.sortS p cap W)⟩
theorem keysS_any(mb:Option Nat)(W:World):Calls Tryz.prog 51 #[.map mb] W fun e w'=>e= .returned (.func (.func 76) #[] #[.pointer (some ⟨W.heap.size,0,none⟩)])∧w'=W.alloc (.cells #[.map mb] 86):=
  (callsIn_wide (n:=5)).1 (AnyZ.keys_in Tryz.keysS Fence.wide 5 trivial rfl mb W)
theorem sortedS_any(b n:Nat)(q:Co.Nm→Bool)(L:List Co.Nm)(W:World)(h:Co.TSet W b n q)(hL:L.Pairwise (· < ·))(hm:∀x,q x=L.contains x)(hn:n≤16777216):
    Calls Tryz.prog 50 #[.func (.func 76) #[] #[.pointer (some ⟨W.heap.size,0,none⟩)]] (W.alloc (.cells #[.map (some b)] 86)) fun e w'=>∃v,e= .returned v∧
      w'.ownsRow (W.alloc (.cells #[.map (some b)] 86)).heap.size 9 1 v L.length (L.map encStr)∧(v= .slice none 0 0↔L=[])∧Below (W.alloc (.cells #[.map (some b)] 86)).heap.size (W.alloc (.cells #[.map (some b)] 86)) w':=by
  obtain⟨D0,hown,hhas⟩:=h;have hown0:=hown;have hbl:=hown.lt;have hsz:=hown.size_le;have hseq:SeqGives Fence.wide 2 Tryz.prog 76 #[.pointer (some ⟨W.heap.size,0,none⟩)] encStr (fun ss=>ss.Perm (strKeys D0)) (Maps.size D0) (W.alloc (.cells #[.map (some b)] 86)):=
    AnyZ.keys_gives (ρ:=Tryz.keysS_ren) {Tryz.keysS with} Fence.wide _ trivial rfl (by omega) W.heap.size b n D0 _ (by simp) (by simp) (by
      obtain⟨es,clock,hb,Ft,hs,hD⟩:=hown;exact⟨es,clock,(Below.heap_alloc _ _ b hbl).trans hb,Ft,hs,hD⟩)
  have cS:=AnyZ.sorted_in Tryz.sortedS Fence.wide 5 trivial trivial trivial trivial rfl (by omega) (sortsS _) (enters_of Tryz.func75 (by kernel_rfl) rfl) 76 #[.pointer (some ⟨W.heap.size,0,none⟩)] trivial (enters_of Tryz.func76 (by kernel_rfl) rfl) _ _ (by unfold maxLen;omega) (by omega) _ hseq;change CallsIn _ _ Tryz.prog 50 _ _ _ at cS;refine((callsIn_wide (n:=5)).1 cS).mono ?_;rintro e w' ⟨v,ss,rfl,hS,hrow,hnil,hb⟩;have hnd:L.Nodup:=List.Pairwise.imp (fun {a b} (hab:a<b) (e:a=b)=>List.lt_irrefl b (by rw[e]at hab;exact hab)) hL;have hLK:L.Perm (strKeys D0):=by
    obtain⟨es,hD,hpw,_⟩:=hown0.entries Co.mSB.keyed;obtain⟨es',hD',hko⟩:=hown0.keysOf;obtain rfl:es=es':=by rw[hD]at hD';simpa using hD'
    subst hD;refine perm_strKeys hpw (fun p hp=>by obtain⟨v,hv⟩:=hko p hp;obtain⟨x,_,hx,_⟩:=Maps.keyOf_str Tryz.underlying9 hv;exact⟨x,hx⟩) hnd fun x=> ?_
    have h1:=(hhas x).1;rw[show Co.mSB.kl x=Lit.string x from rfl]at h1;rw[h1,←List.contains_iff_mem,←hm x];unfold Co.onT;cases q x <;> simp
  have hp:ss.Perm L:=hS.trans hLK.symm;rw[Co.sortedT_of_perm hp hL,hp.length_eq]at hrow;refine⟨v,rfl,hrow,hnil.trans ⟨fun e=> ?_,fun e=> ?_⟩,hb⟩
  · rw[e]at hp;exact hp.nil_eq.symm
  · rw[e]at hp;exact hp.eq_nil
namespace Co
def GI(w:World)(Bx m:Nat)(pre:List PC)(W:World):Prop:=Boxed W Bx 86 (.map (some m))∧TSet W m pre.length (globsOf (pre.map PC.c)).contains∧Below w.heap.size w W
theorem tset_grown{W W':World}{row:Option Nat}{m n:Nat}{q:Nm→Bool}(h:TSet W m n q)(hg:W.grownBy W' row)(hne:some m≠row):TSet W' m n q:=Vm.Mp.heap h (hg.block m (Vm.Mp.lt h) hne)
theorem GI.grown{w W W':World}{Bx m B:Nat}{pre:List PC}{row:Option Nat}(h:GI w Bx m pre W)(hw:w.heap.size≤B)(hR:Bx<B)(hm:m<B)(hg:W.grownBy W' row)(hr:∀r,row=some r→B≤r):GI w Bx m pre W':=
  ⟨h.1.kept hg (fun e=>by have:=hr Bx e.symm;omega),tset_grown h.2.1 hg (fun e=>by have:=hr m e.symm;omega),Cd.below_grown h.2.2 hw hg hr⟩
def GAx(w:World)(Bx m:Nat)(tm:Nat→PC→Array Value)(pre:List PC)(x:PC)(a':Act)(W:World):Prop:=
  GI w Bx m pre W∧Wf x.c∧∃Xb,Bc W Xb x.c x.vm x.vl x.vt x.vp x.vk∧a'= {tmps:=tm Xb x,defers:=[]}
end Co
theorem globC_any{F:Nat→Prop}(c:Co.C)(vm vl vt vp vk:Value)(w:World)(hW:Co.Wf c)(hR:Co.Rep F w c vm vl vt vp vk):
    Calls Tryz.prog 20 #[Co.V c vm vl vt vp vk] w fun e w'=>∃v,e= .returned v∧Cd.NameRow (fun k=>w.heap.size≤k) w' v ((Co.globV c).map fun x=>⟨x.toArray⟩)∧Below w.heap.size w w':=by
  unfold Co.V;obtain⟨w1,hw1⟩:∃w1,w.alloc (.cells #[.int .i64 c.k,.int .i64 c.n,.string c.s,.int .i64 c.d.k,.int .i64 c.d.n,.string c.d.s,vm,vl,vt,vp,vk] 28)=w1:=⟨_,rfl⟩
  obtain⟨w2,hw2⟩:∃w2,w1.alloc (.map #[] 0)=w2:=⟨_,rfl⟩
  obtain⟨m,hm⟩:∃m,w1.heap.size=m:=⟨_,rfl⟩
  obtain⟨w3,hw3⟩:∃w3,w2.alloc (.cells #[.map (some m)] 86)=w3:=⟨_,rfl⟩
  obtain⟨Bx,hBx⟩:∃Bx,w2.heap.size=Bx:=⟨_,rfl⟩
  obtain⟨hb1,hs1⟩:=new_below hw1;obtain⟨hb2,hs2⟩:=new_below hw2;obtain⟨hb3,hs3⟩:=new_below hw3;have hc3:Hp w3 w.heap.size _ _:=((Hp.new hw1).below hb2).below hb3;have hst:=Co.TSet.made w1;rw[hw2,hm]at hst;have hbx:=Boxed.new w2 86 (.map (some m));rw[hw3,hBx]at hbx;have hb03:Below w.heap.size w w3:=hb1.trans ((hb2.mono (by omega)).trans (hb3.mono (by omega)));have HB3:=hd hb03;have HST:=hd (Vm.Mp.below hst hb3:Co.TSet _ _ _ _);have HBX:=hd hbx;have HSZ:Hid (m=w.heap.size+1∧Bx=w.heap.size+2∧w3.heap.size=w.heap.size+3):=⟨by omega,by omega,by omega⟩
  have hal:=coAll_any c vm vl vt vp vk w3;unfold Co.V at hal;have Hc:=hd hc3;have HR:=hd hR;have HWF:=hd hW;obtain⟨c0,c1,c2,c3,c4,c5,c6,c7,c8,c9,c10⟩:=Hc.out.c11;have HLIM:=hd (Co.all_len c);clear hb1 hs1 hb2 hs2 hb3 hs3 hc3 hst hbx hb03 hW hR;have hmm:=@run_makeMap Tryz.prog;refine(callsIn_wide (n:=12)).1 ?_;refine callsIn_of_wp_marks Tryz.func20 rfl trivial ?_ rfl;simp only[Tryz.ntmps20,List.size_toArray,List.length_cons,List.length_nil,Nat.reduceAdd,Nat.reduceSub,Array.replicate_succ,Array.replicate_zero,List.push_toArray,List.append_toArray,List.nil_append,List.cons_append]
  gi_wp2_with (refine⟨trivial,?_⟩;gi_at_call 17;refine(callsIn_wide.2 hal).mono ?_;clear hal hw1 hw2 hw3 hmm;rintro e W0 ⟨rfl,hb4,hbc4,hz4⟩;have HW0:=hd (btr HB3.out hb4);have HST0:=hd (Vm.Mp.below HST.out hb4:Co.TSet _ _ _ _);have HBX0:Hid (Boxed W0 Bx 86 (.map (some m))):=Cd.boxed_below HBX.out hb4 HBX.out.lt;have HBC4:=hd hbc4;have HZ4:=hd hz4;clear hb4 hbc4 hz4;clear c0 c1 c2 c3 c4 c5 c6 c7 c8 c9 c10)
  obtain⟨Y,hY⟩:∃Y,w3.heap.size=Y:=⟨_,rfl⟩
  have HY:=hd hY;rw[hY]at HBC4 HZ4 ⊢;clear hY;have hwz:w.heap.size≤W0.heap.size:=HW0.out.size;have hRz:=HBX0.out.lt;have hmz:m<W0.heap.size:=Vm.Mp.lt HST0.out;have HRP:Hid (Co.Rep (fun k=>k<w.heap.size) W0 c vm vl vt vp vk):=(Co.Rep.mono (fun _ _ h=>h) c HR.out).below HW0.out;refine Rb.wpIn_rangeB (n:=12) rfl (by omega) (gf:=43) (lb:=#[.pointer (some ⟨Y,0,none⟩)]) rfl trivial (enters_of Tryz.func43 (by kernel_rfl) rfl)
    (encs:=Co.encC) (Kp:=Keep fun k=>k=m∨k=W0.heap.size+1) (V:=Co.VC) (S:=fun ys=>ys.map Co.PC.c=Co.all c) (Sp:=fun ys=>ys.map Co.PC.c<+:Co.all c) (N:=(Co.all c).length) (w0:=W0)
    (coAll_stops 11 c vm vl vt vp vk W0 (fun k=>k=m) Y (fun k e=>by omega) HWF.out HRP.out (fun k hk=>⟨by omega,fun e=>by have:=HSZ.out;omega⟩) HBC4.out)
    (fun h k=>h.trans k) (fun W o o' _ _=>Cd.keep_putObj W (W0.heap.size+1) o' (.inr rfl)) (Below.refl _ _) (fun _=>rfl)
    (Co.GI w Bx m) (fun _ _ _=>False)
    (fun pre W W' row h hg hr=>Co.GI.grown h hwz hRz hmz hg (fun r e=>(hr r e).1))
    (fun c pre W W' row h hg hr=>h.elim)
    (fun pre W W' h _ hb=>⟨Cd.boxed_below h.1 hb (by omega),Vm.Mp.heap h.2.1 (hb.block m (by omega)),h.2.2.trans (hb.mono (by omega))⟩)
    (fun c pre W W' h _ hb=>h.elim)
    ⟨HBX0.out,Co.TSet.ext HST0.out (fun x=>rfl),HW0.out⟩
    (Co.GAx w Bx m (fun Xb p=>#[.agg #[.int .i64 c.k,.int .i64 c.n,.string c.s,.int .i64 c.d.k,.int .i64 c.d.n,.string c.d.s,vm,vl,vt,vp,vk],.pointer (some ⟨w.heap.size,0,none⟩),.slice none 0 0,.pointer (some ⟨Bx,0,none⟩),.pointer (some ⟨Xb,0,none⟩),undef,undef,.map (some m),.agg #[.int .i64 c.k,.int .i64 c.n,.string c.s,.int .i64 c.d.k,.int .i64 c.d.n,.string c.d.s,vm,vl,vt,vp,vk],.func (.func 43) #[] #[.pointer (some ⟨Y,0,none⟩)],.agg #[.int .i64 p.c.k,.int .i64 p.c.n,.string p.c.s,.int .i64 p.c.d.k,.int .i64 p.c.d.n,.string p.c.d.s,p.vm,p.vl,p.vt,p.vp,p.vk],undef,undef,undef,undef,undef,undef,undef,undef,undef,undef,undef,undef,undef,undef,undef]))
    (fun pre y a' _ W W' row h hg hr=> ?grown)
    ?assign ?body ?done ?stop
  case grown=>
    obtain⟨h1,h2,Xb,h3,h4⟩:=h;refine⟨h1.grown hwz hRz hmz hg (fun r e=>(hr r e).1),h2,Xb,(hg.block Xb h3.lt (fun e=> ?_)).trans h3,h4⟩;obtain⟨-,o,ho,hc⟩:=hr Xb e.symm;rw[show W.heap[Xb]?=_ from h3]at ho;cases ho;cases hc
  case assign=>
    rintro l pre ⟨pc,pm,pl,pt,pp,pk⟩ W K hT hV hK;have HV:=hd hV;obtain⟨b1,n1,q1,b2,n2,q2,b3,n3,q3,b4,n4,q4,b5,n5,q5,e1,e2,e3,e4,e5⟩:=Co.Rep.forms5 (show Co.Rep (fun _=>True) W pc pm pl pt pp pk from hV.1);subst e1 e2 e3 e4 e5;unfold Co.encC Co.V;dsimp only
    gi_wp2
    refine hK _ _ ?_ ?_ ?_
    · exact(KeepsOthers.alloc _ _).from _
    · exact(Keep.refl _ _).alloc _
    exact⟨hT.grown hwz hRz hmz (World.grownBy_alloc W _ none) (by simp),HV.out.2.1,W.heap.size,Hp.new rfl,rfl⟩
  case body=>
    rintro l pre ⟨pc,pm,pl,pt,pp,pk⟩ a' W hl ⟨r,hr⟩ ⟨hT,hV,Xb,hX,rfl⟩ hlt;dsimp only at hX hV ⊢;have hX':Hp W Xb _ _:=hX;have x0:=hX'.cell 0 rfl;have x1:=hX'.cell 1 rfl;have b3:=hT.1.cell;have HT:=hd hT;have hfm:=fun W=>forms_any pc.k W
    obtain⟨fs,fh,fl,ft,hfv,hfh⟩:∃(fs:ByteArray) (fh fl ft:Int),Co.fmV pc.k= .agg #[.string fs,.int .i64 fh,.int .i64 fl,.int .i64 ft]∧(fh==2)=decide (pc.k=3∨pc.k=5∨pc.k=6):=⟨_,_,_,_,rfl,Co.fm_name pc.k⟩
    rw[hfv]at hfm;obtain⟨ik,hik⟩:∃ik,Co.isKind pc.k=ik:=⟨_,rfl⟩
    rw[hik]at hfm;have HX':=hd hX';clear hfv hik;obtain⟨G,hG⟩:∃G,decide (pc.k=3∨pc.k=5∨pc.k=6)=G:=⟨_,rfl⟩
    rw[hG]at hfh;have HG:=hd hG;have hsz:pc.s.size≤maxLen:=by have:=(Co.wf_parts hV).2.1;unfold maxLen;omega
    clear hG hT hV hX hX'
    cases G with
    | true =>
      gi_wp2_with (first
        |(refine⟨trivial,?_⟩;gi_at_call 49;refine(callsIn_wide.2 (hfm _)).mono ?_;rintro e w2 ⟨rfl,hb2⟩;clear hfm x0 x1 b3;have hw3:w2.alloc (.cells #[.string fs,.int .i64 fh,.int .i64 fl,.int .i64 ft] 88)=w2.alloc (.cells #[.string fs,.int .i64 fh,.int .i64 fl,.int .i64 ft] 88):=rfl;obtain⟨hb3,-⟩:=new_below hw3;have f0:=(Hp.new hw3).cell 0 rfl;have f1:=(Hp.new hw3).cell 1 rfl;have HB23:=hd ((btr hb2 hb3));have hX3:=HX'.out.below HB23.out;have x2:=hX3.cell 2 rfl;have b3:=(Cd.boxed_below HT.out.1 HB23.out HT.out.1.lt).cell;obtain⟨w',hput,hs',hk'⟩:=Co.TSet.put (Vm.Mp.below HT.out.2.1 HB23.out:Co.TSet _ _ _ _) (by have:=HLIM.out;unfold maxLen;omega) hsz;have HF:=hd (And.intro hs' hk');clear hb2 hb3 hw3 hX3 hs' hk')
        |fail)
      have hk0:Keep (fun k=>k=m) W w':=((Keep.refl _ W).below HB23.out).trans HF.out.2;have hkk:Keep (fun k=>k=m∨k=W0.heap.size+1) W w':=hk0.le fun k e=> .inl e
      refine⟨⟨hk0.size,fun k o hB h _=>(hk0.block k (Array.getElem?_eq_some_iff.1 h).1 (fun e=>by omega)).trans h⟩,hkk,(hk0.block Bx HT.out.1.lt (fun e=>by have:=HSZ.out;omega)).trans HT.out.1,?_,HT.out.2.2.trans (hk0.to_below (fun k e=>by have:=HSZ.out;omega) HT.out.2.2.size)⟩;rw[List.length_append];refine HF.out.1.ext fun y=> ?_
      have hq:=of_decide_eq_true HG.out;rw[List.map_append,Co.globsOf_app,Bool.eq_iff_iff,Bool.or_eq_true,List.contains_iff_mem,List.contains_iff_mem,List.mem_append,decide_eq_true_eq];refine or_congr Iff.rfl ?_;unfold Co.globsOf;simp[hq]
    | false =>
      have HF:Hid (Co.GI w Bx m (pre++[⟨pc,pm,pl,pt,pp,pk⟩]) W):=by
        have hq:=of_decide_eq_false HG.out;refine⟨HT.out.1,?_,HT.out.2.2⟩;rw[List.length_append];refine(Co.TSet.mono HT.out.2.1 (Nat.le_succ _)).ext fun y=> ?_
        rw[List.map_append,Co.globsOf_app];unfold Co.globsOf;simp[hq]
      clear hsz
      gi_wp2_with (first
        |(refine⟨trivial,?_⟩;gi_at_call 49;refine(callsIn_wide.2 (hfm _)).mono ?_;rintro e w2 ⟨rfl,hb2⟩;clear hfm x0 x1 b3;have hw3:w2.alloc (.cells #[.string fs,.int .i64 fh,.int .i64 fl,.int .i64 ft] 88)=w2.alloc (.cells #[.string fs,.int .i64 fh,.int .i64 fl,.int .i64 ft] 88):=rfl;obtain⟨hb3,-⟩:=new_below hw3;have f0:=(Hp.new hw3).cell 0 rfl;have f1:=(Hp.new hw3).cell 1 rfl;have HB23:=hd ((btr hb2 hb3));clear hb2 hb3 hw3)
        |fail)
      have hk0:Keep (fun k=>k=m) W _:=(Keep.refl _ W).below HB23.out;refine⟨⟨hk0.size,fun k o hB h _=>(HB23.out.block k (Array.getElem?_eq_some_iff.1 h).1).trans h⟩,hk0.le fun k e=> .inl e,?_⟩;have h:=HF.out;exact⟨Cd.boxed_below h.1 HB23.out h.1.lt,Vm.Mp.heap h.2.1 (HB23.out.block m (Vm.Mp.lt h.2.1)),h.2.2.trans (HB23.out.mono h.2.2.size)⟩
  case done=>
    rintro D ys W hD hS hI hK;have b3:=hI.1.cell;have hke:=keysS_any (some m) W;have hset:=hI.2.1;rw[hS]at hset;have hl:ys.length=(Co.all c).length:=by rw[←hS,List.length_map]
    have hso:=sortedS_any m ys.length _ (Co.globV c) W hset (Co.putsT_sorted _) (fun x=>by rw[Bool.eq_iff_iff,List.contains_iff_mem,List.contains_iff_mem];exact(Co.putsT_mem _ x).symm) (by have:=HLIM.out;omega);have hb1:Below W.heap.size W (W.alloc (.cells #[.map (some m)] 86)):=(Below.refl _ _).alloc (Nat.le_refl _) _;have HB1:=hd hb1;have HI:=hd hI;clear hI hset hl hb1 hS
    gi_wp2_with (first
      |(refine⟨trivial,?_⟩;gi_at_call 51;refine(callsIn_wide.2 hke).mono ?_;rintro e w6 ⟨rfl,rfl⟩)
      |(refine⟨trivial,?_⟩;gi_at_call 50;refine(callsIn_wide.2 hso).mono ?_;rintro e w7 ⟨v,rfl,hrow,-,hb7⟩;have HROW:=hd hrow;have HB7:=hd ((btr HB1.out hb7));clear hrow hb7 hke hso b3)
      |fail)
    have hK7:w7.heap[D]?=some (.deferred (some [])):=(HB7.out.block D (Array.getElem?_eq_some_iff.1 hK).1).trans hK;refine⟨by simp,.inl ⟨_,_,rfl,run_takeDeferred hK7,?_⟩⟩;refine⟨_,results_tmp rfl _ _ _,v,rfl,?_,?_⟩
    · exact Co.nrow_mono (fun b hb _=>by have h2:=HI.out.2.2.size;have h3:=HB1.out.size;omega) (Co.nameRow_of_own (ownsRow_putObj HROW.out _ hK7 rfl))
    · exact(HI.out.2.2.trans (HB7.out.mono HI.out.2.2.size)).trans (belowK_b (w:=w) (Nat.le_refl _) w7 D _ _ (by omega) hK7 rfl rfl)
  case stop=>
    rintro D c pre W hD hp h hK;exact h.elim
end Go.Proofs.YtfjmlfbohenmfaaGreat
namespace Go.Proofs.YtfjmlfbohenmfaaGreat
open Go.RowKit
attribute [local go_sem] Oper.semAt_some
namespace Co
open Dt (D)
def wordD(c:C):ByteArray:=if c.k=8∧c.n=1 then⟨(fm c.k).1.toArray⟩++⟨#[42]⟩else⟨(fm c.k).1.toArray⟩
def bodyD(c:C):List D:=if c.k=1 then [c.d]else if c.k=2∨c.k=4 then [fixD c.n]else if c.k=3∨c.k=5∨c.k=6 then [symD c.s]else if c.k=8 then [lstD (c.p.map fixD)]else []
mutual
def tellD:C→D
 | .mk k n s d p l=>lstD (symD (wordD (.mk k n s d p l)) :: bodyD (.mk k n s d p l)++tellDs l)
def tellDs:List C→List D
 |[]=>[]
 |c :: r=>tellD c :: tellDs r
end
theorem tellDs_map:∀l:List C,tellDs l=l.map tellD
 |[]=>by rw[tellDs];rfl
 |c :: r=>by rw[tellDs,tellDs_map r];rfl
theorem tellD_eq(c:C):tellD c=lstD (symD (wordD c) :: bodyD c++c.l.map tellD):=by
 obtain⟨k,n,s,d,p,l⟩:=c;rw[tellD,tellDs_map]
 rfl
theorem fm_has(k:Int):((fm k).2.1=4∧k=1)∨((fm k).2.1=1∧(k=2∨k=4))∨((fm k).2.1=2∧(k=3∨k=5∨k=6))∨((fm k).2.1=8∧k=8)∨((fm k).2.1=0∧¬ (k=1∨(k=2∨k=4)∨(k=3∨k=5∨k=6)∨k=8)):=by
 by_cases h:1≤k∧k≤10
 ·obtain rfl|rfl|rfl|rfl|rfl|rfl|rfl|rfl|rfl|rfl:k=1∨k=2∨k=3∨k=4∨k=5∨k=6∨k=7∨k=8∨k=9∨k=10:=by omega
  all_goals (first|exact .inl ⟨rfl,by decide⟩|exact .inr (.inl ⟨rfl,by decide⟩)|exact .inr (.inr (.inl ⟨rfl,by decide⟩))|exact .inr (.inr (.inr (.inl ⟨rfl,by decide⟩)))|exact .inr (.inr (.inr (.inr ⟨rfl,by decide⟩))))
 ·refine .inr (.inr (.inr (.inr ⟨?_,by omega⟩)));unfold fm;rw[if_neg h]
  rfl
structure TRow(G:Nat→Prop)(w:World)(base:Nat)(v:Value)(ls:List Dt.P):Prop where
 row:w.ownsRow base 25 6 v ls.length (Dt.flatP ls)
 rep:∀p∈ls,Dt.Rep (fun k=>(G k∨base≤k)∧v.ownBlock≠some k) w p.d p.vm p.vl p.vt
theorem TRow.keep{G S:Nat→Prop}{w w':World}{base:Nat}{v:Value}{ls:List Dt.P}(h:TRow G w base v ls)(hk:Keep S w w')(hS:∀k,(G k∨base≤k)→k<w.heap.size→¬S k):TRow G w' base v ls:=
 ⟨Dt.own_keep h.row hk (fun k hk=>hS k (.inr (Dt.own_lt h.row k hk).1) (Dt.own_lt h.row k hk).2),fun p hp=>Dt.Rep.keep hk (fun b hb hb'=>hS b hb.1 hb') p.d (h.rep p hp)⟩
theorem TRow.below{G:Nat→Prop}{w w':World}{base:Nat}{v:Value}{ls:List Dt.P}(h:TRow G w base v ls)(hb:Below w.heap.size w w'):TRow G w' base v ls:=
 h.keep (S:=fun _=>False) (keep_of_below hb) (fun _ _ _ h=>h)
theorem TRow.push{G:Nat→Prop}{w w1 wA w5:World}{base:Nat}{v v':Value}{ls:List Dt.P}{p:Dt.P}(h:TRow G w base v ls)(hbase:base≤w.heap.size)(hG:∀k,G k→k<base)(h1:Below w.heap.size w w1)(hp:Dt.Rep (fun k=>G k∨w.heap.size≤k) w1 p.d p.vm p.vl p.vt)(hA:Below w1.heap.size w1 wA)
  (hown:w5.ownsRow base 25 6 v' (ls.length+1) (Dt.flatP ls++p.cells)) (hg:wA.grownBy w5 v.ownBlock) (hat:v'.ownBlock=v.ownBlock∨v'.ownBlock=some wA.heap.size):
  TRow G w5 base v' (ls++[p])∧Keep (fun k=>v.ownBlock=some k) w w5:=by
 have hwA:Below w.heap.size w wA:=btr h1 hA;have hK:Keep (fun k=>v.ownBlock=some k) w w5:=⟨hg.os.trans hwA.os,hg.tape.trans hwA.tape,hg.output.trans hwA.output,Nat.le_trans hwA.size hg.size,fun k hk hn=>(hg.block k (by have:=hwA.size;omega) (fun e=>hn e.symm)).trans (hwA.block k hk)⟩
 have hK1:Keep (fun k=>v.ownBlock=some k) w1 w5:=⟨hg.os.trans hA.os,hg.tape.trans hA.tape,hg.output.trans hA.output,Nat.le_trans hA.size hg.size,fun k hk hn=>(hg.block k (by have:=hA.size;omega) (fun e=>hn e.symm)).trans (hA.block k hk)⟩
 have hvl:∀k,v.ownBlock=some k→base≤k∧k<w.heap.size:=Dt.own_lt h.row;refine⟨⟨by rw[List.length_append,Dt.flatP_app];exact hown,fun q hq=> ?_⟩,hK⟩;rcases List.mem_append.1 hq with hq|hq
 ·have hr0:Dt.Rep (fun k=>k<w.heap.size∧(G k∨base≤k)∧v.ownBlock≠some k) w q.d q.vm q.vl q.vt:=Dt.Rep.mono (fun b hb hl=>⟨hl,hb⟩) q.d (h.rep q hq);refine Dt.Rep.mono (fun b hb _=>⟨hb.2.1,fun e=> ?_⟩) q.d (Dt.Rep.keep hK (fun b hb _ e=>hb.2.2 e) q.d hr0);rcases hat with e'|e'
  ·rw[e']at e;exact hb.2.2 e
  ·rw[e']at e;cases e;have:=hwA.size;omega
 ·obtain rfl:q=p:=by simpa using hq
  have hr0:Dt.Rep (fun k=>k<w1.heap.size∧(G k∨w.heap.size≤k)) w1 q.d q.vm q.vl q.vt:=Dt.Rep.mono (fun b hb hl=>⟨hl,hb⟩) q.d hp;have hno:∀b,(G b∨w.heap.size≤b)→v.ownBlock≠some b:=fun b hb e=>by
   have:=hvl b e;rcases hb with hb|hb
   ·have:=hG b hb;omega
   ·omega
  refine Dt.Rep.mono (fun b hb _=>⟨hb.2.imp id (fun h=>by omega),fun e=> ?_⟩) q.d (Dt.Rep.keep hK1 (fun b hb _ e=>hno b hb.2 e) q.d hr0);rcases hat with e'|e'
  ·rw[e']at e;exact hno b hb.2 e
  ·rw[e']at e;cases e;have:=hA.size;omega
theorem TRow.to_row{G:Nat→Prop}{w:World}{base:Nat}{v:Value}{ls:List Dt.P}(h:TRow G w base v ls):Dt.Row (fun k=>G k∨base≤k) w v (ls.map Dt.P.d):=
 Rd.row_of_own h.row rfl (fun j hj=> .inr (Dt.own_lt h.row j hj).1) (fun p hp=>Dt.Rep.mono (fun b hb _=>hb.1) p.d (h.rep p hp))
theorem TRow.nil(G:Nat→Prop)(w:World)(base:Nat):TRow G w base (.slice none 0 0) []:=⟨World.ownsRow_nil _ _ _ _,fun p hp=>nomatch hp⟩
theorem TRow.one{G:Nat→Prop}{w wA:World}{base:Nat}{k n:Int}{s:ByteArray}(hb:base≤w.heap.size)(h:w.alloc (.cells #[.int .i64 k,.int .i64 n,.string s,.slice none 0 0,.slice none 0 0,.slice none 0 0] 25)=wA):
  TRow G wA base (.slice (some ⟨w.heap.size,0,none⟩) 1 1) [⟨.mk k n s [] [] [],.slice none 0 0,.slice none 0 0,.slice none 0 0⟩]:=by
 refine⟨⟨rfl,.inr ⟨w.heap.size,1,#[.int .i64 k,.int .i64 n,.string s,.slice none 0 0,.slice none 0 0,.slice none 0 0],rfl,hb,by rw[←h];exact heap_alloc_new w _,Nat.le_refl _,by decide,rfl,?_⟩⟩,fun p hp=> ?_⟩
 ·rfl
 ·obtain rfl:p=_:=List.mem_singleton.1 hp;exact rep_nil _ _ _ _ _
structure TS(c:C)(w:World)(G:Nat→Prop)(cs:Array Value)(R0:Nat)(v:Value)(ps:List Dt.P)(wx:World):Prop where
 row:TRow (fun k=>G k∧k<w.heap.size) wx (R0+1) v ps
 hc:Hp wx w.heap.size cs 28
 hr:Hp wx R0 #[.int .i64 0,.int .i64 0,.string ⟨#[]⟩,.slice none 0 0,.slice none 0 0,.slice none 0 0] 25
 kb:Below w.heap.size w wx
 bs:R0+1≤wx.heap.size
theorem TS.push{c:C}{w:World}{G:Nat→Prop}{cs:Array Value}{R0:Nat}{v v':Value}{ps:List Dt.P}{wx w1 wA w5:World}{p:Dt.P}(hR:R0=w.heap.size+1)(h:TS c w G cs R0 v ps wx)(h1:Below wx.heap.size wx w1)(hp:Dt.Rep (fun k=>(G k∧k<w.heap.size)∨wx.heap.size≤k) w1 p.d p.vm p.vl p.vt)(hA:Below w1.heap.size w1 wA)
  (hown:w5.ownsRow (R0+1) 25 6 v' (ps.length+1) (Dt.flatP ps++p.cells)) (hg:wA.grownBy w5 v.ownBlock) (hat:v'.ownBlock=v.ownBlock∨v'.ownBlock=some wA.heap.size):TS c w G cs R0 v' (ps++[p]) w5:=by
 obtain⟨k1,k2⟩:=h.row.push h.bs (fun k hk=>by omega) h1 hp hA hown hg hat;have hlow:∀k,v.ownBlock=some k→R0+1≤k:=fun k e=>(Dt.own_lt h.row.row k e).1
 exact⟨k1,h.hc.keep k2 (fun e=>by have:=hlow _ e;omega),h.hr.keep k2 (fun e=>by have:=hlow _ e;omega),h.kb.trans (k2.to_below (fun k e=>by have:=hlow _ e;omega) h.kb.size),Nat.le_trans h.bs k2.size⟩
def TellIs(c:C):Prop:=∀(G:Nat→Prop) (vm vl vt vp vk:Value) (w:World),Wf c→Snd c→Rep G w c vm vl vt vp vk→
 Calls Tryz.prog 57 #[V c vm vl vt vp vk] w fun e w'=>∃um ul ut,e= .returned (.agg #[.int .i64 (tellD c).k,.int .i64 (tellD c).n,.string (tellD c).s,um,ul,ut])∧Dt.Rep (fun k=>G k∨w.heap.size≤k) w' (tellD c) um ul ut∧Below w.heap.size w w'
end Co
theorem coTell_step(c:Co.C)(hch:∀y∈c.l,Co.TellIs y):Co.TellIs c:=by
 intro G vm vl vt vp vk w hW hS hR;obtain⟨hal,hl8,hsl⟩:=Co.snd_parts hS;have hR:=Co.Rep.mono (G:=fun k=>G k∧k<w.heap.size) (fun b hb hl=>⟨hb,hl⟩) c hR;obtain⟨hrd,hrp,hrk⟩:=(Co.rep_iff _ _ _ _ _ _ _ _).1 hR;obtain⟨b1,n1,q1,b2,n2,q2,b3,n3,q3,b4,n4,q4,b5,n5,q5,rfl,rfl,rfl,rfl,rfl⟩:=hR.forms5;obtain⟨-,-,hWd,-,-,-,hWl⟩:=Co.wf_parts hW;obtain⟨_,_,he5,_,_⟩:=id hrk;injection he5 with he5a he5b he5c
 subst he5b;clear he5a he5c;have hp32:=Co.alone_p32 hal;unfold Co.V;obtain⟨w1,hw1⟩:∃w1,w.alloc (.cells #[.int .i64 c.k,.int .i64 c.n,.string c.s,.int .i64 c.d.k,.int .i64 c.d.n,.string c.d.s,.slice b1 n1 q1,.slice b2 n2 q2,.slice b3 n3 q3,.slice b4 n4 q4,.slice b5 c.l.length q5] 28)=w1:=⟨_,rfl⟩
 obtain⟨w2,hw2⟩:∃w2,w1.alloc (.cells #[.int .i64 0,.int .i64 0,.string ⟨#[]⟩,.slice none 0 0,.slice none 0 0,.slice none 0 0] 25)=w2:=⟨_,rfl⟩
 obtain⟨hb1,hs1⟩:=new_below hw1;obtain⟨hb2,hs2⟩:=new_below hw2;have Hc:=hd ((Hp.new hw1).below hb2);have Hr:=hd (Hp.new hw2);have hb12:=btr hb1 hb2;obtain⟨R0,hR0⟩:∃R0,w1.heap.size=R0:=⟨_,rfl⟩
 rw[hR0]at Hr hs1 hs2;have HR0:Hid (R0=w.heap.size+1∧w2.heap.size=R0+1):=⟨hs1,hs2⟩
 have HB2:=hd hb12;have HRD:=hd hrd;have HRP:=hd hrp;have HRK:=hd hrk;have HWL:=hd hWl;have HSL:=hd hsl;have HCH:=hd hch;have hfm:=fun W=>forms_any c.k W
 obtain⟨fs,fh,fl,ft,hfv,hfs,hfh⟩:∃(fs:ByteArray) (fh fl ft:Int),Co.fmV c.k= .agg #[.string fs,.int .i64 fh,.int .i64 fl,.int .i64 ft]∧fs=⟨(Co.fm c.k).1.toArray⟩∧fh=(Co.fm c.k).2.1:=⟨_,_,_,_,rfl,rfl,rfl⟩
 rw[hfv]at hfm;obtain⟨ik,hik⟩:∃ik,Co.isKind c.k=ik:=⟨_,rfl⟩
 rw[hik]at hfm;have HFS:=hd hfs;have HFH:=hd hfh;have HK8:=hd hl8;obtain⟨i0,hi,hz0,hz1,hz2⟩:=info_parts Dt.infoD;have HI:=hd hi;have HZ0:=hd hz0;have HZ1:=hd hz1;have HZ2:=hd hz2;obtain⟨c0,c1,c2,c3,c4,c5,c6,c7,c8,c9,c10⟩:=Hc.out.c11;clear hb1 hb2 hs1 hs2 hb12 hrd hrp hrk hWd hWl hsl hch hW hS hR hal hfv hik hfs hfh hi hz0 hz1 hz2;have hsy:=fun W=>coSym_any fs W
 go_enter Tryz.func57,Tryz.ntmps57;go_upto_block 0 with((first|(go_at_call 49;refine(hfm _).mono ?_;rintro e w5 ⟨rfl,hb5⟩;clear c0 c1 c2 c3 c4 c5 c6 c7 c8 c9 c10;have hw6:w5.alloc (.cells #[.string fs,.int .i64 fh,.int .i64 fl,.int .i64 ft] 88)=w5.alloc (.cells #[.string fs,.int .i64 fh,.int .i64 fl,.int .i64 ft] 88):=rfl;obtain⟨hb6,-⟩:=new_below hw6;have f0:=(Hp.new hw6).cell 0 rfl;have f1:=(Hp.new hw6).cell 1 rfl;have HF6:=hd (Hp.new hw6);have HB6:=hd ((btr hb5 hb6));clear hb5 hb6 hw6 hfm)|(go_at_call 77;refine(hsy _).mono ?_;rintro e w7 ⟨rfl,hb7⟩;have HF7:=hd (HF6.out.below hb7);have HB7:Hid (Below w2.heap.size w2 w7):=hd ((btr HB6.out hb7));have hwA:w7.alloc (.cells #[.int .i64 5,.int .i64 0,.string fs,.slice none 0 0,.slice none 0 0,.slice none 0 0] 25)=w7.alloc (.cells #[.int .i64 5,.int .i64 0,.string fs,.slice none 0 0,.slice none 0 0,.slice none 0 0] 25):=rfl;obtain⟨hbA,-⟩:=new_below hwA;have f1:=(HF7.out.below hbA).cell 1 rfl;have HBA:=hd hbA;clear hb7 hwA hbA f0 hsy)))
 obtain⟨w8,hw8⟩:∃w8,w7.alloc (.cells #[.int .i64 5,.int .i64 0,.string fs,.slice none 0 0,.slice none 0 0,.slice none 0 0] 25)=w8:=⟨_,rfl⟩
 rw[hw8]at f1 HBA ⊢;have HT8:Hid (Co.TS c w G #[.int .i64 c.k,.int .i64 c.n,.string c.s,.int .i64 c.d.k,.int .i64 c.d.n,.string c.d.s,.slice b1 n1 q1,.slice b2 n2 q2,.slice b3 n3 q3,.slice b4 n4 q4,.slice b5 c.l.length q5] R0 (.slice (some ⟨w7.heap.size,0,none⟩) 1 1) [(⟨Co.symD fs,.slice none 0 0,.slice none 0 0,.slice none 0 0⟩:Dt.P)] w8):=by
  have h1:=HB7.out.size;have h2:=HR0.out;have hb:Below w2.heap.size w2 w8:=HB7.out.trans (HBA.out.mono h1);exact⟨Co.TRow.one (by omega) hw8,Hc.out.below hb,Hr.out.below hb,(btr HB2.out hb),by have:=hb.size;omega⟩
 have HP8:Hid (Hp w8 w7.heap.size #[.int .i64 5,.int .i64 0,.string fs,.slice none 0 0,.slice none 0 0,.slice none 0 0] 25):=Hp.new hw8;have HL8:Hid (w7.heap.size<w8.heap.size):=HP8.out.lt;clear hw8 hw1 hw2 Hc Hr HB2
 go_cut [5] (fun v wx=>∃(al:Option Addr) (ql m:Nat) (ps:List Dt.P),v= .slice al m ql∧m=ps.length∧m≤2∧ps.map Dt.P.d=Co.symD (Co.wordD c) :: Co.bodyD c∧Co.TS c w G #[.int .i64 c.k,.int .i64 c.n,.string c.s,.int .i64 c.d.k,.int .i64 c.d.n,.string c.d.s,.slice b1 n1 q1,.slice b2 n2 q2,.slice b3 n3 q3,.slice b4 n4 q4,.slice b5 c.l.length q5] R0 v ps wx)
 case first=>
  have HC8:Hid (Hp w8 w.heap.size #[.int .i64 c.k,.int .i64 c.n,.string c.s,.int .i64 c.d.k,.int .i64 c.d.n,.string c.d.s,.slice b1 n1 q1,.slice b2 n2 q2,.slice b3 n3 q3,.slice b4 n4 q4,.slice b5 c.l.length q5] 28):=HT8.out.hc;have hfin:∀(al:Option Addr) (ql:Nat) (s:ByteArray) (x:Dt.D) (vm vl vt:Value) (wx:World),Co.TS c w G #[.int .i64 c.k,.int .i64 c.n,.string c.s,.int .i64 c.d.k,.int .i64 c.d.n,.string c.d.s,.slice b1 n1 q1,.slice b2 n2 q2,.slice b3 n3 q3,.slice b4 n4 q4,.slice b5 c.l.length q5] R0 (.slice al 2 ql) ([(⟨Co.symD s,.slice none 0 0,.slice none 0 0,.slice none 0 0⟩:Dt.P)]++[(⟨x,vm,vl,vt⟩:Dt.P)]) wx→Co.wordD c=s→Co.bodyD c=[x]→(fun v wx=>∃(al:Option Addr) (ql m:Nat) (ps:List Dt.P),v= .slice al m ql∧m=ps.length∧m≤2∧ps.map Dt.P.d=Co.symD (Co.wordD c) :: Co.bodyD c∧Co.TS c w G #[.int .i64 c.k,.int .i64 c.n,.string c.s,.int .i64 c.d.k,.int .i64 c.d.n,.string c.d.s,.slice b1 n1 q1,.slice b2 n2 q2,.slice b3 n3 q3,.slice b4 n4 q4,.slice b5 c.l.length q5] R0 v ps wx) (.slice al 2 ql) wx:=fun al ql s x vm vl vt wx h e1 e2=>
   ⟨al,ql,2,_,rfl,rfl,Nat.le_refl _,by rw[e1,e2];rfl,h⟩
  have HFIN:=hd hfin;clear hfin;have HH:=hd (Co.fm_has c.k);rcases HH.out with⟨e1,e2⟩|⟨e1,e2⟩|⟨e1,e2⟩|⟨e1,e2⟩|⟨e1,e2⟩
  all_goals (rw[←HFH.out]at e1;subst e1)
  ·-- a constant
   have HE2:=hd e2;clear e2;obtain⟨c0,c1,c2,c3,c4,c5,c6,c7,c8,c9,c10⟩:=HC8.out.c11;have hWA:w8.alloc (.cells #[.int .i64 c.d.k,.int .i64 c.d.n,.string c.d.s,.slice b1 n1 q1,.slice b2 n2 q2,.slice b3 n3 q3] 25)=w8.alloc (.cells #[.int .i64 c.d.k,.int .i64 c.d.n,.string c.d.s,.slice b1 n1 q1,.slice b2 n2 q2,.slice b3 n3 q3] 25):=rfl;obtain⟨hbA,hsA⟩:=new_below hWA;have HS:Hid (Ap.Src (w8.alloc (.cells #[.int .i64 c.d.k,.int .i64 c.d.n,.string c.d.s,.slice b1 n1 q1,.slice b2 n2 q2,.slice b3 n3 q3] 25)) (.slice (some ⟨w8.heap.size,0,none⟩) 1 1) 1 [.int .i64 c.d.k,.int .i64 c.d.n,.string c.d.s,.slice b1 n1 q1,.slice b2 n2 q2,.slice b3 n3 q3]):=Rd.srcNew hWA;have HRO:Hid ((w8.alloc (.cells #[.int .i64 c.d.k,.int .i64 c.d.n,.string c.d.s,.slice b1 n1 q1,.slice b2 n2 q2,.slice b3 n3 q3] 25)).ownsRow (R0+1) 25 6 (.slice (some ⟨w7.heap.size,0,none⟩) 1 1) 1 (Dt.flatP [(⟨Co.symD fs,.slice none 0 0,.slice none 0 0,.slice none 0 0⟩:Dt.P)])):=by
    have:=(HT8.out.row.below hbA).row;exact this
   have HBA:=hd hbA;have HSZ:Hid ((R0+1)≤(w8.alloc (.cells #[.int .i64 c.d.k,.int .i64 c.d.n,.string c.d.s,.slice b1 n1 q1,.slice b2 n2 q2,.slice b3 n3 q3] 25)).heap.size):=by
    have h1:=hbA.size;have h2:(R0+1)≤w8.heap.size:=HT8.out.bs;show(R0+1)≤_;omega
   clear hWA hbA hsA;have hm1:1+1≤maxLen:=by unfold maxLen;omega
   have hm2:(1+1)*104≤140737488355328:=by omega
   go_wp2_with(at_builtin;refine Ap.list rfl _ _ 23 rfl (R0+1) 25 i0 _ 6 104 Tryz.underlying23 HI.out HZ0.out HZ1.out HZ2.out rfl (by decide) (.slice (some ⟨w7.heap.size,0,none⟩) 1 1) 1 (Dt.flatP [(⟨Co.symD fs,.slice none 0 0,.slice none 0 0,.slice none 0 0⟩:Dt.P)]) rfl HRO.out (.slice (some ⟨w8.heap.size,0,none⟩) 1 1) 1 [.int .i64 c.d.k,.int .i64 c.d.n,.string c.d.s,.slice b1 n1 q1,.slice b2 n2 q2,.slice b3 n3 q3] rfl HS.out rfl (by intro u hu;simp only[List.mem_cons,List.not_mem_nil,or_false]at hu;rcases hu with rfl|rfl|rfl|rfl|rfl|rfl <;> rfl) hm1 hm2 HSZ.out ?_;intro v' wZ hown hg hat;obtain⟨al',ql',rfl⟩:=Dt.row_form hown;have HOWN:=hd hown;have HGR:=hd hg;have HAT:=hd hat;clear hown hg hat)
   have HN:=HFIN.out al' ql' fs c.d _ _ _ wZ (HT8.out.push HR0.out.1 (Below.refl _ _) (p:=⟨c.d,.slice b1 n1 q1,.slice b2 n2 q2,.slice b3 n3 q3⟩) (Dt.Rep.mono (fun b hb _=> .inl hb) c.d (HRD.out.below HT8.out.kb)) HBA.out HOWN.out HGR.out HAT.out) (by unfold Co.wordD;rw[if_neg (fun h=>by have:=HE2.out;omega)];exact HFS.out.symm) (by unfold Co.bodyD;rw[if_pos HE2.out]);clear c0 c1 c2 c3 c4 c5 c6 c7 c8 c9 c10;clear HFIN;go_wp2;go_meet;exact HN
  ·-- a number
   have HE2:=hd e2;clear e2;obtain⟨c0,c1,c2,c3,c4,c5,c6,c7,c8,c9,c10⟩:=HC8.out.c11;have hcl:=fun W=>coFix_any c.n W
   go_wp2_with fail
   refine(hcl _).mono ?_;rintro e wS ⟨rfl,hbS⟩;have HBS:=hd hbS;clear hbS hcl;have hWA:wS.alloc (.cells #[.int .i64 1,.int .i64 c.n,.string ⟨#[]⟩,.slice none 0 0,.slice none 0 0,.slice none 0 0] 25)=wS.alloc (.cells #[.int .i64 1,.int .i64 c.n,.string ⟨#[]⟩,.slice none 0 0,.slice none 0 0,.slice none 0 0] 25):=rfl;obtain⟨hbA,hsA⟩:=new_below hWA;have HS:Hid (Ap.Src (wS.alloc (.cells #[.int .i64 1,.int .i64 c.n,.string ⟨#[]⟩,.slice none 0 0,.slice none 0 0,.slice none 0 0] 25)) (.slice (some ⟨wS.heap.size,0,none⟩) 1 1) 1 [.int .i64 1,.int .i64 c.n,.string ⟨#[]⟩,.slice none 0 0,.slice none 0 0,.slice none 0 0]):=Rd.srcNew hWA;have HRO:Hid ((wS.alloc (.cells #[.int .i64 1,.int .i64 c.n,.string ⟨#[]⟩,.slice none 0 0,.slice none 0 0,.slice none 0 0] 25)).ownsRow (R0+1) 25 6 (.slice (some ⟨w7.heap.size,0,none⟩) 1 1) 1 (Dt.flatP [(⟨Co.symD fs,.slice none 0 0,.slice none 0 0,.slice none 0 0⟩:Dt.P)])):=by
    have:=((HT8.out.row.below HBS.out).below hbA).row;exact this
   have HBA:=hd hbA;have HSZ:Hid ((R0+1)≤(wS.alloc (.cells #[.int .i64 1,.int .i64 c.n,.string ⟨#[]⟩,.slice none 0 0,.slice none 0 0,.slice none 0 0] 25)).heap.size):=by
    have h1:=hbA.size;have h2:(R0+1)≤wS.heap.size:=(Nat.le_trans HT8.out.bs HBS.out.size)
    show(R0+1)≤_;omega
   clear hWA hbA hsA;have hm1:1+1≤maxLen:=by unfold maxLen;omega
   have hm2:(1+1)*104≤140737488355328:=by omega
   go_wp2_with(at_builtin;refine Ap.list rfl _ _ 23 rfl (R0+1) 25 i0 _ 6 104 Tryz.underlying23 HI.out HZ0.out HZ1.out HZ2.out rfl (by decide) (.slice (some ⟨w7.heap.size,0,none⟩) 1 1) 1 (Dt.flatP [(⟨Co.symD fs,.slice none 0 0,.slice none 0 0,.slice none 0 0⟩:Dt.P)]) rfl HRO.out (.slice (some ⟨wS.heap.size,0,none⟩) 1 1) 1 [.int .i64 1,.int .i64 c.n,.string ⟨#[]⟩,.slice none 0 0,.slice none 0 0,.slice none 0 0] rfl HS.out rfl (by intro u hu;simp only[List.mem_cons,List.not_mem_nil,or_false]at hu;rcases hu with rfl|rfl|rfl|rfl|rfl|rfl <;> rfl) hm1 hm2 HSZ.out ?_;intro v' wZ hown hg hat;obtain⟨al',ql',rfl⟩:=Dt.row_form hown;have HOWN:=hd hown;have HGR:=hd hg;have HAT:=hd hat;clear hown hg hat)
   have HN:=HFIN.out al' ql' fs (Co.fixD c.n) _ _ _ wZ (HT8.out.push HR0.out.1 HBS.out (p:=⟨(Co.fixD c.n),.slice none 0 0,.slice none 0 0,.slice none 0 0⟩) (Co.rep_nil _ _ _ _ _) HBA.out HOWN.out HGR.out HAT.out) (by unfold Co.wordD;rw[if_neg (fun h=>by have:=HE2.out;omega)];exact HFS.out.symm) (by have:=HE2.out;unfold Co.bodyD;rw[if_neg (by omega),if_pos HE2.out]);clear c0 c1 c2 c3 c4 c5 c6 c7 c8 c9 c10;clear HFIN;go_wp2;go_meet;exact HN
  ·-- a name
   have HE2:=hd e2;clear e2;obtain⟨c0,c1,c2,c3,c4,c5,c6,c7,c8,c9,c10⟩:=HC8.out.c11;have hcl:=fun W=>coSym_any c.s W
   go_wp2_with fail
   refine(hcl _).mono ?_;rintro e wS ⟨rfl,hbS⟩;have HBS:=hd hbS;clear hbS hcl;have hWA:wS.alloc (.cells #[.int .i64 5,.int .i64 0,.string c.s,.slice none 0 0,.slice none 0 0,.slice none 0 0] 25)=wS.alloc (.cells #[.int .i64 5,.int .i64 0,.string c.s,.slice none 0 0,.slice none 0 0,.slice none 0 0] 25):=rfl;obtain⟨hbA,hsA⟩:=new_below hWA;have HS:Hid (Ap.Src (wS.alloc (.cells #[.int .i64 5,.int .i64 0,.string c.s,.slice none 0 0,.slice none 0 0,.slice none 0 0] 25)) (.slice (some ⟨wS.heap.size,0,none⟩) 1 1) 1 [.int .i64 5,.int .i64 0,.string c.s,.slice none 0 0,.slice none 0 0,.slice none 0 0]):=Rd.srcNew hWA;have HRO:Hid ((wS.alloc (.cells #[.int .i64 5,.int .i64 0,.string c.s,.slice none 0 0,.slice none 0 0,.slice none 0 0] 25)).ownsRow (R0+1) 25 6 (.slice (some ⟨w7.heap.size,0,none⟩) 1 1) 1 (Dt.flatP [(⟨Co.symD fs,.slice none 0 0,.slice none 0 0,.slice none 0 0⟩:Dt.P)])):=by
    have:=((HT8.out.row.below HBS.out).below hbA).row;exact this
   have HBA:=hd hbA;have HSZ:Hid ((R0+1)≤(wS.alloc (.cells #[.int .i64 5,.int .i64 0,.string c.s,.slice none 0 0,.slice none 0 0,.slice none 0 0] 25)).heap.size):=by
    have h1:=hbA.size;have h2:(R0+1)≤wS.heap.size:=(Nat.le_trans HT8.out.bs HBS.out.size)
    show(R0+1)≤_;omega
   clear hWA hbA hsA;have hm1:1+1≤maxLen:=by unfold maxLen;omega
   have hm2:(1+1)*104≤140737488355328:=by omega
   go_wp2_with(at_builtin;refine Ap.list rfl _ _ 23 rfl (R0+1) 25 i0 _ 6 104 Tryz.underlying23 HI.out HZ0.out HZ1.out HZ2.out rfl (by decide) (.slice (some ⟨w7.heap.size,0,none⟩) 1 1) 1 (Dt.flatP [(⟨Co.symD fs,.slice none 0 0,.slice none 0 0,.slice none 0 0⟩:Dt.P)]) rfl HRO.out (.slice (some ⟨wS.heap.size,0,none⟩) 1 1) 1 [.int .i64 5,.int .i64 0,.string c.s,.slice none 0 0,.slice none 0 0,.slice none 0 0] rfl HS.out rfl (by intro u hu;simp only[List.mem_cons,List.not_mem_nil,or_false]at hu;rcases hu with rfl|rfl|rfl|rfl|rfl|rfl <;> rfl) hm1 hm2 HSZ.out ?_;intro v' wZ hown hg hat;obtain⟨al',ql',rfl⟩:=Dt.row_form hown;have HOWN:=hd hown;have HGR:=hd hg;have HAT:=hd hat;clear hown hg hat)
   have HN:=HFIN.out al' ql' fs (Co.symD c.s) _ _ _ wZ (HT8.out.push HR0.out.1 HBS.out (p:=⟨(Co.symD c.s),.slice none 0 0,.slice none 0 0,.slice none 0 0⟩) (Co.rep_nil _ _ _ _ _) HBA.out HOWN.out HGR.out HAT.out) (by unfold Co.wordD;rw[if_neg (fun h=>by have:=HE2.out;omega)];exact HFS.out.symm) (by have:=HE2.out;unfold Co.bodyD;rw[if_neg (by omega),if_neg (by omega),if_pos HE2.out]);clear c0 c1 c2 c3 c4 c5 c6 c7 c8 c9 c10;clear HFIN;go_wp2;go_meet;exact HN
  ·-- parameters
   have HE2:=hd e2;clear e2;have c1:=HC8.out.cell 1 rfl
   go_upto_if 50 with fail
   clear c1
   go_cut [] (fun wx=>Co.TS c w G #[.int .i64 c.k,.int .i64 c.n,.string c.s,.int .i64 c.d.k,.int .i64 c.d.n,.string c.d.s,.slice b1 n1 q1,.slice b2 n2 q2,.slice b3 n3 q3,.slice b4 n4 q4,.slice b5 c.l.length q5] R0 (.slice (some ⟨w7.heap.size,0,none⟩) 1 1) [(⟨Co.symD (Co.wordD c),.slice none 0 0,.slice none 0 0,.slice none 0 0⟩:Dt.P)] wx)
   case first=>
    by_cases hn:c.n=1
    ·have hnb:(c.n==1)=true:=by simpa using hn
     have p2:=HP8.out.cell 2 rfl;have pf2:=HP8.out.frz 2;have ew:Co.wordD c=fs++⟨#[42]⟩:=by unfold Co.wordD;rw[if_pos ⟨HE2.out,hn⟩,HFS.out]
     have HN:Hid (Co.TS c w G #[.int .i64 c.k,.int .i64 c.n,.string c.s,.int .i64 c.d.k,.int .i64 c.d.n,.string c.d.s,.slice b1 n1 q1,.slice b2 n2 q2,.slice b3 n3 q3,.slice b4 n4 q4,.slice b5 c.l.length q5] R0 (.slice (some ⟨w7.heap.size,0,none⟩) 1 1) [(⟨Co.symD (Co.wordD c),.slice none 0 0,.slice none 0 0,.slice none 0 0⟩:Dt.P)] (w8.setCell ⟨w7.heap.size,2,none⟩ (.string (fs++⟨#[42]⟩)))):=by
      have h2:=HR0.out;have h3:=(Dt.own_lt HT8.out.row.row w7.heap.size rfl).1;have k:=set_keep w8 w7.heap.size 2 (.string (fs++⟨#[42]⟩));rw[ew];refine⟨⟨?_,fun p hp=> ?_⟩,HT8.out.hc.keep k (by omega),HT8.out.hr.keep k (by omega),HT8.out.kb.trans (k.to_below (fun j e=>by omega) HT8.out.kb.size),Nat.le_trans HT8.out.bs k.size⟩
      ·exact Pt.own_set (ys:=[.int .i64 5,.int .i64 0]) (zs:=[.slice none 0 0,.slice none 0 0,.slice none 0 0]) (z:= .string fs) (v:= .string (fs++⟨#[42]⟩)) HT8.out.row.row
      ·obtain rfl:p=_:=List.mem_singleton.1 hp;exact Co.rep_nil _ _ _ _ _
     clear hn ew;have hfz:fs.size+(⟨#[42]⟩:ByteArray).size≤9223372036854775807:=by rw[HFS.out,HE2.out];decide
     have hadd:=fun W=>run_string_add_sum (P:=Tryz.prog) (w:=W) fs ⟨#[42]⟩ hfz
     go_wp2;go_meet;exact HN.out
    ·have hnb:(c.n==1)=false:=by simpa using hn
     have ew:Co.wordD c=fs:=by unfold Co.wordD;rw[if_neg (fun h=>hn h.2),HFS.out]
     have HN:Hid (Co.TS c w G #[.int .i64 c.k,.int .i64 c.n,.string c.s,.int .i64 c.d.k,.int .i64 c.d.n,.string c.d.s,.slice b1 n1 q1,.slice b2 n2 q2,.slice b3 n3 q3,.slice b4 n4 q4,.slice b5 c.l.length q5] R0 (.slice (some ⟨w7.heap.size,0,none⟩) 1 1) [(⟨Co.symD (Co.wordD c),.slice none 0 0,.slice none 0 0,.slice none 0 0⟩:Dt.P)] w8):=by rw[ew];exact HT8.out
     clear hn ew;go_wp2;go_meet;exact HN.out
   case rest=>
    obtain⟨w9,rfl⟩:∃w9,w9=wc:=⟨_,rfl⟩
    have HT9:=hd hcut;clear hcut;have HC9:Hid (Hp w9 w.heap.size #[.int .i64 c.k,.int .i64 c.n,.string c.s,.int .i64 c.d.k,.int .i64 c.d.n,.string c.d.s,.slice b1 n1 q1,.slice b2 n2 q2,.slice b3 n3 q3,.slice b4 n4 q4,.slice b5 c.l.length q5] 28):=HT9.out.hc;have c9:=HC9.out.cell 9 rfl;have hn4:n4=c.p.length:=by
     obtain⟨_,_,he,-⟩:=HRP.out;injection he
    subst hn4;have HINV0:Hid (([]:List Dt.P).length=0∧([]:List Dt.P).map Dt.P.d=(c.p.take 0).map Co.fixD∧Co.TRow (fun k=>G k∧k<w.heap.size) w9 w9.heap.size (.slice none 0 0) []∧Below w9.heap.size w9 w9):=⟨rfl,rfl,Co.TRow.nil _ _ _,Below.refl _ _⟩
    go_wp2;clear c9
    go_loopw [6,61] (fun v6 v61 wr=>∃(j:Nat) (ps:List Dt.P) (al:Option Addr) (ql:Nat),v6= .slice al j ql∧v61= .int .i64 j∧j≤c.p.length∧Hid (ps.length=j∧ps.map Dt.P.d=(c.p.take j).map Co.fixD∧Co.TRow (fun k=>G k∧k<w.heap.size) wr w9.heap.size (.slice al j ql) ps∧Below w9.heap.size w9 wr)) (fun _ v61 _=>c.p.length - (intOf v61).toNat)
    case atStart=>exact⟨0,[],none,0,rfl,rfl,by omega,HINV0⟩
    case round=>
     clear HINV0;obtain⟨j,ps,al,ql,rfl,rfl,hj,HL⟩:=hrel;by_cases hlt:j<c.p.length
     case neg=>
      have hge:(c.p.length:Int)≤(j:Int):=by omega
      obtain rfl:j=c.p.length:=by omega
      have hli:=fun W (hb:Below wr.heap.size wr W)=>coList_any (.slice al c.p.length ql) (ps.map Dt.P.d) W (HL.out.2.2.1.to_row.below hb) (Rd.own_nz HL.out.2.2.1.row) (by rw[List.length_map,HL.out.1];omega)
      go_wp2_with fail
      refine(hli _ (Below.refl _ _)).mono ?_;rintro e wS ⟨v',rfl,hrow,hbS⟩;obtain⟨al2,ql2,rfl,hql2,hrow2⟩:=hrow;have HRW:Hid (Dt.Row (fun k=>((fun k=>G k∧k<w.heap.size) k∨w9.heap.size≤k)∨wr.heap.size≤k) wS (.slice al2 (ps.map Dt.P.d).length ql2) (ps.map Dt.P.d)):=⟨al2,ql2,rfl,hql2,hrow2⟩
      have HBS:Hid (Below w9.heap.size w9 wS):=HL.out.2.2.2.trans (hbS.mono HL.out.2.2.2.size);have HEQ:Hid (ps.map Dt.P.d=c.p.map Co.fixD):=by have h:=HL.out.2.1;rw[List.take_length]at h;exact h
      obtain⟨N2,hN2⟩:∃N2,(ps.map Dt.P.d).length=N2:=⟨_,rfl⟩
      rw[hN2]at HRW ⊢;clear hrow2 hql2 hbS hli hN2;have hWA:wS.alloc (.cells #[.int .i64 6,.int .i64 0,.string ⟨#[]⟩,.slice none 0 0,.slice al2 N2 ql2,.slice none 0 0] 25)=wS.alloc (.cells #[.int .i64 6,.int .i64 0,.string ⟨#[]⟩,.slice none 0 0,.slice al2 N2 ql2,.slice none 0 0] 25):=rfl;obtain⟨hbA,hsA⟩:=new_below hWA;have HS:Hid (Ap.Src (wS.alloc (.cells #[.int .i64 6,.int .i64 0,.string ⟨#[]⟩,.slice none 0 0,.slice al2 N2 ql2,.slice none 0 0] 25)) (.slice (some ⟨wS.heap.size,0,none⟩) 1 1) 1 [.int .i64 6,.int .i64 0,.string ⟨#[]⟩,.slice none 0 0,.slice al2 N2 ql2,.slice none 0 0]):=Rd.srcNew hWA;have HRO:Hid ((wS.alloc (.cells #[.int .i64 6,.int .i64 0,.string ⟨#[]⟩,.slice none 0 0,.slice al2 N2 ql2,.slice none 0 0] 25)).ownsRow (R0+1) 25 6 (.slice (some ⟨w7.heap.size,0,none⟩) 1 1) 1 (Dt.flatP [(⟨Co.symD (Co.wordD c),.slice none 0 0,.slice none 0 0,.slice none 0 0⟩:Dt.P)])):=by
       have:=((HT9.out.row.below HBS.out).below hbA).row;exact this
      have HBA:=hd hbA;have HSZ:Hid ((R0+1)≤(wS.alloc (.cells #[.int .i64 6,.int .i64 0,.string ⟨#[]⟩,.slice none 0 0,.slice al2 N2 ql2,.slice none 0 0] 25)).heap.size):=by
       have h1:=hbA.size;have h2:(R0+1)≤wS.heap.size:=(Nat.le_trans HT9.out.bs HBS.out.size)
       show(R0+1)≤_;omega
      clear hWA hbA hsA;have hm1:1+1≤maxLen:=by unfold maxLen;omega
      have hm2:(1+1)*104≤140737488355328:=by omega
      go_wp2_with(at_builtin;refine Ap.list rfl _ _ 23 rfl (R0+1) 25 i0 _ 6 104 Tryz.underlying23 HI.out HZ0.out HZ1.out HZ2.out rfl (by decide) (.slice (some ⟨w7.heap.size,0,none⟩) 1 1) 1 (Dt.flatP [(⟨Co.symD (Co.wordD c),.slice none 0 0,.slice none 0 0,.slice none 0 0⟩:Dt.P)]) rfl HRO.out (.slice (some ⟨wS.heap.size,0,none⟩) 1 1) 1 [.int .i64 6,.int .i64 0,.string ⟨#[]⟩,.slice none 0 0,.slice al2 N2 ql2,.slice none 0 0] rfl HS.out rfl (by intro u hu;simp only[List.mem_cons,List.not_mem_nil,or_false]at hu;rcases hu with rfl|rfl|rfl|rfl|rfl|rfl <;> rfl) hm1 hm2 HSZ.out ?_;intro v' wZ hown hg hat;obtain⟨al',ql',rfl⟩:=Dt.row_form hown;have HOWN:=hd hown;have HGR:=hd hg;have HAT:=hd hat;clear hown hg hat)
      have HN:=HFIN.out al' ql' (Co.wordD c) (Co.lstD (ps.map Dt.P.d)) _ _ _ wZ (HT9.out.push HR0.out.1 HBS.out (p:=⟨(Co.lstD (ps.map Dt.P.d)),.slice none 0 0,.slice al2 N2 ql2,.slice none 0 0⟩) ((Dt.rep_iff _ _ _ _ _ _).2 ⟨⟨none,0,rfl,Nat.le_refl _,fun h=>absurd rfl h⟩,HRW.out.mono (fun b hb _=>by have:=HL.out.2.2.2.size;rcases hb with(hb|hb)|hb;exact .inl hb;exact .inr hb;exact .inr (by omega)),⟨none,0,rfl,Nat.le_refl _,fun h=>absurd rfl h⟩⟩) HBA.out HOWN.out HGR.out HAT.out) rfl (by have:=HE2.out;unfold Co.bodyD;rw[if_neg (by omega),if_neg (by omega),if_neg (by omega),if_pos HE2.out,HEQ.out]);clear HFIN;go_wp2;go_meet;exact HN
     have hlti:(j:Int)<(c.p.length:Int):=by omega
     obtain⟨_,_,he,_,hrow⟩:=HRP.out.below (HT9.out.kb.trans (HL.out.2.2.2.mono HT9.out.kb.size));injection he with he1 he2 he3
     subst he1;clear he2 he3;obtain⟨ba,oa,rfl,hGa,hbla,hcella⟩:=hrow (by intro h0;rw[h0]at hlt;simp at hlt);have p0:=hcella j hlt;obtain⟨x,hx⟩:∃x,c.p[j]=x:=⟨_,rfl⟩
     rw[hx]at p0;have HXX:=hd hx;have hcl:=fun W=>coFix_any x W
     clear hrow hGa hbla hcella hx;go_wp2_with fail
     refine(hcl _).mono ?_;rintro e wS ⟨rfl,hbS⟩;have HBS:=hd hbS;clear hbS hcl p0;have hWA:wS.alloc (.cells #[.int .i64 1,.int .i64 x,.string ⟨#[]⟩,.slice none 0 0,.slice none 0 0,.slice none 0 0] 25)=wS.alloc (.cells #[.int .i64 1,.int .i64 x,.string ⟨#[]⟩,.slice none 0 0,.slice none 0 0,.slice none 0 0] 25):=rfl;obtain⟨hbA,hsA⟩:=new_below hWA;have HS:Hid (Ap.Src (wS.alloc (.cells #[.int .i64 1,.int .i64 x,.string ⟨#[]⟩,.slice none 0 0,.slice none 0 0,.slice none 0 0] 25)) (.slice (some ⟨wS.heap.size,0,none⟩) 1 1) 1 [.int .i64 1,.int .i64 x,.string ⟨#[]⟩,.slice none 0 0,.slice none 0 0,.slice none 0 0]):=Rd.srcNew hWA;have HRO:Hid ((wS.alloc (.cells #[.int .i64 1,.int .i64 x,.string ⟨#[]⟩,.slice none 0 0,.slice none 0 0,.slice none 0 0] 25)).ownsRow w9.heap.size 25 6 (.slice al j ql) j (Dt.flatP ps)):=by
      have:=((HL.out.2.2.1.below HBS.out).below hbA).row;rw[HL.out.1]at this;exact this
     have HBA:=hd hbA;have HSZ:Hid (w9.heap.size≤(wS.alloc (.cells #[.int .i64 1,.int .i64 x,.string ⟨#[]⟩,.slice none 0 0,.slice none 0 0,.slice none 0 0] 25)).heap.size):=by
      have h1:=hbA.size;have h2:w9.heap.size≤wS.heap.size:=(Nat.le_trans HL.out.2.2.2.size HBS.out.size)
      show w9.heap.size≤_;omega
     clear hWA hbA hsA;have hm1:j+1≤maxLen:=by unfold maxLen;omega
     have hm2:(j+1)*104≤140737488355328:=by omega
     go_wp2_with(at_builtin;refine Ap.list rfl _ _ 23 rfl w9.heap.size 25 i0 _ 6 104 Tryz.underlying23 HI.out HZ0.out HZ1.out HZ2.out rfl (by decide) (.slice al j ql) j (Dt.flatP ps) rfl HRO.out (.slice (some ⟨wS.heap.size,0,none⟩) 1 1) 1 [.int .i64 1,.int .i64 x,.string ⟨#[]⟩,.slice none 0 0,.slice none 0 0,.slice none 0 0] rfl HS.out rfl (by intro u hu;simp only[List.mem_cons,List.not_mem_nil,or_false]at hu;rcases hu with rfl|rfl|rfl|rfl|rfl|rfl <;> rfl) hm1 hm2 HSZ.out ?_;intro v' wZ hown hg hat;obtain⟨al',ql',rfl⟩:=Dt.row_form hown;have HOWN:=hd hown;have HGR:=hd hg;have HAT:=hd hat;clear hown hg hat)
     have HN:Hid ((ps++[(⟨Co.fixD x,.slice none 0 0,.slice none 0 0,.slice none 0 0⟩:Dt.P)]).length=j+1∧(ps++[(⟨Co.fixD x,.slice none 0 0,.slice none 0 0,.slice none 0 0⟩:Dt.P)]).map Dt.P.d=(c.p.take (j+1)).map Co.fixD∧Co.TRow (fun k=>G k∧k<w.heap.size) wZ w9.heap.size (.slice al' (j+1) ql') (ps++[(⟨Co.fixD x,.slice none 0 0,.slice none 0 0,.slice none 0 0⟩:Dt.P)])∧Below w9.heap.size w9 wZ):=by
      have h1:=HL.out.1;obtain⟨k1,k2⟩:=HL.out.2.2.1.push HL.out.2.2.2.size (fun k hk=>by have:=HT9.out.kb.size;omega) HBS.out (p:=⟨Co.fixD x,.slice none 0 0,.slice none 0 0,.slice none 0 0⟩) (Co.rep_nil _ _ _ _ _) HBA.out (by rw[h1];exact HOWN.out) HGR.out HAT.out;refine⟨by rw[List.length_append,h1];rfl,?_,k1,HL.out.2.2.2.trans (k2.to_below (fun k e=>(Dt.own_lt HL.out.2.2.1.row k e).1) HL.out.2.2.2.size)⟩;rw[List.map_append,HL.out.2.1,List.take_succ_eq_append_getElem hlt,HXX.out,List.map_append]
      rfl
     go_wp2;go_roundw
     case rel=>exact⟨j+1,_,al',ql',rfl,by simp,by omega,HN⟩
     case measure=>simp[intOf];omega
  ·-- nothing
   have HE2:=hd e2;clear e2;have HN:(fun v wx=>∃(al:Option Addr) (ql m:Nat) (ps:List Dt.P),v= .slice al m ql∧m=ps.length∧m≤2∧ps.map Dt.P.d=Co.symD (Co.wordD c) :: Co.bodyD c∧Co.TS c w G #[.int .i64 c.k,.int .i64 c.n,.string c.s,.int .i64 c.d.k,.int .i64 c.d.n,.string c.d.s,.slice b1 n1 q1,.slice b2 n2 q2,.slice b3 n3 q3,.slice b4 n4 q4,.slice b5 c.l.length q5] R0 v ps wx) (.slice (some ⟨w7.heap.size,0,none⟩) 1 1) w8:=⟨_,_,1,_,rfl,rfl,by decide,by have h:=HE2.out;have e1:Co.wordD c=fs:=(by unfold Co.wordD;rw[if_neg (fun h'=>by omega)];exact HFS.out.symm);have e2:Co.bodyD c=[]:=(by unfold Co.bodyD;rw[if_neg (by omega),if_neg (by omega),if_neg (by omega),if_neg (by omega)]);rw[e1,e2];rfl,HT8.out⟩
   clear HFIN;go_wp2;go_meet;exact HN
 case rest=>
  obtain⟨al0,ql0,m0,ps0,rfl,hm0,hm2,hps0,hts0⟩:=hcut;obtain⟨w9,rfl⟩:∃w9,w9=wc:=⟨_,rfl⟩
  have HC9:Hid (Hp w9 w.heap.size #[.int .i64 c.k,.int .i64 c.n,.string c.s,.int .i64 c.d.k,.int .i64 c.d.n,.string c.d.s,.slice b1 n1 q1,.slice b2 n2 q2,.slice b3 n3 q3,.slice b4 n4 q4,.slice b5 c.l.length q5] 28):=hts0.hc;have c10:=HC9.out.cell 10 rfl;have HINV0:Hid (m0=ps0.length∧ps0.map Dt.P.d=Co.symD (Co.wordD c) :: Co.bodyD c++(c.l.take 0).map Co.tellD∧Co.TS c w G #[.int .i64 c.k,.int .i64 c.n,.string c.s,.int .i64 c.d.k,.int .i64 c.d.n,.string c.d.s,.slice b1 n1 q1,.slice b2 n2 q2,.slice b3 n3 q3,.slice b4 n4 q4,.slice b5 c.l.length q5] R0 (.slice al0 m0 ql0) ps0 w9):=⟨hm0,by rw[hps0];simp,hts0⟩
  clear hm0 hps0 hts0 f1 HB6 HF6 HB7 HF7 HBA HT8 HP8 HL8 HFS HFH;go_wp2;clear c10
  go_loopw [5,79] (fun v5 v79 wr=>∃(j m:Nat) (ps:List Dt.P) (al:Option Addr) (ql:Nat),v5= .slice al m ql∧v79= .int .i64 j∧j≤c.l.length∧m≤2+j∧Hid (m=ps.length∧ps.map Dt.P.d=Co.symD (Co.wordD c) :: Co.bodyD c++(c.l.take j).map Co.tellD∧Co.TS c w G #[.int .i64 c.k,.int .i64 c.n,.string c.s,.int .i64 c.d.k,.int .i64 c.d.n,.string c.d.s,.slice b1 n1 q1,.slice b2 n2 q2,.slice b3 n3 q3,.slice b4 n4 q4,.slice b5 c.l.length q5] R0 (.slice al m ql) ps wr)) (fun _ v79 _=>c.l.length - (intOf v79).toNat)
  case atStart=>exact⟨0,m0,ps0,al0,ql0,rfl,rfl,by omega,by omega,HINV0⟩
  case round=>
   clear HINV0 HC9;obtain⟨j,m,ps,al,ql,rfl,rfl,hj,hmj,HL⟩:=hrel;by_cases hlt:j<c.l.length
   case neg=>
    have hge:(c.l.length:Int)≤(j:Int):=by omega
    obtain rfl:j=c.l.length:=by omega
    have hli:=coList_any (.slice al m ql) (ps.map Dt.P.d) wr HL.out.2.2.row.to_row (Rd.own_nz HL.out.2.2.row.row) (by rw[List.length_map,←HL.out.1];omega);go_wp2_with fail
    refine hli.mono ?_;rintro e wS ⟨v',rfl,hrow,hbS⟩;obtain⟨al2,ql2,rfl,hql2,hrow2⟩:=hrow;have HRW:Hid (Dt.Row (fun k=>((fun k=>G k∧k<w.heap.size) k∨R0+1≤k)∨wr.heap.size≤k) wS (.slice al2 (ps.map Dt.P.d).length ql2) (ps.map Dt.P.d)):=⟨al2,ql2,rfl,hql2,hrow2⟩
    have HEQ:Hid (ps.map Dt.P.d=Co.symD (Co.wordD c) :: Co.bodyD c++c.l.map Co.tellD):=by have h:=HL.out.2.1;rw[List.take_length]at h;exact h
    obtain⟨N2,hN2⟩:∃N2,(ps.map Dt.P.d).length=N2:=⟨_,rfl⟩
    rw[hN2]at HRW ⊢;have k3:=set6_keep wS R0 (.int .i64 6) (.int .i64 0) (.string ⟨#[]⟩) (.slice none 0 0) (.slice al2 N2 ql2) (.slice none 0 0);have HF:Hid (Dt.Rep (fun k=>G k∨w.heap.size≤k) (set6 wS R0 (.int .i64 6) (.int .i64 0) (.string ⟨#[]⟩) (.slice none 0 0) (.slice al2 N2 ql2) (.slice none 0 0)) (Co.tellD c) (.slice none 0 0) (.slice al2 N2 ql2) (.slice none 0 0)∧Below w.heap.size w (set6 wS R0 (.int .i64 6) (.int .i64 0) (.string ⟨#[]⟩) (.slice none 0 0) (.slice al2 N2 ql2) (.slice none 0 0))):=by
     have h1:=HR0.out.1;have h2:=HL.out.2.2.bs;refine⟨?_,(HL.out.2.2.kb.trans (hbS.mono HL.out.2.2.kb.size)).trans (k3.to_below (fun k e=>by omega) (by have:=HL.out.2.2.kb.size;have:=hbS.size;omega))⟩;rw[Co.tellD_eq,←HEQ.out];exact(Dt.rep_iff _ _ _ _ _ _).2 ⟨⟨none,0,rfl,Nat.le_refl _,fun h=>absurd rfl h⟩,Dt.Row.mono (HRW.out.keep k3 (fun b hb _ e=>by omega)) (fun b hb _=>by rcases hb with(hb|hb)|hb;exact .inl hb.1;exact .inr (by omega);exact .inr (by omega)),⟨none,0,rfl,Nat.le_refl _,fun h=>absurd rfl h⟩⟩
    have HZ:=hd (HL.out.2.2.hr.below hbS);obtain⟨z0,z1,z2,z3,z4,z5⟩:=HZ.out.c6;have zf0:=HZ.out.frz 0;have zf1:=HZ.out.frz 1;have zf2:=HZ.out.frz 2;have zf3:=HZ.out.frz 3;have zf4:=HZ.out.frz 4;have zf5:=HZ.out.frz 5;have hk:=Co.tellD_eq c;have hk1:(Co.tellD c).k=6:=by rw[hk];rfl
    have hk2:(Co.tellD c).n=0:=by rw[hk];rfl
    have hk3:(Co.tellD c).s=⟨#[]⟩:=by rw[hk];rfl
    have HK:=hd (And.intro hk1 (And.intro hk2 hk3));clear hrow2 hql2 hbS hli hN2 k3 hk hk1 hk2 hk3;go_wp2;refine bodyPost_ret (v:= .agg #[.int .i64 6,.int .i64 0,.string ⟨#[]⟩,.slice none 0 0,.slice al2 N2 ql2,.slice none 0 0]) (by simp[results,Tryz.results57,go_sem, *]) rfl ?_;rw[HK.out.1,HK.out.2.1,HK.out.2.2];exact⟨_,_,_,rfl,HF.out.1,HF.out.2⟩
   have hlti:(j:Int)<(c.l.length:Int):=by omega
   have hjl:=HK8.out;obtain⟨_,_,he,_,hrow⟩:=HRK.out.below HL.out.2.2.kb;injection he with he1 he2 he3
   subst he1;clear he2 he3;obtain⟨b,o',rfl,hGb,hbl,hreps⟩:=hrow (by intro h0;rw[h0]at hlt;simp at hlt);obtain⟨um,ul,ut,up,uk,hel,hry⟩:=hreps.at j hlt;obtain⟨y,hy⟩:∃y,c.l[j]=y:=⟨_,rfl⟩
   rw[hy]at hel hry;obtain⟨e0,e1,e2,e3,e4,e5,e6,e7,e8,e9,e10⟩:=hel;obtain⟨g1,i1,r1,g2,i2,r2,g3,i3,r3,g4,i4,r4,g5,i5,r5,rfl,rfl,rfl,rfl,rfl⟩:=hry.forms5;have hW10:wr.alloc (.cells #[.int .i64 y.k,.int .i64 y.n,.string y.s,.int .i64 y.d.k,.int .i64 y.d.n,.string y.d.s,.slice g1 i1 r1,.slice g2 i2 r2,.slice g3 i3 r3,.slice g4 i4 r4,.slice g5 i5 r5] 28)=wr.alloc (.cells #[.int .i64 y.k,.int .i64 y.n,.string y.s,.int .i64 y.d.k,.int .i64 y.d.n,.string y.d.s,.slice g1 i1 r1,.slice g2 i2 r2,.slice g3 i3 r3,.slice g4 i4 r4,.slice g5 i5 r5] 28):=rfl;obtain⟨hb10,hs10⟩:=new_below hW10;have hmem:y∈c.l:=by rw[←hy];exact List.getElem_mem hlt
   have hwy:Co.Wf y:=by rw[←hy];exact HWL.out.at j hlt
   have hcall:=HCH.out y hmem (fun k=>G k∧k<w.heap.size) _ _ _ _ _ _ hwy (HSL.out.at y hmem) (hry.below hb10);unfold Co.V at hcall;have HB10:=hd hb10;have HY:=hd hy;clear hrow hreps hry hy hW10 hb10 hwy hmem hGb hbl;go_wp2_with fail
   refine hcall.mono ?_;rintro e wS ⟨xm,xl,xt,rfl,hr6,hb6⟩;obtain⟨h1,k1,s1,h2,k2,s2,h3,k3,s3,rfl,rfl,rfl⟩:=hr6.forms;have HBS:Hid (Below wr.heap.size wr wS):=btr HB10.out hb6;have HR6:=hd hr6;obtain⟨X,hX⟩:∃X,Co.tellD y=X:=⟨_,rfl⟩
   rw[hX]at HR6 ⊢;have HXX:=hd hX;clear hcall hr6 hb6 hs10 e0 e1 e2 e3 e4 e5 e6 e7 e8 e9 e10 hX;have hWA:wS.alloc (.cells #[.int .i64 X.k,.int .i64 X.n,.string X.s,.slice h1 k1 s1,.slice h2 k2 s2,.slice h3 k3 s3] 25)=wS.alloc (.cells #[.int .i64 X.k,.int .i64 X.n,.string X.s,.slice h1 k1 s1,.slice h2 k2 s2,.slice h3 k3 s3] 25):=rfl;obtain⟨hbA,hsA⟩:=new_below hWA;have HS:Hid (Ap.Src (wS.alloc (.cells #[.int .i64 X.k,.int .i64 X.n,.string X.s,.slice h1 k1 s1,.slice h2 k2 s2,.slice h3 k3 s3] 25)) (.slice (some ⟨wS.heap.size,0,none⟩) 1 1) 1 [.int .i64 X.k,.int .i64 X.n,.string X.s,.slice h1 k1 s1,.slice h2 k2 s2,.slice h3 k3 s3]):=Rd.srcNew hWA;have HRO:Hid ((wS.alloc (.cells #[.int .i64 X.k,.int .i64 X.n,.string X.s,.slice h1 k1 s1,.slice h2 k2 s2,.slice h3 k3 s3] 25)).ownsRow (R0+1) 25 6 (.slice al m ql) m (Dt.flatP ps)):=by
    have:=((HL.out.2.2.row.below HBS.out).below hbA).row;rw[←HL.out.1]at this;exact this
   have HBA:=hd hbA;have HSZ:Hid ((R0+1)≤(wS.alloc (.cells #[.int .i64 X.k,.int .i64 X.n,.string X.s,.slice h1 k1 s1,.slice h2 k2 s2,.slice h3 k3 s3] 25)).heap.size):=by
    have h1:=hbA.size;have h2:(R0+1)≤wS.heap.size:=(Nat.le_trans HL.out.2.2.bs HBS.out.size)
    show(R0+1)≤_;omega
   clear hWA hbA hsA;have hm1:m+1≤maxLen:=by unfold maxLen;omega
   have hm2:(m+1)*104≤140737488355328:=by omega
   go_wp2_with(at_builtin;refine Ap.list rfl _ _ 23 rfl (R0+1) 25 i0 _ 6 104 Tryz.underlying23 HI.out HZ0.out HZ1.out HZ2.out rfl (by decide) (.slice al m ql) m (Dt.flatP ps) rfl HRO.out (.slice (some ⟨wS.heap.size,0,none⟩) 1 1) 1 [.int .i64 X.k,.int .i64 X.n,.string X.s,.slice h1 k1 s1,.slice h2 k2 s2,.slice h3 k3 s3] rfl HS.out rfl (by intro u hu;simp only[List.mem_cons,List.not_mem_nil,or_false]at hu;rcases hu with rfl|rfl|rfl|rfl|rfl|rfl <;> rfl) hm1 hm2 HSZ.out ?_;intro v' wZ hown hg hat;obtain⟨al',ql',rfl⟩:=Dt.row_form hown;have HOWN:=hd hown;have HGR:=hd hg;have HAT:=hd hat;clear hown hg hat)
   have HN:Hid (m+1=(ps++[(⟨X,.slice h1 k1 s1,.slice h2 k2 s2,.slice h3 k3 s3⟩:Dt.P)]).length∧(ps++[(⟨X,.slice h1 k1 s1,.slice h2 k2 s2,.slice h3 k3 s3⟩:Dt.P)]).map Dt.P.d=Co.symD (Co.wordD c) :: Co.bodyD c++(c.l.take (j+1)).map Co.tellD∧Co.TS c w G #[.int .i64 c.k,.int .i64 c.n,.string c.s,.int .i64 c.d.k,.int .i64 c.d.n,.string c.d.s,.slice b1 n1 q1,.slice b2 n2 q2,.slice b3 n3 q3,.slice b4 n4 q4,.slice (some ⟨b,o',none⟩) c.l.length q5] R0 (.slice al' (m+1) ql') (ps++[(⟨X,.slice h1 k1 s1,.slice h2 k2 s2,.slice h3 k3 s3⟩:Dt.P)]) wZ):=by
    have hle:=HL.out.1;refine⟨by rw[List.length_append,←hle];rfl,?_,HL.out.2.2.push HR0.out.1 HBS.out (p:=⟨X,.slice h1 k1 s1,.slice h2 k2 s2,.slice h3 k3 s3⟩) (Dt.Rep.mono (fun b hb _=>by have:=HB10.out.size;rcases hb with hb|hb;exact .inl hb;exact .inr (by omega)) X HR6.out) HBA.out (by rw[←hle];exact HOWN.out) HGR.out HAT.out⟩;rw[List.map_append,HL.out.2.1,List.take_succ_eq_append_getElem hlt,HY.out,List.map_append,←List.append_assoc];show _++[X]=_++[Co.tellD y];rw[HXX.out]
   go_wp2;go_roundw
   case rel=>exact⟨j+1,m+1,_,al',ql',rfl,by simp,by omega,by omega,HN⟩
   case measure=>simp[intOf];omega
mutual
theorem coTell_any:∀c:Co.C,Co.TellIs c
 | .mk k n s d p l=>coTell_step (.mk k n s d p l) (coTells_any l)
theorem coTells_any:∀(l:List Co.C),∀y∈l,Co.TellIs y
 |[],_,h=>absurd h (by simp)
 |c :: r,y,h=>(List.mem_cons.1 h).elim (fun e=>by rw[e];exact coTell_any c) (fun h'=>coTells_any r y h')
end
namespace Co
open Dt (D)
def zD:D:= .mk 0 0 ⟨#[]⟩ [] [] []
def zC:C:= .mk 0 0 ⟨#[]⟩ zD [] []
def asTop:List D→List C→C
 |h :: x :: _,L=>
  if(kd h.s).1=1 then .mk 1 (kd h.s).2 ⟨#[]⟩ x [] (L.drop 2)
  else if(kd h.s).1=2∨(kd h.s).1=4 then .mk (kd h.s).1 x.n ⟨#[]⟩ zD [] (L.drop 2)
  else if(kd h.s).1=3∨(kd h.s).1=5∨(kd h.s).1=6 then .mk (kd h.s).1 (kd h.s).2 x.s zD [] (L.drop 2)
  else if(kd h.s).1=8 then .mk 8 (kd h.s).2 ⟨#[]⟩ zD (x.l.map D.n) (L.drop 2)
  else .mk (kd h.s).1 (kd h.s).2 ⟨#[]⟩ zD [] (L.drop 1)
 |_,_=>zC
mutual
def asC:D→C
 | .mk _ _ _ _ l _=>asTop l (asCs l)
def asCs:List D→List C
 |[]=>[]
 |d :: r=>asC d :: asCs r
end
theorem asCs_map:∀l:List D,asCs l=l.map asC
 |[]=>by rw[asCs];rfl
 |d :: r=>by rw[asCs,asCs_map r];rfl
theorem asC_eq(d:D):asC d=asTop d.l (d.l.map asC):=by
 obtain⟨k,n,s,m,l,t⟩:=d;rw[asC,asCs_map]
 rfl
def goodTop(d:D):Bool:=decide (d.k=6)&&(match d.l with
 | h :: x :: r => decide (h.k = 5) && h.m.isEmpty && (
   if(kd h.s).1=1 then r.isEmpty
   else if(kd h.s).1=2∨(kd h.s).1=4 then decide (x.k=1)&&(decide ((kd h.s).1=4)||r.isEmpty)
   else if(kd h.s).1=3∨(kd h.s).1=5∨(kd h.s).1=6 then decide (x.k=5)&&x.m.isEmpty&&(!decide ((kd h.s).1=3)||r.isEmpty)
   else if(kd h.s).1=8 then decide (x.k=6)&&x.l.all fun y=>decide (y.k=1)&&var y.n
   else decide ((kd h.s).1=7∨(kd h.s).1=9∨(kd h.s).1=10))
 |_=>false)
def inner2(d:D):List D:=match d.l with
 |h :: x :: r=>if(kd h.s).1=7∨(kd h.s).1=9∨(kd h.s).1=10 then x :: r else r
 |_=>[]
structure AS(d:D)(w:World)(F:Nat→Prop)(R0 C0 b:Nat)(rv:Value)(RL:List D)(T:C)(wx:World):Prop where
 hc:∃vm vl vt vp,Hp wx C0 #[.int .i64 T.k,.int .i64 T.n,.string T.s,.int .i64 T.d.k,.int .i64 T.d.n,.string T.d.s,vm,vl,vt,vp,.slice none 0 0] 28∧Dt.Rep (fun k=>F k∧k<w.heap.size) wx T.d vm vl vt∧Dt.IRow (fun k=>C0<k) wx vp T.p
 rw_:∃ro rc,rv= .slice (some ⟨b,ro,none⟩) RL.length rc∧Dt.Reps (fun k=>F k∧k<w.heap.size) wx RL b ro
 tl:T.l=RL.map asC
 k3:(T.k=1∨T.k=2∨T.k=3)→RL.length=0
 hr:Hp wx R0 #[.int .i64 0,.int .i64 0,.string ⟨#[]⟩,.int .i64 0,.int .i64 0,.string ⟨#[]⟩,.slice none 0 0,.slice none 0 0,.slice none 0 0,.slice none 0 0,.slice none 0 0] 28
 kb:Below w.heap.size w wx
 ch:∀y∈RL,y∈inner2 d
 fi:Dt.Fines RL
 le:RL.length≤4096
theorem reps_drop{F:Nat→Prop}{w:World}{l:List D}{b o:Nat}(h:Dt.Reps F w l b o)(j:Nat)(hj:j≤l.length):Dt.Reps F w (l.drop j) b (o+j*6):=by
 refine Dt.Reps.of fun i hi=> ?_
 have hi':j+i<l.length:=by rw[List.length_drop]at hi;omega
 obtain⟨vm,vl,vt,h1,h2⟩:=h.at (j+i) hi';refine⟨vm,vl,vt,?_,?_⟩
 ·rw[show o+j*6+i*6=o+(j+i)*6 by omega];simpa using h1
 ·simpa using h2
structure CRow(G:Nat→Prop)(w:World)(base:Nat)(v:Value)(ls:List PC):Prop where
 row:w.ownsRow base 28 11 v ls.length (flatC ls)
 rep:∀p∈ls,p.rep (fun k=>(G k∨base≤k)∧v.ownBlock≠some k) w
theorem CRow.nil(G:Nat→Prop)(w:World)(base:Nat):CRow G w base (.slice none 0 0) []:=⟨World.ownsRow_nil _ _ _ _,fun p hp=>nomatch hp⟩
theorem CRow.keep{G S:Nat→Prop}{w w':World}{base:Nat}{v:Value}{ls:List PC}(h:CRow G w base v ls)(hk:Keep S w w')(hS:∀k,(G k∨base≤k)→k<w.heap.size→¬S k):CRow G w' base v ls:=
 ⟨Dt.own_keep h.row hk (fun k hk=>hS k (.inr (Dt.own_lt h.row k hk).1) (Dt.own_lt h.row k hk).2),fun p hp=>Rep.keep hk (fun b hb hb'=>hS b hb.1 hb') p.c (h.rep p hp)⟩
theorem CRow.push{G:Nat→Prop}{w w1 wA w5:World}{base:Nat}{v v':Value}{ls:List PC}{p:PC}(h:CRow G w base v ls)(hbase:base≤w.heap.size)(hG:∀k,G k→k<base)(h1:Below w.heap.size w w1)(hp:p.rep (fun k=>G k∨w.heap.size≤k) w1)(hA:Below w1.heap.size w1 wA)
  (hown:w5.ownsRow base 28 11 v' (ls.length+1) (flatC ls++p.cells)) (hg:wA.grownBy w5 v.ownBlock) (hat:v'.ownBlock=v.ownBlock∨v'.ownBlock=some wA.heap.size):
  CRow G w5 base v' (ls++[p])∧Keep (fun k=>v.ownBlock=some k) w w5:=by
 have hwA:Below w.heap.size w wA:=btr h1 hA;have hK:Keep (fun k=>v.ownBlock=some k) w w5:=grown_keep2 hwA hg;have hK1:Keep (fun k=>v.ownBlock=some k) w1 w5:=grown_keep2 hA hg;have hvl:∀k,v.ownBlock=some k→base≤k∧k<w.heap.size:=Dt.own_lt h.row;refine⟨⟨by rw[List.length_append,flatC_app];exact hown,fun q hq=> ?_⟩,hK⟩;rcases List.mem_append.1 hq with hq|hq
 ·have hr0:q.rep (fun k=>k<w.heap.size∧(G k∨base≤k)∧v.ownBlock≠some k) w:=Rep.mono (fun b hb hl=>⟨hl,hb⟩) q.c (h.rep q hq);refine Rep.mono (fun b hb _=>⟨hb.2.1,fun e=> ?_⟩) q.c (Rep.keep hK (fun b hb _ e=>hb.2.2 e) q.c hr0);rcases hat with e'|e'
  ·rw[e']at e;exact hb.2.2 e
  ·rw[e']at e;cases e;have:=hwA.size;omega
 ·obtain rfl:q=p:=by simpa using hq
  have hr0:q.rep (fun k=>k<w1.heap.size∧(G k∨w.heap.size≤k)) w1:=Rep.mono (fun b hb hl=>⟨hl,hb⟩) q.c hp;have hno:∀b,(G b∨w.heap.size≤b)→v.ownBlock≠some b:=fun b hb e=>by
   have:=hvl b e;rcases hb with hb|hb
   ·have:=hG b hb;omega
   ·omega
  refine Rep.mono (fun b hb _=>⟨hb.2.imp id (fun h=>by omega),fun e=> ?_⟩) q.c (Rep.keep hK1 (fun b hb _ e=>hno b hb.2 e) q.c hr0);rcases hat with e'|e'
  ·rw[e']at e;exact hno b hb.2 e
  ·rw[e']at e;cases e;have:=hA.size;omega
theorem CRow.to_row{G:Nat→Prop}{w:World}{base:Nat}{v:Value}{ls:List PC}(h:CRow G w base v ls):Row (fun k=>G k∨base≤k) w v (ls.map PC.c):=by
 have hreps:∀g,v.ownBlock=some g→Reps (fun k=>G k∨base≤k) w (ls.map PC.c) g 0:=by
  intro g hg;refine Reps.of fun j hj=> ?_
  have hj':j<ls.length:=by simpa using hj
  obtain⟨g',c,rfl,_,hs⟩:=part_at h.row j hj';cases hg;refine⟨ls[j].vm,ls[j].vl,ls[j].vt,ls[j].vp,ls[j].vk,by rw[Nat.zero_add];simpa using hs,?_⟩;have:=Rep.mono (fun b hb _=>hb.1) _ (h.rep ls[j] (List.getElem_mem hj'));simpa using this
 rcases h.row.2 with⟨h1,h0⟩|⟨g,cap,cur,rfl,e2,e3,e4,_⟩
 ·have:ls=[]:=List.length_eq_zero_iff.1 h0;subst this;exact⟨none,0,by rw[h1];rfl,Nat.le_refl _,fun hn=>absurd rfl hn⟩
 ·refine⟨some ⟨g,0,none⟩,cap,by simp,by simpa using e4,fun _=>⟨g,0,rfl,.inr e2,(Array.getElem?_eq_some_iff.1 e3).1,hreps g rfl⟩⟩
structure LI(w:World)(F:Nat→Prop)(R0 C0 Bs b ro:Nat)(RL:List D)(T:C)(vm vl vt vp:Value)(i:Nat)(al:Option Addr)(ql:Nat)(wx:World):Prop where
 hc:Hp wx C0 #[.int .i64 T.k,.int .i64 T.n,.string T.s,.int .i64 T.d.k,.int .i64 T.d.n,.string T.d.s,vm,vl,vt,vp,.slice al i ql] 28
 rd:Dt.Rep (fun k=>F k∧k<w.heap.size) wx T.d vm vl vt
 rp:Dt.IRow (fun k=>C0<k∧k<Bs) wx vp T.p
 row:∃ps,i=ps.length∧CRow (fun k=>F k∧k<w.heap.size) wx Bs (.slice al i ql) ps∧ps.map PC.c=(RL.take i).map asC
 rl:Dt.Reps (fun k=>F k∧k<w.heap.size) wx RL b ro
 hr:Hp wx R0 #[.int .i64 0,.int .i64 0,.string ⟨#[]⟩,.int .i64 0,.int .i64 0,.string ⟨#[]⟩,.slice none 0 0,.slice none 0 0,.slice none 0 0,.slice none 0 0,.slice none 0 0] 28
 kb:Below w.heap.size w wx
 bs:Bs≤wx.heap.size
theorem six_keep{S:Nat→Prop}{w w':World}{b o:Nat}{y:D}{vm vl vt:Value}(h:Dt.Six w b o y vm vl vt)(hl:b<w.heap.size)(hk:Keep S w w')(hn:¬S b):Dt.Six w' b o y vm vl vt:=
 ⟨(hk.cell _ hl hn).trans h.c0,(hk.cell _ hl hn).trans h.c1,(hk.cell _ hl hn).trans h.c2,(hk.cell _ hl hn).trans h.c3,(hk.cell _ hl hn).trans h.c4,(hk.cell _ hl hn).trans h.c5⟩
theorem fines_mem:∀ {l:List D},Dt.Fines l→∀y∈l,Dt.Fine y
 |[],_,y,h=>absurd h (by simp)
 |d :: r,hw,y,h=>by
  rw[Dt.Fines]at hw;rcases List.mem_cons.1 h with rfl|h
  ·exact hw.1
  ·exact fines_mem hw.2 y h
def AsIs(d:D):Prop:=∀(F:Nat→Prop) (vm vl vt:Value) (w:World),Dt.Fine d→Dt.Rep F w d vm vl vt→
 Calls Tryz.prog 87 #[.agg #[.int .i64 d.k,.int .i64 d.n,.string d.s,vm,vl,vt]] w fun e w'=>∃um ul ut up uk,e= .returned (V (asC d) um ul ut up uk)∧Rep (fun k=>F k∨w.heap.size≤k) w' (asC d) um ul ut up uk∧Below w.heap.size w w'
end Co
theorem coRAs_step(d:Dt.D)(hg:Co.goodTop d=true)(hch:∀y∈Co.inner2 d,Co.AsIs y):Co.AsIs d:=by
 intro F vm vl vt w hFi hR;have hR:=Dt.Rep.mono (G:=fun k=>F k∧k<w.heap.size) (fun b hb hl=>⟨hb,hl⟩) d hR;obtain⟨hrm,hrl,hrt⟩:=(Dt.rep_iff _ _ _ _ _ _).1 hR;obtain⟨a1,n1,q1,a2,n2,q2,a3,n3,q3,rfl,rfl,rfl⟩:=hR.forms;obtain⟨_,_,he,hcap,hrow⟩:=hrl;injection he with he1 he2 he3
 subst he1 he2;subst he3;unfold Co.goodTop at hg;rw[Bool.and_eq_true]at hg;obtain⟨hk6,hg⟩:=hg;have hk6:d.k=6:=of_decide_eq_true hk6;obtain⟨h0,x,r,hl⟩:∃h0 x r,d.l=h0 :: x :: r:=by
  cases h1:d.l with
  |nil=>rw[h1]at hg;cases hg
  |cons h0 t=>cases t with
   |nil=>rw[h1]at hg;cases hg
   |cons x r=>exact⟨h0,x,r,rfl⟩
 rw[hl]at hg;dsimp only at hg;rw[Bool.and_eq_true,Bool.and_eq_true]at hg;obtain⟨⟨hh5,hhm⟩,hg⟩:=hg;have hh5:h0.k=5:=of_decide_eq_true hh5;have hhm:h0.m=[]:=List.isEmpty_iff.1 hhm;obtain⟨b,o,rfl,hFb,hbl,hreps⟩:=hrow (by rw[hl];simp);have hlen:d.l.length=r.length+2:=by rw[hl];rfl
 have hfl:=(Dt.fine_parts hFi).2.1;have hl0:d.l[0]?=some h0:=by rw[hl];rfl
 obtain⟨um,ul,ut,hs0,hr0⟩:=hreps.at 0 (by omega);obtain⟨xm,xl,xt,hs1,hrx⟩:=hreps.at 1 (by omega);have e0:d.l[0]'(by omega)=h0:=by simp[hl]
 have e1:d.l[1]'(by omega)=x:=by simp[hl]
 rw[e0]at hs0 hr0;rw[e1]at hs1 hrx;obtain⟨⟨ma,mc,hum,-,-⟩,-,-⟩:=(Dt.rep_iff _ _ _ _ _ _).1 hr0;rw[hhm]at hum;subst hum;obtain⟨x1,y1,z1,x2,y2,z2,x3,y3,z3,rfl,rfl,rfl⟩:=hrx.forms;have hy12:y1=x.m.length∧y2=x.l.length:=by
  obtain⟨⟨_,_,he1,-⟩,⟨_,_,he2,-⟩,-⟩:=(Dt.rep_iff _ _ _ _ _ _).1 hrx;injection he1 with _ h1 _
  injection he2 with _ h2 _
  exact⟨h1,h2⟩
 have HY:=hd hy12;have HFB:=hd hFb;clear hy12;obtain⟨w1,hw1⟩:∃w1,w.alloc (.cells #[.int .i64 d.k,.int .i64 d.n,.string d.s,.slice a1 n1 q1,.slice (some ⟨b,o,none⟩) d.l.length q2,.slice a3 n3 q3] 25)=w1:=⟨_,rfl⟩
 obtain⟨w2,hw2⟩:∃w2,w1.alloc (.cells #[.int .i64 0,.int .i64 0,.string ⟨#[]⟩,.int .i64 0,.int .i64 0,.string ⟨#[]⟩,.slice none 0 0,.slice none 0 0,.slice none 0 0,.slice none 0 0,.slice none 0 0] 28)=w2:=⟨_,rfl⟩
 obtain⟨w3,hw3⟩:∃w3,w2.alloc (.cells #[.int .i64 0,.int .i64 0,.string ⟨#[]⟩,.int .i64 0,.int .i64 0,.string ⟨#[]⟩,.slice none 0 0,.slice none 0 0,.slice none 0 0,.slice none 0 0,.slice none 0 0] 28)=w3:=⟨_,rfl⟩
 obtain⟨hb1,hs1'⟩:=new_below hw1;obtain⟨hb2,hs2'⟩:=new_below hw2;obtain⟨hb3,hs3'⟩:=new_below hw3;have hb12:Below w.heap.size w w2:=btr hb1 hb2;have hb13:Below w.heap.size w w3:=btr hb12 hb3;obtain⟨R0,hR0⟩:∃R0,w1.heap.size=R0:=⟨_,rfl⟩
 obtain⟨C0,hC0⟩:∃C0,w2.heap.size=C0:=⟨_,rfl⟩
 have Hd:Hid (Hp w3 w.heap.size #[.int .i64 d.k,.int .i64 d.n,.string d.s,.slice a1 n1 q1,.slice (some ⟨b,o,none⟩) d.l.length q2,.slice a3 n3 q3] 25):=((Hp.new hw1).below hb2).below hb3;have Hr:Hid (Hp w3 R0 #[.int .i64 0,.int .i64 0,.string ⟨#[]⟩,.int .i64 0,.int .i64 0,.string ⟨#[]⟩,.slice none 0 0,.slice none 0 0,.slice none 0 0,.slice none 0 0,.slice none 0 0] 28):=by rw[←hR0];exact(Hp.new hw2).below hb3
 have Hc:Hid (Hp w3 C0 #[.int .i64 0,.int .i64 0,.string ⟨#[]⟩,.int .i64 0,.int .i64 0,.string ⟨#[]⟩,.slice none 0 0,.slice none 0 0,.slice none 0 0,.slice none 0 0,.slice none 0 0] 28):=by rw[←hC0];exact Hp.new hw3
 have HN:Hid (R0=w.heap.size+1∧C0=w.heap.size+2∧w3.heap.size=w.heap.size+3):=⟨by omega,by omega,by omega⟩
 have HB3:=hd hb13;have HRE:=hd hreps;have HRX:=hd hrx;have HLL:=hd hl;have HG:=hd hg;have HCH:=hd hch;have HFI:=hd hFi;have HBL:=hd hbl;have HK6:=hd hk6;have HL2:=hd hlen;have hd0:=Hd.out.cell 0 rfl;have hd4:=Hd.out.cell 4 rfl;obtain⟨u0,u1,u2,u3,u4,u5⟩:=hs0;simp only[Nat.zero_mul,Nat.add_zero]at u0 u1 u2 u3 u4 u5;simp only[List.length_nil]at u3;obtain⟨v0,v1,v2,v3,v4,v5⟩:=hs1;have HS1:Hid (Dt.Six w b (o+1*6) x (.slice x1 y1 z1) (.slice x2 y2 z2) (.slice x3 y3 z3)):=⟨v0,v1,v2,v3,v4,v5⟩
 simp only[Nat.one_mul]at v0 v1 v2 v3 v4 v5;have hcell:∀(W:World) (j:Nat) (v:Value),Below w.heap.size w W→w.cell? ⟨b,j,none⟩=some v→W.cell? ⟨b,j,none⟩=some v:=fun W j v hb hv=>(hb.cell (p:=⟨b,j,none⟩) hbl).trans hv
 have HCELL:=hd hcell;have hd2:Hp w2 w.heap.size _ _:=(Hp.new hw1).below hb2;have p0:=hd2.cell 0 rfl;have p4:=hd2.cell 4 rfl;have s0:=hcell w2 _ _ hb12 u0;have s3:=hcell w2 _ _ hb12 u3;have t1:(d.k !=6)=false:=by rw[hk6];rfl
 have t2:decide ((d.l.length:Int)<2)=false:=decide_eq_false (by omega);have t3:(h0.k !=5)=false:=by rw[hh5];rfl
 have hlt0:(0:Int)<(d.l.length:Int):=by omega
 have hlt1:(1:Int)<(d.l.length:Int):=by omega
 have hle2:(2:Int)≤(d.l.length:Int):=by omega
 have hki:=kind07_any h0.s w3;obtain⟨⟨kk,kn⟩,hkk⟩:∃q,Co.kd h0.s=q:=⟨_,rfl⟩
 rw[hkk]at hki;have HKK:=hd hkk;have q0:=Hc.out.cell 0 rfl;have q1':=Hc.out.cell 1 rfl;have HU:Hid (w.cell? ⟨b,o+2,none⟩=some (.string h0.s)):=u2;have s2:=hcell w3 _ _ hb13 u2;clear hb1 hb2 hb3 hs1' hs2' hs3' hb12 hb13 hd2 hreps hrx hl hg hch hFi hbl hlen hl0 e0 e1 hr0 hrow hR hrm hrt hk6 hh5 hhm hkk hcell;go_enter Tryz.func87,Tryz.ntmps87;go_upto_block 0 with((go_at_call 110;refine hki.mono ?_;rintro e wk ⟨rfl,hbk⟩;have HBK:=hd hbk;have HCk:=hd (Hc.out.below hbk);have HDk:=hd (Hd.out.below hbk);clear hki p0 p4 q0 q1' s0 s2 s3 hbk;have k0:=HCk.out.cell 0 rfl;have k1:=HCk.out.cell 1 rfl;have kf0:=HCk.out.frz 0;have kf1:=HCk.out.frz 1;obtain⟨w4,hw4⟩:∃w4,(wk.setCell ⟨C0,0,none⟩ (.int .i64 kk)).setCell ⟨C0,1,none⟩ (.int .i64 kn)=w4:=⟨_,rfl⟩;have hk4:Keep (fun j=>j=C0) wk w4:=(hw4▸((set_keep wk C0 0 (.int .i64 kk)).trans (set_keep _ C0 1 (.int .i64 kn))));have HC4:Hid (Hp w4 C0 #[.int .i64 kk,.int .i64 kn,.string ⟨#[]⟩,.int .i64 0,.int .i64 0,.string ⟨#[]⟩,.slice none 0 0,.slice none 0 0,.slice none 0 0,.slice none 0 0,.slice none 0 0] 28):=(hw4▸(HCk.out.set 0 _).set 1 _);have HB4:Hid (Below w.heap.size w w4):=hd (((btr HB3.out HBK.out)).trans (hk4.to_below (fun j e=>(by have:=HN.out;omega)) (by have h1:=HB3.out.size;have h2:=HBK.out.size;omega)));have HD4:Hid (Hp w4 w.heap.size _ _):=hd (HDk.out.keep hk4 (fun e=>(by have:=HN.out;omega)));have m4:=HD4.out.cell 4 rfl;have z0':=HCELL.out w4 _ _ HB4.out v0;have z1':=HCELL.out w4 _ _ HB4.out v1;have z2':=HCELL.out w4 _ _ HB4.out v2;have z3':=HCELL.out w4 _ _ HB4.out v3;have z4':=HCELL.out w4 _ _ HB4.out v4;have z5':=HCELL.out w4 _ _ HB4.out v5;have HK4:=hd hk4;obtain⟨w5,hw5⟩:∃w5,w4.alloc (.cells #[.int .i64 x.k,.int .i64 x.n,.string x.s,.slice x1 y1 z1,.slice x2 y2 z2,.slice x3 y3 z3] 25)=w5:=⟨_,rfl⟩;obtain⟨hb5,hs5⟩:=new_below hw5;have HB45:=hd hb5;have HX5:=hd (Hp.new hw5);have HC5:=hd (HC4.out.below hb5);have HD5:Hid (Hp w5 w.heap.size _ _):=hd (HD4.out.below hb5);have HB5:Hid (Below w.heap.size w w5):=hd ((btr HB4.out hb5));have HS5:=hd hs5;have m5:=HD5.out.cell 4 rfl;have cc0:=HC5.out.cell 0 rfl;clear hk4 hb5 hs5))
 clear m4 m5 z0' z1' z2' z3' z4' z5' hd0 hd4 hw1 hw2 hw3 hw4 hw5 u0 u1 u2 u3 u4 u5 v0 v1 v2 v3 v4 v5 t1 t2 t3 k0 k1 kf0 kf1;have hlr:=HL2.out;have hG:=HG.out;rw[HKK.out]at hG;dsimp only at hG;have HTE:Hid (Co.asC d=Co.asTop (h0 :: x :: r) ((h0 :: x :: r).map Co.asC)):=by show _=_;rw[Co.asC_eq,HLL.out]
 have HIN:Hid (¬ (kk=7∨kk=9∨kk=10)→Co.inner2 d=r):=fun h=>by
  unfold Co.inner2;rw[HLL.out];dsimp only;rw[HKK.out,if_neg h]
 have HREP2:Hid (∀W,Below w.heap.size w W→Dt.Reps (fun k=>F k∧k<w.heap.size) W r b (o+2*6)):=fun W hb=>by
  have h:=Dt.Reps.keep (keep_of_below (S:=fun _=>False) hb) (fun _ _ _ h=>h) d.l HFB.out HBL.out HRE.out;have h2:=Co.reps_drop h 2 (by omega);rw[HLL.out]at h2;exact h2
 obtain⟨ro,hro,hror⟩:∃ro,(if q2=2 then some (⟨b,o,none⟩:Addr)else some ⟨b,o+12,none⟩)=some ⟨b,ro,none⟩∧∀W,Below w.heap.size w W→Dt.Reps (fun k=>F k∧k<w.heap.size) W r b ro:=by
  by_cases hq:q2=2
  ·refine⟨o,if_pos hq,fun W _=> ?_⟩;have:r=[]:=List.length_eq_zero_iff.1 (by omega);rw[this,Dt.Reps]
   trivial
  ·exact⟨o+12,if_neg hq,HREP2.out⟩
 have HRO:Hid (True∧∀W,Below w.heap.size w W→Dt.Reps (fun k=>F k∧k<w.heap.size) W r b ro):=⟨trivial,hror⟩
 have HFR:Hid (Dt.Fines r):=by
  have h:=(Dt.fine_parts HFI.out).2.2.2.1;rw[HLL.out,Dt.Fines,Dt.Fines]at h;exact h.2.2
 have HFR2:Hid (Dt.Fines (x :: r)):=by
  have h:=(Dt.fine_parts HFI.out).2.2.2.1;rw[HLL.out,Dt.Fines]at h;exact h.2
 have HR5:Hid (Hp w5 R0 #[.int .i64 0,.int .i64 0,.string ⟨#[]⟩,.int .i64 0,.int .i64 0,.string ⟨#[]⟩,.slice none 0 0,.slice none 0 0,.slice none 0 0,.slice none 0 0,.slice none 0 0] 28):=by
  have h1:=HN.out;exact((Hr.out.below HBK.out).keep HK4.out (fun e=>by omega)).below (by
   exact HB45.out)
 rw[hro,show d.l.length - 2=r.length by omega];have hle4:r.length+2≤4096:=by omega
 clear hro hror hlr
 go_cut [5] (fun v wx=>∃(RL:List Dt.D),Co.AS d w F R0 C0 b v RL (Co.asC d) wx)
 case first=>
  have HX:=HX5;obtain⟨zz0,zz1,zz2,zz3,zz4,zz5⟩:=HX.out.c6;have HCC:=HC5;clear cc0;obtain⟨cc0,cc1,cc2,cc3,cc4,cc5,cc6,cc7,cc8,cc9,cc10⟩:=HCC.out.c11;have ccf0:=HCC.out.frz 0;have ccf1:=HCC.out.frz 1;have ccf2:=HCC.out.frz 2;have ccf3:=HCC.out.frz 3;have ccf4:=HCC.out.frz 4;have ccf5:=HCC.out.frz 5;have ccf6:=HCC.out.frz 6;have ccf7:=HCC.out.frz 7;have ccf8:=HCC.out.frz 8;have ccf9:=HCC.out.frz 9;have ccf10:=HCC.out.frz 10;have HW5:Hid (w.heap.size+2<w5.heap.size):=by have h1:=HC5.out.lt;have h2:=HN.out;show _<_;omega
  by_cases g1:kk=1
  ·subst g1;rw[if_pos rfl]at hG;have hr0:r=[]:=List.isEmpty_iff.1 hG;have hk6':=Co.set6o_keep w5 C0 (.int .i64 x.k) (.int .i64 x.n) (.string x.s) (.slice x1 y1 z1) (.slice x2 y2 z2) (.slice x3 y3 z3);have hb6:Below w.heap.size w (Co.set6o w5 C0 (.int .i64 x.k) (.int .i64 x.n) (.string x.s) (.slice x1 y1 z1) (.slice x2 y2 z2) (.slice x3 y3 z3)):=HB5.out.trans (hk6'.to_below (fun j e=>by have:=HN.out;omega) HB5.out.size);have HT:Hid (Co.asC d= .mk 1 kn ⟨#[]⟩ x [] (r.map Co.asC)):=by
    show _=_;rw[HTE.out];unfold Co.asTop;dsimp only;rw[HKK.out];dsimp only;rw[if_pos rfl]
    rfl
   have HE:Hid ((fun v wx=>∃(RL:List Dt.D),Co.AS d w F R0 C0 b v RL (Co.asC d) wx) (.slice (some ⟨b,ro,none⟩) r.length (q2 - 2)) (Co.set6o w5 C0 (.int .i64 x.k) (.int .i64 x.n) (.string x.s) (.slice x1 y1 z1) (.slice x2 y2 z2) (.slice x3 y3 z3))):=by
    refine⟨r,?_⟩;rw[HT.out];exact⟨⟨_,_,_,_,(((((HC5.out.set 3 _).set 4 _).set 5 _).set 6 _).set 7 _).set 8 _,HRX.out.below hb6,⟨none,0,rfl,Nat.le_refl _,fun h=>absurd rfl h⟩⟩,⟨ro,q2 - 2,rfl,HRO.out.2 _ hb6⟩,rfl,fun _=>by rw[hr0];rfl,HR5.out.keep hk6' (fun e=>by have:=HN.out;omega),hb6,fun y hy=>by rw[HIN.out (by omega)]at*;exact hy,HFR.out,by omega⟩
   clear hG hr0 hk6' hb6 HT;go_wp2;go_meet;exact HE.out
  rw[if_neg g1]at hG;have t1:(kk==1)=false:=by simpa using g1
  by_cases g2:kk=2∨kk=4
  ·rw[if_pos g2,Bool.and_eq_true]at hG;have hx1:x.k=1:=of_decide_eq_true hG.1;have tx:(x.k !=1)=false:=by rw[hx1];rfl
   have hk6':=set_keep w5 C0 1 (.int .i64 x.n);have hb6:Below w.heap.size w (w5.setCell ⟨C0,1,none⟩ (.int .i64 x.n)):=HB5.out.trans (hk6'.to_below (fun j e=>by have:=HN.out;omega) HB5.out.size);have hk3:kk=2→r.length=0:=fun e=>by
    have h:=hG.2;rw[Bool.or_eq_true]at h;rcases h with h|h
    ·have:=of_decide_eq_true h;omega
    ·rw[List.isEmpty_iff.1 h];rfl
   have HT:Hid (Co.asC d= .mk kk x.n ⟨#[]⟩ Co.zD [] (r.map Co.asC)):=by
    show _=_;rw[HTE.out];unfold Co.asTop;dsimp only;rw[HKK.out];dsimp only;rw[if_neg g1,if_pos g2]
    rfl
   have HE:Hid ((fun v wx=>∃(RL:List Dt.D),Co.AS d w F R0 C0 b v RL (Co.asC d) wx) (.slice (some ⟨b,ro,none⟩) r.length (q2 - 2)) (w5.setCell ⟨C0,1,none⟩ (.int .i64 x.n))):=by
    refine⟨r,?_⟩;rw[HT.out];exact⟨⟨_,_,_,_,HC5.out.set 1 _,Co.rep_nil _ _ _ _ _,⟨none,0,rfl,Nat.le_refl _,fun h=>absurd rfl h⟩⟩,⟨ro,q2 - 2,rfl,HRO.out.2 _ hb6⟩,rfl,fun h=>hk3 (by have h:kk=1∨kk=2∨kk=3:=h;omega),HR5.out.keep hk6' (fun e=>by have:=HN.out;omega),hb6,fun y hy=>by rw[HIN.out (by omega)]at*;exact hy,HFR.out,by omega⟩
   have t24:(kk==2)=true∨((kk==2)=false∧(kk==4)=true):=by
    rcases g2 with e|e
    ·exact .inl (by simpa using e)
    ·exact .inr ⟨by rw[beq_eq_false_iff_ne];omega,by simpa using e⟩
   clear hG hx1 hk6' hb6 HT hk3 g1 g2;rcases t24 with t4|⟨t4,t5⟩
   all_goals
    go_wp2;go_meet;exact HE.out
  rw[if_neg g2]at hG;have t2:(kk==2)=false:=by rw[beq_eq_false_iff_ne];omega
  have t4:(kk==4)=false:=by rw[beq_eq_false_iff_ne];omega
  by_cases g3:kk=3∨kk=5∨kk=6
  ·rw[if_pos g3,Bool.and_eq_true,Bool.and_eq_true]at hG;have hx1:x.k=5:=of_decide_eq_true hG.1.1;have hxm:x.m=[]:=List.isEmpty_iff.1 hG.1.2;have tx:(x.k !=5)=false:=by rw[hx1];rfl
   obtain rfl:y1=0:=by rw[HY.out.1,hxm];rfl
   have hk6':=set_keep w5 C0 2 (.string x.s);have hb6:Below w.heap.size w (w5.setCell ⟨C0,2,none⟩ (.string x.s)):=HB5.out.trans (hk6'.to_below (fun j e=>by have:=HN.out;omega) HB5.out.size);have hk3:kk=3→r.length=0:=fun e=>by
    have h:=hG.2;rw[Bool.or_eq_true]at h;rcases h with h|h
    ·have h2:decide (kk=3)=false:=by simpa using h
     have:=of_decide_eq_false h2;omega
    ·rw[List.isEmpty_iff.1 h];rfl
   have HT:Hid (Co.asC d= .mk kk kn x.s Co.zD [] (r.map Co.asC)):=by
    show _=_;rw[HTE.out];unfold Co.asTop;dsimp only;rw[HKK.out];dsimp only;rw[if_neg g1,if_neg g2,if_pos g3]
    rfl
   have HE:Hid ((fun v wx=>∃(RL:List Dt.D),Co.AS d w F R0 C0 b v RL (Co.asC d) wx) (.slice (some ⟨b,ro,none⟩) r.length (q2 - 2)) (w5.setCell ⟨C0,2,none⟩ (.string x.s))):=by
    refine⟨r,?_⟩;rw[HT.out];exact⟨⟨_,_,_,_,HC5.out.set 2 _,Co.rep_nil _ _ _ _ _,⟨none,0,rfl,Nat.le_refl _,fun h=>absurd rfl h⟩⟩,⟨ro,q2 - 2,rfl,HRO.out.2 _ hb6⟩,rfl,fun h=>hk3 (by have h:kk=1∨kk=2∨kk=3:=h;omega),HR5.out.keep hk6' (fun e=>by have:=HN.out;omega),hb6,fun y hy=>by rw[HIN.out (by omega)]at*;exact hy,HFR.out,by omega⟩
   have t35:(kk==3)=true∨((kk==3)=false∧(kk==5)=true)∨((kk==3)=false∧(kk==5)=false∧(kk==6)=true):=by
    rcases g3 with e|e|e
    ·exact .inl (by simpa using e)
    ·exact .inr (.inl ⟨by rw[beq_eq_false_iff_ne];omega,by simpa using e⟩)
    ·exact .inr (.inr ⟨by rw[beq_eq_false_iff_ne];omega,by rw[beq_eq_false_iff_ne];omega,by simpa using e⟩)
   clear hG hx1 hxm hk6' hb6 HT hk3 g1 g2 g3;rcases t35 with t5|⟨t5,t6⟩|⟨t5,t6,t7⟩
   all_goals
    go_wp2;go_meet;exact HE.out
  rw[if_neg g3]at hG;have t5:(kk==3)=false:=by rw[beq_eq_false_iff_ne];omega
  have t6:(kk==5)=false:=by rw[beq_eq_false_iff_ne];omega
  have t7:(kk==6)=false:=by rw[beq_eq_false_iff_ne];omega
  by_cases g8:kk=8
  ·subst g8;rw[if_pos rfl,Bool.and_eq_true]at hG;have hx6:x.k=6:=of_decide_eq_true hG.1;have hxl:=hG.2;have tx:(x.k !=6)=false:=by rw[hx6];rfl
   obtain⟨-,hy2⟩:=HY.out;subst hy2;have HXL:=hd hxl;have hXlen:x.l.length≤4096:=by
    have h:=HFR2.out;rw[Dt.Fines]at h;exact(Dt.fine_parts h.1).2.1
   have HXW:Hid (Dt.Row (fun k=>F k∧k<w.heap.size) w (.slice x2 x.l.length z2) x.l):=((Dt.rep_iff _ _ _ _ _ _).1 HRX.out).2.1;have HT:Hid (Co.asC d= .mk 8 kn ⟨#[]⟩ Co.zD (x.l.map Dt.D.n) (r.map Co.asC)):=by
    show _=_;rw[HTE.out];unfold Co.asTop;dsimp only;rw[HKK.out];dsimp only;rw[if_neg g1,if_neg g2,if_neg g3,if_pos rfl]
    rfl
   obtain⟨j0,hj,hj0,hj1,hj2⟩:=info_parts Dt.infoI;have HJ:=hd hj;have HJ0:=hd hj0;have HJ1:=hd hj1;have HJ2:=hd hj2;have HIN2:Hid (Co.inner2 d=r):=HIN.out (by omega);have HI0:Hid (Hp w5 C0 #[.int .i64 8,.int .i64 kn,.string ⟨#[]⟩,.int .i64 0,.int .i64 0,.string ⟨#[]⟩,.slice none 0 0,.slice none 0 0,.slice none 0 0,.slice none 0 0,.slice none 0 0] 28∧w5.ownsRow w5.heap.size 3 1 (.slice none 0 0) 0 (Co.ints ((x.l.take 0).map Dt.D.n))∧Keep (fun k=>k=C0) w5 w5):=⟨HC5.out,World.ownsRow_nil _ _ _ _,Keep.refl _ _⟩
   clear hG hx6 hxl g1 g2 g3 hj hj0 hj1 hj2 HIN HTE HREP2;go_wp2;clear cc0 cc1 cc2 cc3 cc4 cc5 cc6 cc7 cc8 cc9 cc10 ccf0 ccf1 ccf2 ccf3 ccf4 ccf5 ccf6 ccf7 ccf8 ccf9 ccf10
   go_loopw [6] (fun v wr=>∃(i:Nat) (al:Option Addr) (ql:Nat),v= .int .i64 i∧i≤x.l.length∧Hid (Hp wr C0 #[.int .i64 8,.int .i64 kn,.string ⟨#[]⟩,.int .i64 0,.int .i64 0,.string ⟨#[]⟩,.slice none 0 0,.slice none 0 0,.slice none 0 0,.slice al i ql,.slice none 0 0] 28∧wr.ownsRow w5.heap.size 3 1 (.slice al i ql) i (Co.ints ((x.l.take i).map Dt.D.n))∧Keep (fun k=>k=C0) w5 wr)) (fun v _=>x.l.length - (intOf v).toNat)
   case atStart=>exact⟨0,none,0,rfl,by omega,HI0⟩
   case round=>
    clear HI0 zz0 zz1 zz2 zz3 zz4 zz5;obtain⟨i,al,ql,rfl,hi,HI⟩:=hrel;have HXR:Hid (Hp wr w4.heap.size #[.int .i64 x.k,.int .i64 x.n,.string x.s,.slice x1 y1 z1,.slice x2 x.l.length z2,.slice x3 y3 z3] 25):=HX5.out.keep HI.out.2.2 (fun e=>by have h1:=HC5.out.lt;have h2:=HC4.out.lt;omega);have zz4:=HXR.out.cell 4 rfl;have hbr:Below w.heap.size w wr:=HB5.out.trans (HI.out.2.2.to_below (fun j e=>by have:=HN.out;omega) HB5.out.size);have HBR:=hd hbr;by_cases hlt:i<x.l.length
    case neg=>
     have hge:(x.l.length:Int)≤(i:Int):=by omega
     obtain rfl:i=x.l.length:=by omega
     have HE:Hid ((fun v wx=>∃(RL:List Dt.D),Co.AS d w F R0 C0 b v RL (Co.asC d) wx) (.slice (some ⟨b,ro,none⟩) r.length (q2 - 2)) wr):=by
      refine⟨r,?_⟩;rw[HT.out];refine⟨⟨_,_,_,_,HI.out.1,Co.rep_nil _ _ _ _ _,?_⟩,⟨ro,q2 - 2,rfl,HRO.out.2 _ hbr⟩,rfl,fun h=>by have h:(8:Int)=1∨(8:Int)=2∨(8:Int)=3:=h;omega,HR5.out.keep HI.out.2.2 (fun e=>by have:=HN.out;omega),hbr,fun y hy=>by rw[HIN2.out];exact hy,HFR.out,by omega⟩;have h:=HI.out.2.1;rw[List.take_length]at h;refine Co.irow_mono (fun b hb _=> ?_) (Dt.IRow.of_own (m:=x.l.map Dt.D.n) (by rw[List.length_map];exact h));have:=HC5.out.lt;omega
     clear hbr;go_wp2;go_meet;exact HE.out
    have hlti:(i:Int)<(x.l.length:Int):=by omega
    obtain⟨_,_,he,_,hrow⟩:=HXW.out.below hbr;injection he with he1 he2 he3
    subst he1;clear he2 he3;obtain⟨xb,xo,rfl,hFb,hbl,hreps⟩:=hrow (by intro h0;rw[h0]at hlt;simp at hlt);obtain⟨um,ul,ut,hs,-⟩:=hreps.at i hlt;have hall:=List.all_eq_true.1 HXL.out _ (List.getElem_mem hlt);obtain⟨y,hy⟩:∃y,x.l[i]=y:=⟨_,rfl⟩
    rw[hy]at hs hall;rw[Bool.and_eq_true]at hall;have hyk:y.k=1:=of_decide_eq_true hall.1;have ty:(y.k !=1)=false:=by rw[hyk];rfl
    have hvar:=hall.2;have hnu:=numC_any y.n wr;rw[hvar]at hnu;obtain⟨s0,s1,s2,s3,s4,s5⟩:=hs;have HYY:=hd hy;have HXB:Hid (xb<w.heap.size):=hFb.2;have HLI:Hid (i≤4096):=hd (by omega);clear hrow hFb hbl hreps hall hyk hvar hy hbr s2 s3 s4 s5;go_wp2_with((go_at_call 96;refine hnu.mono ?_;rintro e w6 ⟨rfl,rfl⟩))
    obtain⟨wB,hwB⟩:∃wB,wr.drew.alloc (.cells #[.int .i64 y.n] 3)=wB:=⟨_,rfl⟩
    have hbd0:Below wr.heap.size wr wr.drew:=Co.drew_below wr;have hbB:Below wr.heap.size wr wB:=by rw[←hwB];exact hbd0.alloc (by have:=hbd0.size;omega) _
    have HBB:=hd hbB;have HSd:Hid (Hp wr.drew w4.heap.size #[.int .i64 x.k,.int .i64 x.n,.string x.s,.slice x1 y1 z1,.slice (some ⟨xb,xo,none⟩) x.l.length z2,.slice x3 y3 z3] 25∧wr.drew.cell? ⟨xb,xo+i*6+1,none⟩=some (.int .i64 y.n)):=⟨HXR.out.below hbd0,(hbd0.cell (p:=⟨xb,xo+i*6+1,none⟩) (block_lt_of_cell s1)).trans s1⟩
    have HSB:Hid (Hp wB w4.heap.size #[.int .i64 x.k,.int .i64 x.n,.string x.s,.slice x1 y1 z1,.slice (some ⟨xb,xo,none⟩) x.l.length z2,.slice x3 y3 z3] 25∧wB.cell? ⟨xb,xo+i*6+1,none⟩=some (.int .i64 y.n)):=⟨HXR.out.below hbB,(hbB.cell (p:=⟨xb,xo+i*6+1,none⟩) (block_lt_of_cell s1)).trans s1⟩
    have c9d:=(HI.out.1.below hbd0).cell 9 rfl;have c9B:=(HI.out.1.below hbB).cell 9 rfl;have HSRC:Hid (Ap.Src wB (.slice (some ⟨wr.heap.size,0,none⟩) 1 1) 1 [.int .i64 y.n]):=Co.src1 (w:=wr.drew) hwB;have HOWB:Hid (wB.ownsRow w5.heap.size 3 1 (.slice al i ql) i (Co.ints ((x.l.take i).map Dt.D.n))):=Dt.own_keep (S:=fun _=>False) HI.out.2.1 (keep_of_below hbB) (fun _ _ h=>h);have hbs:w5.heap.size≤wB.heap.size:=Nat.le_trans HI.out.2.2.size hbB.size;have hm1:i+1≤maxLen:=by unfold maxLen;omega
    have hm2:(i+1)*8≤140737488355328:=by omega
    clear hbd0 hbB s0 s1 zz4 ty hnu;refine wp_region_noPanic ?_;refine wp_region_held_drew (S:=fun w'=>Hp w' w4.heap.size #[.int .i64 x.k,.int .i64 x.n,.string x.s,.slice x1 y1 z1,.slice (some ⟨xb,xo,none⟩) x.l.length z2,.slice x3 y3 z3] 25∧w'.cell? ⟨xb,xo+i*6+1,none⟩=some (.int .i64 y.n)) (by kernel_rfl) HSd.out (fun hHeld=> ?_);refine Zm.u 0 ?_ rfl ?_ ?_;rotate_left
    ·intro w9 hSw;clear hSw;go_simp
     try with_reducible rfl
    simp only[Act.put,Zm.a,Zm.b,Zm.c];refine Zm.u 2 ?_ rfl ?_ ?_;rotate_left
    ·intro w9 hSw;clear hSw;go_simp
     try with_reducible rfl
    simp only[Act.put,Zm.a,Zm.b,Zm.c];refine Zm.u 3 ?_ rfl ?_ ?_;rotate_left
    ·intro w9 hSw;have hC:Hp w9 w4.heap.size _ _:=hSw.1;have c9:=hC.cell 4 rfl;clear hC;clear hSw;go_simp
     try with_reducible rfl
    simp only[Act.put,Zm.a,Zm.b,Zm.c];refine Zm.u 4 ?_ rfl ?_ ?_;rotate_left
    ·intro w9 hSw;clear hSw;go_simp
     try with_reducible rfl
    simp only[Act.put,Zm.a,Zm.b,Zm.c];refine Zm.u 5 ?_ rfl ?_ ?_;rotate_left
    ·intro w9 hSw;clear hSw;go_simp
     try with_reducible rfl
    simp only[Act.put,Zm.a,Zm.b,Zm.c];refine Zm.u 6 ?_ rfl ?_ ?_;rotate_left
    ·intro w9 hSw;clear hSw;go_simp
     try with_reducible rfl
    simp only[Act.put,Zm.a,Zm.b,Zm.c];refine Zm.u 7 ?_ rfl ?_ ?_;rotate_left
    ·intro w9 hSw;have q0:=hSw.2;clear hSw;go_simp
     try with_reducible rfl
    simp only[Act.put,Zm.a,Zm.b,Zm.c]
    apply Co.cutG
    ·intro rest;refine Zm.q 1 8 rfl rfl (fun K hK=> ?_) (fun K hK=> ?_)
     ·go_simp;refine hK.out _ _ HSd.out (fun hHeld=> ?_);clear hK K;refine Zm.r 8 rfl (fun K hK=> ?_);go_simp
      try rw[hwB]
      refine hK.out _ _ HSB.out (fun hHeld=> ?_);clear hK K;exact rest
     ·go_simp
      try rw[hwB]
      refine hK.out _ _ HSB.out (fun hHeld=> ?_);clear hK K;refine Zm.r 1 rfl (fun K hK=> ?_);go_simp;refine hK.out _ _ HSB.out (fun hHeld=> ?_);clear hK K;exact rest
    clear c9d c9B hwB;have hHeld:=HSB.out;refine Zm.r 9 rfl (fun K hK=> ?_);refine Ap.step rfl (.tmp 121) (.tmp 128) 22 (by kernel_rfl) w5.heap.size 3 j0 (.int .i64 0) 1 8 Tryz.underlying22 HJ.out HJ0.out HJ1.out HJ2.out rfl (by decide) (.slice al i ql) i (Co.ints ((x.l.take i).map Dt.D.n)) (by kernel_rfl) HOWB.out (.slice (some ⟨wr.heap.size,0,none⟩) 1 1) 1 [.int .i64 y.n] (by kernel_rfl) HSRC.out rfl (by simp[Value.oneCell']) hm1 hm2 hbs ?_;intro v' w6 hown hgrow hat;obtain⟨al',ql',rfl⟩:=Dt.row_form hown;have hk5:Keep (fun k=>(Value.slice al i ql).ownBlock=some k) wr w6:=Co.grown_keep2 HBB.out hgrow;have hol:∀k,(Value.slice al i ql).ownBlock=some k→w5.heap.size≤k:=fun k e=>(Dt.own_lt HI.out.2.1 k e).1
    have hX4:w4.heap.size<w5.heap.size:=HX5.out.lt;have hC5:C0<w5.heap.size:=HC5.out.lt;have hW5:=HW5.out;have HS6:Hid (Hp w6 w4.heap.size #[.int .i64 x.k,.int .i64 x.n,.string x.s,.slice x1 y1 z1,.slice (some ⟨xb,xo,none⟩) x.l.length z2,.slice x3 y3 z3] 25∧w6.cell? ⟨xb,xo+i*6+1,none⟩=some (.int .i64 y.n)):=by
     refine⟨HXR.out.keep hk5 (fun e=>by have:=hol _ e;omega),?_⟩;have h1:=HSd.out.2;have h2:wr.cell? ⟨xb,xo+i*6+1,none⟩=some (.int .i64 y.n):=h1;exact(hk5.cell (xo+i*6+1) (block_lt_of_cell h2) (fun(e:(Value.slice al i ql).ownBlock=some xb)=>by have:=hol _ e;have:=HXB.out;omega)).trans h2
    have hc6:Hp w6 C0 _ _:=HI.out.1.keep hk5 (fun e=>by have:=hol _ e;omega);have k6:=set_keep w6 C0 9 (.slice al' (i+1) ql');have HS7:Hid (Hp (w6.setCell ⟨C0,9,none⟩ (.slice al' (i+1) ql')) w4.heap.size #[.int .i64 x.k,.int .i64 x.n,.string x.s,.slice x1 y1 z1,.slice (some ⟨xb,xo,none⟩) x.l.length z2,.slice x3 y3 z3] 25∧(w6.setCell ⟨C0,9,none⟩ (.slice al' (i+1) ql')).cell? ⟨xb,xo+i*6+1,none⟩=some (.int .i64 y.n)):=⟨HS6.out.1.keep k6 (fun e=>by have h2:=HC4.out.lt;omega),(k6.cell (xo+i*6+1) (block_lt_of_cell HS6.out.2) (fun(e:xb=C0)=>by have:=HXB.out;have:=HN.out;omega)).trans HS6.out.2⟩
    have HN2:Hid (Hp (w6.setCell ⟨C0,9,none⟩ (.slice al' (i+1) ql')) C0 #[.int .i64 8,.int .i64 kn,.string ⟨#[]⟩,.int .i64 0,.int .i64 0,.string ⟨#[]⟩,.slice none 0 0,.slice none 0 0,.slice none 0 0,.slice al' (i+1) ql',.slice none 0 0] 28∧(w6.setCell ⟨C0,9,none⟩ (.slice al' (i+1) ql')).ownsRow w5.heap.size 3 1 (.slice al' (i+1) ql') (i+1) (Co.ints ((x.l.take (i+1)).map Dt.D.n))∧Keep (fun k=>k=C0) w5 (w6.setCell ⟨C0,9,none⟩ (.slice al' (i+1) ql'))):=by
     refine⟨hc6.set 9 _,?_,?_⟩
     ·have h:=Dt.own_keep hown k6 (fun j e he=>by have:=(Dt.own_lt hown j e).1;omega);rw[List.take_succ_eq_append_getElem hlt,HYY.out,List.map_append];unfold Co.ints at h ⊢;rw[List.map_append];exact h
     ·refine Keep.mono ((HI.out.2.2.le (T:=fun k=>k=C0∨w5.heap.size≤k) fun k e=> .inl e).trans ((hk5.le fun k e=> .inr (hol k e)).trans (k6.le fun k e=> .inl e))) (fun k hk e=>by omega)
    have u9:=hc6.cell 9 rfl;have uf9:=hc6.frz 9;clear hown hgrow hat hk5 hol hc6 k6 hX4 hC5 hW5;refine hK.out _ _ HS6.out (fun hHeld=> ?_);clear hK K;refine Zm.u 10 ?_ rfl ?_ ?_;rotate_left
    ·intro w9 hSw;clear hSw;go_simp
     try with_reducible rfl
    simp only[Act.put,Zm.a,Zm.b,Zm.c];refine Zm.r 11 rfl (fun K hK=> ?_);go_simp;refine hK.out _ _ HS7.out (fun hHeld=> ?_);clear hK K;refine wpAnyH_done (by kernel_rfl) ?_ _;refine NoPanic.normal ?_;clear u9 uf9;go_wp2;go_roundw
    case rel=>exact⟨i+1,al',ql',by simp,by omega,HN2⟩
    case measure=>simp[intOf];omega
  ·rw[if_neg g8]at hG;have g9:=of_decide_eq_true hG;have t8:(kk==8)=false:=by rw[beq_eq_false_iff_ne];omega
   have hlr:=HL2.out;have hq2:¬q2=1:=by omega
   have hle1:(1:Int)≤(d.l.length:Int):=by omega
   have m5:=HD5.out.cell 4 rfl;have HT:Hid (Co.asC d= .mk kk kn ⟨#[]⟩ Co.zD [] ((x :: r).map Co.asC)):=by
    show _=_;rw[HTE.out];unfold Co.asTop;dsimp only;rw[HKK.out];dsimp only;rw[if_neg g1,if_neg g2,if_neg g3,if_neg g8]
    rfl
   have HE:Hid ((fun v wx=>∃(RL:List Dt.D),Co.AS d w F R0 C0 b v RL (Co.asC d) wx) (.slice (some ⟨b,o+6,none⟩) (d.l.length - 1) (q2 - 1)) w5):=by
    refine⟨x :: r,?_⟩;rw[HT.out];refine⟨⟨_,_,_,_,HC5.out,Co.rep_nil _ _ _ _ _,⟨none,0,rfl,Nat.le_refl _,fun h=>absurd rfl h⟩⟩,⟨o+6,q2 - 1,by rw[show d.l.length - 1=(x :: r).length by rw[List.length_cons];omega],?_⟩,rfl,fun h=>by have h:kk=1∨kk=2∨kk=3:=h;omega,HR5.out,HB5.out,fun y hy=> ?_,HFR2.out,by rw[List.length_cons];omega⟩
    ·have h:=Dt.Reps.keep (keep_of_below (S:=fun _=>False) HB5.out) (fun _ _ _ h=>h) d.l HFB.out HBL.out HRE.out;have h2:=Co.reps_drop h 1 (by omega);rw[HLL.out]at h2;exact h2
    ·unfold Co.inner2;rw[HLL.out];dsimp only;rw[HKK.out,if_pos g9];exact hy
   clear hG HT g1 g2 g3 g8 g9 hlr;go_wp2;go_meet;exact HE.out
 case rest=>
  obtain⟨RL,has⟩:=hcut;obtain⟨ws,rfl⟩:∃ws,ws=wc:=⟨_,rfl⟩
  obtain⟨T,hT⟩:∃T,Co.asC d=T:=⟨_,rfl⟩
  rw[hT]at has;have HTT:=hd hT;obtain⟨vm,vl,vt,vp,hcc,hrd,hrp⟩:=has.hc;obtain⟨ro2,rc,hrv,hrl⟩:=has.rw_;subst hrv;have HAS:=hd has;have HC:=hd hcc;have c0:=hcc.cell 0 rfl;obtain⟨Bs,hBs⟩:∃Bs,ws.heap.size=Bs:=⟨_,rfl⟩
  have HBs:=hd hBs;have HCB:Hid (C0<Bs):=by show _<_;have:=hcc.lt;omega
  have HLI0:Hid (Co.LI w F R0 C0 Bs b ro2 RL T vm vl vt vp 0 none 0 ws):=⟨hcc,hrd,Co.irow_mono (fun b hb hl=>⟨hb,by omega⟩) hrp,⟨[],rfl,Co.CRow.nil _ _ _,by simp⟩,hrl,has.hr,has.kb,by omega⟩
  have hk3:=has.k3;have hle:=has.le;clear has hcc hrd hrp hrl hBs hT hG HTE HIN HREP2;go_upto_region 31 with fail
  go_cut [148] (fun v wx=>v= .bool false∧wx=ws)
  case first=>
   by_cases g1:T.k=1
   ·have t1:(T.k==1)=true:=by simpa using g1
    have h0:=hk3 (.inl g1);have hb1:decide ((0:Int)<(RL.length:Int))=false:=decide_eq_false (by omega);have hb2:decide (0<RL.length)=false:=decide_eq_false (by omega);clear hk3 g1 h0 hle;go_wp2;go_meet;exact⟨rfl,rfl⟩
   have t1:(T.k==1)=false:=by simpa using g1
   by_cases g2:T.k=2
   ·have t2:(T.k==2)=true:=by simpa using g2
    have h0:=hk3 (.inr (.inl g2));have hb1:decide ((0:Int)<(RL.length:Int))=false:=decide_eq_false (by omega);have hb2:decide (0<RL.length)=false:=decide_eq_false (by omega);clear hk3 g1 g2 h0 hle;go_wp2;go_meet;exact⟨rfl,rfl⟩
   have t2:(T.k==2)=false:=by simpa using g2
   by_cases g3:T.k=3
   ·have t3:(T.k==3)=true:=by simpa using g3
    have h0:=hk3 (.inr (.inr g3));have hb1:decide ((0:Int)<(RL.length:Int))=false:=decide_eq_false (by omega);have hb2:decide (0<RL.length)=false:=decide_eq_false (by omega);clear hk3 g1 g2 g3 h0 hle;go_wp2;go_meet;exact⟨rfl,rfl⟩
   have t3:(T.k==3)=false:=by simpa using g3
   clear hk3 g1 g2 g3 hle;go_wp2;go_meet;exact⟨rfl,rfl⟩
  case rest=>
   obtain⟨rfl,hw⟩:=hcut;subst hw;clear c0 hk3;go_wp2
   go_loopw [7] (fun v wr=>∃(i:Nat) (al:Option Addr) (ql:Nat),v= .int .i64 i∧i≤RL.length∧Hid (Co.LI w F R0 C0 Bs b ro2 RL T vm vl vt vp i al ql wr)) (fun v _=>RL.length - (intOf v).toNat)
   case atStart=>exact⟨0,none,0,rfl,by omega,HLI0⟩
   case round=>
    clear HLI0;obtain⟨i,al,ql,rfl,hi,HL⟩:=hrel;by_cases hlt:i<RL.length
    case neg=>
     have hge:(RL.length:Int)≤(i:Int):=by omega
     obtain rfl:i=RL.length:=by omega
     have hinv:=HL.out;obtain⟨ps,hpl,hcr,hpm⟩:=hinv.row;rw[List.take_length,←HAS.out.tl]at hpm;obtain⟨e1,f1,j1,e2,f2,j2,e3,f3,j3,rfl,rfl,rfl⟩:=hinv.rd.forms;obtain⟨ap,cp,rfl,hpc,hpp⟩:=hinv.rp;have hrp2:Dt.IRow (fun k=>C0<k∧k<Bs) wr (.slice ap T.p.length cp) T.p:=⟨ap,cp,rfl,hpc,hpp⟩
     have k11:=Co.set11_keep wr R0 (.int .i64 T.k) (.int .i64 T.n) (.string T.s) (.int .i64 T.d.k) (.int .i64 T.d.n) (.string T.d.s) (.slice e1 f1 j1) (.slice e2 f2 j2) (.slice e3 f3 j3) (.slice ap T.p.length cp) (.slice al RL.length ql);have hn:=HN.out;have HF:Hid (Co.Rep (fun k=>F k∨w.heap.size≤k) (Co.set11 wr R0 (.int .i64 T.k) (.int .i64 T.n) (.string T.s) (.int .i64 T.d.k) (.int .i64 T.d.n) (.string T.d.s) (.slice e1 f1 j1) (.slice e2 f2 j2) (.slice e3 f3 j3) (.slice ap T.p.length cp) (.slice al RL.length ql)) T (.slice e1 f1 j1) (.slice e2 f2 j2) (.slice e3 f3 j3) (.slice ap T.p.length cp) (.slice al RL.length ql)∧Below w.heap.size w (Co.set11 wr R0 (.int .i64 T.k) (.int .i64 T.n) (.string T.s) (.int .i64 T.d.k) (.int .i64 T.d.n) (.string T.d.s) (.slice e1 f1 j1) (.slice e2 f2 j2) (.slice e3 f3 j3) (.slice ap T.p.length cp) (.slice al RL.length ql))):=by
      refine⟨?_,hinv.kb.trans (k11.to_below (fun k e=>by omega) hinv.kb.size)⟩;have h1:Co.Rep (fun k=>(F k∧k<w.heap.size)∨C0<k) wr T (.slice e1 f1 j1) (.slice e2 f2 j2) (.slice e3 f3 j3) (.slice ap T.p.length cp) (.slice al RL.length ql):=
       (Co.rep_iff _ _ _ _ _ _ _ _).2 ⟨Dt.Rep.mono (fun b hb _ => .inl hb) T.d hinv.rd, Co.irow_mono (fun b hb _ => .inr hb.1) hrp2, by
        obtain⟨a',c',e1,e2,e3⟩:=hcr.to_row;rw[hpm]at e1 e2 e3;exact⟨a',c',e1,e2,fun hn=>by obtain⟨b,o,f1,f2,f3,f4⟩:=e3 hn;exact⟨b,o,f1,f2.imp id (fun h=>by have:=HCB.out;omega),f3,Co.Reps.mono (fun k hk _=>hk.imp id (fun h=>by have:=HCB.out;omega)) T.l f4⟩⟩⟩
      exact Co.Rep.mono (fun b hb _=>hb.elim (fun h=> .inl h.1) (fun h=> .inr (by omega))) T (Co.Rep.keep k11 (fun b hb _ e=>by omega) T h1)
     have HCR:=hd hinv.hc;have HRR:=hd hinv.hr;obtain⟨c0,c1,c2,c3,c4,c5,c6,c7,c8,c9,c10⟩:=HCR.out.c11;obtain⟨rr0,rr1,rr2,rr3,rr4,rr5,rr6,rr7,rr8,rr9,rr10⟩:=HRR.out.c11;have rrf0:=HRR.out.frz 0;have rrf1:=HRR.out.frz 1;have rrf2:=HRR.out.frz 2;have rrf3:=HRR.out.frz 3;have rrf4:=HRR.out.frz 4;have rrf5:=HRR.out.frz 5;have rrf6:=HRR.out.frz 6;have rrf7:=HRR.out.frz 7;have rrf8:=HRR.out.frz 8;have rrf9:=HRR.out.frz 9;have rrf10:=HRR.out.frz 10;clear hinv hcr hpm hpl k11 hrp2 hpp hpc hn;go_wp2;refine bodyPost_ret (v:=Co.V T (.slice e1 f1 j1) (.slice e2 f2 j2) (.slice e3 f3 j3) (.slice ap T.p.length cp) (.slice al RL.length ql)) (by unfold Co.V;simp[results,Tryz.results87,go_sem, *]) rfl ?_;rw[HTT.out];exact⟨_,_,_,_,_,rfl,HF.out.1,HF.out.2⟩
    have hlti:(i:Int)<(RL.length:Int):=by omega
    have hinv:=HL.out;obtain⟨ps,hpl,hcr,hpm⟩:=hinv.row;obtain⟨ym,yl,yt,hs,hry⟩:=hinv.rl.at i hlt;have hmem:=List.getElem_mem hlt;have hfy:=Co.fines_mem HAS.out.fi _ hmem;have hin:=HAS.out.ch _ hmem;obtain⟨y,hy⟩:∃y,RL[i]=y:=⟨_,rfl⟩
    rw[hy]at hs hry hfy hin;obtain⟨g1,i1,r1,g2,i2,r2,g3,i3,r3,rfl,rfl,rfl⟩:=hry.forms;obtain⟨wD,hwD⟩:∃wD,wr.drew=wD:=⟨_,rfl⟩
    have hbD:=Co.drew_below wr;rw[hwD]at hbD;have hcall:=HCH.out y hin (fun k=>F k∧k<w.heap.size) _ _ _ wD hfy (hry.below hbD);obtain⟨i0,hi',hi0,hi1,hi2⟩:=info_parts Co.infoC;have HI:=hd hi';have HI0:=hd hi0;have HI1:=hd hi1;have HI2:=hd hi2;have HPL:=hd hpl;have HCR:=hd hcr;have HPM:=hd hpm;have HYY:=hd hy;have HBD:=hd hbD;have HSW:Hid (Dt.Six wr b (ro2+i*6) y (.slice g1 i1 r1) (.slice g2 i2 r2) (.slice g3 i3 r3)):=hs;have HBLD:Hid (b<wD.heap.size):=by show _<_;have:=HFB.out.2;have:=hinv.kb.size;have:=hbD.size;omega
    have HSD:Hid (Dt.Six wD b (ro2+i*6) y (.slice g1 i1 r1) (.slice g2 i2 r2) (.slice g3 i3 r3)):=Co.six_keep hs (by have:=HFB.out.2;have:=hinv.kb.size;omega) (keep_of_below hbD) (S:=fun _=>False) id;have cLD:=(hinv.hc.below hbD).cell 10 rfl;have hle4:i+1≤4097:=by have:=HAS.out.le;omega
    have hm1:i+1≤maxLen:=by unfold maxLen;omega
    have hm2:(i+1)*184≤140737488355328:=by omega
    clear hinv hpl hcr hpm hs hry hmem hfy hin hy hi' hi0 hi1 hi2 hbD;go_wp2;refine wp_region_noPanic ?_;refine wp_region_held_drew (S:=fun w'=>Dt.Six w' b (ro2+i*6) y (.slice g1 i1 r1) (.slice g2 i2 r2) (.slice g3 i3 r3)) (by kernel_rfl) (by rw[hwD];exact HSD.out) (fun hHeld=> ?_);rw[hwD]at hHeld ⊢;clear hwD;refine Zm.u 0 ?_ rfl ?_ ?_;rotate_left
    ·intro w9 hSw;clear hSw;go_simp
     try with_reducible rfl
    simp only[Act.put,Zm.a,Zm.b,Zm.c];refine Zm.u 2 ?_ rfl ?_ ?_;rotate_left
    ·intro w9 hSw;clear hSw;go_simp
     try with_reducible rfl
    simp only[Act.put,Zm.a,Zm.b,Zm.c];refine Zm.u 3 ?_ rfl ?_ ?_;rotate_left
    ·intro w9 hSw;clear hSw;go_simp
     try with_reducible rfl
    simp only[Act.put,Zm.a,Zm.b,Zm.c];refine Zm.u 4 ?_ rfl ?_ ?_;rotate_left
    ·intro w9 hSw;clear hSw;go_simp
     try with_reducible rfl
    simp only[Act.put,Zm.a,Zm.b,Zm.c];refine Zm.u 5 ?_ rfl ?_ ?_;rotate_left
    ·intro w9 hSw;have z0:=hSw.c0;have z1:=hSw.c1;have z2:=hSw.c2;have z3:=hSw.c3;have z4:=hSw.c4;have z5:=hSw.c5;clear hSw;go_simp
     try with_reducible rfl
    simp only[Act.put,Zm.a,Zm.b,Zm.c];refine Zm.q 1 6 rfl rfl (fun K hK=> ?_) (fun K hK=> ?_)
    ·go_simp;refine hK.out _ _ HSD.out (fun hHeld=> ?_);clear hK K;refine Zm.r 6 rfl (fun K hK=> ?_);go_simp;refine hcall.mono ?_;rintro e w6 ⟨um,ul,ut,up,uk,rfl,hr6,hb6⟩;obtain⟨h1,k1,s1,h2,k2,s2,h3,k3,s3,h4,k4,s4,h5,k5,s5,rfl,rfl,rfl,rfl,rfl⟩:=hr6.forms5;unfold Co.V;obtain⟨c',hX⟩:∃c',Co.asC y=c':=⟨_,rfl⟩
     rw[hX]at hr6 ⊢;have HXY:=hd hX;have HB6:Hid (Below wr.heap.size wr w6):=btr HBD.out hb6;have HR6:Hid (Co.Rep (fun k=>(F k∧k<w.heap.size)∨wr.heap.size≤k) w6 c' (.slice h1 k1 s1) (.slice h2 k2 s2) (.slice h3 k3 s3) (.slice h4 k4 s4) (.slice h5 k5 s5)):=Co.Rep.mono (fun b hb _=>hb.imp id (fun h=>Nat.le_trans HBD.out.size h)) c' hr6;have HS6:Hid (Dt.Six w6 b (ro2+i*6) y (.slice g1 i1 r1) (.slice g2 i2 r2) (.slice g3 i3 r3)):=Co.six_keep HSD.out HBLD.out (keep_of_below hb6) (S:=fun _=>False) id;obtain⟨wB,hwB⟩:∃wB,w6.alloc (.cells #[.int .i64 c'.k,.int .i64 c'.n,.string c'.s,.int .i64 c'.d.k,.int .i64 c'.d.n,.string c'.d.s,.slice h1 k1 s1,.slice h2 k2 s2,.slice h3 k3 s3,.slice h4 k4 s4,.slice h5 k5 s5] 28)=wB:=⟨_,rfl⟩
     obtain⟨hb7,hs7⟩:=new_below hwB;have HB7:=hd hb7;have HBB:Hid (Below wr.heap.size wr wB):=btr HB6.out hb7;have HSB:Hid (Dt.Six wB b (ro2+i*6) y (.slice g1 i1 r1) (.slice g2 i2 r2) (.slice g3 i3 r3)):=Co.six_keep HS6.out (Nat.lt_of_lt_of_le HBLD.out hb6.size) (keep_of_below hb7) (S:=fun _=>False) id;have cL6:=(HL.out.hc.below HB6.out).cell 10 rfl;have cLB:=(HL.out.hc.below HBB.out).cell 10 rfl;have HSRC:Hid (Ap.Src wB (.slice (some ⟨w6.heap.size,0,none⟩) 1 1) 1 [.int .i64 c'.k,.int .i64 c'.n,.string c'.s,.int .i64 c'.d.k,.int .i64 c'.d.n,.string c'.d.s,.slice h1 k1 s1,.slice h2 k2 s2,.slice h3 k3 s3,.slice h4 k4 s4,.slice h5 k5 s5]):=Co.srcNew hwB;have HOWB:Hid (wB.ownsRow Bs 28 11 (.slice al i ql) i (Co.flatC ps)):=by
      have h:=(HCR.out.keep (S:=fun _=>False) (keep_of_below HBB.out) (fun _ _ _ h=>h)).row;rw[←HPL.out]at h;exact h
     have hbs:Bs≤wB.heap.size:=Nat.le_trans HL.out.bs HBB.out.size;clear hX hr6 hb6 hb7 hs7
     try simp only[Act.put,Zm.a,Zm.b,Zm.c]
     refine hK.out _ _ HS6.out (fun hHeld=> ?_);clear hK K;refine Zm.r 7 rfl (fun K hK=> ?_);go_simp
     try rw[hwB]
     refine hK.out _ _ HSB.out (fun hHeld=> ?_);clear hK K;clear hwB cLD;refine Zm.r 8 rfl (fun K hK=> ?_);refine Ap.step rfl (.tmp 157) (.tmp 163) 26 (by kernel_rfl) Bs 28 i0 (.agg #[.int .i64 0,.int .i64 0,.string ⟨#[]⟩,.int .i64 0,.int .i64 0,.string ⟨#[]⟩,.slice none 0 0,.slice none 0 0,.slice none 0 0,.slice none 0 0,.slice none 0 0]) 11 184 Tryz.underlying26 HI.out HI0.out HI1.out HI2.out rfl (by decide) (.slice al i ql) i (Co.flatC ps) (by kernel_rfl) HOWB.out (.slice (some ⟨w6.heap.size,0,none⟩) 1 1) 1 [.int .i64 c'.k,.int .i64 c'.n,.string c'.s,.int .i64 c'.d.k,.int .i64 c'.d.n,.string c'.d.s,.slice h1 k1 s1,.slice h2 k2 s2,.slice h3 k3 s3,.slice h4 k4 s4,.slice h5 k5 s5] (by kernel_rfl) HSRC.out rfl (by simp[Value.oneCell']) hm1 hm2 hbs ?_;intro v' w7 hown hgrow hat;obtain⟨al',ql',rfl⟩:=Dt.row_form hown;obtain⟨q1',q2'⟩:=HCR.out.push HL.out.bs (fun k hk=>by have:=HL.out.kb.size;have h1:=HCB.out;have h2:=HN.out;omega) HB6.out (p:=⟨c',.slice h1 k1 s1,.slice h2 k2 s2,.slice h3 k3 s3,.slice h4 k4 s4,.slice h5 k5 s5⟩) HR6.out HB7.out (by rw[←HPL.out];exact hown) hgrow hat;have hol:∀k,(Value.slice al i ql).ownBlock=some k→Bs≤k:=fun k e=>(Dt.own_lt HCR.out.row k e).1
     have hcb:=HCB.out;have hn:=HN.out;have HS7:Hid (Dt.Six w7 b (ro2+i*6) y (.slice g1 i1 r1) (.slice g2 i2 r2) (.slice g3 i3 r3)):=Co.six_keep (show Dt.Six wr b (ro2+i*6) y (.slice g1 i1 r1) (.slice g2 i2 r2) (.slice g3 i3 r3)from HSW.out) (by have:=HFB.out.2;have:=HL.out.kb.size;omega) q2' (fun e=>by have:=hol _ e;have:=HFB.out.2;omega);have hc7:Hp w7 C0 _ _:=HL.out.hc.keep q2' (fun e=>by have:=hol _ e;omega);have k8:=set_keep w7 C0 10 (.slice al' (i+1) ql');have HS8:Hid (Dt.Six (w7.setCell ⟨C0,10,none⟩ (.slice al' (i+1) ql')) b (ro2+i*6) y (.slice g1 i1 r1) (.slice g2 i2 r2) (.slice g3 i3 r3)):=Co.six_keep HS7.out (by have:=HFB.out.2;have:=HL.out.kb.size;have:=q2'.size;omega) k8 (fun(e:b=C0)=>by have:=HFB.out.2;omega);have HN2:Hid (Co.LI w F R0 C0 Bs b ro2 RL T vm vl vt vp (i+1) al' ql' (w7.setCell ⟨C0,10,none⟩ (.slice al' (i+1) ql'))):=by
      have kk8:Keep (fun k=>(Value.slice al i ql).ownBlock=some k∨k=C0) wr (w7.setCell ⟨C0,10,none⟩ (.slice al' (i+1) ql')):=(q2'.le fun k e=> .inl e).trans (k8.le fun k e=> .inr e);refine⟨hc7.set 10 _,Dt.Rep.keep kk8 (fun b hb _ e=>e.elim (fun e=>by have:=hol _ e;omega) (fun e=>by omega)) T.d HL.out.rd,HL.out.rp.keep kk8 (fun b hb _ e=>e.elim (fun e=>by have:=hol _ e;omega) (fun e=>by omega)),⟨ps++[⟨c',.slice h1 k1 s1,.slice h2 k2 s2,.slice h3 k3 s3,.slice h4 k4 s4,.slice h5 k5 s5⟩],by rw[List.length_append,←HPL.out];rfl,?_,?_⟩,Dt.Reps.keep kk8 (fun b hb _ e=>e.elim (fun e=>by have:=hol _ e;omega) (fun e=>by omega)) RL HFB.out (by have:=HFB.out.2;have:=HL.out.kb.size;omega) HL.out.rl,HL.out.hr.keep kk8 (fun e=>e.elim (fun e=>by have:=hol _ e;omega) (fun e=>by omega)),HL.out.kb.trans (kk8.to_below (fun k e=>e.elim (fun e=>by have:=hol _ e;omega) (fun e=>by omega)) HL.out.kb.size),Nat.le_trans HL.out.bs kk8.size⟩
      ·rw[HPL.out]at*;exact q1'.keep k8 (fun k hk _ (e:k=C0)=>by rcases hk with hk|hk <;> omega)
      ·rw[List.map_append,HPM.out,List.take_succ_eq_append_getElem hlt,List.map_append];show _++[c']=_++[Co.asC RL[i]];rw[HYY.out,HXY.out]
     have u10:=hc7.cell 10 rfl;have uf10:=hc7.frz 10;clear hown hgrow hat q1' q2' hol hcb hn hc7 k8;refine hK.out _ _ HS7.out (fun hHeld=> ?_);clear hK K;refine Zm.u 9 ?_ rfl ?_ ?_;rotate_left
     ·intro w9 hSw;clear hSw;go_simp
      try with_reducible rfl
     simp only[Act.put,Zm.a,Zm.b,Zm.c];refine Zm.r 10 rfl (fun K hK=> ?_);go_simp;refine hK.out _ _ HS8.out (fun hHeld=> ?_);clear hK K;refine wpAnyH_done (by kernel_rfl) ?_ _;refine NoPanic.normal ?_;clear u10 uf10 cL6 cLB;go_wp2;go_roundw
     case rel=>exact⟨i+1,al',ql',by simp,by omega,HN2⟩
     case measure=>simp[intOf];omega
    ·go_simp;refine hcall.mono ?_;rintro e w6 ⟨um,ul,ut,up,uk,rfl,hr6,hb6⟩;obtain⟨h1,k1,s1,h2,k2,s2,h3,k3,s3,h4,k4,s4,h5,k5,s5,rfl,rfl,rfl,rfl,rfl⟩:=hr6.forms5;unfold Co.V;obtain⟨c',hX⟩:∃c',Co.asC y=c':=⟨_,rfl⟩
     rw[hX]at hr6 ⊢;have HXY:=hd hX;have HB6:Hid (Below wr.heap.size wr w6):=btr HBD.out hb6;have HR6:Hid (Co.Rep (fun k=>(F k∧k<w.heap.size)∨wr.heap.size≤k) w6 c' (.slice h1 k1 s1) (.slice h2 k2 s2) (.slice h3 k3 s3) (.slice h4 k4 s4) (.slice h5 k5 s5)):=Co.Rep.mono (fun b hb _=>hb.imp id (fun h=>Nat.le_trans HBD.out.size h)) c' hr6;have HS6:Hid (Dt.Six w6 b (ro2+i*6) y (.slice g1 i1 r1) (.slice g2 i2 r2) (.slice g3 i3 r3)):=Co.six_keep HSD.out HBLD.out (keep_of_below hb6) (S:=fun _=>False) id;obtain⟨wB,hwB⟩:∃wB,w6.alloc (.cells #[.int .i64 c'.k,.int .i64 c'.n,.string c'.s,.int .i64 c'.d.k,.int .i64 c'.d.n,.string c'.d.s,.slice h1 k1 s1,.slice h2 k2 s2,.slice h3 k3 s3,.slice h4 k4 s4,.slice h5 k5 s5] 28)=wB:=⟨_,rfl⟩
     obtain⟨hb7,hs7⟩:=new_below hwB;have HB7:=hd hb7;have HBB:Hid (Below wr.heap.size wr wB):=btr HB6.out hb7;have HSB:Hid (Dt.Six wB b (ro2+i*6) y (.slice g1 i1 r1) (.slice g2 i2 r2) (.slice g3 i3 r3)):=Co.six_keep HS6.out (Nat.lt_of_lt_of_le HBLD.out hb6.size) (keep_of_below hb7) (S:=fun _=>False) id;have cL6:=(HL.out.hc.below HB6.out).cell 10 rfl;have cLB:=(HL.out.hc.below HBB.out).cell 10 rfl;have HSRC:Hid (Ap.Src wB (.slice (some ⟨w6.heap.size,0,none⟩) 1 1) 1 [.int .i64 c'.k,.int .i64 c'.n,.string c'.s,.int .i64 c'.d.k,.int .i64 c'.d.n,.string c'.d.s,.slice h1 k1 s1,.slice h2 k2 s2,.slice h3 k3 s3,.slice h4 k4 s4,.slice h5 k5 s5]):=Co.srcNew hwB;have HOWB:Hid (wB.ownsRow Bs 28 11 (.slice al i ql) i (Co.flatC ps)):=by
      have h:=(HCR.out.keep (S:=fun _=>False) (keep_of_below HBB.out) (fun _ _ _ h=>h)).row;rw[←HPL.out]at h;exact h
     have hbs:Bs≤wB.heap.size:=Nat.le_trans HL.out.bs HBB.out.size;clear hX hr6 hb6 hb7 hs7
     try simp only[Act.put,Zm.a,Zm.b,Zm.c]
     refine hK.out _ _ HS6.out (fun hHeld=> ?_);clear hK K;refine Zm.q 1 7 rfl rfl (fun K hK=> ?_) (fun K hK=> ?_)
     ·go_simp;refine hK.out _ _ HS6.out (fun hHeld=> ?_);clear hK K;refine Zm.r 7 rfl (fun K hK=> ?_);go_simp
      try rw[hwB]
      refine hK.out _ _ HSB.out (fun hHeld=> ?_);clear hK K;clear hwB cLD;refine Zm.r 8 rfl (fun K hK=> ?_);refine Ap.step rfl (.tmp 157) (.tmp 163) 26 (by kernel_rfl) Bs 28 i0 (.agg #[.int .i64 0,.int .i64 0,.string ⟨#[]⟩,.int .i64 0,.int .i64 0,.string ⟨#[]⟩,.slice none 0 0,.slice none 0 0,.slice none 0 0,.slice none 0 0,.slice none 0 0]) 11 184 Tryz.underlying26 HI.out HI0.out HI1.out HI2.out rfl (by decide) (.slice al i ql) i (Co.flatC ps) (by kernel_rfl) HOWB.out (.slice (some ⟨w6.heap.size,0,none⟩) 1 1) 1 [.int .i64 c'.k,.int .i64 c'.n,.string c'.s,.int .i64 c'.d.k,.int .i64 c'.d.n,.string c'.d.s,.slice h1 k1 s1,.slice h2 k2 s2,.slice h3 k3 s3,.slice h4 k4 s4,.slice h5 k5 s5] (by kernel_rfl) HSRC.out rfl (by simp[Value.oneCell']) hm1 hm2 hbs ?_;intro v' w7 hown hgrow hat;obtain⟨al',ql',rfl⟩:=Dt.row_form hown;obtain⟨q1',q2'⟩:=HCR.out.push HL.out.bs (fun k hk=>by have:=HL.out.kb.size;have h1:=HCB.out;have h2:=HN.out;omega) HB6.out (p:=⟨c',.slice h1 k1 s1,.slice h2 k2 s2,.slice h3 k3 s3,.slice h4 k4 s4,.slice h5 k5 s5⟩) HR6.out HB7.out (by rw[←HPL.out];exact hown) hgrow hat;have hol:∀k,(Value.slice al i ql).ownBlock=some k→Bs≤k:=fun k e=>(Dt.own_lt HCR.out.row k e).1
      have hcb:=HCB.out;have hn:=HN.out;have HS7:Hid (Dt.Six w7 b (ro2+i*6) y (.slice g1 i1 r1) (.slice g2 i2 r2) (.slice g3 i3 r3)):=Co.six_keep (show Dt.Six wr b (ro2+i*6) y (.slice g1 i1 r1) (.slice g2 i2 r2) (.slice g3 i3 r3)from HSW.out) (by have:=HFB.out.2;have:=HL.out.kb.size;omega) q2' (fun e=>by have:=hol _ e;have:=HFB.out.2;omega);have hc7:Hp w7 C0 _ _:=HL.out.hc.keep q2' (fun e=>by have:=hol _ e;omega);have k8:=set_keep w7 C0 10 (.slice al' (i+1) ql');have HS8:Hid (Dt.Six (w7.setCell ⟨C0,10,none⟩ (.slice al' (i+1) ql')) b (ro2+i*6) y (.slice g1 i1 r1) (.slice g2 i2 r2) (.slice g3 i3 r3)):=Co.six_keep HS7.out (by have:=HFB.out.2;have:=HL.out.kb.size;have:=q2'.size;omega) k8 (fun(e:b=C0)=>by have:=HFB.out.2;omega);have HN2:Hid (Co.LI w F R0 C0 Bs b ro2 RL T vm vl vt vp (i+1) al' ql' (w7.setCell ⟨C0,10,none⟩ (.slice al' (i+1) ql'))):=by
       have kk8:Keep (fun k=>(Value.slice al i ql).ownBlock=some k∨k=C0) wr (w7.setCell ⟨C0,10,none⟩ (.slice al' (i+1) ql')):=(q2'.le fun k e=> .inl e).trans (k8.le fun k e=> .inr e);refine⟨hc7.set 10 _,Dt.Rep.keep kk8 (fun b hb _ e=>e.elim (fun e=>by have:=hol _ e;omega) (fun e=>by omega)) T.d HL.out.rd,HL.out.rp.keep kk8 (fun b hb _ e=>e.elim (fun e=>by have:=hol _ e;omega) (fun e=>by omega)),⟨ps++[⟨c',.slice h1 k1 s1,.slice h2 k2 s2,.slice h3 k3 s3,.slice h4 k4 s4,.slice h5 k5 s5⟩],by rw[List.length_append,←HPL.out];rfl,?_,?_⟩,Dt.Reps.keep kk8 (fun b hb _ e=>e.elim (fun e=>by have:=hol _ e;omega) (fun e=>by omega)) RL HFB.out (by have:=HFB.out.2;have:=HL.out.kb.size;omega) HL.out.rl,HL.out.hr.keep kk8 (fun e=>e.elim (fun e=>by have:=hol _ e;omega) (fun e=>by omega)),HL.out.kb.trans (kk8.to_below (fun k e=>e.elim (fun e=>by have:=hol _ e;omega) (fun e=>by omega)) HL.out.kb.size),Nat.le_trans HL.out.bs kk8.size⟩
       ·rw[HPL.out]at*;exact q1'.keep k8 (fun k hk _ (e:k=C0)=>by rcases hk with hk|hk <;> omega)
       ·rw[List.map_append,HPM.out,List.take_succ_eq_append_getElem hlt,List.map_append];show _++[c']=_++[Co.asC RL[i]];rw[HYY.out,HXY.out]
      have u10:=hc7.cell 10 rfl;have uf10:=hc7.frz 10;clear hown hgrow hat q1' q2' hol hcb hn hc7 k8;refine hK.out _ _ HS7.out (fun hHeld=> ?_);clear hK K;refine Zm.u 9 ?_ rfl ?_ ?_;rotate_left
      ·intro w9 hSw;clear hSw;go_simp
       try with_reducible rfl
      simp only[Act.put,Zm.a,Zm.b,Zm.c];refine Zm.r 10 rfl (fun K hK=> ?_);go_simp;refine hK.out _ _ HS8.out (fun hHeld=> ?_);clear hK K;refine wpAnyH_done (by kernel_rfl) ?_ _;refine NoPanic.normal ?_;clear u10 uf10 cL6 cLB;go_wp2;go_roundw
      case rel=>exact⟨i+1,al',ql',by simp,by omega,HN2⟩
      case measure=>simp[intOf];omega
     ·go_simp
      try rw[hwB]
      refine hK.out _ _ HSB.out (fun hHeld=> ?_);clear hK K;refine Zm.r 1 rfl (fun K hK=> ?_);go_simp;refine hK.out _ _ HSB.out (fun hHeld=> ?_);clear hK K;clear hwB cLD;refine Zm.r 8 rfl (fun K hK=> ?_);refine Ap.step rfl (.tmp 157) (.tmp 163) 26 (by kernel_rfl) Bs 28 i0 (.agg #[.int .i64 0,.int .i64 0,.string ⟨#[]⟩,.int .i64 0,.int .i64 0,.string ⟨#[]⟩,.slice none 0 0,.slice none 0 0,.slice none 0 0,.slice none 0 0,.slice none 0 0]) 11 184 Tryz.underlying26 HI.out HI0.out HI1.out HI2.out rfl (by decide) (.slice al i ql) i (Co.flatC ps) (by kernel_rfl) HOWB.out (.slice (some ⟨w6.heap.size,0,none⟩) 1 1) 1 [.int .i64 c'.k,.int .i64 c'.n,.string c'.s,.int .i64 c'.d.k,.int .i64 c'.d.n,.string c'.d.s,.slice h1 k1 s1,.slice h2 k2 s2,.slice h3 k3 s3,.slice h4 k4 s4,.slice h5 k5 s5] (by kernel_rfl) HSRC.out rfl (by simp[Value.oneCell']) hm1 hm2 hbs ?_;intro v' w7 hown hgrow hat;obtain⟨al',ql',rfl⟩:=Dt.row_form hown;obtain⟨q1',q2'⟩:=HCR.out.push HL.out.bs (fun k hk=>by have:=HL.out.kb.size;have h1:=HCB.out;have h2:=HN.out;omega) HB6.out (p:=⟨c',.slice h1 k1 s1,.slice h2 k2 s2,.slice h3 k3 s3,.slice h4 k4 s4,.slice h5 k5 s5⟩) HR6.out HB7.out (by rw[←HPL.out];exact hown) hgrow hat;have hol:∀k,(Value.slice al i ql).ownBlock=some k→Bs≤k:=fun k e=>(Dt.own_lt HCR.out.row k e).1
      have hcb:=HCB.out;have hn:=HN.out;have HS7:Hid (Dt.Six w7 b (ro2+i*6) y (.slice g1 i1 r1) (.slice g2 i2 r2) (.slice g3 i3 r3)):=Co.six_keep (show Dt.Six wr b (ro2+i*6) y (.slice g1 i1 r1) (.slice g2 i2 r2) (.slice g3 i3 r3)from HSW.out) (by have:=HFB.out.2;have:=HL.out.kb.size;omega) q2' (fun e=>by have:=hol _ e;have:=HFB.out.2;omega);have hc7:Hp w7 C0 _ _:=HL.out.hc.keep q2' (fun e=>by have:=hol _ e;omega);have k8:=set_keep w7 C0 10 (.slice al' (i+1) ql');have HS8:Hid (Dt.Six (w7.setCell ⟨C0,10,none⟩ (.slice al' (i+1) ql')) b (ro2+i*6) y (.slice g1 i1 r1) (.slice g2 i2 r2) (.slice g3 i3 r3)):=Co.six_keep HS7.out (by have:=HFB.out.2;have:=HL.out.kb.size;have:=q2'.size;omega) k8 (fun(e:b=C0)=>by have:=HFB.out.2;omega);have HN2:Hid (Co.LI w F R0 C0 Bs b ro2 RL T vm vl vt vp (i+1) al' ql' (w7.setCell ⟨C0,10,none⟩ (.slice al' (i+1) ql'))):=by
       have kk8:Keep (fun k=>(Value.slice al i ql).ownBlock=some k∨k=C0) wr (w7.setCell ⟨C0,10,none⟩ (.slice al' (i+1) ql')):=(q2'.le fun k e=> .inl e).trans (k8.le fun k e=> .inr e);refine⟨hc7.set 10 _,Dt.Rep.keep kk8 (fun b hb _ e=>e.elim (fun e=>by have:=hol _ e;omega) (fun e=>by omega)) T.d HL.out.rd,HL.out.rp.keep kk8 (fun b hb _ e=>e.elim (fun e=>by have:=hol _ e;omega) (fun e=>by omega)),⟨ps++[⟨c',.slice h1 k1 s1,.slice h2 k2 s2,.slice h3 k3 s3,.slice h4 k4 s4,.slice h5 k5 s5⟩],by rw[List.length_append,←HPL.out];rfl,?_,?_⟩,Dt.Reps.keep kk8 (fun b hb _ e=>e.elim (fun e=>by have:=hol _ e;omega) (fun e=>by omega)) RL HFB.out (by have:=HFB.out.2;have:=HL.out.kb.size;omega) HL.out.rl,HL.out.hr.keep kk8 (fun e=>e.elim (fun e=>by have:=hol _ e;omega) (fun e=>by omega)),HL.out.kb.trans (kk8.to_below (fun k e=>e.elim (fun e=>by have:=hol _ e;omega) (fun e=>by omega)) HL.out.kb.size),Nat.le_trans HL.out.bs kk8.size⟩
       ·rw[HPL.out]at*;exact q1'.keep k8 (fun k hk _ (e:k=C0)=>by rcases hk with hk|hk <;> omega)
       ·rw[List.map_append,HPM.out,List.take_succ_eq_append_getElem hlt,List.map_append];show _++[c']=_++[Co.asC RL[i]];rw[HYY.out,HXY.out]
      have u10:=hc7.cell 10 rfl;have uf10:=hc7.frz 10;clear hown hgrow hat q1' q2' hol hcb hn hc7 k8;refine hK.out _ _ HS7.out (fun hHeld=> ?_);clear hK K;refine Zm.u 9 ?_ rfl ?_ ?_;rotate_left
      ·intro w9 hSw;clear hSw;go_simp
       try with_reducible rfl
      simp only[Act.put,Zm.a,Zm.b,Zm.c];refine Zm.r 10 rfl (fun K hK=> ?_);go_simp;refine hK.out _ _ HS8.out (fun hHeld=> ?_);clear hK K;refine wpAnyH_done (by kernel_rfl) ?_ _;refine NoPanic.normal ?_;clear u10 uf10 cL6 cLB;go_wp2;go_roundw
      case rel=>exact⟨i+1,al',ql',by simp,by omega,HN2⟩
      case measure=>simp[intOf];omega
def Co.goodF:Nat→Dt.D→Bool
 |0,_=>false
 |f+1,d=>Co.goodTop d&&(Co.inner2 d).all (Co.goodF f)
theorem coRAs_any:∀(f:Nat) (d:Dt.D),Co.goodF f d=true→Co.AsIs d
 |0,_,h=>by cases h
 |f+1,d,h=>by
  rw[Co.goodF,Bool.and_eq_true]at h;exact coRAs_step d h.1 (fun y hy=>coRAs_any f y (List.all_eq_true.1 h.2 y hy))
end Go.Proofs.YtfjmlfbohenmfaaGreat
