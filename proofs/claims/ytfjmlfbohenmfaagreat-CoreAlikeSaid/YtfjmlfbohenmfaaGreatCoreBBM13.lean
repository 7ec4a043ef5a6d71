/-
  CoRCheckb, CoRFreeb, CoRPartsb, CoDatumb, CoOneb.
-/
import Derived.Test.YtfjmlfbohenmfaaGreatCoRGoesb
import Derived.Test.YtfjmlfbohenmfaaGreatCoreBBM2
import Derived.Test.YtfjmlfbohenmfaaGreatCoreBBM12
import Derived.Test.YtfjmlfbohenmfaaGreatCoreBBM11
import Derived.Deep.CutBlock
import Derived.StillTailTactics
import Derived.Test.YtfjmlfbohenmfaaGreatCoTellb
import Derived.Test.YtfjmlfbohenmfaaGreatCoSdb
import Derived.Test.YtfjmlfbohenmfaaGreatCoreBBM7
import Derived.Test.YtfjmlfbohenmfaaGreatCoreBBM3
import Derived.Test.YtfjmlfbohenmfaaGreatCoreBBM6
set_option maxRecDepth 100000
set_option maxHeartbeats 32000000
namespace Go.Proofs.YtfjmlfbohenmfaaGreat
open Go.RowKit
attribute [local go_sem] Oper.semAt_some
theorem rCheck07_any{G G2:Nat→Prop}(c:Co.C)(vm vl vt vp vk iv:Value)(win:List Int)(w:World)(hW:Co.Wf c)(hR:Co.Rep G w c vm vl vt vp vk)(hI:Dt.IRow G2 w iv win)(hl:win.length≤1000000):
  Calls Tryz.prog 11 #[Co.V c vm vl vt vp vk,iv] w fun e w'=>e= .returned (.int .i64 (Co.check c win))∧Below w.heap.size w w':=by
 obtain⟨b1,n1,q1,b2,n2,q2,b3,n3,q3,b4,n4,q4,b5,n5,q5,rfl,rfl,rfl,rfl,rfl⟩:=hR.forms5;unfold Co.V;obtain⟨w1,hw1⟩:∃w1,w.alloc (.cells #[.int .i64 c.k,.int .i64 c.n,.string c.s,.int .i64 c.d.k,.int .i64 c.d.n,.string c.d.s,.slice b1 n1 q1,.slice b2 n2 q2,.slice b3 n3 q3,.slice b4 n4 q4,.slice b5 n5 q5] 28)=w1:=⟨_,rfl⟩
 obtain⟨hb1,hs1⟩:=new_below hw1;obtain⟨j0,hj,hj0,hj1,hj2⟩:=info_parts Dt.infoI;have hm1:0+win.length≤maxLen:=by unfold maxLen;omega
 have hm2:(0+win.length)*8≤140737488355328:=by omega
 have HSRC:Hid (Ap.Src2 w1 iv win.length (Co.ints win)):=(hI.below hb1).src2;have Hc:=zh (Hp.new hw1);obtain⟨y0,y1,y2,y3,y4,y5,y6,y7,y8,y9,y10⟩:=Hc.out.c11;have HB1:=zh hb1;have HR:=zh (Co.Rep.mono (fun b hb hl=>(⟨hb,hl⟩:G b∧b<w.heap.size)) c hR);have HI:=zh (Co.irow_mono (fun b hb hl=>(⟨hb,hl⟩:G2 b∧b<w.heap.size)) hI);have HW:=zh hW;clear hb1 hR hI hW;go_enter Tryz.func11,Tryz.ntmps11;go_wp2_with(at_builtin;refine Ap.list2 rfl _ _ 22 rfl w1.heap.size 3 j0 (.int .i64 0) 1 8 Tryz.underlying22 hj hj0 hj1 hj2 rfl (by decide) (.slice none 0 0) 0 [] rfl (World.ownsRow_nil _ _ _ _) iv win.length (Co.ints win) rfl HSRC.out (by unfold Co.ints;simp) (by unfold Co.ints;intro u hu;obtain⟨x,_,rfl⟩:=List.mem_map.1 hu;rfl) hm1 hm2 (Nat.le_refl _) ?_;intro v' w5 hown hg hat;simp only[Nat.zero_add,List.nil_append]at hown ⊢;obtain⟨a5,c5,rfl⟩:=Dt.row_form hown;have HOWN:=zh hown;have HG5:=zh hg;clear hown hg hat;have hk5:Keep (fun _=>False) w1 w5:=(Co.grown_keep2 (Below.refl _ _) HG5.out).le (fun k e=>by simp[Value.ownBlock]at e);have Hc5:Hid (Hp w5 w.heap.size _ _):=Hc.out.keep hk5 id;have HK5:=zh hk5;clear hk5 y0 y1 y2 y3 y4 y5 y6 y7 y8 y9 y10;have hW6:w5.alloc (.cells #[.slice none 0 0,.slice a5 win.length c5,.int .i64 0,.bool false] 66)=w5.alloc (.cells #[.slice none 0 0,.slice a5 win.length c5,.int .i64 0,.bool false] 66):=rfl;obtain⟨hb6,hs6⟩:=new_below hW6;have HB6:=zh hb6;have Hx6:=zh (Hp.new hW6);have Hc6:=zh (Hc5.out.below hb6);clear hW6 hb6 hs6;obtain⟨y0,y1,y2,y3,y4,y5,y6,y7,y8,y9,y10⟩:=Hc6.out.c11)
 have HRW:Hid (Co.RW (fun k=>G k∧k<w.heap.size) (w5.alloc (.cells #[.slice none 0 0,.slice a5 win.length c5,.int .i64 0,.bool false] 66)) w1.heap.size w5.heap.size 0 false (.slice none 0 0) (.slice a5 win.length c5) [] win):=by
  have hs:=HK5.out.size;have hle:∀k,(Value.slice a5 win.length c5).ownBlock=some k→k<w5.heap.size:=fun k e=>(Dt.own_lt HOWN.out k e).2
  exact⟨Hx6.out,World.ownsRow_nil _ _ _ _,(fun p hp=>nomatch hp),Dt.own_keep (S:=fun _=>False) HOWN.out (keep_of_below HB6.out) (fun _ _ h=>h),hs,(fun e=>nomatch e),(fun e=>Nat.lt_irrefl _ (hle _ e)),(fun k e=>nomatch e)⟩
 have hbw6:Below w.heap.size w (w5.alloc (.cells #[.slice none 0 0,.slice a5 win.length c5,.int .i64 0,.bool false] 66)):=by
  have h1:Below w.heap.size w w5:=HB1.out.trans (HK5.out.to_below (fun k h=>h.elim) HB1.out.size);exact(btr h1 HB6.out)
 have hcall:=coRGoes_any c (fun k=>G k∧k<w.heap.size) (fun k=>G2 k∧k<w.heap.size) w1.heap.size w5.heap.size false (.slice none 0 0) (.slice a5 win.length c5) _ _ _ _ _ iv [] win win _ 1 true 0 HW.out (HR.out.below hbw6) (fun k hk=>by omega) HRW.out (HI.out.below hbw6) (fun k hk _ e=>by
  have hs:=HK5.out.size;rcases e with e|e|e
  ·omega
  ·cases e
  ·have:=(Dt.own_lt HOWN.out k e).1;omega) (by omega) (by omega) (fun _=>⟨by simpa using hl,by simp⟩)
 unfold Co.V at hcall;have hcall':Calls Tryz.prog 37 #[.pointer (some ⟨w5.heap.size,0,none⟩),.agg #[.int .i64 c.k,.int .i64 c.n,.string c.s,.int .i64 c.d.k,.int .i64 c.d.n,.string c.d.s,.slice b1 n1 q1,.slice b2 n2 q2,.slice b3 n3 q3,.slice b4 n4 q4,.slice b5 n5 q5],.int .i64 1,iv,.bool true] _ _:=hcall;have HBW6:=zh hbw6;clear hcall hbw6 hw1;go_wp2_with fail
 refine hcall'.mono ?_;rintro e w7 ⟨rfl,e',pv',bv',ps',bd',g1,g2,-,-,-,g6⟩;obtain⟨g7,-⟩:=g6 rfl;have HX7:=zh g1.hp;have x2:=HX7.out.cell 2 rfl;have HBF:Hid (Below w.heap.size w w7):=HBW6.out.trans (g2.to_below (fun k h=>by have h1:=Co.WS.low HRW.out h;omega) HBW6.out.size);have he:e'=Co.check c win:=g7;subst he;clear y0 y1 y2 y3 y4 y5 y6 y7 y8 y9 y10 hcall' g1 g2 g6 g7;go_wp2;go_ret;exact⟨rfl,HBF.out⟩
namespace Co
def FreeIs(c:C):Prop:=∀(G Fw Fo:Nat→Prop) (vm vl vt vp vk iv ov:Value) (win out:List Int) (w:World),Wf c→Snd c→Rep G w c vm vl vt vp vk→Dt.IRow Fw w iv win→Dt.IRow Fo w ov out→win.length+32*(parts c).length≤1000000→out.length+(parts c).length≤100000→
 Calls Tryz.prog 54 #[V c vm vl vt vp vk,iv,ov] w fun e w'=>∃v',e= .returned v'∧Dt.IRow (fun k=>Fo k∨w.heap.size≤k) w' v' (free c win out)∧Below w.heap.size w w'
theorem free_eq(c:C)(win out:List Int):free c win out=freeL c.l (inner c.k c.p win) (if(c.k=2∨c.k=4)∧win.contains c.n=false then put out c.n else out):=by
 obtain⟨k,n,s,d,p,l⟩:=c;rw[free]
 rfl
theorem parts_len(c:C):(parts c).length=1+(partsL c.l).length:=by
 obtain⟨k,n,s,d,p,l⟩:=c;rw[parts,List.length_cons];show _+1=1+(partsL l).length;omega
mutual
theorem free_len:∀(c:C) (win out:List Int),(free c win out).length≤out.length+(parts c).length
 | .mk k n s d p l,win,out=>by
  rw[free_eq,parts_len];have h:=freeL_len l (inner k p win) (if(k=2∨k=4)∧win.contains n=false then put out n else out);have h2:(if(k=2∨k=4)∧win.contains n=false then put out n else out).length≤out.length+1:=by
   split
   ·exact put_len out n
   ·omega
  show(freeL l _ _).length≤out.length+(1+(partsL l).length);exact Nat.le_trans h (by omega)
theorem freeL_len:∀(l:List C) (win out:List Int),(freeL l win out).length≤out.length+(partsL l).length
 |[],_,_=>by rw[freeL];omega
 |c :: r,win,out=>by
  rw[freeL,partsL,List.length_append];have h1:=free_len c win out;have h2:=freeL_len r win (free c win out);omega
end
theorem partsL_split{l:List C}{j:Nat}(hj:j<l.length):(partsL l).length=(partsL (l.take j)).length+((parts l[j]).length+(partsL (l.drop (j+1))).length):=by
 induction l generalizing j with
 |nil=>simp at hj
 |cons a r ih=>
  cases j with
  |zero=>rw[partsL,List.length_append];simp[partsL]
  |succ j=>
   have:=ih (j:=j) (by simpa using hj);rw[partsL,List.length_append,List.take_succ_cons,partsL,List.length_append,this];simp;omega
structure FInv(Fw Fo:Nat→Prop)(c:C)(w:World)(cs:Array Value)(win2 out1:List Int)(iv2:Value)(j:Nat)(ov:Value)(wr:World):Prop where
 row:∃oj,Dt.IRow (fun k=>Fo k∧k<w.heap.size∨w.heap.size≤k) wr ov oj∧freeL c.l win2 out1=freeL (c.l.drop j) win2 oj∧oj.length≤out1.length+(partsL (c.l.take j)).length
 iv:Dt.IRow (fun k=>Fw k∧k<w.heap.size∨w.heap.size≤k) wr iv2 win2
 bx:Hp wr w.heap.size cs 28
 kb:Below (w.heap.size+1) wr wr
 bl:Below w.heap.size w wr
end Co
theorem coRFree_step(c:Co.C)(hch:∀y∈c.l,Co.FreeIs y):Co.FreeIs c:=by
 intro G Fw Fo vm vl vt vp vk iv ov win out w hW hS hR hI hO hwl hol;obtain⟨hal,hl8,hsl⟩:=Co.snd_parts hS;obtain⟨-,hrp,hrk⟩:=(Co.rep_iff _ _ _ _ _ _ _ _).1 hR;obtain⟨b1,n1,q1,b2,n2,q2,b3,n3,q3,b4,n4,q4,b5,n5,q5,rfl,rfl,rfl,rfl,rfl⟩:=hR.forms5;obtain⟨_,_,he5,_,_⟩:=id hrk;injection he5 with he5a he5b he5c
 subst he5b;clear he5a he5c;obtain⟨_,_,he4,_,_⟩:=id hrp;injection he4 with he4a he4b he4c
 subst he4b;clear he4a he4c;have hp32:=Co.alone_p32 hal;have hpl:=Co.parts_len c;unfold Co.V;obtain⟨w1,hw1⟩:∃w1,w.alloc (.cells #[.int .i64 c.k,.int .i64 c.n,.string c.s,.int .i64 c.d.k,.int .i64 c.d.n,.string c.d.s,.slice b1 n1 q1,.slice b2 n2 q2,.slice b3 n3 q3,.slice b4 c.p.length q4,.slice b5 c.l.length q5] 28)=w1:=⟨_,rfl⟩
 obtain⟨hb1,hs1⟩:=new_below hw1;obtain⟨j0,hj,hj0,hj1,hj2⟩:=info_parts Dt.infoI;have HJ:=zh hj;have HJ0:=zh hj0;have HJ1:=zh hj1;have HJ2:=zh hj2;have Hc:=zh (Hp.new hw1);have HB1:=zh hb1;have HS1:=zh hs1;have HR:=zh hR;have HPW:=zh hrp;have HI:=zh (Co.irow_mono (G:=(fun k=>Fw k∧k<w.heap.size∨w.heap.size≤k)) (fun b hb hl=> .inl ⟨hb,hl⟩) hI);have HO:=zh (Co.irow_mono (G:=(fun k=>Fo k∧k<w.heap.size∨w.heap.size≤k)) (fun b hb hl=> .inl ⟨hb,hl⟩) hO);have HWL:Hid (Co.Wfs c.l):=(Co.wf_parts hW).2.2.2.2.2.2;have HSL:=zh hsl;have HCH:=zh hch;obtain⟨c0,c1,c2,c3,c4,c5,c6,c7,c8,c9,c10⟩:=Hc.out.c11;clear hb1 hs1 hR hI hO hrp hrk hW hS hal hch hsl hj hj0 hj1 hj2;go_enter Tryz.func54,Tryz.ntmps54;go_upto_region 1 with fail
 clear hw1;obtain⟨DB,hDB⟩:∃DB,decide ((c.k=2∨c.k=4)∧win.contains c.n=false)=DB:=⟨_,rfl⟩
 have HDB:=zh hDB;obtain⟨o1,ho1⟩:∃o1,(if(c.k=2∨c.k=4)∧win.contains c.n=false then Co.put out c.n else out)=o1:=⟨_,rfl⟩
 have HO1:=zh ho1;clear hDB ho1
 go_cut [23] (fun v wx=>v= .bool DB∧wx=w1)
 case first=>
  have hin:=inI_any iv win c.n w1 (HI.out.below HB1.out) (by omega);obtain⟨R,hR⟩:∃R,win.contains c.n=R:=⟨_,rfl⟩
  rw[hR]at hin HDB;clear hR;by_cases gq:c.k=2∨c.k=4
  case neg=>
   have t4:(c.k==2)=false:=by rw[beq_eq_false_iff_ne];omega
   have t5:(c.k==4)=false:=by rw[beq_eq_false_iff_ne];omega
   obtain rfl:DB=false:=by rw[←HDB.out];exact decide_eq_false (fun h=>gq h.1)
   clear gq;go_wp2;go_meet;exact⟨rfl,rfl⟩
  have t45:(c.k==2)=true∨((c.k==2)=false∧(c.k==4)=true):=by
   rcases gq with e|e
   ·exact .inl (by simpa using e)
   ·exact .inr ⟨by rw[beq_eq_false_iff_ne];omega,by simpa using e⟩
  obtain rfl:DB= !R:=by
   rw[←HDB.out];cases R
   ·exact decide_eq_true ⟨gq,rfl⟩
   ·exact decide_eq_false (fun h=>by cases h.2)
  clear gq;rcases t45 with t4|⟨t4,t5⟩
  all_goals
   go_wp2_with((go_at_call 67;refine hin.mono ?_;rintro e w5 ⟨rfl,rfl⟩))
   go_meet;exact⟨rfl,rfl⟩
 case rest=>
  obtain⟨rfl,hw⟩:=hcut;obtain rfl:w1=wc:=hw.symm
  go_upto_if 23 with fail
  go_cut [2] (fun v wx=>∃ov1:Value,ov1=v∧Dt.IRow (fun k=>Fo k∧k<w.heap.size∨w.heap.size≤k) wx ov1 o1∧Below w1.heap.size w1 wx)
  case first=>
   by_cases hd:(c.k=2∨c.k=4)∧win.contains c.n=false
   ·obtain rfl:DB=true:=by rw[←HDB.out];exact decide_eq_true hd
    obtain rfl:o1=Co.put out c.n:=by rw[←HO1.out];exact if_pos hd
    have hpu:=putR_any ov out c.n w1 (HO.out.below HB1.out) (by omega);clear hd;go_wp2_with((go_at_call 55;refine hpu.mono ?_;rintro e w5 ⟨v',rfl,hi5,hb5⟩;have HI5:=zh hi5;have HB5:=zh hb5;clear hi5 hb5 hpu))
    go_meet;exact⟨_,rfl,Co.irow_mono (fun b hb _=> .inr (by have:=HS1.out;omega)) HI5.out,HB5.out⟩
   ·obtain rfl:DB=false:=by rw[←HDB.out];exact decide_eq_false hd
    obtain rfl:o1=out:=by rw[←HO1.out];exact if_neg hd
    clear hd;go_wp2;go_meet;exact⟨_,rfl,HO.out.below HB1.out,Below.refl _ _⟩
  case rest=>
   obtain⟨ov1,hv1,hi1,hbw1⟩:=hcut;subst hv1;obtain⟨w2,rfl⟩:∃w2,w2=wc:=⟨_,rfl⟩
   have HI1:=zh hi1;have HBW1:=zh hbw1;have HC2:Hid (Hp w2 w.heap.size #[.int .i64 c.k,.int .i64 c.n,.string c.s,.int .i64 c.d.k,.int .i64 c.d.n,.string c.d.s,.slice b1 n1 q1,.slice b2 n2 q2,.slice b3 n3 q3,.slice b4 c.p.length q4,.slice b5 c.l.length q5] 28):=Hc.out.below hbw1;have HB2:Hid (Below w.heap.size w w2):=btr HB1.out hbw1;have HSZ2:Hid (w.heap.size<w2.heap.size):=by have h1:=HS1.out;have h2:=hbw1.size;show _<_;omega
   clear hi1 hbw1 c0 c1 c2 c3 c4 c5 c6 c7 c8 c9 c10;have hcF:Hp w2 w.heap.size _ _:=HC2.out;have c0:=hcF.cell 0 rfl;clear hcF
   go_upto_if 31 with fail
   go_cut [7] (fun v wx=>∃iv1:Value,iv1=v∧Dt.IRow (fun k=>Fw k∧k<w.heap.size∨w.heap.size≤k) wx iv1 (Co.inner c.k c.p win)∧Below w2.heap.size w2 wx)
   case first=>
    by_cases hk8:c.k=8
    case neg=>
     have hkb:(c.k==8)=false:=by simpa using hk8
     have HE:Hid ((fun v wx=>∃iv1:Value,iv1=v∧Dt.IRow (fun k=>Fw k∧k<w.heap.size∨w.heap.size≤k) wx iv1 (Co.inner c.k c.p win)∧Below w2.heap.size w2 wx) iv w2):=⟨_,rfl,by unfold Co.inner;rw[if_neg hk8];exact HI.out.below HB2.out,Below.refl _ _⟩
     clear hk8 c0;go_wp2;go_meet;exact HE.out
    have hkb:(c.k==8)=true:=by simpa using hk8
    have HK8:=zh hk8;clear hk8;go_wp2;clear c0;obtain⟨wD,hwD⟩:∃wD,w2.drew=wD:=⟨_,rfl⟩
    have hbD:=Co.drew_below w2;rw[hwD]at hbD;have HSD:Hid (Hp wD w.heap.size #[.int .i64 c.k,.int .i64 c.n,.string c.s,.int .i64 c.d.k,.int .i64 c.d.n,.string c.d.s,.slice b1 n1 q1,.slice b2 n2 q2,.slice b3 n3 q3,.slice b4 c.p.length q4,.slice b5 c.l.length q5] 28):=HC2.out.below hbD;have HBD:=zh hbD;have hbw:Below w.heap.size w wD:=btr HB2.out hbD;have HSR1:Hid (Ap.Src2 wD iv win.length (Co.ints win)):=(HI.out.below hbw).src2;have HPD:Hid (Dt.IRow G wD (.slice b4 c.p.length q4) c.p):=HPW.out.below hbw;have hn1:0+win.length≤maxLen:=by unfold maxLen;omega
    have hn2:(0+win.length)*8≤140737488355328:=by omega
    have hn3:(0+win.length)+c.p.length≤maxLen:=by unfold maxLen;omega
    have hn4:((0+win.length)+c.p.length)*8≤140737488355328:=by omega
    clear hbD hbw;refine wp_region_noPanic ?_;refine wp_region_held_drew (S:=fun w'=>Hp w' w.heap.size #[.int .i64 c.k,.int .i64 c.n,.string c.s,.int .i64 c.d.k,.int .i64 c.d.n,.string c.d.s,.slice b1 n1 q1,.slice b2 n2 q2,.slice b3 n3 q3,.slice b4 c.p.length q4,.slice b5 c.l.length q5] 28) (by kernel_rfl) (by rw[hwD];exact HSD.out) (fun hHeld=> ?_);rw[hwD]at hHeld ⊢;clear hwD;refine Zm.u 0 ?_ rfl ?_ ?_;rotate_left
    ·intro w9 hSw;clear hSw;go_simp;try with_reducible rfl
    simp only[Act.put,za,zb,zc];refine Zm.u 2 ?_ rfl ?_ ?_;rotate_left
    ·intro w9 hSw;clear hSw;go_simp;try with_reducible rfl
    simp only[Act.put,za,zb,zc];refine Zm.u 3 ?_ rfl ?_ ?_;rotate_left
    ·intro w9 hSw;have hC:Hp w9 w.heap.size _ _:=hSw;have c9:=hC.cell 9 rfl;clear hC;clear hSw;go_simp;try with_reducible rfl
    simp only[Act.put,za,zb,zc];refine Zm.r 1 rfl (fun K hK=> ?_);refine Ap.step2 rfl (.const (.slice none 0 0)) (.tmp 32) 22 (by kernel_rfl) wD.heap.size 3 j0 (.int .i64 0) 1 8 Tryz.underlying22 HJ.out HJ0.out HJ1.out HJ2.out rfl (by decide) (.slice none 0 0) 0 [] (by kernel_rfl) (World.ownsRow_nil _ _ _ _) iv win.length (Co.ints win) (by kernel_rfl) HSR1.out (by unfold Co.ints;simp) (by unfold Co.ints;intro u hu;obtain⟨x,-,rfl⟩:=List.mem_map.1 hu;rfl) hn1 hn2 (Nat.le_refl _) ?_;intro v1 wE hown1 hgrow1 hat1;obtain⟨a1',c1',rfl⟩:=Dt.row_form hown1;have hkE:Keep (fun _=>False) wD wE:=(Co.grown_keep2 (Below.refl _ _) hgrow1).le (fun k e=>by simp[Value.ownBlock]at e);have HSE:Hid (Hp wE w.heap.size #[.int .i64 c.k,.int .i64 c.n,.string c.s,.int .i64 c.d.k,.int .i64 c.d.n,.string c.d.s,.slice b1 n1 q1,.slice b2 n2 q2,.slice b3 n3 q3,.slice b4 c.p.length q4,.slice b5 c.l.length q5] 28):=HSD.out.keep hkE id;have HOW1:=zh hown1;have HKE:=zh hkE;have HSR2:Hid (Ap.Src2 wE (.slice b4 c.p.length q4) c.p.length (Co.ints c.p)):=(HPD.out.keep hkE (fun _ _ _ h=>h)).src2;have hbE:wD.heap.size≤wE.heap.size:=hkE.size;clear hown1 hgrow1 hat1 hkE;refine hK.out _ _ HSE.out (fun hHeld=> ?_);clear hK K;refine Zm.r 4 rfl (fun K hK=> ?_);refine Ap.step2 rfl (.tmp 33) (.tmp 35) 22 (by kernel_rfl) wD.heap.size 3 j0 (.int .i64 0) 1 8 Tryz.underlying22 HJ.out HJ0.out HJ1.out HJ2.out rfl (by decide) (.slice a1' (0+win.length) c1') (0+win.length) ([]++Co.ints win) (by kernel_rfl) HOW1.out (.slice b4 c.p.length q4) c.p.length (Co.ints c.p) (by kernel_rfl) HSR2.out (by unfold Co.ints;simp) (by unfold Co.ints;intro u hu;obtain⟨x,-,rfl⟩:=List.mem_map.1 hu;rfl) hn3 hn4 hbE ?_;intro v2 wG hown2 hgrow2 hat2;obtain⟨a2',c2',rfl⟩:=Dt.row_form hown2;have hkG:Keep (fun k=>wD.heap.size≤k) wD wG:=(HKE.out.le fun k e=>e.elim).trans ((Co.grown_keep2 (Below.refl _ _) hgrow2).le (fun k e=>(Dt.own_lt HOW1.out k e).1));have HSG:Hid (Hp wG w.heap.size #[.int .i64 c.k,.int .i64 c.n,.string c.s,.int .i64 c.d.k,.int .i64 c.d.n,.string c.d.s,.slice b1 n1 q1,.slice b2 n2 q2,.slice b3 n3 q3,.slice b4 c.p.length q4,.slice b5 c.l.length q5] 28):=HSD.out.keep hkG (fun e=>by have h1:=HBD.out.size;have h2:=HSZ2.out;have e:wD.heap.size≤w.heap.size:=e;omega);have HE:Hid ((fun v wx=>∃iv1:Value,iv1=v∧Dt.IRow (fun k=>Fw k∧k<w.heap.size∨w.heap.size≤k) wx iv1 (Co.inner c.k c.p win)∧Below w2.heap.size w2 wx) (.slice a2' (0+win.length+c.p.length) c2') wG):=by
     have hbw:Below w2.heap.size w2 wG:=HBD.out.trans ((hkG.to_below (n:=w2.heap.size) (fun k e=>by have:=HBD.out.size;omega) (by have:=HBD.out.size;omega)));refine⟨_,rfl,?_,hbw⟩;have hi:Dt.IRow (fun k=>wD.heap.size≤k) wG (.slice a2' (0+win.length+c.p.length) c2') (win++c.p):=Dt.IRow.of_own (by
      have h:=hown2;rw[List.length_append];unfold Co.ints at h;simp only[Nat.zero_add,List.nil_append]at h ⊢;rw[List.map_append];exact h)
     unfold Co.inner;rw[if_pos HK8.out];exact Co.irow_mono (fun b hb hl=> .inr (by have h1:=HBD.out.size;have h2:=HSZ2.out;omega)) hi
    clear hown2 hgrow2 hat2 hkG;refine hK.out _ _ HSG.out (fun hHeld=> ?_);clear hK K;refine Zm.u 5 ?_ rfl ?_ ?_;rotate_left
    ·intro w9 hSw;clear hSw;go_simp;try with_reducible rfl
    simp only[Act.put,za,zb,zc];refine wpAnyH_done (by kernel_rfl) ?_ _;refine NoPanic.normal ?_;clear HSD HBD HSR1 HPD HSE HOW1 HKE HSR2 HSG;go_wp2;go_meet;have h:=HE.out;simp only[Nat.zero_add]at h;exact h
   case rest=>
    obtain⟨iv1,hiv,hi2,hbw2⟩:=hcut;subst hiv;obtain⟨w3,rfl⟩:∃w3,w3=wc:=⟨_,rfl⟩
    have HB3:Hid (Below w.heap.size w w3):=btr HB2.out hbw2;have HINV:Hid (Co.FInv Fw Fo c w #[.int .i64 c.k,.int .i64 c.n,.string c.s,.int .i64 c.d.k,.int .i64 c.d.n,.string c.d.s,.slice b1 n1 q1,.slice b2 n2 q2,.slice b3 n3 q3,.slice b4 c.p.length q4,.slice b5 c.l.length q5] (Co.inner c.k c.p win) o1 iv1 0 ov1 w3):=⟨⟨_,HI1.out.below hbw2,by rw[List.drop_zero],by omega⟩,hi2,HC2.out.below hbw2,Below.refl _ _,HB3.out⟩
    have hwl2:(Co.inner c.k c.p win).length+32*(Co.partsL c.l).length≤1000000:=by
     unfold Co.inner;split
     ·rw[List.length_append];omega
     ·omega
    have hol2:o1.length+(Co.partsL c.l).length≤100000:=by
     rw[←HO1.out];split
     ·have:=Co.put_len out c.n;omega
     ·omega
    clear hi2 hbw2 c0;go_wp2
    go_loopw [2,8] (fun v2 v8 wr=>∃(j:Nat) (ovj:Value),ovj=v2∧v8= .int .i64 j∧j≤c.l.length∧Hid (Co.FInv Fw Fo c w #[.int .i64 c.k,.int .i64 c.n,.string c.s,.int .i64 c.d.k,.int .i64 c.d.n,.string c.d.s,.slice b1 n1 q1,.slice b2 n2 q2,.slice b3 n3 q3,.slice b4 c.p.length q4,.slice b5 c.l.length q5] (Co.inner c.k c.p win) o1 iv1 j ovj wr)) (fun _ v8 _=>c.l.length - (intOf v8).toNat)
    case atStart=>exact⟨0,_,rfl,rfl,by omega,HINV⟩
    case round=>
     clear HINV;obtain⟨j,ovj,hov,rfl,hj,HL⟩:=hrel;subst hov;have hcr:Hp wr w.heap.size _ _:=HL.out.bx;have c10:=hcr.cell 10 rfl;clear hcr;obtain⟨oj,hoj,hfj,hlj⟩:=HL.out.row;by_cases hlt:j<c.l.length
     case neg=>
      have hge:(c.l.length:Int)≤(j:Int):=by omega
      obtain rfl:j=c.l.length:=by omega
      have HF:Hid (Dt.IRow (fun k=>Fo k∨w.heap.size≤k) wr ovj (Co.free c win out)):=by
       rw[Co.free_eq,HO1.out,hfj,List.drop_length,Co.freeL];exact Co.irow_mono (fun b hb _=>hb.imp (fun h=>h.1) id) hoj
      have HBL:Hid (Below w.heap.size w wr):=HL.out.bl;clear hoj hfj hlj;go_wp2;go_ret;exact⟨_,rfl,HF.out,HBL.out⟩
     have hlti:(j:Int)<(c.l.length:Int):=by omega
     obtain⟨-,-,⟨_,_,he,_,hrow⟩⟩:=(Co.rep_iff _ _ _ _ _ _ _ _).1 (HR.out.below HL.out.bl);injection he with he1 he2 he3
     subst he1;clear he2 he3;obtain⟨kb,ko,rfl,hGk,hkl,hreps⟩:=hrow (by intro h0;rw[h0]at hlt;simp at hlt);obtain⟨um,ul,ut,up,uk,hel,hry⟩:=hreps.at j hlt;have hmem:c.l[j]∈c.l:=List.getElem_mem hlt;have hsp:=Co.partsL_split hlt;have hcall:=HCH.out c.l[j] hmem G _ _ um ul ut up uk iv1 ovj (Co.inner c.k c.p win) oj wr (HWL.out.at j hlt) (HSL.out.at _ hmem) hry HL.out.iv hoj (by omega) (by omega);have hnx:Co.freeL c.l (Co.inner c.k c.p win) o1=Co.freeL (c.l.drop (j+1)) (Co.inner c.k c.p win) (Co.free c.l[j] (Co.inner c.k c.p win) oj):=by rw[hfj,List.drop_eq_getElem_cons hlt,Co.freeL]
     have hnl:(Co.free c.l[j] (Co.inner c.k c.p win) oj).length≤o1.length+(Co.partsL (c.l.take (j+1))).length:=by
      have h1:=Co.free_len c.l[j] (Co.inner c.k c.p win) oj;rw[Co.partsL_take hlt,List.length_append];omega
     obtain⟨y,hy⟩:∃y,c.l[j]=y:=⟨_,rfl⟩
     rw[hy]at hel hry hcall hnx hnl;obtain⟨g1,i1,r1,g2,i2,r2,g3,i3,r3,g4,i4,r4,g5,i5,r5,rfl,rfl,rfl,rfl,rfl⟩:=hry.forms5;unfold Co.V at hcall;obtain⟨e0,e1,e2,e3,e4,e5,e6,e7,e8,e9,e10⟩:=hel;have HNX:=zh hnx;have HNL:=zh hnl;clear hnx hnl hrow hreps hry hmem hGk hkl hy hsp hoj hfj hlj;go_wp2_with fail
     refine hcall.mono ?_;rintro e w6 ⟨v',rfl,hi6,hb6⟩;have HN:Hid (Co.FInv Fw Fo c w #[.int .i64 c.k,.int .i64 c.n,.string c.s,.int .i64 c.d.k,.int .i64 c.d.n,.string c.d.s,.slice b1 n1 q1,.slice b2 n2 q2,.slice b3 n3 q3,.slice b4 c.p.length q4,.slice (some ⟨kb,ko,none⟩) c.l.length q5] (Co.inner c.k c.p win) o1 iv1 (j+1) v' w6):=⟨⟨_,Co.irow_mono (fun b hb _=>hb.elim id (fun h=> .inr (by have:=HL.out.bl.size;omega))) hi6,HNX.out,HNL.out⟩,HL.out.iv.below hb6,HL.out.bx.below hb6,Below.refl _ _,HL.out.bl.trans (hb6.mono HL.out.bl.size)⟩
     clear hcall hi6 hb6 e0 e1 e2 e3 e4 e5 e6 e7 e8 e9 e10 c10;go_wp2;go_roundw
     case rel=>exact⟨j+1,v',rfl,by simp,by omega,HN⟩
     case measure=>simp[intOf];omega
mutual
theorem coRFree_any:∀c:Co.C,Co.FreeIs c
 | .mk k n s d p l=>coRFree_step (.mk k n s d p l) (coRFreeL_any l)
theorem coRFreeL_any:∀(l:List Co.C),∀y∈l,Co.FreeIs y
 |[],_,h=>absurd h (by simp)
 |c :: r,y,h=>(List.mem_cons.1 h).elim (fun e=>by rw[e];exact coRFree_any c) (fun h'=>coRFreeL_any r y h')
end
namespace Co
def PartsPost(G:Nat→Prop)(_c:C)(ls:List C)(w:World)(e:Ending)(w':World):Prop:=
 ∃v ps,e= .returned v∧w'.ownsRow w.heap.size 28 11 v ps.length (flatC ps)∧ps.map PC.c=ls∧(ps=[]→v= .slice none 0 0)∧(∀p∈ps,p.rep (fun k=>G k∧k<w.heap.size) w')∧Below w.heap.size w w'
theorem nil_none{w:World}{base:Nat}{v:Value}{ps:List PC}(h:w.ownsRow base 28 11 v ps.length (flatC ps))(hn:ps≠[]):∃g c,v= .slice (some ⟨g,0,none⟩) ps.length c:=by
 rcases h.2 with⟨-,h0⟩|⟨g,cap,cur,e,-⟩
 ·exact absurd (List.length_eq_zero_iff.1 h0) hn
 ·exact⟨g,cap,e⟩
end Co
theorem rParts_any{G:Nat→Prop}(c:Co.C)(vm vl vt vp vk:Value)(w:World)(hW:Co.Wf c)(hR:Co.Rep G w c vm vl vt vp vk):
  Calls Tryz.prog 53 #[Co.V c vm vl vt vp vk] w (Co.PartsPost G c (if Co.openE c=0 then Co.parts c else []) w):=by
 obtain⟨b1,n1,q1,b2,n2,q2,b3,n3,q3,b4,n4,q4,b5,n5,q5,rfl,rfl,rfl,rfl,rfl⟩:=hR.forms5;unfold Co.V;obtain⟨w1,hw1⟩:∃w1,w.alloc (.cells #[.int .i64 c.k,.int .i64 c.n,.string c.s,.int .i64 c.d.k,.int .i64 c.d.n,.string c.d.s,.slice b1 n1 q1,.slice b2 n2 q2,.slice b3 n3 q3,.slice b4 n4 q4,.slice b5 n5 q5] 28)=w1:=⟨_,rfl⟩
 obtain⟨w2,hw2⟩:∃w2,w1.alloc (.cells #[.slice none 0 0,.slice none 0 0,.int .i64 0,.bool true] 66)=w2:=⟨_,rfl⟩
 obtain⟨hb1,hs1⟩:=new_below hw1;obtain⟨hb2,hs2⟩:=new_below hw2;have Hc:Hid (Hp w2 w.heap.size _ _):=(Hp.new hw1).below hb2;have Hx:=zh (Hp.new hw2);have hb12:Below w.heap.size w w2:=btr hb1 hb2;have HB:=zh hb12;have HRW:Hid (Co.RW (fun k=>G k∧k<w.heap.size) w2 w1.heap.size w1.heap.size 0 true (.slice none 0 0) (.slice none 0 0) [] []):=
  ⟨Hx.out,World.ownsRow_nil _ _ _ _,(fun p hp=>nomatch hp),World.ownsRow_nil _ _ _ _,Nat.le_refl _,(fun e=>nomatch e),(fun e=>nomatch e),(fun k e=>nomatch e)⟩
 have hcall:=coRGoes_any c (fun k=>G k∧k<w.heap.size) (fun _=>False) w1.heap.size w1.heap.size true (.slice none 0 0) (.slice none 0 0) _ _ _ _ _ (.slice none 0 0) [] [] [] w2 1 true 0 hW ((Co.Rep.mono (fun b hb hl=>⟨hb,hl⟩) c hR).below hb12) (fun k hk=>by omega) HRW.out ⟨none,0,rfl,Nat.le_refl _,fun h=>absurd rfl h⟩ (fun k hk=>hk.elim) (by simp) (by omega) (fun _=>⟨by simp,by simp⟩);unfold Co.V at hcall;have hcall':Calls Tryz.prog 37 #[.pointer (some ⟨w1.heap.size,0,none⟩),.agg #[.int .i64 c.k,.int .i64 c.n,.string c.s,.int .i64 c.d.k,.int .i64 c.d.n,.string c.d.s,.slice b1 n1 q1,.slice b2 n2 q2,.slice b3 n3 q3,.slice b4 n4 q4,.slice b5 n5 q5],.int .i64 1,.slice none 0 0,.bool true] _ _:=hcall;obtain⟨y0,y1,y2,y3,y4,y5,y6,y7,y8,y9,y10⟩:=Hc.out.c11;have HS1:=zh hs1;obtain⟨LS,hLS⟩:∃LS,(if Co.openE c=0 then Co.parts c else [])=LS:=⟨_,rfl⟩
 rw[hLS];have HLS:=zh hLS;clear hb1 hs1 hs2 hb2 hb12 hW hR hcall hLS;go_enter Tryz.func53,Tryz.ntmps53;go_wp2_with fail
 refine hcall'.mono ?_;rintro e w7 ⟨rfl,e',pv',bv',ps',bd',g1,g2,-,-,-,g6⟩;obtain⟨g7,g8⟩:=g6 rfl;obtain⟨pa,pc,rfl⟩:=Dt.row_form g1.rp;have HX7:=zh g1.hp;have x2:=HX7.out.cell 2 rfl;have x0:=HX7.out.cell 0 rfl;have HBF:Hid (Below w.heap.size w w7):=HB.out.trans (g2.to_below (fun k h=>by have h1:=Co.WS.low HRW.out h;have h2:=HS1.out;omega) HB.out.size);have he:e'=Co.openE c:=g7;by_cases h0:e'=0
 ·have hb:(e' !=0)=false:=by simpa using h0
  have HP:Hid (Co.PartsPost G c LS w (.returned (.slice pa ps'.length pc)) w7):=by
   have hl:=HLS.out;rw[if_pos (he.symm.trans h0)]at hl;have hs1:=HS1.out;exact⟨_,ps',rfl,Rd.own_base g1.rp (by omega),by rw[(g8 h0).1];exact hl,fun e=>absurd (show Co.parts c=[]by have h:=(g8 h0).1;rw[e]at h;exact h.symm) (Co.parts_pos c),fun p hp=>g1.re p hp,HBF.out⟩
  clear y0 y1 y2 y3 y4 y5 y6 y7 y8 y9 y10;clear hcall' g1 g2 g6 g7 g8 he h0 hw1 hw2;go_wp2;go_ret;exact HP.out
 ·have hb:(e' !=0)=true:=by simpa using h0
  have HP:Hid (Co.PartsPost G c LS w (.returned (.slice none 0 0)) w7):=by
   have hl:=HLS.out;rw[if_neg (fun h=>h0 (he.trans h))]at hl;exact⟨_,[],rfl,World.ownsRow_nil _ _ _ _,hl,fun _=>rfl,(fun p hp=>nomatch hp),HBF.out⟩
  clear y0 y1 y2 y3 y4 y5 y6 y7 y8 y9 y10;clear hcall' g1 g2 g6 g7 g8 he h0 hw1 hw2;go_wp2;go_ret;exact HP.out
theorem rAll07_any{G:Nat→Prop}(c:Co.C)(vm vl vt vp vk:Value)(w:World)(hW:Co.Wf c)(hR:Co.Rep G w c vm vl vt vp vk):
  Calls Tryz.prog 24 #[Co.V c vm vl vt vp vk] w (Co.PartsPost G c (Co.all c) w):=by
 obtain⟨b1,n1,q1,b2,n2,q2,b3,n3,q3,b4,n4,q4,b5,n5,q5,rfl,rfl,rfl,rfl,rfl⟩:=hR.forms5;obtain⟨w1,hw1⟩:∃w1,w.alloc (.cells #[.int .i64 c.k,.int .i64 c.n,.string c.s,.int .i64 c.d.k,.int .i64 c.d.n,.string c.d.s,.slice b1 n1 q1,.slice b2 n2 q2,.slice b3 n3 q3,.slice b4 n4 q4,.slice b5 n5 q5] 28)=w1:=⟨_,rfl⟩
 obtain⟨hb1,hs1⟩:=new_below hw1;have hR':=Co.Rep.mono (G:=fun k=>G k∧k<w.heap.size) (fun b hb hl=>⟨hb,hl⟩) c hR;have hpa:=rParts_any c _ _ _ _ _ w1 hW (hR'.below hb1);unfold Co.V at hpa ⊢;have Hc:=zh (Hp.new hw1);have HB1:=zh hb1;have HR:=zh hR';have HW:=zh hW;obtain⟨y0,y1,y2,y3,y4,y5,y6,y7,y8,y9,y10⟩:=Hc.out.c11;clear hb1 hs1 hR hR' hW;go_enter Tryz.func24,Tryz.ntmps24;go_wp2_with fail
 refine hpa.mono ?_;rintro e w2 ⟨v,ps,rfl,hown,hmap,hnil,hrep,hb2⟩;have HC2:Hid (Hp w2 w.heap.size #[.int .i64 c.k,.int .i64 c.n,.string c.s,.int .i64 c.d.k,.int .i64 c.d.n,.string c.d.s,.slice b1 n1 q1,.slice b2 n2 q2,.slice b3 n3 q3,.slice b4 n4 q4,.slice b5 n5 q5] 28):=Hc.out.below hb2;have HB2:Hid (Below w.heap.size w w2):=btr HB1.out hb2;have HREP:Hid (∀p∈ps,p.rep (fun k=>G k∧k<w.heap.size) w2):=fun p hp=>Co.Rep.mono (fun b hb _=>hb.1) p.c (hrep p hp)
 have HOWN:Hid (w2.ownsRow w.heap.size 28 11 v ps.length (Co.flatC ps)):=Rd.own_base hown (by have:=HB1.out.size;omega);have HMAP:=zh hmap;have HNIL:=zh hnil;have HLW:Hid (w.heap.size<w2.heap.size):=HC2.out.lt;clear y0 y1 y2 y3 y4 y5 y6 y7 y8 y9 y10;clear hpa hown hrep hb2 hw1 hmap hnil;obtain⟨wD,hwD⟩:∃wD,w2.drew=wD:=⟨_,rfl⟩
 have hbD:=Co.drew_below w2;rw[hwD]at hbD;have HSD:Hid (Hp wD w.heap.size #[.int .i64 c.k,.int .i64 c.n,.string c.s,.int .i64 c.d.k,.int .i64 c.d.n,.string c.d.s,.slice b1 n1 q1,.slice b2 n2 q2,.slice b3 n3 q3,.slice b4 n4 q4,.slice b5 n5 q5] 28):=HC2.out.below hbD;have HBD:Hid (Below w.heap.size w wD):=btr HB2.out hbD;have HBD2:=zh hbD;clear hbD;by_cases ho:Co.openE c=0
 case neg=>
  have hps:ps=[]:=by have h:=HMAP.out;rw[if_neg ho]at h;exact List.map_eq_nil_iff.1 h
  obtain rfl:=HNIL.out hps;have HP:Hid (Co.PartsPost G c (Co.all c) w (.returned (.slice none 0 0)) wD):=by
   unfold Co.all;rw[if_neg (fun h=>ho h.1)];exact⟨_,[],rfl,World.ownsRow_nil _ _ _ _,rfl,fun _=>rfl,(fun p hp=>nomatch hp),HBD.out⟩
  have hn:=fun W=>Lib.run_eql_slice_nil (P:=Tryz.prog) W 26 28 none 0 0 0 0 Tryz.underlying26
  clear ho hps;go_wp2;refine wp_region_noPanic ?_;refine wp_region_held_drew (S:=fun _=>True) (by kernel_rfl) trivial (fun hHeld=> ?_);rw[hwD];clear hwD;refine Zm.u 0 ?_ rfl ?_ ?_;rotate_left
  ·intro w9 hSw;clear hSw;go_simp;try with_reducible rfl
  simp only[Act.put,za,zb,zc];refine Zm.u 1 ?_ rfl ?_ ?_;rotate_left
  ·intro w9 hSw;clear hSw;go_simp;try with_reducible rfl
  simp only[Act.put,za,zb,zc];refine Zm.u 2 ?_ rfl ?_ ?_;rotate_left
  ·intro w9 hSw;clear hSw;go_simp;try with_reducible rfl
  simp only[Act.put,za,zb,zc];refine Zm.s 3 rfl ?_;simp only[Act.put,za,zb,zc];refine Zm.s 4 rfl ?_;simp only[Act.put,za,zb,zc];refine Zm.s 5 rfl ?_;simp only[Act.put,za,zb,zc];refine Zm.s 6 rfl ?_;simp only[Act.put,za,zb,zc];refine Zm.s 7 rfl ?_;simp only[Act.put,za,zb,zc];refine Zm.u 8 ?_ rfl ?_ ?_;rotate_left
  ·intro w9 hSw;clear hSw;go_simp;try with_reducible rfl
  simp only[Act.put,za,zb,zc];refine wpAnyH_done (by kernel_rfl) ?_ _;refine NoPanic.normal ?_;go_wp2;go_ret;exact HP.out
 have hps:ps≠[]:=fun e=>by
  have h:=HMAP.out;rw[if_pos ho,e]at h;exact Co.parts_pos c h.symm
 obtain⟨vg,vc,rfl⟩:=Co.nil_none HOWN.out hps;have HSN:Hid (Co.Snd c):=by
  have h2:Co.goes true c 1 [] true 0 []=(0,(Co.goes true c 1 [] true 0 []).2):=Prod.ext ho rfl;exact(Co.goes_snd c h2).1
 have hpl:(Co.parts c).length≤8192:=by
  have h2:Co.goes true c 1 [] true 0 []=(0,(Co.goes true c 1 [] true 0 []).2):=Prod.ext ho rfl;have h3:=Co.goes_count c h2;omega
 have hfr:=coRFree_any c _ (fun _=>False) (fun _=>False) _ _ _ _ _ (.slice none 0 0) (.slice none 0 0) [] [] wD HW.out HSN.out (HR.out.below HBD.out) ⟨none,0,rfl,Nat.le_refl _,fun h=>absurd rfl h⟩ ⟨none,0,rfl,Nat.le_refl _,fun h=>absurd rfl h⟩ (by simp;omega) (by simp;omega);unfold Co.V at hfr;have hfl:=Co.free_len c [] [];rw[List.length_nil,Nat.zero_add]at hfl;have hn:=fun W=>Lib.run_eql_slice_nil (P:=Tryz.prog) W 26 28 (some ⟨vg,0,none⟩) ps.length vc 0 0 Tryz.underlying26
 have HALL:Hid (Co.all c=if Co.check c (Co.free c [] [])=0 then Co.parts c else []):=by
  show _=_;unfold Co.all;by_cases e:Co.check c (Co.free c [] [])=0
  ·rw[if_pos ⟨ho,e⟩,if_pos e]
  ·rw[if_neg (fun h=>e h.2),if_neg e]
 have HMP:Hid (ps.map Co.PC.c=Co.parts c):=by have h:=HMAP.out;rw[if_pos ho]at h;exact h
 clear ho hps;go_wp2;refine wp_region_noPanic ?_;refine wp_region_held_drew (S:=fun w'=>Hp w' w.heap.size #[.int .i64 c.k,.int .i64 c.n,.string c.s,.int .i64 c.d.k,.int .i64 c.d.n,.string c.d.s,.slice b1 n1 q1,.slice b2 n2 q2,.slice b3 n3 q3,.slice b4 n4 q4,.slice b5 n5 q5] 28) (by kernel_rfl) (by rw[hwD];exact HSD.out) (fun hHeld=> ?_);rw[hwD]at hHeld ⊢;clear hwD;refine Zm.u 0 ?_ rfl ?_ ?_;rotate_left
 ·intro w9 hSw;clear hSw;go_simp;try with_reducible rfl
 simp only[Act.put,za,zb,zc];refine Zm.u 1 ?_ rfl ?_ ?_;rotate_left
 ·intro w9 hSw;clear hSw;go_simp;try with_reducible rfl
 simp only[Act.put,za,zb,zc];refine Zm.u 2 ?_ rfl ?_ ?_;rotate_left
 ·intro w9 hSw;clear hSw;go_simp;try with_reducible rfl
 simp only[Act.put,za,zb,zc];refine Zm.u 3 ?_ rfl ?_ ?_;rotate_left
 ·intro w9 hSw;have hC:Hp w9 w.heap.size _ _:=hSw;obtain⟨y0,y1,y2,y3,y4,y5,y6,y7,y8,y9,y10⟩:=hC.c11;clear hC;clear hSw;go_simp;try with_reducible rfl
 simp only[Act.put,za,zb,zc];refine Zm.u 4 ?_ rfl ?_ ?_;rotate_left
 ·intro w9 hSw;have hC:Hp w9 w.heap.size _ _:=hSw;obtain⟨y0,y1,y2,y3,y4,y5,y6,y7,y8,y9,y10⟩:=hC.c11;clear hC;clear hSw;go_simp;try with_reducible rfl
 simp only[Act.put,za,zb,zc];refine Zm.r 5 rfl (fun K hK=> ?_);go_simp;refine hfr.mono ?_;rintro e w4 ⟨fv,rfl,hfi,hb4⟩;obtain⟨fa,fc,rfl,hfc,hfp⟩:=hfi;have HFI:Hid (Dt.IRow (fun k=>False∨wD.heap.size≤k) w4 (.slice fa (Co.free c [] []).length fc) (Co.free c [] [])):=⟨fa,fc,rfl,hfc,hfp⟩
 have HB4:Hid (Below w.heap.size w w4):=btr HBD.out hb4;have HBW4:=zh hb4;have HS4:Hid (Hp w4 w.heap.size #[.int .i64 c.k,.int .i64 c.n,.string c.s,.int .i64 c.d.k,.int .i64 c.d.n,.string c.d.s,.slice b1 n1 q1,.slice b2 n2 q2,.slice b3 n3 q3,.slice b4 n4 q4,.slice b5 n5 q5] 28):=HSD.out.below hb4;have hck:=rCheck07_any c _ _ _ _ _ (.slice fa (Co.free c [] []).length fc) (Co.free c [] []) w4 HW.out (HR.out.below HB4.out) HFI.out (by omega);unfold Co.V at hck;obtain⟨N,hN⟩:∃N,(Co.free c [] []).length=N:=⟨_,rfl⟩
 obtain⟨E,hE⟩:∃E,Co.check c (Co.free c [] [])=E:=⟨_,rfl⟩
 rw[hN]at hck ⊢;rw[hE]at hck HALL;clear hfp hfc hb4 hN hE;try simp only
 refine hK.out _ _ HS4.out (fun hHeld=> ?_);clear hK K;refine Zm.r 6 rfl (fun K hK=> ?_);go_simp;refine hck.mono ?_;rintro e w5 ⟨rfl,hb5⟩;have HB5:Hid (Below w.heap.size w w5):=btr HB4.out hb5;have HS5:Hid (Hp w5 w.heap.size #[.int .i64 c.k,.int .i64 c.n,.string c.s,.int .i64 c.d.k,.int .i64 c.d.n,.string c.d.s,.slice b1 n1 q1,.slice b2 n2 q2,.slice b3 n3 q3,.slice b4 n4 q4,.slice b5 n5 q5] 28):=HS4.out.below hb5;have HW5:Hid (Below w2.heap.size w2 w5):=((btr HBD2.out HBW4.out)).trans (hb5.mono (by have h1:=HBD2.out.size;have h2:=HBW4.out.size;omega));clear hb5;try simp only
 refine hK.out _ _ HS5.out (fun hHeld=> ?_);clear hK K;by_cases hE:E=0
 ·have hEb:(E !=0)=false:=by simpa using hE
  have HP:Hid (Co.PartsPost G c (Co.all c) w (.returned (.slice (some ⟨vg,0,none⟩) ps.length vc)) w5):=by
   rw[HALL.out,if_pos hE];exact⟨_,ps,rfl,Dt.own_keep (S:=fun _=>False) HOWN.out (keep_of_below HW5.out) (fun _ _ h=>h),HMP.out,fun e=>absurd (by rw[←HMP.out,e];rfl) (Co.parts_pos c),fun p hp=>(HREP.out p hp).below HW5.out,HB5.out⟩
  clear hE;refine Zm.u 7 ?_ rfl ?_ ?_;rotate_left
  ·intro w9 hSw;clear hSw;go_simp;try with_reducible rfl
  simp only[Act.put,za,zb,zc];refine Zm.u 8 ?_ rfl ?_ ?_;rotate_left
  ·intro w9 hSw;clear hSw;go_simp;try with_reducible rfl
  simp only[Act.put,za,zb,zc];refine wpAnyH_done (by kernel_rfl) ?_ _;refine NoPanic.normal ?_;go_wp2;go_ret;exact HP.out
 ·have hEb:(E !=0)=true:=by simpa using hE
  have HP:Hid (Co.PartsPost G c (Co.all c) w (.returned (.slice none 0 0)) w5):=by
   rw[HALL.out,if_neg hE];exact⟨_,[],rfl,World.ownsRow_nil _ _ _ _,rfl,fun _=>rfl,(fun p hp=>nomatch hp),HB5.out⟩
  clear hE;refine Zm.u 7 ?_ rfl ?_ ?_;rotate_left
  ·intro w9 hSw;clear hSw;go_simp;try with_reducible rfl
  simp only[Act.put,za,zb,zc];refine Zm.u 8 ?_ rfl ?_ ?_;rotate_left
  ·intro w9 hSw;clear hSw;go_simp;try with_reducible rfl
  simp only[Act.put,za,zb,zc];refine wpAnyH_done (by kernel_rfl) ?_ _;refine NoPanic.normal ?_;go_wp2;go_ret;exact HP.out
namespace Co
open Dt (D)
theorem dwfs_app:∀ {a b:List D},Dt.Wfs a→Dt.Wfs b→Dt.Wfs (a++b)
 |[],_,_,h=>h
 |d :: r,b,h1,h2=>by
  rw[Dt.Wfs]at h1;rw[List.cons_append,Dt.Wfs];exact⟨h1.1,dwfs_app h1.2 h2⟩
theorem wf_sym{s:ByteArray}(h:s.size≤140737488355328):Dt.Wf (symD s):=by
 unfold symD;simp only[Dt.Wf,Dt.Wfs];exact⟨by decide,h,by decide,by decide,by decide,trivial,trivial⟩
theorem wf_fix{n:Int}(h: -9223372036854775808≤n∧n≤9223372036854775807):Dt.Wf (fixD n):=by
 unfold fixD;simp only[Dt.Wf,Dt.Wfs];exact⟨h,by decide,by decide,by decide,by decide,trivial,trivial⟩
theorem wf_lst{l:List D}(h1:l.length≤140737488355328)(h2:Dt.Wfs l):Dt.Wf (lstD l):=by
 unfold lstD;simp only[Dt.Wf,Dt.Wfs];exact⟨by decide,by decide,by decide,h1,by decide,h2,trivial⟩
theorem wfs_fix:∀ {p:List Int},(∀x∈p,-9223372036854775808≤x∧x≤9223372036854775807)→Dt.Wfs (p.map fixD)
 |[],_=>by rw[List.map_nil,Dt.Wfs];trivial
 |x :: r,h=>by
  rw[List.map_cons,Dt.Wfs];exact⟨wf_fix (h x (List.mem_cons_self ..)),wfs_fix (fun y hy=>h y (List.mem_cons_of_mem _ hy))⟩
theorem word_size(k:Int):(⟨(fm k).1.toArray⟩:ByteArray).size≤6:=by
 by_cases h:1≤k∧k≤10
 ·obtain rfl|rfl|rfl|rfl|rfl|rfl|rfl|rfl|rfl|rfl:k=1∨k=2∨k=3∨k=4∨k=5∨k=6∨k=7∨k=8∨k=9∨k=10:=by omega
  all_goals decide
 ·unfold fm;rw[if_neg h];decide
theorem wordD_size(c:C):(wordD c).size≤7:=by
 unfold wordD;have:=word_size c.k;split
 ·rename_i h;rw[h.1];decide
 ·omega
theorem wf_body{c:C}(hW:Wf c):Dt.Wfs (bodyD c)∧(bodyD c).length≤1:=by
 obtain⟨h1,h2,h3,h4,h5,-,-⟩:=wf_parts hW;unfold bodyD;have one:∀d:D,Dt.Wf d→Dt.Wfs [d]∧[d].length≤1:=fun d h=>⟨by rw[Dt.Wfs,Dt.Wfs];exact⟨h,trivial⟩,Nat.le_refl _⟩
 split
 ·exact one _ h3
 ·split
  ·exact one _ (wf_fix h1)
  ·split
   ·exact one _ (wf_sym h2)
   ·split
    ·exact one _ (wf_lst (by rw[List.length_map];exact h4) (wfs_fix h5))
    ·exact⟨by rw[Dt.Wfs];trivial,Nat.zero_le _⟩
mutual
theorem tell_wf:∀c:C,Wf c→Snd c→Dt.Wf (tellD c)
 | .mk k n s d p l,hW,hS=>by
  have h8:=(snd_parts hS).2.1;obtain⟨g1,g2⟩:=tells_wf l (wf_parts hW).2.2.2.2.2.2 (snd_parts hS).2.2;obtain⟨h1,h2⟩:=wf_body hW;rw[tellD];refine wf_lst ?_ ?_
  ·rw[List.length_append,List.length_cons,g2];have:l.length≤8192:=h8;omega
  ·refine dwfs_app ?_ g1;rw[Dt.Wfs];exact⟨wf_sym (Nat.le_trans (wordD_size _) (by decide)),h1⟩
theorem tells_wf:∀l:List C,Wfs l→Snds l→Dt.Wfs (tellDs l)∧(tellDs l).length=l.length
 |[],_,_=>by rw[tellDs,Dt.Wfs];exact⟨trivial,rfl⟩
 |c :: r,hW,hS=>by
  rw[Wfs]at hW;rw[Snds]at hS;obtain⟨g1,g2⟩:=tells_wf r hW.2 hS.2;rw[tellDs,Dt.Wfs,List.length_cons,List.length_cons,g2];exact⟨⟨tell_wf c hW.1 hS.1,g1⟩,rfl⟩
end
def zeroD:D:= .mk 0 0 ⟨#[]⟩ [] [] []
def datumC(c:C):D×Int:=if outE c≠0 then(zeroD,outE c)else if Dt.check (tellD c)≠0 then(zeroD,Dt.check (tellD c))else(tellD c,0)
end Co
theorem coDatum_any{F:Nat→Prop}(c:Co.C)(vm vl vt vp vk:Value)(w:World)(hW:Co.Wf c)(hR:Co.Rep F w c vm vl vt vp vk):
  Calls Tryz.prog 29 #[Co.V c vm vl vt vp vk] w fun e w'=>∃um ul ut,e= .returned (.tuple #[.agg #[.int .i64 (Co.datumC c).1.k,.int .i64 (Co.datumC c).1.n,.string (Co.datumC c).1.s,um,ul,ut],.int .i64 (Co.datumC c).2])∧Dt.Rep (fun k=>w.heap.size≤k) w' (Co.datumC c).1 um ul ut∧Below w.heap.size w w':=by
 unfold Co.V;obtain⟨b1,n1,q1,b2,n2,q2,b3,n3,q3,b4,n4,q4,b5,n5,q5,rfl,rfl,rfl,rfl,rfl⟩:=hR.forms5;obtain⟨w1,hw1⟩:∃w1,w.alloc (.cells #[.int .i64 c.k,.int .i64 c.n,.string c.s,.int .i64 c.d.k,.int .i64 c.d.n,.string c.d.s,.slice b1 n1 q1,.slice b2 n2 q2,.slice b3 n3 q3,.slice b4 n4 q4,.slice b5 n5 q5] 28)=w1:=⟨_,rfl⟩
 obtain⟨w2,hw2⟩:∃w2,w1.alloc (.cells #[.int .i64 0,.int .i64 0,.string ⟨#[]⟩,.slice none 0 0,.slice none 0 0,.slice none 0 0] 25)=w2:=⟨_,rfl⟩
 obtain⟨hb1,hs1⟩:=new_below hw1;obtain⟨hb2,hs2⟩:=new_below hw2;have Hc:Hid (Hp w2 w.heap.size _ _):=(Hp.new hw1).below hb2;have hr2:=Hp.new hw2;obtain⟨R0,hR0⟩:∃R0,w1.heap.size=R0:=⟨_,rfl⟩
 rw[hR0]at hr2 hs1 hs2;have Hr:=zh hr2;have hb12:=btr hb1 hb2;have HR0:Hid (R0=w.heap.size+1∧w2.heap.size=R0+1):=⟨hs1,hs2⟩
 have ho:=outC_any c _ _ _ _ _ w2 hW (hR.below hb12);unfold Co.V at ho;obtain⟨E,hE⟩:∃E,Co.outE c=E:=⟨_,rfl⟩
 rw[hE]at ho;have HE:=zh hE;have HB12:=zh hb12;have HRR:=zh (hR.below hb12);have HW:=zh hW;obtain⟨c0,c1,c2,c3,c4,c5,c6,c7,c8,c9,c10⟩:=Hc.out.c11;clear hb1 hb2 hs1 hs2 hb12 hr2 hE hR hW;have HZERO:Hid (∀(wx:World) (er:Int),Below w2.heap.size w2 wx→Co.datumC c=(Co.zeroD,er)→∃um ul ut,(Ending.returned (.tuple #[.agg #[.int .i64 0,.int .i64 0,.string ⟨#[]⟩,.slice none 0 0,.slice none 0 0,.slice none 0 0],.int .i64 er]))= .returned (.tuple #[.agg #[.int .i64 (Co.datumC c).1.k,.int .i64 (Co.datumC c).1.n,.string (Co.datumC c).1.s,um,ul,ut],.int .i64 (Co.datumC c).2])∧Dt.Rep (fun k=>w.heap.size≤k) (set6 wx R0 (.int .i64 0) (.int .i64 0) (.string ⟨#[]⟩) (.slice none 0 0) (.slice none 0 0) (.slice none 0 0)) (Co.datumC c).1 um ul ut∧Below w.heap.size w (set6 wx R0 (.int .i64 0) (.int .i64 0) (.string ⟨#[]⟩) (.slice none 0 0) (.slice none 0 0) (.slice none 0 0))):=fun wx er hb e=>by
  rw[e];have k3:=set6_keep wx R0 (.int .i64 0) (.int .i64 0) (.string ⟨#[]⟩) (.slice none 0 0) (.slice none 0 0) (.slice none 0 0);exact⟨_,_,_,rfl,Co.rep_nil _ _ _ _ _,((btr HB12.out hb)).trans (k3.to_below (fun k e=>by have:=HR0.out;omega) (by have:=HB12.out.size;have:=hb.size;omega))⟩
 go_enter Tryz.func29,Tryz.ntmps29;go_wp2_with fail
 refine ho.mono ?_;rintro e w3 ⟨vf,rfl,-,hb3⟩;have HB3:=zh hb3;clear c0 c1 c2 c3 c4 c5 c6 c7 c8 c9 c10;clear ho hb3 hw1 hw2;by_cases hz:E=0
 case neg=>
  have hzb:(E !=0)=true:=by simpa using hz
  have HF:=zh (HZERO.out w3 E HB3.out (by unfold Co.datumC;rw[HE.out,if_pos hz]));have Hr3:=zh (Hr.out.below HB3.out);obtain⟨z0,z1,z2,z3,z4,z5⟩:=Hr3.out.c6;have zf0:=Hr3.out.frz 0;have zf1:=Hr3.out.frz 1;have zf2:=Hr3.out.frz 2;have zf3:=Hr3.out.frz 3;have zf4:=Hr3.out.frz 4;have zf5:=Hr3.out.frz 5;clear hz HZERO;go_wp2;refine bodyPost_ret (v:= .tuple #[.agg #[.int .i64 0,.int .i64 0,.string ⟨#[]⟩,.slice none 0 0,.slice none 0 0,.slice none 0 0],.int .i64 E]) (by simp[results,Tryz.results29,go_sem, *]) rfl ?_;exact HF.out
 have hzb:(E !=0)=false:=by simpa using hz
 have HS:Hid (Co.Snd c):=(Co.all_ok (HE.out.trans hz)).2.2.2.2;have HWD:Hid (Dt.Wf (Co.tellD c)):=Co.tell_wf c HW.out HS.out;have hte:=coTell_any c F _ _ _ _ _ w3 HW.out HS.out (HRR.out.below HB3.out);unfold Co.V at hte;have Hc3:Hid (Hp w3 w.heap.size _ _):=Hc.out.below HB3.out;obtain⟨X,hX⟩:∃X,Co.tellD c=X:=⟨_,rfl⟩
 rw[hX]at hte HWD;have HX:=zh hX;clear hX;obtain⟨c0,c1,c2,c3,c4,c5,c6,c7,c8,c9,c10⟩:=Hc3.out.c11;go_wp2_with fail
 refine hte.mono ?_;rintro e w4 ⟨xm,xl,xt,rfl,hrx,hb4⟩;obtain⟨g1,m1,p1,g2,m2,p2,g3,m3,p3,rfl,rfl,rfl⟩:=hrx.forms;clear c0 c1 c2 c3 c4 c5 c6 c7 c8 c9 c10;have hW5:w4.alloc (.cells #[.int .i64 X.k,.int .i64 X.n,.string X.s,.slice g1 m1 p1,.slice g2 m2 p2,.slice g3 m3 p3] 25)=w4.alloc (.cells #[.int .i64 X.k,.int .i64 X.n,.string X.s,.slice g1 m1 p1,.slice g2 m2 p2,.slice g3 m3 p3] 25):=rfl;obtain⟨hb5,hs5⟩:=new_below hW5;have HD5:Hid (Hp (w4.alloc (.cells #[.int .i64 X.k,.int .i64 X.n,.string X.s,.slice g1 m1 p1,.slice g2 m2 p2,.slice g3 m3 p3] 25)) w4.heap.size _ _):=Hp.new hW5;have hck:=dCheck_any X _ _ _ _ HWD.out (hrx.below hb5);have HB5:Hid (Below w2.heap.size w2 (w4.alloc (.cells #[.int .i64 X.k,.int .i64 X.n,.string X.s,.slice g1 m1 p1,.slice g2 m2 p2,.slice g3 m3 p3] 25))):=by
  have h1:=HB3.out.size;have h2:=hb4.size;exact(HB3.out.trans (hb4.mono h1)).trans (hb5.mono (by omega))
 have HRX:=zh (hrx.below hb5);obtain⟨D,hD⟩:∃D,Dt.check X=D:=⟨_,rfl⟩
 rw[hD]at hck;have HDD:=zh hD;obtain⟨d0,d1,d2,d3,d4,d5⟩:=HD5.out.c6;clear hte hrx hb4 hb5 hs5 hW5 hD;go_wp2_with fail
 refine hck.mono ?_;rintro e w6 ⟨rfl,hb6⟩;clear d0 d1 d2 d3 d4 d5;have HB6:Hid (Below w2.heap.size w2 w6):=btr HB5.out hb6;have HD6:Hid (Hp w6 w4.heap.size _ _):=HD5.out.below hb6;have HRX6:=zh (HRX.out.below hb6);clear hck hb6;by_cases hy:D=0
 case neg=>
  have hyb:(D !=0)=true:=by simpa using hy
  have HF:=zh (HZERO.out w6 D HB6.out (by unfold Co.datumC;rw[HE.out,if_neg (by rw[hz];simp),HX.out,HDD.out,if_pos hy]));have Hr6:=zh (Hr.out.below HB6.out);obtain⟨z0,z1,z2,z3,z4,z5⟩:=Hr6.out.c6;have zf0:=Hr6.out.frz 0;have zf1:=Hr6.out.frz 1;have zf2:=Hr6.out.frz 2;have zf3:=Hr6.out.frz 3;have zf4:=Hr6.out.frz 4;have zf5:=Hr6.out.frz 5;clear hz hy HZERO;go_wp2;refine bodyPost_ret (v:= .tuple #[.agg #[.int .i64 0,.int .i64 0,.string ⟨#[]⟩,.slice none 0 0,.slice none 0 0,.slice none 0 0],.int .i64 D]) (by simp[results,Tryz.results29,go_sem, *]) rfl ?_;exact HF.out
 have hyb:(D !=0)=false:=by simpa using hy
 have hcl:=dClone_any X _ _ _ w6 HWD.out HRX6.out;rw[show Dt.clone X=X from if_pos (HDD.out.trans hy)]at hcl;have HM:Hid (Co.datumC c=(X,0)):=zh <| by unfold Co.datumC;rw[HE.out,if_neg (by rw[hz];simp),HX.out,HDD.out,if_neg (by rw[hy];simp)]
 obtain⟨d0,d1,d2,d3,d4,d5⟩:=HD6.out.c6;clear hz hy HZERO;go_wp2_with fail
 refine hcl.mono ?_;rintro e w7 ⟨⟨ym,yl,yt,rfl,hry⟩,hb7⟩;obtain⟨i1,j1,l1,i2,j2,l2,i3,j3,l3,rfl,rfl,rfl⟩:=hry.forms;clear d0 d1 d2 d3 d4 d5;have HB7:Hid (Below w2.heap.size w2 w7):=btr HB6.out hb7;have k3:=set6_keep w7 R0 (.int .i64 X.k) (.int .i64 X.n) (.string X.s) (.slice i1 j1 l1) (.slice i2 j2 l2) (.slice i3 j3 l3);have HF:Hid (Dt.Rep (fun k=>w.heap.size≤k) (set6 w7 R0 (.int .i64 X.k) (.int .i64 X.n) (.string X.s) (.slice i1 j1 l1) (.slice i2 j2 l2) (.slice i3 j3 l3)) X (.slice i1 j1 l1) (.slice i2 j2 l2) (.slice i3 j3 l3)∧Below w.heap.size w (set6 w7 R0 (.int .i64 X.k) (.int .i64 X.n) (.string X.s) (.slice i1 j1 l1) (.slice i2 j2 l2) (.slice i3 j3 l3))):=by
  have h0:=HR0.out;have h6:=HB6.out.size;have h7:=hb7.size;have h1:=HB12.out.size;refine⟨Dt.Rep.mono (fun b hb _=>by omega) X (Dt.Rep.keep k3 (fun b hb _ e=>by omega) X hry),(HB12.out.trans (HB7.out.mono h1)).trans (k3.to_below (fun k e=>by omega) (by omega))⟩
 have Hr7:=zh (Hr.out.below HB7.out);obtain⟨z0,z1,z2,z3,z4,z5⟩:=Hr7.out.c6;have zf0:=Hr7.out.frz 0;have zf1:=Hr7.out.frz 1;have zf2:=Hr7.out.frz 2;have zf3:=Hr7.out.frz 3;have zf4:=Hr7.out.frz 4;have zf5:=Hr7.out.frz 5;clear hcl hry hb7 k3;go_wp2;refine bodyPost_ret (v:= .tuple #[.agg #[.int .i64 X.k,.int .i64 X.n,.string X.s,.slice i1 j1 l1,.slice i2 j2 l2,.slice i3 j3 l3],.int .i64 0]) (by simp[results,Tryz.results29,go_sem, *]) rfl ?_;rw[HM.out];exact⟨_,_,_,rfl,HF.out.1,HF.out.2⟩
theorem Co.infoF:(Tryz.prog.info? 126).map (fun i=>(i.zero,i.size,i.bytes))=some (some (.agg #[.int .i64 0,.int .i64 0,.int .i64 0,.string ⟨#[]⟩,.slice none 0 0,.slice none 0 0,.slice none 0 0]),7,112):=by kernel_rfl
namespace Co
theorem src7{w wD:World}{a b c d e f g:Value}{t:TypeId}(hw:w.alloc (.cells #[a,b,c,d,e,f,g] t)=wD):Ap.Src wD (.slice (some ⟨w.heap.size,0,none⟩) 1 1) 1 [a,b,c,d,e,f,g]:=
 .inr ⟨_,_,rfl,fun z u hu=>by
  rw[Addr.add_mid,Nat.zero_add];have h2:#[a,b,c,d,e,f,g][z]?=some u:=by rw[←hu];simp
  exact(Hp.new hw).cell z h2⟩
def FOne(_w:World)(base:Nat)(v:Value)(at_:Int)(x:Dt.D)(wr:World):Prop:=
 ∃g cap h1 k1 s1 h2 k2 s2 h3 k3 s3,v= .slice (some ⟨g,0,none⟩) 1 cap∧wr.ownsRow base 126 7 v 1 [.int .i64 at_,.int .i64 x.k,.int .i64 x.n,.string x.s,.slice h1 k1 s1,.slice h2 k2 s2,.slice h3 k3 s3]∧Dt.Rep (fun k=>base≤k∧v.ownBlock≠some k) wr x (.slice h1 k1 s1) (.slice h2 k2 s2) (.slice h3 k3 s3)
end Co
theorem rRead1_any(s:ByteArray)(xs:List Lx.PTok)(x:Dt.D)(F:Nat)(w:World)(hs:s.size≤16384)(hsim:s.data.toList.all Lx.simB=true)(hlx:Lx.lex s.data.toList=(xs,0,0))(hne:xs≠[])(hlen:xs.length≤16384)(hx:Co.rdD F xs=some (x,[]))(hW:Dt.Wf x)(hck:Dt.check x=0):
  Calls Tryz.prog 85 #[.string s] w fun e w'=>∃v at_,e= .returned (.tuple #[v,.int .i64 0,.int .i64 0])∧Co.FOne w w.heap.size v at_ x w'∧Below w.heap.size w w':=by
 have hwd:=WordsRs_any s w (by omega) (fun j hj=>by
  have h:=List.all_eq_true.1 hsim s[j] (by have h:=List.getElem_mem (l:=s.data.toList) (n:=j) (by rw[Fx.size_toList];exact hj);exact h);exact h)
 rw[hlx]at hwd;obtain⟨i0,hi,hz0,hz1,hz2⟩:=info_parts Co.infoF;have HI:=zh hi;have HZ0:=zh hz0;have HZ1:=zh hz1;have HZ2:=zh hz2;have HX:=zh hx;have HW:=zh hW;have HCK:=zh hck;have hpos:0<xs.length:=List.length_pos_iff.2 hne;clear hi hz0 hz1 hz2 hx hW hck hlx hsim;go_enter Tryz.func85,Tryz.ntmps85;go_wp2_with fail
 refine hwd.mono ?_;rintro e w1 ⟨hb1,⟨-,v,rfl,hown⟩|⟨hc,-⟩⟩;rotate_left
 ·exact absurd rfl hc
 obtain⟨tb,xc,rfl⟩:∃tb xc,v= .slice (some ⟨tb,0,none⟩) xs.length xc:=by
  rcases hown.2 with⟨-,h0⟩|⟨g,cap,cur,e,-⟩
  ·have h0:xs.length=0:=h0;omega
  ·exact⟨g,cap,e⟩
 have htl:=Dt.own_lt hown tb rfl;have HS1:Hid (Rd.Src w1 tb xs):=⟨htl.2,fun i hi=>by
  have hc:∀j u,(Lx.flatT xs)[j]?=some u→w1.cell? ⟨tb,j,none⟩=some u:=fun j u hu=>by
   have h:=hown.cells (g:=tb) rfl j u hu;rw[Addr.add_mid,Nat.zero_add]at h;exact h
  exact Lx.Row.five hc i hi⟩
 have HB1:=zh hb1;obtain⟨w2,hw2⟩:∃w2,w1.alloc (.cells #[.slice (some ⟨tb,0,none⟩) xs.length xc,.int .i64 0] 142)=w2:=⟨_,rfl⟩
 obtain⟨hb2,hs2⟩:=new_below hw2;have HP2:Hid (Co.RS w2 w1.heap.size tb xc xs 0):=Hp.new hw2;have HB2:=zh hb2;have HN:Hid (w.heap.size≤tb∧tb<w1.heap.size∧w2.heap.size=w1.heap.size+1∧w.heap.size≤w1.heap.size):=⟨htl.1,htl.2,hs2,hb1.size⟩
 clear hwd hown hb1 hb2 hs2 htl;have HI0:Hid (Co.RS w2 w1.heap.size tb xc xs 0∧Below w1.heap.size w1 w2):=⟨HP2.out,HB2.out⟩
 have HHS:=zh hs;go_wp2;try rw[hw2]
 clear hw2
 go_loopw [9] (fun v9 wr=>(v9= .slice none 0 0∧Hid (Co.RS wr w1.heap.size tb xc xs 0∧Below w1.heap.size w1 wr))∨(∃at_,Hid (Co.RS wr w1.heap.size tb xc xs xs.length∧Below w1.heap.size w1 wr∧Co.FOne w w1.heap.size v9 at_ x wr))) (fun _ wr=>Co.left xs w1.heap.size wr)
 case atStart=>exact .inl ⟨rfl,HI0⟩
 case round=>
  clear HI0;rcases hrel with⟨rfl,HL⟩|⟨at_,HL⟩
  ·have hp:Hp wr w1.heap.size _ _:=HL.out.1;have p1:=hp.cell 1 rfl;have hlti:(0:Int)<(xs.length:Int):=by omega
   have hsr:=HS1.out.below HL.out.2;have htk:=hsr.tok 0 hpos;simp only[Nat.zero_mul,Nat.zero_add]at htk;have t1:=htk.2.1;have hcall:=coSd_any w1.heap.size tb xc xs (by omega) F xs [] [] x wr rfl HX.out HL.out.1 hsr (by have:=HN.out;omega);have HMS:Hid (Co.left xs w1.heap.size wr=xs.length):=by show _=_;rw[Co.RS.left HL.out.1];rfl
   clear hp htk hsr;go_wp2_with fail
   refine hcall.mono ?_;rintro e w6 ⟨vm,vl,vt,pre',rfl,hr6,hx6,hs6,hk6⟩;obtain⟨h1,k1,s1,h2,k2,s2,h3,k3,s3,rfl,rfl,rfl⟩:=hr6.forms;have hpre:pre'.length=xs.length:=by have:=congrArg List.length hx6;simpa using this.symm
   rw[hpre]at hs6;obtain⟨w7,hw7⟩:∃w7,w6.alloc (.cells #[.int .i64 x.k,.int .i64 x.n,.string x.s,.slice h1 k1 s1,.slice h2 k2 s2,.slice h3 k3 s3] 25)=w7:=⟨_,rfl⟩
   obtain⟨hb7,hs7⟩:=new_below hw7;have HQ7:=zh (Hp.new hw7);have hck:=rCheck_any x _ _ _ w7 HW.out (hr6.below hb7);rw[HCK.out]at hck;have HR7:=zh (hr6.below hb7);have HRS7:Hid (Co.RS w7 w1.heap.size tb xc xs xs.length):=Hp.below hs6 hb7;have HK7:Hid (Keep (fun k=>k=w1.heap.size) wr w7):=hk6.trans (keep_of_below hb7);obtain⟨qq0,qq1,qq2,qq3,qq4,qq5⟩:=HQ7.out.c6;clear hcall hr6 hx6 hs6 hk6 hb7 hs7 hpre p1;go_wp2_with fail
   refine hck.mono ?_;rintro e w8 ⟨rfl,hb8⟩;have HB8:=zh hb8;have HQ8:=zh (HQ7.out.below hb8);clear qq0 qq1 qq2 qq3 qq4 qq5;obtain⟨A,hA⟩:∃A:Int,(xs[0].at_:Int)=A:=⟨_,rfl⟩
   rw[hA]at t1 ⊢;have hW9:w8.alloc (.cells #[.int .i64 A,.int .i64 x.k,.int .i64 x.n,.string x.s,.slice h1 k1 s1,.slice h2 k2 s2,.slice h3 k3 s3] 126)=w8.alloc (.cells #[.int .i64 A,.int .i64 x.k,.int .i64 x.n,.string x.s,.slice h1 k1 s1,.slice h2 k2 s2,.slice h3 k3 s3] 126):=rfl;obtain⟨hb9,hs9⟩:=new_below hW9;have HS:Hid (Ap.Src (w8.alloc (.cells #[.int .i64 A,.int .i64 x.k,.int .i64 x.n,.string x.s,.slice h1 k1 s1,.slice h2 k2 s2,.slice h3 k3 s3] 126)) (.slice (some ⟨w8.heap.size,0,none⟩) 1 1) 1 [.int .i64 A,.int .i64 x.k,.int .i64 x.n,.string x.s,.slice h1 k1 s1,.slice h2 k2 s2,.slice h3 k3 s3]):=Co.src7 hW9;have HB9:=zh hb9;have hm1:0+1≤maxLen:=by unfold maxLen;omega
   have hbs:w1.heap.size≤(w8.alloc (.cells #[.int .i64 A,.int .i64 x.k,.int .i64 x.n,.string x.s,.slice h1 k1 s1,.slice h2 k2 s2,.slice h3 k3 s3] 126)).heap.size:=by have h1:=HL.out.2.size;have h2:=HK7.out.size;have h3:=HB8.out.size;have h4:=hb9.size;omega
   obtain⟨qq0,qq1,qq2,qq3,qq4,qq5⟩:=HQ8.out.c6;clear hck hb8 hW9 hb9 hs9 hA hw7 t1;go_wp2_with(at_builtin;refine Ap.list rfl _ _ 122 rfl w1.heap.size 126 i0 _ 7 112 Tryz.underlying122 HI.out HZ0.out HZ1.out HZ2.out rfl (by decide) (.slice none 0 0) 0 [] rfl (World.ownsRow_nil _ _ _ _) (.slice (some ⟨w8.heap.size,0,none⟩) 1 1) 1 [.int .i64 A,.int .i64 x.k,.int .i64 x.n,.string x.s,.slice h1 k1 s1,.slice h2 k2 s2,.slice h3 k3 s3] rfl HS.out rfl (by intro u hu;simp only[List.mem_cons,List.not_mem_nil,or_false]at hu;rcases hu with rfl|rfl|rfl|rfl|rfl|rfl|rfl <;> rfl) hm1 (by decide) hbs ?_;intro v' w10 hown hg hat;have HOWN:=zh hown;have HGR:=zh hg;have HAT:=zh hat;clear hown hg hat)
   have HFIN:Hid (Co.RS w10 w1.heap.size tb xc xs xs.length∧Below w1.heap.size w1 w10∧Co.FOne w w1.heap.size v' A x w10):=by
    have k10:Keep (fun _=>False) (w8.alloc (.cells #[.int .i64 A,.int .i64 x.k,.int .i64 x.n,.string x.s,.slice h1 k1 s1,.slice h2 k2 s2,.slice h3 k3 s3] 126)) w10:=(Co.grown_keep2 (Below.refl _ _) HGR.out).le (fun k e=>by cases e);have hb810:Below w7.heap.size w7 w10:=((btr HB8.out HB9.out)).trans (k10.to_below (fun k e=>e.elim) (by have h1:=HB8.out.size;have h2:=HB9.out.size;omega));refine⟨Hp.below HRS7.out hb810,(HL.out.2.trans (HK7.out.to_below (fun k e=>by omega) HL.out.2.size)).trans (hb810.mono (by have h1:=HL.out.2.size;have h2:=HK7.out.size;omega)),?_⟩;have ho:=HOWN.out;simp only[Nat.zero_add,List.nil_append]at ho;obtain⟨g,cap,hv⟩:∃g cap,v'= .slice (some ⟨g,0,none⟩) 1 cap:=by
     rcases ho.2 with⟨-,h0⟩|⟨g,cap,cur,e,-⟩
     ·cases h0
     ·exact⟨g,cap,e⟩
    refine⟨g,cap,_,_,_,_,_,_,_,_,_,hv,ho,?_⟩;have hr:=HR7.out;have h1:=HL.out.2.size;have h2:=HB8.out.size;have h3:=HB9.out.size;refine Dt.Rep.mono (fun b hb _=>hb) x ((Dt.Rep.mono (G:=fun k=>w1.heap.size≤k∧v'.ownBlock≠some k) (fun b hb hl=>⟨by omega,fun e=> ?_⟩) x hr).below hb810);rcases HAT.out with h|h
    ·rw[h]at e;cases e
    ·rw[h]at e;cases e;omega
   clear qq0 qq1 qq2 qq3 qq4 qq5;go_roundw
   case rel=>exact .inr ⟨A,HFIN⟩
   case measure=>rw[Co.RS.left HFIN.out.1,HMS.out];omega
  ·obtain⟨g,cap,h1,k1,s1,h2,k2,s2,h3,k3,s3,hv,hown,hrep⟩:=HL.out.2.2;subst hv;have hp:Hp wr w1.heap.size _ _:=HL.out.1;have p1:=hp.cell 1 rfl;have hlti:¬ (xs.length:Int)<(xs.length:Int):=by omega
   have hltb:decide ((xs.length:Int)<(xs.length:Int))=false:=decide_eq_false hlti;have HF:Hid (Co.FOne w w.heap.size (.slice (some ⟨g,0,none⟩) 1 cap) at_ x wr∧Below w.heap.size w wr):=
    ⟨⟨g,cap,h1,k1,s1,h2,k2,s2,h3,k3,s3,rfl,Rd.own_base hown (by have:=HN.out;omega),Dt.Rep.mono (fun b hb _=>⟨by have:=HN.out;omega,hb.2⟩) x hrep⟩,HB1.out.trans (HL.out.2.1.mono HB1.out.size)⟩
   clear hp hown hrep;go_wp2;refine bodyPost_ret (v:= .tuple #[.slice (some ⟨g,0,none⟩) 1 cap,.int .i64 0,.int .i64 0]) (by simp[results,Tryz.results85,go_sem, *]) rfl ?_;exact⟨_,rfl,⟨at_,HF.out.1⟩,HF.out.2⟩
theorem rOne1_any(s:ByteArray)(xs:List Lx.PTok)(x:Dt.D)(F:Nat)(w:World)(hs:s.size≤16384)(hsim:s.data.toList.all Lx.simB=true)(hlx:Lx.lex s.data.toList=(xs,0,0))(hne:xs≠[])(hlen:xs.length≤16384)(hx:Co.rdD F xs=some (x,[]))(hW:Dt.Wf x)(hck:Dt.check x=0):
  Calls Tryz.prog 63 #[.string s] w fun e w'=>∃vm vl vt,e= .returned (.tuple #[.agg #[.int .i64 x.k,.int .i64 x.n,.string x.s,vm,vl,vt],.int .i64 0])∧Dt.Rep (fun k=>w.heap.size≤k) w' x vm vl vt∧Below w.heap.size w w':=by
 obtain⟨w1,hw1⟩:∃w1,w.alloc (.cells #[.int .i64 0,.int .i64 0,.string ⟨#[]⟩,.slice none 0 0,.slice none 0 0,.slice none 0 0] 25)=w1:=⟨_,rfl⟩
 have hrd:=rRead1_any s xs x F w1 hs hsim hlx hne hlen hx hW hck;obtain⟨hb1,hs1⟩:=new_below hw1;have hR1:=Hp.new hw1;obtain⟨R,hR⟩:∃R,w.heap.size=R:=⟨_,rfl⟩
 rw[hR]at hR1 hs1;have HN:Hid (w.heap.size=R∧w1.heap.size=R+1):=⟨hR,hs1⟩
 have HB1:=zh hb1;have HR1:=zh hR1;clear hb1 hs1 hR1 hsim hlx hne hlen hx hW hck hs;go_enter Tryz.func63,Tryz.ntmps63;go_wp2_with fail
 refine hrd.mono ?_;rintro e w2 ⟨v,at_,rfl,⟨g,cap,h1,k1,s1,h2,k2,s2,h3,k3,s3,rfl,hown,hrep⟩,hb2⟩;have hR2:=HR1.out.below hb2;have hbw:Below w.heap.size w w2:=btr HB1.out hb2;obtain⟨r0,r1,r2,r3,r4,r5⟩:=hR2.c6;have q0:=hR2.frz 0;have q1:=hR2.frz 1;have q2:=hR2.frz 2;have q3:=hR2.frz 3;have q4:=hR2.frz 4;have q5:=hR2.frz 5;have hc:=fun j u (hu:([.int .i64 at_,.int .i64 x.k,.int .i64 x.n,.string x.s,.slice h1 k1 s1,.slice h2 k2 s2,.slice h3 k3 s3]:List Value)[j]?=some u)=>hown.cells (g:=g) rfl j u hu
 have x1:=hc 1 _ rfl;have x2:=hc 2 _ rfl;have x3:=hc 3 _ rfl;have x4:=hc 4 _ rfl;have x5:=hc 5 _ rfl;have x6:=hc 6 _ rfl;rw[Addr.add_mid,Nat.zero_add]at x1 x2 x3 x4 x5 x6;have HE:Hid (∃vm vl vt,Ending.returned (.tuple #[.agg #[.int .i64 x.k,.int .i64 x.n,.string x.s,.slice h1 k1 s1,.slice h2 k2 s2,.slice h3 k3 s3],.int .i64 0])= .returned (.tuple #[.agg #[.int .i64 x.k,.int .i64 x.n,.string x.s,vm,vl,vt],.int .i64 0])∧Dt.Rep (fun k=>w.heap.size≤k) (set6 w2 R (.int .i64 x.k) (.int .i64 x.n) (.string x.s) (.slice h1 k1 s1) (.slice h2 k2 s2) (.slice h3 k3 s3)) x vm vl vt∧Below w.heap.size w (set6 w2 R (.int .i64 x.k) (.int .i64 x.n) (.string x.s) (.slice h1 k1 s1) (.slice h2 k2 s2) (.slice h3 k3 s3))):=by
  have hk:=set6_keep w2 R (.int .i64 x.k) (.int .i64 x.n) (.string x.s) (.slice h1 k1 s1) (.slice h2 k2 s2) (.slice h3 k3 s3);refine⟨_,_,_,rfl,?_,hbw.trans (hk.to_below (fun k e=>by have:=HN.out.1;omega) hbw.size)⟩;refine Dt.Rep.mono (fun b hb _=> ?_) x (Dt.Rep.keep hk (fun b hb _ e=> ?_) x hrep)
  ·have:=HN.out;have:=hb.1;omega
  ·have:=HN.out;have:=hb.1;omega
 clear hc hrd hown hrep hb2 hR2 hbw hw1;go_wp2;refine bodyPost_ret (v:= .tuple #[.agg #[.int .i64 x.k,.int .i64 x.n,.string x.s,.slice h1 k1 s1,.slice h2 k2 s2,.slice h3 k3 s3],.int .i64 0]) (by simp[results,Tryz.results63,go_sem, *]) rfl ?_;exact HE.out
end Go.Proofs.YtfjmlfbohenmfaaGreat
