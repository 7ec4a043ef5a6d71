/-
 core.own: a core in memory of its own. (Expanded from src/XCoOwn.src by pp.py.)
-/
import Derived.Test.YtfjmlfbohenmfaaGreatCoGoesb
import Derived.Test.YtfjmlfbohenmfaaGreatCoreBBM8
import Derived.Test.YtfjmlfbohenmfaaGreatCoreBBM7
import Derived.Test.YtfjmlfbohenmfaaGreatDtOwnb
import Derived.Deep.CutBlock
import Derived.Test.YtfjmlfbohenmfaaGreatCoreBBM2
namespace Go.Proofs.YtfjmlfbohenmfaaGreat
open Go.RowKit
attribute [local go_sem] Oper.semAt_some
set_option maxRecDepth 100000 in
set_option maxHeartbeats 4000000 in
theorem cloneInts2_any{F:Nat→Prop}(v:Value)(m:List Int)(w:World)(h:Dt.IRow F w v m)(hl:m.length≤1048576):
  Calls Tryz.prog 23 #[v] w fun e w'=>∃v',e= .returned v'∧Dt.IRow (fun k=>w.heap.size≤k) w' v' m∧Below w.heap.size w w':=by
 have h0:=h;obtain⟨a,c,rfl,hc,_⟩:=h;have hsrc:=fun ha=>h0.src (a:=a) ha
 have hnil:a=none→m=[]:=fun ha=>by
  obtain⟨a',c',h1,h2,h3⟩:=h0;cases h1
  cases hm:m with
  |nil=>rfl
  |cons x r=>obtain⟨b,o,e,_⟩:=h3 (by rw[hm];simp);rw[ha]at e;cases e
 clear h0;have hn:=Lib.run_eql_slice_nil (P:=Tryz.prog) w 22 3 a m.length c 0 0 Tryz.underlying22
 cases a with
 |none=>
  obtain rfl:=hnil rfl;have hn':(binOp .eql 22 (.slice none 0 c) (.slice none 0 0)).run Tryz.prog w= .ok (.bool true) w:=hn;clear hsrc hnil hn;go_enter Tryz.func23,Tryz.ntmps23;go_wp2;go_ret;exact⟨_,rfl,⟨none,0,rfl,Nat.le_refl _,fun hn=>absurd rfl hn⟩,Below.refl _ _⟩
 |some ad=>
  have hs:=hsrc (by simp);clear hsrc hnil;obtain⟨i1,hi1,hy0,hy1,hy2⟩:=info_parts Dt.infoI;have hm1:0+m.length≤maxLen:=by unfold maxLen;omega
  have hm2:(0+m.length)*8≤140737488355328:=by omega
  obtain⟨wA,hwA⟩:∃wA,w.alloc (.cells #[] 3)=wA:=⟨_,rfl⟩
  have hb:Below w.heap.size w wA:=by rw[←hwA];exact(Below.refl _ _).alloc (Nat.le_refl _) _
  have hown:wA.ownsRow w.heap.size 3 1 (.slice (some ⟨w.heap.size,0,none⟩) 0 0) 0 []:=by rw[←hwA];exact World.ownsRow_made w #[] 0 (Nat.le_refl _) (by decide) (by simp)
  have hsA:Ap.Src wA (.slice (some ad) m.length c) m.length (m.map (Value.int .i64)):=by
   rcases hs with⟨h1,_⟩|⟨ad',c',h1,h2⟩
   ·cases h1
   ·refine .inr ⟨ad',c',h1,fun j u hu=> ?_⟩;have hc:=h2 j u hu;exact(hb.cell (World.block_lt_of_cell? w _ hc)).trans hc
  have HS:=zh hsA;have HO:=zh hown;have HB:=zh hb;clear hs hsA hown hb;go_enter Tryz.func23,Tryz.ntmps23;go_wp2_with(at_builtin;refine Ap.list rfl _ _ 22 rfl w.heap.size 3 i1 (.int .i64 0) 1 8 Tryz.underlying22 hi1 hy0 hy1 hy2 rfl (by decide) (.slice (some ⟨w.heap.size,0,none⟩) 0 0) 0 [] rfl HO.out (.slice (some ad) m.length c) m.length (m.map (Value.int .i64)) rfl HS.out (by simp) (by intro u hu;obtain⟨x,_,rfl⟩:=List.mem_map.1 hu;rfl) hm1 hm2 HB.out.size ?_;intro v' w5 hown hg hat;obtain⟨a5,c5,rfl⟩:=Dt.row_form hown)
  go_ret;simp only[Nat.zero_add,List.nil_append]at hown;exact⟨_,rfl,Dt.IRow.of_own hown,Dt.grown_below HB.out hg (Nat.le_refl _) (fun k hk=>by cases hk;exact Nat.le_refl _)⟩
namespace Co
mutual
def Snd:C→Prop
 | .mk k n s d p l=>alone (.mk k n s d p l)=true∧l.length≤8192∧Snds l
def Snds:List C→Prop
 |[]=>True
 |c :: r=>Snd c∧Snds r
end
theorem Snds.at:∀ {l:List C},Snds l→∀y∈l,Snd y
 |[],_,y,h=>absurd h (by simp)
 |d :: r,hw,y,h=>by
  rw[Snds]at hw;rcases List.mem_cons.1 h with rfl|h
  ·exact hw.1
  ·exact Snds.at hw.2 y h
theorem snd_parts{c:C}(h:Snd c):alone c=true∧c.l.length≤8192∧Snds c.l:=by cases c;rw[Snd]at h;exact h
mutual
theorem goes_snd{opn:Bool}:∀(c:C) {deep:Nat} {win:List Int} {top:Bool} {cnt:Nat} {bd:List Int} {r:Nat×List Int},goes opn c deep win top cnt bd=(0,r)→Snd c∧cnt<r.1∧r.1≤8192
 | .mk k n s d p l,deep,win,top,cnt,bd,r,h=>by
  obtain⟨h1,h2⟩:=goes_ok h;obtain⟨h3,-,-⟩:=here_ok h1;have h4:=here_room h1;obtain⟨g1,g2,g3⟩:=goesL_snd l (by omega) h2;rw[Snd];exact⟨⟨h3,by omega,g1⟩,by omega,g3⟩
theorem goesL_snd{opn:Bool}:∀(l:List C) {deep:Nat} {win:List Int} {top:Bool} {cnt:Nat} {bd:List Int} {r:Nat×List Int},cnt≤8192→goesL opn l deep win top cnt bd=(0,r)→Snds l∧cnt+l.length≤r.1∧r.1≤8192
 |[],_,_,_,cnt,_,r,hc,h=>by
  rw[goesL]at h;cases h;rw[Snds];exact⟨trivial,by simp,hc⟩
 |c :: l,deep,win,top,cnt,bd,r,hc,h=>by
  obtain⟨q,h1,h2⟩:=goesL_ok h;obtain⟨g1,g2,g3⟩:=goes_snd c h1;obtain⟨g4,g5,g6⟩:=goesL_snd l g3 h2;rw[Snds];exact⟨⟨g1,g4⟩,by rw[List.length_cons];omega,g6⟩
end
theorem none_of_alone{c:C}(h:alone c=true)(hk:c.k≠1):none_ c.d=true:=by
 cases c with
 |mk k n s d p l=>
  unfold alone at h;dsimp only at h;have hk':¬k=1:=hk;rw[if_neg hk']at h;split at h
  ·cases h
  ·rename_i h2;show none_ d=true;cases hn:none_ d
   ·exact absurd hn h2
   ·rfl
theorem const_of_alone{c:C}(h:alone c=true)(hk:c.k=1):Dt.check c.d=0:=by
 cases c with
 |mk k n s d p l=>
  have e:k=1:=hk;subst e;unfold alone at h;dsimp only at h;rw[if_pos rfl,Bool.and_eq_true]at h;have h2:=h.2;unfold const at h2;rw[Bool.and_eq_true]at h2;exact of_decide_eq_true h2.1
theorem rep_none{F G:Nat→Prop}{w w':World}{d:Dt.D}{vm vl vt:Value}(hd:none_ d=true)(h:Dt.Rep F w d vm vl vt):Dt.Rep G w' d vm vl vt:=by
 rw[none_eq hd]at h ⊢;obtain⟨⟨a1,c1,rfl,h1,-⟩,⟨a2,c2,rfl,h2,-⟩,⟨a3,c3,rfl,h3,-⟩⟩:=(Dt.rep_iff _ _ _ _ _ _).1 h;exact(Dt.rep_iff _ _ _ _ _ _).2 ⟨⟨a1,c1,rfl,h1,fun e=>absurd rfl e⟩,⟨a2,c2,rfl,h2,fun e=>absurd rfl e⟩,⟨a3,c3,rfl,h3,fun e=>absurd rfl e⟩⟩
def OwnIs(c:C):Prop:=∀(G:Nat→Prop) (vm vl vt vp vk:Value) (w:World),Wf c→Snd c→Rep G w c vm vl vt vp vk→
 Calls Tryz.prog 46 #[V c vm vl vt vp vk] w fun e w'=>∃um ul ut up uk,e= .returned (V c um ul ut up uk)∧Rep (fun k=>w.heap.size≤k) w' c um ul ut up uk∧Below w.heap.size w w'
def OMid(c:C)(vp vk:Value)(w:World)(R0:Nat)(wx:World):Prop:=
 ∃um ul ut,Hp wx w.heap.size #[.int .i64 c.k,.int .i64 c.n,.string c.s,.int .i64 c.d.k,.int .i64 c.d.n,.string c.d.s,um,ul,ut,vp,vk] 28∧Hp wx R0 #[.int .i64 0,.int .i64 0,.string ⟨#[]⟩,.int .i64 0,.int .i64 0,.string ⟨#[]⟩,.slice none 0 0,.slice none 0 0,.slice none 0 0,.slice none 0 0,.slice none 0 0] 28∧Dt.Rep (fun k=>R0<k∧k<wx.heap.size) wx c.d um ul ut∧Below w.heap.size w wx∧R0<wx.heap.size
def set6o(w:World)(B:Nat)(a b c d e f:Value):World:=(((((w.setCell ⟨B,3,none⟩ a).setCell ⟨B,4,none⟩ b).setCell ⟨B,5,none⟩ c).setCell ⟨B,6,none⟩ d).setCell ⟨B,7,none⟩ e).setCell ⟨B,8,none⟩ f
theorem set6o_keep(w:World)(B:Nat)(a b c d e f:Value):Keep (fun k=>k=B) w (set6o w B a b c d e f):=
 ((((((Keep.refl (fun k=>k=B) w).setCell rfl 3 a).setCell rfl 4 b).setCell rfl 5 c).setCell rfl 6 d).setCell rfl 7 e).setCell rfl 8 f
def set11(w:World)(B:Nat)(a b c d e f g h i j k:Value):World:=((((((((((w.setCell ⟨B,0,none⟩ a).setCell ⟨B,1,none⟩ b).setCell ⟨B,2,none⟩ c).setCell ⟨B,3,none⟩ d).setCell ⟨B,4,none⟩ e).setCell ⟨B,5,none⟩ f).setCell ⟨B,6,none⟩ g).setCell ⟨B,7,none⟩ h).setCell ⟨B,8,none⟩ i).setCell ⟨B,9,none⟩ j).setCell ⟨B,10,none⟩ k
theorem set11_keep(w:World)(B:Nat)(a b c d e f g h i j k:Value):Keep (fun x=>x=B) w (set11 w B a b c d e f g h i j k):=
 (((((((((((Keep.refl (fun x=>x=B) w).setCell rfl 0 a).setCell rfl 1 b).setCell rfl 2 c).setCell rfl 3 d).setCell rfl 4 e).setCell rfl 5 f).setCell rfl 6 g).setCell rfl 7 h).setCell rfl 8 i).setCell rfl 9 j).setCell rfl 10 k
structure OInv(c:C)(um ul ut up vk:Value)(w:World)(R0 Bs:Nat)(j:Nat)(v:Value)(ps:List PC)(wr:World):Prop where
 row:Rowing wr Bs v ps
 len:ps.length=j
 map:ps.map PC.c=c.l.take j
 hc:Hp wr w.heap.size #[.int .i64 c.k,.int .i64 c.n,.string c.s,.int .i64 c.d.k,.int .i64 c.d.n,.string c.d.s,um,ul,ut,up,vk] 28
 hr:Hp wr R0 #[.int .i64 0,.int .i64 0,.string ⟨#[]⟩,.int .i64 0,.int .i64 0,.string ⟨#[]⟩,.slice none 0 0,.slice none 0 0,.slice none 0 0,.slice none 0 0,.slice none 0 0] 28
 hd:Dt.Rep (fun k=>R0<k∧k<Bs) wr c.d um ul ut
 hp:Dt.IRow (fun k=>R0<k∧k<Bs) wr up c.p
 kb:Below w.heap.size w wr
 bs:Bs≤wr.heap.size
 lr:w.heap.size<R0
 rb:R0<Bs
end Co
set_option maxRecDepth 100000 in
set_option maxHeartbeats 16000000 in
theorem coOwn_step(c:Co.C)(hch:∀y∈c.l,Co.OwnIs y):Co.OwnIs c:=by
 intro G vm vl vt vp vk w hW hS hR;obtain⟨hal,hl8,hsl⟩:=Co.snd_parts hS;obtain⟨hrd,hrp,hrk⟩:=(Co.rep_iff _ _ _ _ _ _ _ _).1 hR;obtain⟨b1,n1,q1,b2,n2,q2,b3,n3,q3,b4,n4,q4,b5,n5,q5,rfl,rfl,rfl,rfl,rfl⟩:=hR.forms5;obtain⟨-,-,hWd,-,-,-,hWl⟩:=Co.wf_parts hW;obtain⟨_,_,he5,_,_⟩:=id hrk;injection he5 with he5a he5b he5c
 subst he5b;clear he5a he5c;have hp32:=Co.alone_p32 hal;unfold Co.V;obtain⟨w1,hw1⟩:∃w1,w.alloc (.cells #[.int .i64 c.k,.int .i64 c.n,.string c.s,.int .i64 c.d.k,.int .i64 c.d.n,.string c.d.s,.slice b1 n1 q1,.slice b2 n2 q2,.slice b3 n3 q3,.slice b4 n4 q4,.slice b5 c.l.length q5] 28)=w1:=⟨_,rfl⟩
 obtain⟨w2,hw2⟩:∃w2,w1.alloc (.cells #[.int .i64 0,.int .i64 0,.string ⟨#[]⟩,.int .i64 0,.int .i64 0,.string ⟨#[]⟩,.slice none 0 0,.slice none 0 0,.slice none 0 0,.slice none 0 0,.slice none 0 0] 28)=w2:=⟨_,rfl⟩
 obtain⟨hb1,hs1⟩:=new_below hw1;obtain⟨hb2,hs2⟩:=new_below hw2;have Hc:=zh ((Hp.new hw1).below hb2);have Hr:=zh (Hp.new hw2);have hb12:=btr hb1 hb2;obtain⟨R0,hR0⟩:∃R0,w1.heap.size=R0:=⟨_,rfl⟩
 rw[hR0]at Hr hs1 hs2;have HLR:Hid (w.heap.size<R0∧w2.heap.size=R0+1):=⟨by omega,hs2⟩
 have HB2:=zh hb12;have HRD:=zh (hrd.below hb12);have HRP:=zh hrp;have HRK:=zh hrk;have HWD:=zh hWd;have HWL:=zh hWl;have HSL:=zh hsl;have HCH:=zh hch;have HRD0:=zh hrd;have hno:=Co.none_of_alone hal;have hco:=Co.const_of_alone hal;have HNO:=zh hno;have HCO:=zh hco;obtain⟨c0,c1,c2,c3,c4,c5,c6,c7,c8,c9,c10⟩:=Hc.out.c11;have cf0:=Hc.out.frz 0;have cf1:=Hc.out.frz 1;have cf2:=Hc.out.frz 2;have cf3:=Hc.out.frz 3;have cf4:=Hc.out.frz 4;have cf5:=Hc.out.frz 5;have cf6:=Hc.out.frz 6;have cf7:=Hc.out.frz 7;have cf8:=Hc.out.frz 8;have cf9:=Hc.out.frz 9;have cf10:=Hc.out.frz 10;clear hb1 hb2 hs1 hs2 hb12 hrd hrp hrk hWd hWl hsl hch hW hS hR hal hno hco;go_enter Tryz.func46,Tryz.ntmps46
 go_upto_if 8 with fail
 clear hw1 hw2
 go_cut [] (fun wx=>Co.OMid c (.slice b4 n4 q4) (.slice b5 c.l.length q5) w R0 wx)
 case first=>
  by_cases hk:c.k=1
  ·have hkb:(c.k==1)=true:=by simpa using hk
   have hcl:=dClone_any c.d (.slice b1 n1 q1) (.slice b2 n2 q2) (.slice b3 n3 q3) w2 HWD.out HRD.out;have hck:=HCO.out hk;rw[show Dt.clone c.d=c.d from if_pos hck]at hcl;clear hk hck;go_wp2_with fail
   refine hcl.mono ?_;rintro e w3 ⟨⟨um,ul,ut,rfl,hr3⟩,hb3⟩;obtain⟨a1,m1,z1,a2,m2,z2,a3,m3,z3,rfl,rfl,rfl⟩:=hr3.forms;have Hc3:=zh (Hc.out.below hb3);have HM:Hid (Co.OMid c (.slice b4 n4 q4) (.slice b5 c.l.length q5) w R0 (Co.set6o w3 w.heap.size (.int .i64 c.d.k) (.int .i64 c.d.n) (.string c.d.s) (.slice a1 m1 z1) (.slice a2 m2 z2) (.slice a3 m3 z3))):=by
    have k34:=Co.set6o_keep w3 w.heap.size (.int .i64 c.d.k) (.int .i64 c.d.n) (.string c.d.s) (.slice a1 m1 z1) (.slice a2 m2 z2) (.slice a3 m3 z3);have hr3':Dt.Rep (fun k=>R0<k∧k<w3.heap.size) w3 c.d (.slice a1 m1 z1) (.slice a2 m2 z2) (.slice a3 m3 z3):=Dt.Rep.mono (fun b hb hl=>⟨by have:=HLR.out;omega,hl⟩) c.d hr3;refine⟨_,_,_,(((((Hc3.out.set 3 _).set 4 _).set 5 _).set 6 _).set 7 _).set 8 _,(Hr.out.below hb3).keep k34 (fun e=>by have:=HLR.out;omega),Dt.Rep.mono (fun b hb _=>⟨hb.1,by have:=k34.size;omega⟩) c.d (Dt.Rep.keep k34 (fun b hb _ e=>by have:=HLR.out;omega) c.d hr3'),((btr HB2.out hb3)).trans (k34.to_below (fun k e=>by omega) (by have:=hb3.size;have:=HB2.out.size;omega)),by have:=k34.size;have:=hb3.size;have:=HLR.out;omega⟩
   clear hcl hr3 hb3;clear c0 c1 c2 c3 c4 c5 c6 c7 c8 c9 c10;clear cf0 cf1 cf2 cf3 cf4 cf5 cf6 cf7 cf8 cf9 cf10;obtain⟨c0,c1,c2,c3,c4,c5,c6,c7,c8,c9,c10⟩:=Hc3.out.c11;have cf0:=Hc3.out.frz 0;have cf1:=Hc3.out.frz 1;have cf2:=Hc3.out.frz 2;have cf3:=Hc3.out.frz 3;have cf4:=Hc3.out.frz 4;have cf5:=Hc3.out.frz 5;have cf6:=Hc3.out.frz 6;have cf7:=Hc3.out.frz 7;have cf8:=Hc3.out.frz 8;have cf9:=Hc3.out.frz 9;have cf10:=Hc3.out.frz 10;go_wp2;go_meet;exact HM.out
  ·have hkb:(c.k==1)=false:=by simpa using hk
   have HM:Hid (Co.OMid c (.slice b4 n4 q4) (.slice b5 c.l.length q5) w R0 w2):=
    ⟨_,_,_,Hc.out,Hr.out,Co.rep_none (HNO.out hk) HRD0.out,HB2.out,by have:=HLR.out;omega⟩
   clear hk;go_wp2;go_meet;exact HM.out
 case rest=>
  obtain⟨um,ul,ut,hc3,hr3,hd3,hb3,hl3⟩:=hcut;obtain⟨w3,rfl⟩:∃w3,w3=wc:=⟨_,rfl⟩
  obtain⟨a1,m1,z1,a2,m2,z2,a3,m3,z3,rfl,rfl,rfl⟩:=hd3.forms;have hcl:=cloneInts2_any (.slice b4 n4 q4) c.p w3 (HRP.out.keep (keep_of_below (S:=fun _=>False) hb3) (fun _ _ _ h=>h)) (by omega);clear c0 c1 c2 c3 c4 c5 c6 c7 c8 c9 c10;clear cf0 cf1 cf2 cf3 cf4 cf5 cf6 cf7 cf8 cf9 cf10;have Hc3:=zh hc3;have Hr3:=zh hr3;have HD3:=zh hd3;have HB3:=zh hb3;have HL3:=zh hl3;clear hc3 hr3 hd3 hb3 hl3 Hc Hr HB2 HRD HRD0 HNO HCO HWD;obtain⟨c0,c1,c2,c3,c4,c5,c6,c7,c8,c9,c10⟩:=Hc3.out.c11;go_wp2_with fail
  refine hcl.mono ?_;rintro e w4 ⟨up,rfl,hup,hb4⟩;obtain⟨a4,z4,rfl,hz4,hup4⟩:=hup;have hup:Dt.IRow (fun k=>w3.heap.size≤k) w4 (.slice a4 c.p.length z4) c.p:=⟨a4,z4,rfl,hz4,hup4⟩
  have Hc4:=zh (Hc3.out.below hb4);obtain⟨w5,hw5⟩:∃w5,w4.setCell ⟨w.heap.size,9,none⟩ (.slice a4 c.p.length z4)=w5:=⟨_,rfl⟩
  have k45:Keep (fun k=>k=w.heap.size) w4 w5:=by rw[←hw5];exact set_keep _ _ _ _
  obtain⟨Bs,hBs⟩:∃Bs,w5.heap.size=Bs:=⟨_,rfl⟩
  have hlr:=HLR.out.1;have hz34:=hb4.size;have hz45:=k45.size;have hl3:=HL3.out;have HIN:Hid (Co.OInv c (.slice a1 m1 z1) (.slice a2 m2 z2) (.slice a3 m3 z3) (.slice a4 c.p.length z4) (.slice b5 c.l.length q5) w R0 Bs 0 (.slice none 0 0) [] w5):=by
   refine⟨Co.Rowing.nil _ _,rfl,rfl,by rw[←hw5];exact Hc4.out.set 9 _,(Hr3.out.below hb4).keep k45 (fun e=>by omega),Dt.Rep.mono (fun b hb _=>⟨hb.1,by omega⟩) c.d (Dt.Rep.keep k45 (fun b hb _ e=>by omega) c.d (HD3.out.below hb4)),?_,((btr HB3.out hb4)).trans (k45.to_below (fun k e=>by omega) (by have:=HB3.out.size;omega)),by omega,hlr,by omega⟩;have h1:=hup.keep k45 (fun b hb _ e=>by omega);exact Co.irow_mono (fun b hb hl=>⟨by omega,by omega⟩) h1
  have HRKW:=zh (hlr);have x9:=Hc4.out.cell 9 rfl;have xf9:=Hc4.out.frz 9;have x10:=HIN.out.hc.cell 10 rfl;clear hcl hup hup4 hb4 k45 hz34 hz45 hl3 hlr Hc4;clear c0 c1 c2 c3 c4 c5 c6 c7 c8 c9 c10;go_wp2;clear x9 xf9 x10 hw5;obtain⟨i0,hi,hz0,hz1,hz2⟩:=info_parts Co.infoC;have HI:=zh hi;have HZ0:=zh hz0;have HZ1:=zh hz1;have HZ2:=zh hz2;clear hi hz0 hz1 hz2
  go_loopw [3,20] (fun v3 v20 wr=>∃(j:Nat) (ps:List Co.PC) (al:Option Addr) (ql:Nat),v3= .slice al j ql∧v20= .int .i64 j∧j≤c.l.length∧Hid (Co.OInv c (.slice a1 m1 z1) (.slice a2 m2 z2) (.slice a3 m3 z3) (.slice a4 c.p.length z4) (.slice b5 c.l.length q5) w R0 Bs j (.slice al j ql) ps wr)) (fun _ v20 _=>c.l.length - (intOf v20).toNat)
  case atStart=>exact⟨0,[],none,0,rfl,rfl,by omega,HIN⟩
  case round=>
   clear HIN;obtain⟨j,ps,al,ql,rfl,rfl,hj,HL⟩:=hrel;by_cases hlt:j<c.l.length
   case neg=>
    have hge:(c.l.length:Int)≤(j:Int):=by omega
    obtain rfl:j=c.l.length:=by omega
    have hinv:=HL.out;obtain⟨W1,hW1⟩:∃W1,wr.setCell ⟨w.heap.size,10,none⟩ (.slice al c.l.length ql)=W1:=⟨_,rfl⟩
    have k1:Keep (fun k=>k=w.heap.size) wr W1:=by rw[←hW1];exact set_keep _ _ _ _
    have hlr:=hinv.lr;have hrb:=hinv.rb;have Hc1:Hid (Hp W1 w.heap.size #[.int .i64 c.k,.int .i64 c.n,.string c.s,.int .i64 c.d.k,.int .i64 c.d.n,.string c.d.s,.slice a1 m1 z1,.slice a2 m2 z2,.slice a3 m3 z3,.slice a4 c.p.length z4,.slice al c.l.length ql] 28):=by rw[←hW1];exact hinv.hc.set 10 _
    have Hr1:=zh (hinv.hr.keep k1 (fun e=>by omega));have k2:=Co.set11_keep W1 R0 (.int .i64 c.k) (.int .i64 c.n) (.string c.s) (.int .i64 c.d.k) (.int .i64 c.d.n) (.string c.d.s) (.slice a1 m1 z1) (.slice a2 m2 z2) (.slice a3 m3 z3) (.slice a4 c.p.length z4) (.slice al c.l.length ql);have k12:Keep (fun k=>k=w.heap.size∨k=R0) wr (Co.set11 W1 R0 (.int .i64 c.k) (.int .i64 c.n) (.string c.s) (.int .i64 c.d.k) (.int .i64 c.d.n) (.string c.d.s) (.slice a1 m1 z1) (.slice a2 m2 z2) (.slice a3 m3 z3) (.slice a4 c.p.length z4) (.slice al c.l.length ql)):=(k1.le fun k e=> .inl e).trans (k2.le fun k e=> .inr e);have HE:Hid (Co.Rep (fun k=>w.heap.size≤k) (Co.set11 W1 R0 (.int .i64 c.k) (.int .i64 c.n) (.string c.s) (.int .i64 c.d.k) (.int .i64 c.d.n) (.string c.d.s) (.slice a1 m1 z1) (.slice a2 m2 z2) (.slice a3 m3 z3) (.slice a4 c.p.length z4) (.slice al c.l.length ql)) c (.slice a1 m1 z1) (.slice a2 m2 z2) (.slice a3 m3 z3) (.slice a4 c.p.length z4) (.slice al c.l.length ql)∧Below w.heap.size w (Co.set11 W1 R0 (.int .i64 c.k) (.int .i64 c.n) (.string c.s) (.int .i64 c.d.k) (.int .i64 c.d.n) (.string c.d.s) (.slice a1 m1 z1) (.slice a2 m2 z2) (.slice a3 m3 z3) (.slice a4 c.p.length z4) (.slice al c.l.length ql))):=by
     refine⟨?_,hinv.kb.trans (k12.to_below (fun k e=>by omega) hinv.kb.size)⟩;have hrow:=hinv.row.to_row;rw[hinv.map,List.take_length]at hrow;have h1:Co.Rep (fun k=>R0<k) wr c (.slice a1 m1 z1) (.slice a2 m2 z2) (.slice a3 m3 z3) (.slice a4 c.p.length z4) (.slice al c.l.length ql):=
      (Co.rep_iff _ _ _ _ _ _ _ _).2 ⟨Dt.Rep.mono (fun b hb _ => hb.1) c.d hinv.hd, Co.irow_mono (fun b hb _ => hb.1) hinv.hp, by
       obtain⟨a',c',e1,e2,e3⟩:=hrow;exact⟨a',c',e1,e2,fun hn=>by obtain⟨b,o,f1,f2,f3,f4⟩:=e3 hn;exact⟨b,o,f1,by omega,f3,Co.Reps.mono (fun k hk _=>by omega) c.l f4⟩⟩⟩
     exact Co.Rep.mono (fun b hb _=>by omega) c (Co.Rep.keep k12 (fun b hb _ e=>by omega) c h1)
    have xf10:=hinv.hc.frz 10;have x10:=hinv.hc.cell 10 rfl;obtain⟨c0,c1,c2,c3,c4,c5,c6,c7,c8,c9,c10⟩:=Hc1.out.c11;obtain⟨r0,r1,r2,r3,r4,r5,r6,r7,r8,r9,r10⟩:=Hr1.out.c11;have rf0:=Hr1.out.frz 0;have rf1:=Hr1.out.frz 1;have rf2:=Hr1.out.frz 2;have rf3:=Hr1.out.frz 3;have rf4:=Hr1.out.frz 4;have rf5:=Hr1.out.frz 5;have rf6:=Hr1.out.frz 6;have rf7:=Hr1.out.frz 7;have rf8:=Hr1.out.frz 8;have rf9:=Hr1.out.frz 9;have rf10:=Hr1.out.frz 10;clear hinv k1 k2 k12 hlr hrb;go_wp2;refine bodyPost_ret (v:=Co.V c (.slice a1 m1 z1) (.slice a2 m2 z2) (.slice a3 m3 z3) (.slice a4 c.p.length z4) (.slice al c.l.length ql)) (by unfold Co.V;simp[results,Tryz.results46,go_sem, *]) rfl ?_;exact⟨_,_,_,_,_,rfl,HE.out.1,HE.out.2⟩
   have hlti:(j:Int)<(c.l.length:Int):=by omega
   have hinv:=HL.out;obtain⟨_,_,he,_,hrow⟩:=HRK.out.below hinv.kb;injection he with he1 he2 he3
   subst he1;clear he2 he3;obtain⟨b,o',rfl,hGb,hbl,hreps⟩:=hrow (by intro h0;rw[h0]at hlt;simp at hlt);obtain⟨um,ul,ut,up,uk,hel,hry⟩:=hreps.at j hlt;obtain⟨y,hy⟩:∃y,c.l[j]=y:=⟨_,rfl⟩
   rw[hy]at hel hry;obtain⟨e0,e1,e2,e3,e4,e5,e6,e7,e8,e9,e10⟩:=hel;obtain⟨g1,i1,r1,g2,i2,r2,g3,i3,r3,g4,i4,r4,g5,i5,r5,rfl,rfl,rfl,rfl,rfl⟩:=hry.forms5;have hW10:wr.alloc (.cells #[.int .i64 y.k,.int .i64 y.n,.string y.s,.int .i64 y.d.k,.int .i64 y.d.n,.string y.d.s,.slice g1 i1 r1,.slice g2 i2 r2,.slice g3 i3 r3,.slice g4 i4 r4,.slice g5 i5 r5] 28)=wr.alloc (.cells #[.int .i64 y.k,.int .i64 y.n,.string y.s,.int .i64 y.d.k,.int .i64 y.d.n,.string y.d.s,.slice g1 i1 r1,.slice g2 i2 r2,.slice g3 i3 r3,.slice g4 i4 r4,.slice g5 i5 r5] 28):=rfl;obtain⟨hb10,hs10⟩:=new_below hW10;have hmem:y∈c.l:=by rw[←hy];exact List.getElem_mem hlt
   have hwy:Co.Wf y:=by rw[←hy];exact HWL.out.at j hlt
   have hcall:=HCH.out y hmem G _ _ _ _ _ _ hwy (HSL.out.at y hmem) (hry.below hb10);unfold Co.V at hcall;have HB10:=zh hb10;have HY:=zh hy;clear hrow hreps hry hy hW10 hb10 hwy hmem hinv;go_wp2_with fail
   refine hcall.mono ?_;rintro e w6 ⟨um,ul,ut,up,uk,rfl,hr6,hb6⟩;obtain⟨h1,k1,s1,h2,k2,s2,h3,k3,s3,h4,k4,s4,h5,k5,s5,rfl,rfl,rfl,rfl,rfl⟩:=hr6.forms5;have hb6w:Below wr.heap.size wr w6:=btr HB10.out hb6;have hWA:w6.alloc (.cells #[.int .i64 y.k,.int .i64 y.n,.string y.s,.int .i64 y.d.k,.int .i64 y.d.n,.string y.d.s,.slice h1 k1 s1,.slice h2 k2 s2,.slice h3 k3 s3,.slice h4 k4 s4,.slice h5 k5 s5] 28)=w6.alloc (.cells #[.int .i64 y.k,.int .i64 y.n,.string y.s,.int .i64 y.d.k,.int .i64 y.d.n,.string y.d.s,.slice h1 k1 s1,.slice h2 k2 s2,.slice h3 k3 s3,.slice h4 k4 s4,.slice h5 k5 s5] 28):=rfl;obtain⟨hbA,hsA⟩:=new_below hWA;have HS:Hid (Ap.Src (w6.alloc (.cells #[.int .i64 y.k,.int .i64 y.n,.string y.s,.int .i64 y.d.k,.int .i64 y.d.n,.string y.d.s,.slice h1 k1 s1,.slice h2 k2 s2,.slice h3 k3 s3,.slice h4 k4 s4,.slice h5 k5 s5] 28)) (.slice (some ⟨w6.heap.size,0,none⟩) 1 1) 1 [.int .i64 y.k,.int .i64 y.n,.string y.s,.int .i64 y.d.k,.int .i64 y.d.n,.string y.d.s,.slice h1 k1 s1,.slice h2 k2 s2,.slice h3 k3 s3,.slice h4 k4 s4,.slice h5 k5 s5]):=Co.srcNew hWA;have HRO:Hid ((w6.alloc (.cells #[.int .i64 y.k,.int .i64 y.n,.string y.s,.int .i64 y.d.k,.int .i64 y.d.n,.string y.d.s,.slice h1 k1 s1,.slice h2 k2 s2,.slice h3 k3 s3,.slice h4 k4 s4,.slice h5 k5 s5] 28)).ownsRow Bs 28 11 (.slice al j ql) j (Co.flatC ps)):=by
    have:=((HL.out.row.below hb6w).below hbA).row;rw[HL.out.len]at this;exact this
   have HBA:=zh hbA;have HB6:=zh hb6w;have HR6:=zh hr6;have HSZ:Hid (Bs≤(w6.alloc (.cells #[.int .i64 y.k,.int .i64 y.n,.string y.s,.int .i64 y.d.k,.int .i64 y.d.n,.string y.d.s,.slice h1 k1 s1,.slice h2 k2 s2,.slice h3 k3 s3,.slice h4 k4 s4,.slice h5 k5 s5] 28)).heap.size):=by
    have h1:=HL.out.bs;have h2:=hb6w.size;have h3:=hbA.size;show Bs≤_;omega
   clear hcall hb6 hb6w hWA hbA hsA hr6 hs10 e0 e1 e2 e3 e4 e5 e6 e7 e8 e9 e10;have hm1:j+1≤maxLen:=by unfold maxLen;omega
   have hm2:(j+1)*184≤140737488355328:=by omega
   go_wp2_with(at_builtin;refine Ap.list rfl _ _ 26 rfl Bs 28 i0 _ 11 184 Tryz.underlying26 HI.out HZ0.out HZ1.out HZ2.out rfl (by decide) (.slice al j ql) j (Co.flatC ps) rfl HRO.out (.slice (some ⟨w6.heap.size,0,none⟩) 1 1) 1 [.int .i64 y.k,.int .i64 y.n,.string y.s,.int .i64 y.d.k,.int .i64 y.d.n,.string y.d.s,.slice h1 k1 s1,.slice h2 k2 s2,.slice h3 k3 s3,.slice h4 k4 s4,.slice h5 k5 s5] rfl HS.out rfl (by intro u hu;simp only[List.mem_cons,List.not_mem_nil,or_false]at hu;rcases hu with rfl|rfl|rfl|rfl|rfl|rfl|rfl|rfl|rfl|rfl|rfl <;> rfl) hm1 hm2 HSZ.out ?_;intro v' w7 hown hg hat;obtain⟨a7,c7,rfl⟩:=Dt.row_form hown;have HOWN:=zh hown;have HGR:=zh hg;have HAT:=zh hat;clear hown hg hat)
   have HN:Hid (Co.OInv c (.slice a1 m1 z1) (.slice a2 m2 z2) (.slice a3 m3 z3) (.slice a4 c.p.length z4) (.slice (some ⟨b,o',none⟩) c.l.length q5) w R0 Bs (j+1) (.slice a7 (j+1) c7) (ps++[⟨y,.slice h1 k1 s1,.slice h2 k2 s2,.slice h3 k3 s3,.slice h4 k4 s4,.slice h5 k5 s5⟩]) w7):=by
    have hinv:=HL.out;have hlen:=hinv.len;obtain⟨n1,n2⟩:=Co.pushK (S:=fun _=>False) hinv.row hinv.bs (keep_of_below HB6.out) (fun _ _ h=>h) (p:=⟨y,.slice h1 k1 s1,.slice h2 k2 s2,.slice h3 k3 s3,.slice h4 k4 s4,.slice h5 k5 s5⟩) (Co.Rep.mono (fun b hb _=>by have:=HB10.out.size;omega) y HR6.out) HBA.out (by rw[hlen];exact HOWN.out) HGR.out HAT.out;have hlow:∀k,False∨(Value.slice al j ql).ownBlock=some k→Bs≤k:=fun k h=>h.elim False.elim (fun h=>(Dt.own_lt hinv.row.row k h).1)
    have hlr:=hinv.lr;have hrb:=hinv.rb;refine⟨n1,by rw[List.length_append,hlen];rfl,?_,hinv.hc.keep n2 (fun e=>by have:=hlow _ e;omega),hinv.hr.keep n2 (fun e=>by have:=hlow _ e;omega),Dt.Rep.keep n2 (fun b hb _ e=>by have:=hlow _ e;omega) c.d hinv.hd,hinv.hp.keep n2 (fun b hb _ e=>by have:=hlow _ e;omega),hinv.kb.trans (n2.to_below (fun k e=>by have:=hlow _ e;omega) hinv.kb.size),Nat.le_trans hinv.bs n2.size,hlr,hrb⟩;rw[List.map_append,hinv.map,List.take_succ_eq_append_getElem hlt,HY.out]
    rfl
   clear HS HRO HBA HB6 HR6 HSZ HOWN HGR HAT HB10;go_wp2;go_roundw
   case rel=>exact⟨j+1,_,a7,c7,rfl,by simp,by omega,HN⟩
   case measure=>simp[intOf];omega
mutual
theorem coOwn_any:∀c:Co.C,Co.OwnIs c
 | .mk k n s d p l=>coOwn_step (.mk k n s d p l) (coOwns_any l)
theorem coOwns_any:∀(l:List Co.C),∀y∈l,Co.OwnIs y
 |[],_,h=>absurd h (by simp)
 |c :: r,y,h=>(List.mem_cons.1 h).elim (fun e=>by rw[e];exact coOwn_any c) (fun h'=>coOwns_any r y h')
end
end Go.Proofs.YtfjmlfbohenmfaaGreat
