/-
 core.told: a core as a datum. (Printed by genCoTell.py, expanded by pp.py.)
-/
import Derived.Test.YtfjmlfbohenmfaaGreatCoreBBM12
import Derived.Test.YtfjmlfbohenmfaaGreatCoreBBM5
import Derived.Test.YtfjmlfbohenmfaaGreatCoBesb
import Derived.Test.YtfjmlfbohenmfaaGreatCoreBBM2
import Derived.Deep.CutBlock
namespace Go.Proofs.YtfjmlfbohenmfaaGreat
open Go.RowKit
attribute [local go_sem] Oper.semAt_some
namespace Co
open Dt (D)
def wordD(c:C):ByteArray:=if c.k=8∧c.n=1 then⟨(fm c.k).1.toArray⟩++⟨#[42]⟩else⟨(fm c.k).1.toArray⟩
def bodyD(c:C):List D:=if c.k=1 then [c.d]else if c.k=2∨c.k=4 then [fixD c.n]else if c.k=3∨c.k=5∨c.k=6 then [symD c.s]else if c.k=8 then [lstD (c.p.map fixD)]else []
mutual
def tellD:C→D
 | .mk k n s d p l=>lstD (symD (wordD (.mk k n s d p l)) :: bodyD (.mk k n s d p l)++tellDs l)
def tellDs:List C→List D
 |[]=>[]
 |c :: r=>tellD c :: tellDs r
end
theorem tellDs_map:∀l:List C,tellDs l=l.map tellD
 |[]=>by rw[tellDs];rfl
 |c :: r=>by rw[tellDs,tellDs_map r];rfl
theorem tellD_eq(c:C):tellD c=lstD (symD (wordD c) :: bodyD c++c.l.map tellD):=by
 obtain⟨k,n,s,d,p,l⟩:=c;rw[tellD,tellDs_map]
 rfl
theorem fm_has(k:Int):((fm k).2.1=4∧k=1)∨((fm k).2.1=1∧(k=2∨k=4))∨((fm k).2.1=2∧(k=3∨k=5∨k=6))∨((fm k).2.1=8∧k=8)∨((fm k).2.1=0∧¬ (k=1∨(k=2∨k=4)∨(k=3∨k=5∨k=6)∨k=8)):=by
 by_cases h:1≤k∧k≤10
 ·obtain rfl|rfl|rfl|rfl|rfl|rfl|rfl|rfl|rfl|rfl:k=1∨k=2∨k=3∨k=4∨k=5∨k=6∨k=7∨k=8∨k=9∨k=10:=by omega
  all_goals (first|exact .inl ⟨rfl,by decide⟩|exact .inr (.inl ⟨rfl,by decide⟩)|exact .inr (.inr (.inl ⟨rfl,by decide⟩))|exact .inr (.inr (.inr (.inl ⟨rfl,by decide⟩)))|exact .inr (.inr (.inr (.inr ⟨rfl,by decide⟩))))
 ·refine .inr (.inr (.inr (.inr ⟨?_,by omega⟩)));unfold fm;rw[if_neg h]
  rfl
structure TRow(G:Nat→Prop)(w:World)(base:Nat)(v:Value)(ls:List Dt.P):Prop where
 row:w.ownsRow base 25 6 v ls.length (Dt.flatP ls)
 rep:∀p∈ls,Dt.Rep (fun k=>(G k∨base≤k)∧v.ownBlock≠some k) w p.d p.vm p.vl p.vt
theorem TRow.keep{G S:Nat→Prop}{w w':World}{base:Nat}{v:Value}{ls:List Dt.P}(h:TRow G w base v ls)(hk:Keep S w w')(hS:∀k,(G k∨base≤k)→k<w.heap.size→¬S k):TRow G w' base v ls:=
 ⟨Dt.own_keep h.row hk (fun k hk=>hS k (.inr (Dt.own_lt h.row k hk).1) (Dt.own_lt h.row k hk).2),fun p hp=>Dt.Rep.keep hk (fun b hb hb'=>hS b hb.1 hb') p.d (h.rep p hp)⟩
theorem TRow.below{G:Nat→Prop}{w w':World}{base:Nat}{v:Value}{ls:List Dt.P}(h:TRow G w base v ls)(hb:Below w.heap.size w w'):TRow G w' base v ls:=
 h.keep (S:=fun _=>False) (keep_of_below hb) (fun _ _ _ h=>h)
theorem TRow.push{G:Nat→Prop}{w w1 wA w5:World}{base:Nat}{v v':Value}{ls:List Dt.P}{p:Dt.P}(h:TRow G w base v ls)(hbase:base≤w.heap.size)(hG:∀k,G k→k<base)(h1:Below w.heap.size w w1)(hp:Dt.Rep (fun k=>G k∨w.heap.size≤k) w1 p.d p.vm p.vl p.vt)(hA:Below w1.heap.size w1 wA)
  (hown:w5.ownsRow base 25 6 v' (ls.length+1) (Dt.flatP ls++p.cells)) (hg:wA.grownBy w5 v.ownBlock) (hat:v'.ownBlock=v.ownBlock∨v'.ownBlock=some wA.heap.size):
  TRow G w5 base v' (ls++[p])∧Keep (fun k=>v.ownBlock=some k) w w5:=by
 have hwA:Below w.heap.size w wA:=btr h1 hA;have hK:Keep (fun k=>v.ownBlock=some k) w w5:=⟨hg.os.trans hwA.os,hg.tape.trans hwA.tape,hg.output.trans hwA.output,Nat.le_trans hwA.size hg.size,fun k hk hn=>(hg.block k (by have:=hwA.size;omega) (fun e=>hn e.symm)).trans (hwA.block k hk)⟩
 have hK1:Keep (fun k=>v.ownBlock=some k) w1 w5:=⟨hg.os.trans hA.os,hg.tape.trans hA.tape,hg.output.trans hA.output,Nat.le_trans hA.size hg.size,fun k hk hn=>(hg.block k (by have:=hA.size;omega) (fun e=>hn e.symm)).trans (hA.block k hk)⟩
 have hvl:∀k,v.ownBlock=some k→base≤k∧k<w.heap.size:=Dt.own_lt h.row;refine⟨⟨by rw[List.length_append,Dt.flatP_app];exact hown,fun q hq=> ?_⟩,hK⟩;rcases List.mem_append.1 hq with hq|hq
 ·have hr0:Dt.Rep (fun k=>k<w.heap.size∧(G k∨base≤k)∧v.ownBlock≠some k) w q.d q.vm q.vl q.vt:=Dt.Rep.mono (fun b hb hl=>⟨hl,hb⟩) q.d (h.rep q hq);refine Dt.Rep.mono (fun b hb _=>⟨hb.2.1,fun e=> ?_⟩) q.d (Dt.Rep.keep hK (fun b hb _ e=>hb.2.2 e) q.d hr0);rcases hat with e'|e'
  ·rw[e']at e;exact hb.2.2 e
  ·rw[e']at e;cases e;have:=hwA.size;omega
 ·obtain rfl:q=p:=by simpa using hq
  have hr0:Dt.Rep (fun k=>k<w1.heap.size∧(G k∨w.heap.size≤k)) w1 q.d q.vm q.vl q.vt:=Dt.Rep.mono (fun b hb hl=>⟨hl,hb⟩) q.d hp;have hno:∀b,(G b∨w.heap.size≤b)→v.ownBlock≠some b:=fun b hb e=>by
   have:=hvl b e;rcases hb with hb|hb
   ·have:=hG b hb;omega
   ·omega
  refine Dt.Rep.mono (fun b hb _=>⟨hb.2.imp id (fun h=>by omega),fun e=> ?_⟩) q.d (Dt.Rep.keep hK1 (fun b hb _ e=>hno b hb.2 e) q.d hr0);rcases hat with e'|e'
  ·rw[e']at e;exact hno b hb.2 e
  ·rw[e']at e;cases e;have:=hA.size;omega
theorem TRow.to_row{G:Nat→Prop}{w:World}{base:Nat}{v:Value}{ls:List Dt.P}(h:TRow G w base v ls):Dt.Row (fun k=>G k∨base≤k) w v (ls.map Dt.P.d):=
 Rd.row_of_own h.row rfl (fun j hj=> .inr (Dt.own_lt h.row j hj).1) (fun p hp=>Dt.Rep.mono (fun _b hb _=>hb.1) p.d (h.rep p hp))
theorem TRow.nil(G:Nat→Prop)(w:World)(base:Nat):TRow G w base (.slice none 0 0) []:=⟨World.ownsRow_nil _ _ _ _,fun _p hp=>nomatch hp⟩
theorem TRow.one{G:Nat→Prop}{w wA:World}{base:Nat}{k n:Int}{s:ByteArray}(hb:base≤w.heap.size)(h:w.alloc (.cells #[.int .i64 k,.int .i64 n,.string s,.slice none 0 0,.slice none 0 0,.slice none 0 0] 25)=wA):
  TRow G wA base (.slice (some ⟨w.heap.size,0,none⟩) 1 1) [⟨.mk k n s [] [] [],.slice none 0 0,.slice none 0 0,.slice none 0 0⟩]:=by
 refine⟨⟨rfl,.inr ⟨w.heap.size,1,#[.int .i64 k,.int .i64 n,.string s,.slice none 0 0,.slice none 0 0,.slice none 0 0],rfl,hb,by rw[←h];exact heap_alloc_new w _,Nat.le_refl _,by decide,rfl,?_⟩⟩,fun p hp=> ?_⟩
 ·rfl
 ·obtain rfl:p=_:=List.mem_singleton.1 hp;exact rep_nil _ _ _ _ _
structure TS(c:C)(w:World)(G:Nat→Prop)(cs:Array Value)(R0:Nat)(v:Value)(ps:List Dt.P)(wx:World):Prop where
 row:TRow (fun k=>G k∧k<w.heap.size) wx (R0+1) v ps
 hc:Hp wx w.heap.size cs 28
 hr:Hp wx R0 #[.int .i64 0,.int .i64 0,.string ⟨#[]⟩,.slice none 0 0,.slice none 0 0,.slice none 0 0] 25
 kb:Below w.heap.size w wx
 bs:R0+1≤wx.heap.size
theorem TS.push{c:C}{w:World}{G:Nat→Prop}{cs:Array Value}{R0:Nat}{v v':Value}{ps:List Dt.P}{wx w1 wA w5:World}{p:Dt.P}(hR:R0=w.heap.size+1)(h:TS c w G cs R0 v ps wx)(h1:Below wx.heap.size wx w1)(hp:Dt.Rep (fun k=>(G k∧k<w.heap.size)∨wx.heap.size≤k) w1 p.d p.vm p.vl p.vt)(hA:Below w1.heap.size w1 wA)
  (hown:w5.ownsRow (R0+1) 25 6 v' (ps.length+1) (Dt.flatP ps++p.cells)) (hg:wA.grownBy w5 v.ownBlock) (hat:v'.ownBlock=v.ownBlock∨v'.ownBlock=some wA.heap.size):TS c w G cs R0 v' (ps++[p]) w5:=by
 obtain⟨k1,k2⟩:=h.row.push h.bs (fun k hk=>by omega) h1 hp hA hown hg hat;have hlow:∀k,v.ownBlock=some k→R0+1≤k:=fun k e=>(Dt.own_lt h.row.row k e).1
 exact⟨k1,h.hc.keep k2 (fun e=>by have:=hlow _ e;omega),h.hr.keep k2 (fun e=>by have:=hlow _ e;omega),h.kb.trans (k2.to_below (fun k e=>by have:=hlow _ e;omega) h.kb.size),Nat.le_trans h.bs k2.size⟩
def TellIs(c:C):Prop:=∀(G:Nat→Prop) (vm vl vt vp vk:Value) (w:World),Wf c→Snd c→Rep G w c vm vl vt vp vk→
 Calls Tryz.prog 57 #[V c vm vl vt vp vk] w fun e w'=>∃um ul ut,e= .returned (.agg #[.int .i64 (tellD c).k,.int .i64 (tellD c).n,.string (tellD c).s,um,ul,ut])∧Dt.Rep (fun k=>G k∨w.heap.size≤k) w' (tellD c) um ul ut∧Below w.heap.size w w'
end Co
set_option maxRecDepth 100000 in
set_option maxHeartbeats 16000000 in
theorem coTell_step(c:Co.C)(hch:∀y∈c.l,Co.TellIs y):Co.TellIs c:=by
 intro G vm vl vt vp vk w hW hS hR;obtain⟨hal,hl8,hsl⟩:=Co.snd_parts hS;have hR:=Co.Rep.mono (G:=fun k=>G k∧k<w.heap.size) (fun b hb hl=>⟨hb,hl⟩) c hR;obtain⟨hrd,hrp,hrk⟩:=(Co.rep_iff _ _ _ _ _ _ _ _).1 hR;obtain⟨b1,n1,q1,b2,n2,q2,b3,n3,q3,b4,n4,q4,b5,n5,q5,rfl,rfl,rfl,rfl,rfl⟩:=hR.forms5;obtain⟨-,-,hWd,-,-,-,hWl⟩:=Co.wf_parts hW;obtain⟨_,_,he5,_,_⟩:=id hrk;injection he5 with he5a he5b he5c
 subst he5b;clear he5a he5c;have hp32:=Co.alone_p32 hal;unfold Co.V;obtain⟨w1,hw1⟩:∃w1,w.alloc (.cells #[.int .i64 c.k,.int .i64 c.n,.string c.s,.int .i64 c.d.k,.int .i64 c.d.n,.string c.d.s,.slice b1 n1 q1,.slice b2 n2 q2,.slice b3 n3 q3,.slice b4 n4 q4,.slice b5 c.l.length q5] 28)=w1:=⟨_,rfl⟩
 obtain⟨w2,hw2⟩:∃w2,w1.alloc (.cells #[.int .i64 0,.int .i64 0,.string ⟨#[]⟩,.slice none 0 0,.slice none 0 0,.slice none 0 0] 25)=w2:=⟨_,rfl⟩
 obtain⟨hb1,hs1⟩:=new_below hw1;obtain⟨hb2,hs2⟩:=new_below hw2;have Hc:=zh ((Hp.new hw1).below hb2);have Hr:=zh (Hp.new hw2);have hb12:=btr hb1 hb2;obtain⟨R0,hR0⟩:∃R0,w1.heap.size=R0:=⟨_,rfl⟩
 rw[hR0]at Hr hs1 hs2;have HR0:Hid (R0=w.heap.size+1∧w2.heap.size=R0+1):=⟨hs1,hs2⟩
 have HB2:=zh hb12;have HRD:=zh hrd;have HRP:=zh hrp;have HRK:=zh hrk;have HWL:=zh hWl;have HSL:=zh hsl;have HCH:=zh hch;have hfm:=fun W=>forms_any c.k W
 obtain⟨fs,fh,fl,ft,hfv,hfs,hfh⟩:∃(fs:ByteArray) (fh fl ft:Int),Co.fmV c.k= .agg #[.string fs,.int .i64 fh,.int .i64 fl,.int .i64 ft]∧fs=⟨(Co.fm c.k).1.toArray⟩∧fh=(Co.fm c.k).2.1:=⟨_,_,_,_,rfl,rfl,rfl⟩
 rw[hfv]at hfm;obtain⟨ik,hik⟩:∃ik,Co.isKind c.k=ik:=⟨_,rfl⟩
 rw[hik]at hfm;have HFS:=zh hfs;have HFH:=zh hfh;have HK8:=zh hl8;obtain⟨i0,hi,hz0,hz1,hz2⟩:=info_parts Dt.infoD;have HI:=zh hi;have HZ0:=zh hz0;have HZ1:=zh hz1;have HZ2:=zh hz2;obtain⟨c0,c1,c2,c3,c4,c5,c6,c7,c8,c9,c10⟩:=Hc.out.c11;clear hb1 hb2 hs1 hs2 hb12 hrd hrp hrk hWd hWl hsl hch hW hS hR hal hfv hik hfs hfh hi hz0 hz1 hz2;have hsy:=fun W=>coSym_any fs W
 go_enter Tryz.func57,Tryz.ntmps57;go_upto_block 0 with((first|(go_at_call 49;refine(hfm _).mono ?_;rintro e w5 ⟨rfl,hb5⟩;clear c0 c1 c2 c3 c4 c5 c6 c7 c8 c9 c10;have hw6:w5.alloc (.cells #[.string fs,.int .i64 fh,.int .i64 fl,.int .i64 ft] 88)=w5.alloc (.cells #[.string fs,.int .i64 fh,.int .i64 fl,.int .i64 ft] 88):=rfl;obtain⟨hb6,-⟩:=new_below hw6;have f0:=(Hp.new hw6).cell 0 rfl;have f1:=(Hp.new hw6).cell 1 rfl;have HF6:=zh (Hp.new hw6);have HB6:=zh ((btr hb5 hb6));clear hb5 hb6 hw6 hfm)|(go_at_call 77;refine(hsy _).mono ?_;rintro e w7 ⟨rfl,hb7⟩;have HF7:=zh (HF6.out.below hb7);have HB7:Hid (Below w2.heap.size w2 w7):=zh ((btr HB6.out hb7));have hwA:w7.alloc (.cells #[.int .i64 5,.int .i64 0,.string fs,.slice none 0 0,.slice none 0 0,.slice none 0 0] 25)=w7.alloc (.cells #[.int .i64 5,.int .i64 0,.string fs,.slice none 0 0,.slice none 0 0,.slice none 0 0] 25):=rfl;obtain⟨hbA,-⟩:=new_below hwA;have f1:=(HF7.out.below hbA).cell 1 rfl;have HBA:=zh hbA;clear hb7 hwA hbA f0 hsy)))
 obtain⟨w8,hw8⟩:∃w8,w7.alloc (.cells #[.int .i64 5,.int .i64 0,.string fs,.slice none 0 0,.slice none 0 0,.slice none 0 0] 25)=w8:=⟨_,rfl⟩
 rw[hw8]at f1 HBA ⊢;have HT8:Hid (Co.TS c w G #[.int .i64 c.k,.int .i64 c.n,.string c.s,.int .i64 c.d.k,.int .i64 c.d.n,.string c.d.s,.slice b1 n1 q1,.slice b2 n2 q2,.slice b3 n3 q3,.slice b4 n4 q4,.slice b5 c.l.length q5] R0 (.slice (some ⟨w7.heap.size,0,none⟩) 1 1) [(⟨Co.symD fs,.slice none 0 0,.slice none 0 0,.slice none 0 0⟩:Dt.P)] w8):=by
  have h1:=HB7.out.size;have h2:=HR0.out;have hb:Below w2.heap.size w2 w8:=HB7.out.trans (HBA.out.mono h1);exact⟨Co.TRow.one (by omega) hw8,Hc.out.below hb,Hr.out.below hb,(btr HB2.out hb),by have:=hb.size;omega⟩
 have HP8:Hid (Hp w8 w7.heap.size #[.int .i64 5,.int .i64 0,.string fs,.slice none 0 0,.slice none 0 0,.slice none 0 0] 25):=Hp.new hw8;have HL8:Hid (w7.heap.size<w8.heap.size):=HP8.out.lt;clear hw8 hw1 hw2 Hc Hr HB2
 go_cut [5] (fun v wx=>∃(al:Option Addr) (ql m:Nat) (ps:List Dt.P),v= .slice al m ql∧m=ps.length∧m≤2∧ps.map Dt.P.d=Co.symD (Co.wordD c) :: Co.bodyD c∧Co.TS c w G #[.int .i64 c.k,.int .i64 c.n,.string c.s,.int .i64 c.d.k,.int .i64 c.d.n,.string c.d.s,.slice b1 n1 q1,.slice b2 n2 q2,.slice b3 n3 q3,.slice b4 n4 q4,.slice b5 c.l.length q5] R0 v ps wx)
 case first=>
  have HC8:Hid (Hp w8 w.heap.size #[.int .i64 c.k,.int .i64 c.n,.string c.s,.int .i64 c.d.k,.int .i64 c.d.n,.string c.d.s,.slice b1 n1 q1,.slice b2 n2 q2,.slice b3 n3 q3,.slice b4 n4 q4,.slice b5 c.l.length q5] 28):=HT8.out.hc;have hfin:∀(al:Option Addr) (ql:Nat) (s:ByteArray) (x:Dt.D) (vm vl vt:Value) (wx:World),Co.TS c w G #[.int .i64 c.k,.int .i64 c.n,.string c.s,.int .i64 c.d.k,.int .i64 c.d.n,.string c.d.s,.slice b1 n1 q1,.slice b2 n2 q2,.slice b3 n3 q3,.slice b4 n4 q4,.slice b5 c.l.length q5] R0 (.slice al 2 ql) ([(⟨Co.symD s,.slice none 0 0,.slice none 0 0,.slice none 0 0⟩:Dt.P)]++[(⟨x,vm,vl,vt⟩:Dt.P)]) wx→Co.wordD c=s→Co.bodyD c=[x]→(fun v wx=>∃(al:Option Addr) (ql m:Nat) (ps:List Dt.P),v= .slice al m ql∧m=ps.length∧m≤2∧ps.map Dt.P.d=Co.symD (Co.wordD c) :: Co.bodyD c∧Co.TS c w G #[.int .i64 c.k,.int .i64 c.n,.string c.s,.int .i64 c.d.k,.int .i64 c.d.n,.string c.d.s,.slice b1 n1 q1,.slice b2 n2 q2,.slice b3 n3 q3,.slice b4 n4 q4,.slice b5 c.l.length q5] R0 v ps wx) (.slice al 2 ql) wx:=fun al ql s x vm vl vt wx h e1 e2=>
   ⟨al,ql,2,_,rfl,rfl,Nat.le_refl _,by rw[e1,e2];rfl,h⟩
  have HFIN:=zh hfin;clear hfin;have HH:=zh (Co.fm_has c.k);rcases HH.out with⟨e1,e2⟩|⟨e1,e2⟩|⟨e1,e2⟩|⟨e1,e2⟩|⟨e1,e2⟩
  all_goals (rw[←HFH.out]at e1;subst e1)
  ·-- a constant
   have HE2:=zh e2;clear e2;obtain⟨c0,c1,c2,c3,c4,c5,c6,c7,c8,c9,c10⟩:=HC8.out.c11;have hWA:w8.alloc (.cells #[.int .i64 c.d.k,.int .i64 c.d.n,.string c.d.s,.slice b1 n1 q1,.slice b2 n2 q2,.slice b3 n3 q3] 25)=w8.alloc (.cells #[.int .i64 c.d.k,.int .i64 c.d.n,.string c.d.s,.slice b1 n1 q1,.slice b2 n2 q2,.slice b3 n3 q3] 25):=rfl;obtain⟨hbA,hsA⟩:=new_below hWA;have HS:Hid (Ap.Src (w8.alloc (.cells #[.int .i64 c.d.k,.int .i64 c.d.n,.string c.d.s,.slice b1 n1 q1,.slice b2 n2 q2,.slice b3 n3 q3] 25)) (.slice (some ⟨w8.heap.size,0,none⟩) 1 1) 1 [.int .i64 c.d.k,.int .i64 c.d.n,.string c.d.s,.slice b1 n1 q1,.slice b2 n2 q2,.slice b3 n3 q3]):=Rd.srcNew hWA;have HRO:Hid ((w8.alloc (.cells #[.int .i64 c.d.k,.int .i64 c.d.n,.string c.d.s,.slice b1 n1 q1,.slice b2 n2 q2,.slice b3 n3 q3] 25)).ownsRow (R0+1) 25 6 (.slice (some ⟨w7.heap.size,0,none⟩) 1 1) 1 (Dt.flatP [(⟨Co.symD fs,.slice none 0 0,.slice none 0 0,.slice none 0 0⟩:Dt.P)])):=by
    have:=(HT8.out.row.below hbA).row;exact this
   have HBA:=zh hbA;have HSZ:Hid ((R0+1)≤(w8.alloc (.cells #[.int .i64 c.d.k,.int .i64 c.d.n,.string c.d.s,.slice b1 n1 q1,.slice b2 n2 q2,.slice b3 n3 q3] 25)).heap.size):=by
    have h1:=hbA.size;have h2:(R0+1)≤w8.heap.size:=HT8.out.bs;show(R0+1)≤_;omega
   clear hWA hbA hsA;have hm1:1+1≤maxLen:=by unfold maxLen;omega
   have hm2:(1+1)*104≤140737488355328:=by omega
   go_wp2_with(at_builtin;refine Ap.list rfl _ _ 23 rfl (R0+1) 25 i0 _ 6 104 Tryz.underlying23 HI.out HZ0.out HZ1.out HZ2.out rfl (by decide) (.slice (some ⟨w7.heap.size,0,none⟩) 1 1) 1 (Dt.flatP [(⟨Co.symD fs,.slice none 0 0,.slice none 0 0,.slice none 0 0⟩:Dt.P)]) rfl HRO.out (.slice (some ⟨w8.heap.size,0,none⟩) 1 1) 1 [.int .i64 c.d.k,.int .i64 c.d.n,.string c.d.s,.slice b1 n1 q1,.slice b2 n2 q2,.slice b3 n3 q3] rfl HS.out rfl (by intro u hu;simp only[List.mem_cons,List.not_mem_nil,or_false]at hu;rcases hu with rfl|rfl|rfl|rfl|rfl|rfl <;> rfl) hm1 hm2 HSZ.out ?_;intro v' wZ hown hg hat;obtain⟨al',ql',rfl⟩:=Dt.row_form hown;have HOWN:=zh hown;have HGR:=zh hg;have HAT:=zh hat;clear hown hg hat)
   have HN:=HFIN.out al' ql' fs c.d _ _ _ wZ (HT8.out.push HR0.out.1 (Below.refl _ _) (p:=⟨c.d,.slice b1 n1 q1,.slice b2 n2 q2,.slice b3 n3 q3⟩) (Dt.Rep.mono (fun b hb _=> .inl hb) c.d (HRD.out.below HT8.out.kb)) HBA.out HOWN.out HGR.out HAT.out) (by unfold Co.wordD;rw[if_neg (fun h=>by have:=HE2.out;omega)];exact HFS.out.symm) (by unfold Co.bodyD;rw[if_pos HE2.out]);clear c0 c1 c2 c3 c4 c5 c6 c7 c8 c9 c10;clear HFIN;go_wp2;go_meet;exact HN
  ·-- a number
   have HE2:=zh e2;clear e2;obtain⟨c0,c1,c2,c3,c4,c5,c6,c7,c8,c9,c10⟩:=HC8.out.c11;have hcl:=fun W=>coFix_any c.n W
   go_wp2_with fail
   refine(hcl _).mono ?_;rintro e wS ⟨rfl,hbS⟩;have HBS:=zh hbS;clear hbS hcl;have hWA:wS.alloc (.cells #[.int .i64 1,.int .i64 c.n,.string ⟨#[]⟩,.slice none 0 0,.slice none 0 0,.slice none 0 0] 25)=wS.alloc (.cells #[.int .i64 1,.int .i64 c.n,.string ⟨#[]⟩,.slice none 0 0,.slice none 0 0,.slice none 0 0] 25):=rfl;obtain⟨hbA,hsA⟩:=new_below hWA;have HS:Hid (Ap.Src (wS.alloc (.cells #[.int .i64 1,.int .i64 c.n,.string ⟨#[]⟩,.slice none 0 0,.slice none 0 0,.slice none 0 0] 25)) (.slice (some ⟨wS.heap.size,0,none⟩) 1 1) 1 [.int .i64 1,.int .i64 c.n,.string ⟨#[]⟩,.slice none 0 0,.slice none 0 0,.slice none 0 0]):=Rd.srcNew hWA;have HRO:Hid ((wS.alloc (.cells #[.int .i64 1,.int .i64 c.n,.string ⟨#[]⟩,.slice none 0 0,.slice none 0 0,.slice none 0 0] 25)).ownsRow (R0+1) 25 6 (.slice (some ⟨w7.heap.size,0,none⟩) 1 1) 1 (Dt.flatP [(⟨Co.symD fs,.slice none 0 0,.slice none 0 0,.slice none 0 0⟩:Dt.P)])):=by
    have:=((HT8.out.row.below HBS.out).below hbA).row;exact this
   have HBA:=zh hbA;have HSZ:Hid ((R0+1)≤(wS.alloc (.cells #[.int .i64 1,.int .i64 c.n,.string ⟨#[]⟩,.slice none 0 0,.slice none 0 0,.slice none 0 0] 25)).heap.size):=by
    have h1:=hbA.size;have h2:(R0+1)≤wS.heap.size:=(Nat.le_trans HT8.out.bs HBS.out.size)
    show(R0+1)≤_;omega
   clear hWA hbA hsA;have hm1:1+1≤maxLen:=by unfold maxLen;omega
   have hm2:(1+1)*104≤140737488355328:=by omega
   go_wp2_with(at_builtin;refine Ap.list rfl _ _ 23 rfl (R0+1) 25 i0 _ 6 104 Tryz.underlying23 HI.out HZ0.out HZ1.out HZ2.out rfl (by decide) (.slice (some ⟨w7.heap.size,0,none⟩) 1 1) 1 (Dt.flatP [(⟨Co.symD fs,.slice none 0 0,.slice none 0 0,.slice none 0 0⟩:Dt.P)]) rfl HRO.out (.slice (some ⟨wS.heap.size,0,none⟩) 1 1) 1 [.int .i64 1,.int .i64 c.n,.string ⟨#[]⟩,.slice none 0 0,.slice none 0 0,.slice none 0 0] rfl HS.out rfl (by intro u hu;simp only[List.mem_cons,List.not_mem_nil,or_false]at hu;rcases hu with rfl|rfl|rfl|rfl|rfl|rfl <;> rfl) hm1 hm2 HSZ.out ?_;intro v' wZ hown hg hat;obtain⟨al',ql',rfl⟩:=Dt.row_form hown;have HOWN:=zh hown;have HGR:=zh hg;have HAT:=zh hat;clear hown hg hat)
   have HN:=HFIN.out al' ql' fs (Co.fixD c.n) _ _ _ wZ (HT8.out.push HR0.out.1 HBS.out (p:=⟨(Co.fixD c.n),.slice none 0 0,.slice none 0 0,.slice none 0 0⟩) (Co.rep_nil _ _ _ _ _) HBA.out HOWN.out HGR.out HAT.out) (by unfold Co.wordD;rw[if_neg (fun h=>by have:=HE2.out;omega)];exact HFS.out.symm) (by have:=HE2.out;unfold Co.bodyD;rw[if_neg (by omega),if_pos HE2.out]);clear c0 c1 c2 c3 c4 c5 c6 c7 c8 c9 c10;clear HFIN;go_wp2;go_meet;exact HN
  ·-- a name
   have HE2:=zh e2;clear e2;obtain⟨c0,c1,c2,c3,c4,c5,c6,c7,c8,c9,c10⟩:=HC8.out.c11;have hcl:=fun W=>coSym_any c.s W
   go_wp2_with fail
   refine(hcl _).mono ?_;rintro e wS ⟨rfl,hbS⟩;have HBS:=zh hbS;clear hbS hcl;have hWA:wS.alloc (.cells #[.int .i64 5,.int .i64 0,.string c.s,.slice none 0 0,.slice none 0 0,.slice none 0 0] 25)=wS.alloc (.cells #[.int .i64 5,.int .i64 0,.string c.s,.slice none 0 0,.slice none 0 0,.slice none 0 0] 25):=rfl;obtain⟨hbA,hsA⟩:=new_below hWA;have HS:Hid (Ap.Src (wS.alloc (.cells #[.int .i64 5,.int .i64 0,.string c.s,.slice none 0 0,.slice none 0 0,.slice none 0 0] 25)) (.slice (some ⟨wS.heap.size,0,none⟩) 1 1) 1 [.int .i64 5,.int .i64 0,.string c.s,.slice none 0 0,.slice none 0 0,.slice none 0 0]):=Rd.srcNew hWA;have HRO:Hid ((wS.alloc (.cells #[.int .i64 5,.int .i64 0,.string c.s,.slice none 0 0,.slice none 0 0,.slice none 0 0] 25)).ownsRow (R0+1) 25 6 (.slice (some ⟨w7.heap.size,0,none⟩) 1 1) 1 (Dt.flatP [(⟨Co.symD fs,.slice none 0 0,.slice none 0 0,.slice none 0 0⟩:Dt.P)])):=by
    have:=((HT8.out.row.below HBS.out).below hbA).row;exact this
   have HBA:=zh hbA;have HSZ:Hid ((R0+1)≤(wS.alloc (.cells #[.int .i64 5,.int .i64 0,.string c.s,.slice none 0 0,.slice none 0 0,.slice none 0 0] 25)).heap.size):=by
    have h1:=hbA.size;have h2:(R0+1)≤wS.heap.size:=(Nat.le_trans HT8.out.bs HBS.out.size)
    show(R0+1)≤_;omega
   clear hWA hbA hsA;have hm1:1+1≤maxLen:=by unfold maxLen;omega
   have hm2:(1+1)*104≤140737488355328:=by omega
   go_wp2_with(at_builtin;refine Ap.list rfl _ _ 23 rfl (R0+1) 25 i0 _ 6 104 Tryz.underlying23 HI.out HZ0.out HZ1.out HZ2.out rfl (by decide) (.slice (some ⟨w7.heap.size,0,none⟩) 1 1) 1 (Dt.flatP [(⟨Co.symD fs,.slice none 0 0,.slice none 0 0,.slice none 0 0⟩:Dt.P)]) rfl HRO.out (.slice (some ⟨wS.heap.size,0,none⟩) 1 1) 1 [.int .i64 5,.int .i64 0,.string c.s,.slice none 0 0,.slice none 0 0,.slice none 0 0] rfl HS.out rfl (by intro u hu;simp only[List.mem_cons,List.not_mem_nil,or_false]at hu;rcases hu with rfl|rfl|rfl|rfl|rfl|rfl <;> rfl) hm1 hm2 HSZ.out ?_;intro v' wZ hown hg hat;obtain⟨al',ql',rfl⟩:=Dt.row_form hown;have HOWN:=zh hown;have HGR:=zh hg;have HAT:=zh hat;clear hown hg hat)
   have HN:=HFIN.out al' ql' fs (Co.symD c.s) _ _ _ wZ (HT8.out.push HR0.out.1 HBS.out (p:=⟨(Co.symD c.s),.slice none 0 0,.slice none 0 0,.slice none 0 0⟩) (Co.rep_nil _ _ _ _ _) HBA.out HOWN.out HGR.out HAT.out) (by unfold Co.wordD;rw[if_neg (fun h=>by have:=HE2.out;omega)];exact HFS.out.symm) (by have:=HE2.out;unfold Co.bodyD;rw[if_neg (by omega),if_neg (by omega),if_pos HE2.out]);clear c0 c1 c2 c3 c4 c5 c6 c7 c8 c9 c10;clear HFIN;go_wp2;go_meet;exact HN
  ·-- parameters
   have HE2:=zh e2;clear e2;have c1:=HC8.out.cell 1 rfl
   go_upto_if 50 with fail
   clear c1
   go_cut [] (fun wx=>Co.TS c w G #[.int .i64 c.k,.int .i64 c.n,.string c.s,.int .i64 c.d.k,.int .i64 c.d.n,.string c.d.s,.slice b1 n1 q1,.slice b2 n2 q2,.slice b3 n3 q3,.slice b4 n4 q4,.slice b5 c.l.length q5] R0 (.slice (some ⟨w7.heap.size,0,none⟩) 1 1) [(⟨Co.symD (Co.wordD c),.slice none 0 0,.slice none 0 0,.slice none 0 0⟩:Dt.P)] wx)
   case first=>
    by_cases hn:c.n=1
    ·have hnb:(c.n==1)=true:=by simpa using hn
     have p2:=HP8.out.cell 2 rfl;have pf2:=HP8.out.frz 2;have ew:Co.wordD c=fs++⟨#[42]⟩:=by unfold Co.wordD;rw[if_pos ⟨HE2.out,hn⟩,HFS.out]
     have HN:Hid (Co.TS c w G #[.int .i64 c.k,.int .i64 c.n,.string c.s,.int .i64 c.d.k,.int .i64 c.d.n,.string c.d.s,.slice b1 n1 q1,.slice b2 n2 q2,.slice b3 n3 q3,.slice b4 n4 q4,.slice b5 c.l.length q5] R0 (.slice (some ⟨w7.heap.size,0,none⟩) 1 1) [(⟨Co.symD (Co.wordD c),.slice none 0 0,.slice none 0 0,.slice none 0 0⟩:Dt.P)] (w8.setCell ⟨w7.heap.size,2,none⟩ (.string (fs++⟨#[42]⟩)))):=by
      have h2:=HR0.out;have h3:=(Dt.own_lt HT8.out.row.row w7.heap.size rfl).1;have k:=set_keep w8 w7.heap.size 2 (.string (fs++⟨#[42]⟩));rw[ew];refine⟨⟨?_,fun p hp=> ?_⟩,HT8.out.hc.keep k (by omega),HT8.out.hr.keep k (by omega),HT8.out.kb.trans (k.to_below (fun j e=>by omega) HT8.out.kb.size),Nat.le_trans HT8.out.bs k.size⟩
      ·exact Pt.own_set (ys:=[.int .i64 5,.int .i64 0]) (zs:=[.slice none 0 0,.slice none 0 0,.slice none 0 0]) (z:= .string fs) (v:= .string (fs++⟨#[42]⟩)) HT8.out.row.row
      ·obtain rfl:p=_:=List.mem_singleton.1 hp;exact Co.rep_nil _ _ _ _ _
     clear hn ew;have hfz:fs.size+(⟨#[42]⟩:ByteArray).size≤9223372036854775807:=by rw[HFS.out,HE2.out];decide
     have hadd:=fun W=>run_string_add_sum (P:=Tryz.prog) (w:=W) fs ⟨#[42]⟩ hfz
     go_wp2;go_meet;exact HN.out
    ·have hnb:(c.n==1)=false:=by simpa using hn
     have ew:Co.wordD c=fs:=by unfold Co.wordD;rw[if_neg (fun h=>hn h.2),HFS.out]
     have HN:Hid (Co.TS c w G #[.int .i64 c.k,.int .i64 c.n,.string c.s,.int .i64 c.d.k,.int .i64 c.d.n,.string c.d.s,.slice b1 n1 q1,.slice b2 n2 q2,.slice b3 n3 q3,.slice b4 n4 q4,.slice b5 c.l.length q5] R0 (.slice (some ⟨w7.heap.size,0,none⟩) 1 1) [(⟨Co.symD (Co.wordD c),.slice none 0 0,.slice none 0 0,.slice none 0 0⟩:Dt.P)] w8):=by rw[ew];exact HT8.out
     clear hn ew;go_wp2;go_meet;exact HN.out
   case rest=>
    obtain⟨w9,rfl⟩:∃w9,w9=wc:=⟨_,rfl⟩
    have HT9:=zh hcut;clear hcut;have HC9:Hid (Hp w9 w.heap.size #[.int .i64 c.k,.int .i64 c.n,.string c.s,.int .i64 c.d.k,.int .i64 c.d.n,.string c.d.s,.slice b1 n1 q1,.slice b2 n2 q2,.slice b3 n3 q3,.slice b4 n4 q4,.slice b5 c.l.length q5] 28):=HT9.out.hc;have c9:=HC9.out.cell 9 rfl;have hn4:n4=c.p.length:=by
     obtain⟨_,_,he,-⟩:=HRP.out;injection he
    subst hn4;have HINV0:Hid (([]:List Dt.P).length=0∧([]:List Dt.P).map Dt.P.d=(c.p.take 0).map Co.fixD∧Co.TRow (fun k=>G k∧k<w.heap.size) w9 w9.heap.size (.slice none 0 0) []∧Below w9.heap.size w9 w9):=⟨rfl,rfl,Co.TRow.nil _ _ _,Below.refl _ _⟩
    go_wp2;clear c9
    go_loopw [6,61] (fun v6 v61 wr=>∃(j:Nat) (ps:List Dt.P) (al:Option Addr) (ql:Nat),v6= .slice al j ql∧v61= .int .i64 j∧j≤c.p.length∧Hid (ps.length=j∧ps.map Dt.P.d=(c.p.take j).map Co.fixD∧Co.TRow (fun k=>G k∧k<w.heap.size) wr w9.heap.size (.slice al j ql) ps∧Below w9.heap.size w9 wr)) (fun _ v61 _=>c.p.length - (intOf v61).toNat)
    case atStart=>exact⟨0,[],none,0,rfl,rfl,by omega,HINV0⟩
    case round=>
     clear HINV0;obtain⟨j,ps,al,ql,rfl,rfl,hj,HL⟩:=hrel;by_cases hlt:j<c.p.length
     case neg=>
      have hge:(c.p.length:Int)≤(j:Int):=by omega
      obtain rfl:j=c.p.length:=by omega
      have hli:=fun W (hb:Below wr.heap.size wr W)=>coList_any (.slice al c.p.length ql) (ps.map Dt.P.d) W (HL.out.2.2.1.to_row.below hb) (Rd.own_nz HL.out.2.2.1.row) (by rw[List.length_map,HL.out.1];omega)
      go_wp2_with fail
      refine(hli _ (Below.refl _ _)).mono ?_;rintro e wS ⟨v',rfl,hrow,hbS⟩;obtain⟨al2,ql2,rfl,hql2,hrow2⟩:=hrow;have HRW:Hid (Dt.Row (fun k=>((fun k=>G k∧k<w.heap.size) k∨w9.heap.size≤k)∨wr.heap.size≤k) wS (.slice al2 (ps.map Dt.P.d).length ql2) (ps.map Dt.P.d)):=⟨al2,ql2,rfl,hql2,hrow2⟩
      have HBS:Hid (Below w9.heap.size w9 wS):=HL.out.2.2.2.trans (hbS.mono HL.out.2.2.2.size);have HEQ:Hid (ps.map Dt.P.d=c.p.map Co.fixD):=by have h:=HL.out.2.1;rw[List.take_length]at h;exact h
      obtain⟨N2,hN2⟩:∃N2,(ps.map Dt.P.d).length=N2:=⟨_,rfl⟩
      rw[hN2]at HRW ⊢;clear hrow2 hql2 hbS hli hN2;have hWA:wS.alloc (.cells #[.int .i64 6,.int .i64 0,.string ⟨#[]⟩,.slice none 0 0,.slice al2 N2 ql2,.slice none 0 0] 25)=wS.alloc (.cells #[.int .i64 6,.int .i64 0,.string ⟨#[]⟩,.slice none 0 0,.slice al2 N2 ql2,.slice none 0 0] 25):=rfl;obtain⟨hbA,hsA⟩:=new_below hWA;have HS:Hid (Ap.Src (wS.alloc (.cells #[.int .i64 6,.int .i64 0,.string ⟨#[]⟩,.slice none 0 0,.slice al2 N2 ql2,.slice none 0 0] 25)) (.slice (some ⟨wS.heap.size,0,none⟩) 1 1) 1 [.int .i64 6,.int .i64 0,.string ⟨#[]⟩,.slice none 0 0,.slice al2 N2 ql2,.slice none 0 0]):=Rd.srcNew hWA;have HRO:Hid ((wS.alloc (.cells #[.int .i64 6,.int .i64 0,.string ⟨#[]⟩,.slice none 0 0,.slice al2 N2 ql2,.slice none 0 0] 25)).ownsRow (R0+1) 25 6 (.slice (some ⟨w7.heap.size,0,none⟩) 1 1) 1 (Dt.flatP [(⟨Co.symD (Co.wordD c),.slice none 0 0,.slice none 0 0,.slice none 0 0⟩:Dt.P)])):=by
       have:=((HT9.out.row.below HBS.out).below hbA).row;exact this
      have HBA:=zh hbA;have HSZ:Hid ((R0+1)≤(wS.alloc (.cells #[.int .i64 6,.int .i64 0,.string ⟨#[]⟩,.slice none 0 0,.slice al2 N2 ql2,.slice none 0 0] 25)).heap.size):=by
       have h1:=hbA.size;have h2:(R0+1)≤wS.heap.size:=(Nat.le_trans HT9.out.bs HBS.out.size)
       show(R0+1)≤_;omega
      clear hWA hbA hsA;have hm1:1+1≤maxLen:=by unfold maxLen;omega
      have hm2:(1+1)*104≤140737488355328:=by omega
      go_wp2_with(at_builtin;refine Ap.list rfl _ _ 23 rfl (R0+1) 25 i0 _ 6 104 Tryz.underlying23 HI.out HZ0.out HZ1.out HZ2.out rfl (by decide) (.slice (some ⟨w7.heap.size,0,none⟩) 1 1) 1 (Dt.flatP [(⟨Co.symD (Co.wordD c),.slice none 0 0,.slice none 0 0,.slice none 0 0⟩:Dt.P)]) rfl HRO.out (.slice (some ⟨wS.heap.size,0,none⟩) 1 1) 1 [.int .i64 6,.int .i64 0,.string ⟨#[]⟩,.slice none 0 0,.slice al2 N2 ql2,.slice none 0 0] rfl HS.out rfl (by intro u hu;simp only[List.mem_cons,List.not_mem_nil,or_false]at hu;rcases hu with rfl|rfl|rfl|rfl|rfl|rfl <;> rfl) hm1 hm2 HSZ.out ?_;intro v' wZ hown hg hat;obtain⟨al',ql',rfl⟩:=Dt.row_form hown;have HOWN:=zh hown;have HGR:=zh hg;have HAT:=zh hat;clear hown hg hat)
      have HN:=HFIN.out al' ql' (Co.wordD c) (Co.lstD (ps.map Dt.P.d)) _ _ _ wZ (HT9.out.push HR0.out.1 HBS.out (p:=⟨(Co.lstD (ps.map Dt.P.d)),.slice none 0 0,.slice al2 N2 ql2,.slice none 0 0⟩) ((Dt.rep_iff _ _ _ _ _ _).2 ⟨⟨none,0,rfl,Nat.le_refl _,fun h=>absurd rfl h⟩,HRW.out.mono (fun b hb _=>by have:=HL.out.2.2.2.size;rcases hb with(hb|hb)|hb;exact .inl hb;exact .inr hb;exact .inr (by omega)),⟨none,0,rfl,Nat.le_refl _,fun h=>absurd rfl h⟩⟩) HBA.out HOWN.out HGR.out HAT.out) rfl (by have:=HE2.out;unfold Co.bodyD;rw[if_neg (by omega),if_neg (by omega),if_neg (by omega),if_pos HE2.out,HEQ.out]);clear HFIN;go_wp2;go_meet;exact HN
     have hlti:(j:Int)<(c.p.length:Int):=by omega
     obtain⟨_,_,he,_,hrow⟩:=HRP.out.below (HT9.out.kb.trans (HL.out.2.2.2.mono HT9.out.kb.size));injection he with he1 he2 he3
     subst he1;clear he2 he3;obtain⟨ba,oa,rfl,hGa,hbla,hcella⟩:=hrow (by intro h0;rw[h0]at hlt;simp at hlt);have p0:=hcella j hlt;obtain⟨x,hx⟩:∃x,c.p[j]=x:=⟨_,rfl⟩
     rw[hx]at p0;have HXX:=zh hx;have hcl:=fun W=>coFix_any x W
     clear hrow hGa hbla hcella hx;go_wp2_with fail
     refine(hcl _).mono ?_;rintro e wS ⟨rfl,hbS⟩;have HBS:=zh hbS;clear hbS hcl p0;have hWA:wS.alloc (.cells #[.int .i64 1,.int .i64 x,.string ⟨#[]⟩,.slice none 0 0,.slice none 0 0,.slice none 0 0] 25)=wS.alloc (.cells #[.int .i64 1,.int .i64 x,.string ⟨#[]⟩,.slice none 0 0,.slice none 0 0,.slice none 0 0] 25):=rfl;obtain⟨hbA,hsA⟩:=new_below hWA;have HS:Hid (Ap.Src (wS.alloc (.cells #[.int .i64 1,.int .i64 x,.string ⟨#[]⟩,.slice none 0 0,.slice none 0 0,.slice none 0 0] 25)) (.slice (some ⟨wS.heap.size,0,none⟩) 1 1) 1 [.int .i64 1,.int .i64 x,.string ⟨#[]⟩,.slice none 0 0,.slice none 0 0,.slice none 0 0]):=Rd.srcNew hWA;have HRO:Hid ((wS.alloc (.cells #[.int .i64 1,.int .i64 x,.string ⟨#[]⟩,.slice none 0 0,.slice none 0 0,.slice none 0 0] 25)).ownsRow w9.heap.size 25 6 (.slice al j ql) j (Dt.flatP ps)):=by
      have:=((HL.out.2.2.1.below HBS.out).below hbA).row;rw[HL.out.1]at this;exact this
     have HBA:=zh hbA;have HSZ:Hid (w9.heap.size≤(wS.alloc (.cells #[.int .i64 1,.int .i64 x,.string ⟨#[]⟩,.slice none 0 0,.slice none 0 0,.slice none 0 0] 25)).heap.size):=by
      have h1:=hbA.size;have h2:w9.heap.size≤wS.heap.size:=(Nat.le_trans HL.out.2.2.2.size HBS.out.size)
      show w9.heap.size≤_;omega
     clear hWA hbA hsA;have hm1:j+1≤maxLen:=by unfold maxLen;omega
     have hm2:(j+1)*104≤140737488355328:=by omega
     go_wp2_with(at_builtin;refine Ap.list rfl _ _ 23 rfl w9.heap.size 25 i0 _ 6 104 Tryz.underlying23 HI.out HZ0.out HZ1.out HZ2.out rfl (by decide) (.slice al j ql) j (Dt.flatP ps) rfl HRO.out (.slice (some ⟨wS.heap.size,0,none⟩) 1 1) 1 [.int .i64 1,.int .i64 x,.string ⟨#[]⟩,.slice none 0 0,.slice none 0 0,.slice none 0 0] rfl HS.out rfl (by intro u hu;simp only[List.mem_cons,List.not_mem_nil,or_false]at hu;rcases hu with rfl|rfl|rfl|rfl|rfl|rfl <;> rfl) hm1 hm2 HSZ.out ?_;intro v' wZ hown hg hat;obtain⟨al',ql',rfl⟩:=Dt.row_form hown;have HOWN:=zh hown;have HGR:=zh hg;have HAT:=zh hat;clear hown hg hat)
     have HN:Hid ((ps++[(⟨Co.fixD x,.slice none 0 0,.slice none 0 0,.slice none 0 0⟩:Dt.P)]).length=j+1∧(ps++[(⟨Co.fixD x,.slice none 0 0,.slice none 0 0,.slice none 0 0⟩:Dt.P)]).map Dt.P.d=(c.p.take (j+1)).map Co.fixD∧Co.TRow (fun k=>G k∧k<w.heap.size) wZ w9.heap.size (.slice al' (j+1) ql') (ps++[(⟨Co.fixD x,.slice none 0 0,.slice none 0 0,.slice none 0 0⟩:Dt.P)])∧Below w9.heap.size w9 wZ):=by
      have h1:=HL.out.1;obtain⟨k1,k2⟩:=HL.out.2.2.1.push HL.out.2.2.2.size (fun k hk=>by have:=HT9.out.kb.size;omega) HBS.out (p:=⟨Co.fixD x,.slice none 0 0,.slice none 0 0,.slice none 0 0⟩) (Co.rep_nil _ _ _ _ _) HBA.out (by rw[h1];exact HOWN.out) HGR.out HAT.out;refine⟨by rw[List.length_append,h1];rfl,?_,k1,HL.out.2.2.2.trans (k2.to_below (fun k e=>(Dt.own_lt HL.out.2.2.1.row k e).1) HL.out.2.2.2.size)⟩;rw[List.map_append,HL.out.2.1,List.take_succ_eq_append_getElem hlt,HXX.out,List.map_append]
      rfl
     go_wp2;go_roundw
     case rel=>exact⟨j+1,_,al',ql',rfl,by simp,by omega,HN⟩
     case measure=>simp[intOf];omega
  ·-- nothing
   have HE2:=zh e2;clear e2;have HN:(fun v wx=>∃(al:Option Addr) (ql m:Nat) (ps:List Dt.P),v= .slice al m ql∧m=ps.length∧m≤2∧ps.map Dt.P.d=Co.symD (Co.wordD c) :: Co.bodyD c∧Co.TS c w G #[.int .i64 c.k,.int .i64 c.n,.string c.s,.int .i64 c.d.k,.int .i64 c.d.n,.string c.d.s,.slice b1 n1 q1,.slice b2 n2 q2,.slice b3 n3 q3,.slice b4 n4 q4,.slice b5 c.l.length q5] R0 v ps wx) (.slice (some ⟨w7.heap.size,0,none⟩) 1 1) w8:=⟨_,_,1,_,rfl,rfl,by decide,by have h:=HE2.out;have e1:Co.wordD c=fs:=(by unfold Co.wordD;rw[if_neg (fun h'=>by omega)];exact HFS.out.symm);have e2:Co.bodyD c=[]:=(by unfold Co.bodyD;rw[if_neg (by omega),if_neg (by omega),if_neg (by omega),if_neg (by omega)]);rw[e1,e2];rfl,HT8.out⟩
   clear HFIN;go_wp2;go_meet;exact HN
 case rest=>
  obtain⟨al0,ql0,m0,ps0,rfl,hm0,hm2,hps0,hts0⟩:=hcut;obtain⟨w9,rfl⟩:∃w9,w9=wc:=⟨_,rfl⟩
  have HC9:Hid (Hp w9 w.heap.size #[.int .i64 c.k,.int .i64 c.n,.string c.s,.int .i64 c.d.k,.int .i64 c.d.n,.string c.d.s,.slice b1 n1 q1,.slice b2 n2 q2,.slice b3 n3 q3,.slice b4 n4 q4,.slice b5 c.l.length q5] 28):=hts0.hc;have c10:=HC9.out.cell 10 rfl;have HINV0:Hid (m0=ps0.length∧ps0.map Dt.P.d=Co.symD (Co.wordD c) :: Co.bodyD c++(c.l.take 0).map Co.tellD∧Co.TS c w G #[.int .i64 c.k,.int .i64 c.n,.string c.s,.int .i64 c.d.k,.int .i64 c.d.n,.string c.d.s,.slice b1 n1 q1,.slice b2 n2 q2,.slice b3 n3 q3,.slice b4 n4 q4,.slice b5 c.l.length q5] R0 (.slice al0 m0 ql0) ps0 w9):=⟨hm0,by rw[hps0];simp,hts0⟩
  clear hm0 hps0 hts0 f1 HB6 HF6 HB7 HF7 HBA HT8 HP8 HL8 HFS HFH;go_wp2;clear c10
  go_loopw [5,79] (fun v5 v79 wr=>∃(j m:Nat) (ps:List Dt.P) (al:Option Addr) (ql:Nat),v5= .slice al m ql∧v79= .int .i64 j∧j≤c.l.length∧m≤2+j∧Hid (m=ps.length∧ps.map Dt.P.d=Co.symD (Co.wordD c) :: Co.bodyD c++(c.l.take j).map Co.tellD∧Co.TS c w G #[.int .i64 c.k,.int .i64 c.n,.string c.s,.int .i64 c.d.k,.int .i64 c.d.n,.string c.d.s,.slice b1 n1 q1,.slice b2 n2 q2,.slice b3 n3 q3,.slice b4 n4 q4,.slice b5 c.l.length q5] R0 (.slice al m ql) ps wr)) (fun _ v79 _=>c.l.length - (intOf v79).toNat)
  case atStart=>exact⟨0,m0,ps0,al0,ql0,rfl,rfl,by omega,by omega,HINV0⟩
  case round=>
   clear HINV0 HC9;obtain⟨j,m,ps,al,ql,rfl,rfl,hj,hmj,HL⟩:=hrel;by_cases hlt:j<c.l.length
   case neg=>
    have hge:(c.l.length:Int)≤(j:Int):=by omega
    obtain rfl:j=c.l.length:=by omega
    have hli:=coList_any (.slice al m ql) (ps.map Dt.P.d) wr HL.out.2.2.row.to_row (Rd.own_nz HL.out.2.2.row.row) (by rw[List.length_map,←HL.out.1];omega);go_wp2_with fail
    refine hli.mono ?_;rintro e wS ⟨v',rfl,hrow,hbS⟩;obtain⟨al2,ql2,rfl,hql2,hrow2⟩:=hrow;have HRW:Hid (Dt.Row (fun k=>((fun k=>G k∧k<w.heap.size) k∨R0+1≤k)∨wr.heap.size≤k) wS (.slice al2 (ps.map Dt.P.d).length ql2) (ps.map Dt.P.d)):=⟨al2,ql2,rfl,hql2,hrow2⟩
    have HEQ:Hid (ps.map Dt.P.d=Co.symD (Co.wordD c) :: Co.bodyD c++c.l.map Co.tellD):=by have h:=HL.out.2.1;rw[List.take_length]at h;exact h
    obtain⟨N2,hN2⟩:∃N2,(ps.map Dt.P.d).length=N2:=⟨_,rfl⟩
    rw[hN2]at HRW ⊢;have k3:=set6_keep wS R0 (.int .i64 6) (.int .i64 0) (.string ⟨#[]⟩) (.slice none 0 0) (.slice al2 N2 ql2) (.slice none 0 0);have HF:Hid (Dt.Rep (fun k=>G k∨w.heap.size≤k) (set6 wS R0 (.int .i64 6) (.int .i64 0) (.string ⟨#[]⟩) (.slice none 0 0) (.slice al2 N2 ql2) (.slice none 0 0)) (Co.tellD c) (.slice none 0 0) (.slice al2 N2 ql2) (.slice none 0 0)∧Below w.heap.size w (set6 wS R0 (.int .i64 6) (.int .i64 0) (.string ⟨#[]⟩) (.slice none 0 0) (.slice al2 N2 ql2) (.slice none 0 0))):=by
     have h1:=HR0.out.1;have h2:=HL.out.2.2.bs;refine⟨?_,(HL.out.2.2.kb.trans (hbS.mono HL.out.2.2.kb.size)).trans (k3.to_below (fun k e=>by omega) (by have:=HL.out.2.2.kb.size;have:=hbS.size;omega))⟩;rw[Co.tellD_eq,←HEQ.out];exact(Dt.rep_iff _ _ _ _ _ _).2 ⟨⟨none,0,rfl,Nat.le_refl _,fun h=>absurd rfl h⟩,Dt.Row.mono (HRW.out.keep k3 (fun b hb _ e=>by omega)) (fun b hb _=>by rcases hb with(hb|hb)|hb;exact .inl hb.1;exact .inr (by omega);exact .inr (by omega)),⟨none,0,rfl,Nat.le_refl _,fun h=>absurd rfl h⟩⟩
    have HZ:=zh (HL.out.2.2.hr.below hbS);obtain⟨z0,z1,z2,z3,z4,z5⟩:=HZ.out.c6;have zf0:=HZ.out.frz 0;have zf1:=HZ.out.frz 1;have zf2:=HZ.out.frz 2;have zf3:=HZ.out.frz 3;have zf4:=HZ.out.frz 4;have zf5:=HZ.out.frz 5;have hk:=Co.tellD_eq c;have hk1:(Co.tellD c).k=6:=by rw[hk];rfl
    have hk2:(Co.tellD c).n=0:=by rw[hk];rfl
    have hk3:(Co.tellD c).s=⟨#[]⟩:=by rw[hk];rfl
    have HK:=zh (And.intro hk1 (And.intro hk2 hk3));clear hrow2 hql2 hbS hli hN2 k3 hk hk1 hk2 hk3;go_wp2;refine bodyPost_ret (v:= .agg #[.int .i64 6,.int .i64 0,.string ⟨#[]⟩,.slice none 0 0,.slice al2 N2 ql2,.slice none 0 0]) (by simp[results,Tryz.results57,go_sem, *]) rfl ?_;rw[HK.out.1,HK.out.2.1,HK.out.2.2];exact⟨_,_,_,rfl,HF.out.1,HF.out.2⟩
   have hlti:(j:Int)<(c.l.length:Int):=by omega
   have hjl:=HK8.out;obtain⟨_,_,he,_,hrow⟩:=HRK.out.below HL.out.2.2.kb;injection he with he1 he2 he3
   subst he1;clear he2 he3;obtain⟨b,o',rfl,hGb,hbl,hreps⟩:=hrow (by intro h0;rw[h0]at hlt;simp at hlt);obtain⟨um,ul,ut,up,uk,hel,hry⟩:=hreps.at j hlt;obtain⟨y,hy⟩:∃y,c.l[j]=y:=⟨_,rfl⟩
   rw[hy]at hel hry;obtain⟨e0,e1,e2,e3,e4,e5,e6,e7,e8,e9,e10⟩:=hel;obtain⟨g1,i1,r1,g2,i2,r2,g3,i3,r3,g4,i4,r4,g5,i5,r5,rfl,rfl,rfl,rfl,rfl⟩:=hry.forms5;have hW10:wr.alloc (.cells #[.int .i64 y.k,.int .i64 y.n,.string y.s,.int .i64 y.d.k,.int .i64 y.d.n,.string y.d.s,.slice g1 i1 r1,.slice g2 i2 r2,.slice g3 i3 r3,.slice g4 i4 r4,.slice g5 i5 r5] 28)=wr.alloc (.cells #[.int .i64 y.k,.int .i64 y.n,.string y.s,.int .i64 y.d.k,.int .i64 y.d.n,.string y.d.s,.slice g1 i1 r1,.slice g2 i2 r2,.slice g3 i3 r3,.slice g4 i4 r4,.slice g5 i5 r5] 28):=rfl;obtain⟨hb10,hs10⟩:=new_below hW10;have hmem:y∈c.l:=by rw[←hy];exact List.getElem_mem hlt
   have hwy:Co.Wf y:=by rw[←hy];exact HWL.out.at j hlt
   have hcall:=HCH.out y hmem (fun k=>G k∧k<w.heap.size) _ _ _ _ _ _ hwy (HSL.out.at y hmem) (hry.below hb10);unfold Co.V at hcall;have HB10:=zh hb10;have HY:=zh hy;clear hrow hreps hry hy hW10 hb10 hwy hmem hGb hbl;go_wp2_with fail
   refine hcall.mono ?_;rintro e wS ⟨xm,xl,xt,rfl,hr6,hb6⟩;obtain⟨h1,k1,s1,h2,k2,s2,h3,k3,s3,rfl,rfl,rfl⟩:=hr6.forms;have HBS:Hid (Below wr.heap.size wr wS):=btr HB10.out hb6;have HR6:=zh hr6;obtain⟨X,hX⟩:∃X,Co.tellD y=X:=⟨_,rfl⟩
   rw[hX]at HR6 ⊢;have HXX:=zh hX;clear hcall hr6 hb6 hs10 e0 e1 e2 e3 e4 e5 e6 e7 e8 e9 e10 hX;have hWA:wS.alloc (.cells #[.int .i64 X.k,.int .i64 X.n,.string X.s,.slice h1 k1 s1,.slice h2 k2 s2,.slice h3 k3 s3] 25)=wS.alloc (.cells #[.int .i64 X.k,.int .i64 X.n,.string X.s,.slice h1 k1 s1,.slice h2 k2 s2,.slice h3 k3 s3] 25):=rfl;obtain⟨hbA,hsA⟩:=new_below hWA;have HS:Hid (Ap.Src (wS.alloc (.cells #[.int .i64 X.k,.int .i64 X.n,.string X.s,.slice h1 k1 s1,.slice h2 k2 s2,.slice h3 k3 s3] 25)) (.slice (some ⟨wS.heap.size,0,none⟩) 1 1) 1 [.int .i64 X.k,.int .i64 X.n,.string X.s,.slice h1 k1 s1,.slice h2 k2 s2,.slice h3 k3 s3]):=Rd.srcNew hWA;have HRO:Hid ((wS.alloc (.cells #[.int .i64 X.k,.int .i64 X.n,.string X.s,.slice h1 k1 s1,.slice h2 k2 s2,.slice h3 k3 s3] 25)).ownsRow (R0+1) 25 6 (.slice al m ql) m (Dt.flatP ps)):=by
    have:=((HL.out.2.2.row.below HBS.out).below hbA).row;rw[←HL.out.1]at this;exact this
   have HBA:=zh hbA;have HSZ:Hid ((R0+1)≤(wS.alloc (.cells #[.int .i64 X.k,.int .i64 X.n,.string X.s,.slice h1 k1 s1,.slice h2 k2 s2,.slice h3 k3 s3] 25)).heap.size):=by
    have h1:=hbA.size;have h2:(R0+1)≤wS.heap.size:=(Nat.le_trans HL.out.2.2.bs HBS.out.size)
    show(R0+1)≤_;omega
   clear hWA hbA hsA;have hm1:m+1≤maxLen:=by unfold maxLen;omega
   have hm2:(m+1)*104≤140737488355328:=by omega
   go_wp2_with(at_builtin;refine Ap.list rfl _ _ 23 rfl (R0+1) 25 i0 _ 6 104 Tryz.underlying23 HI.out HZ0.out HZ1.out HZ2.out rfl (by decide) (.slice al m ql) m (Dt.flatP ps) rfl HRO.out (.slice (some ⟨wS.heap.size,0,none⟩) 1 1) 1 [.int .i64 X.k,.int .i64 X.n,.string X.s,.slice h1 k1 s1,.slice h2 k2 s2,.slice h3 k3 s3] rfl HS.out rfl (by intro u hu;simp only[List.mem_cons,List.not_mem_nil,or_false]at hu;rcases hu with rfl|rfl|rfl|rfl|rfl|rfl <;> rfl) hm1 hm2 HSZ.out ?_;intro v' wZ hown hg hat;obtain⟨al',ql',rfl⟩:=Dt.row_form hown;have HOWN:=zh hown;have HGR:=zh hg;have HAT:=zh hat;clear hown hg hat)
   have HN:Hid (m+1=(ps++[(⟨X,.slice h1 k1 s1,.slice h2 k2 s2,.slice h3 k3 s3⟩:Dt.P)]).length∧(ps++[(⟨X,.slice h1 k1 s1,.slice h2 k2 s2,.slice h3 k3 s3⟩:Dt.P)]).map Dt.P.d=Co.symD (Co.wordD c) :: Co.bodyD c++(c.l.take (j+1)).map Co.tellD∧Co.TS c w G #[.int .i64 c.k,.int .i64 c.n,.string c.s,.int .i64 c.d.k,.int .i64 c.d.n,.string c.d.s,.slice b1 n1 q1,.slice b2 n2 q2,.slice b3 n3 q3,.slice b4 n4 q4,.slice (some ⟨b,o',none⟩) c.l.length q5] R0 (.slice al' (m+1) ql') (ps++[(⟨X,.slice h1 k1 s1,.slice h2 k2 s2,.slice h3 k3 s3⟩:Dt.P)]) wZ):=by
    have hle:=HL.out.1;refine⟨by rw[List.length_append,←hle];rfl,?_,HL.out.2.2.push HR0.out.1 HBS.out (p:=⟨X,.slice h1 k1 s1,.slice h2 k2 s2,.slice h3 k3 s3⟩) (Dt.Rep.mono (fun b hb _=>by have:=HB10.out.size;rcases hb with hb|hb;exact .inl hb;exact .inr (by omega)) X HR6.out) HBA.out (by rw[←hle];exact HOWN.out) HGR.out HAT.out⟩;rw[List.map_append,HL.out.2.1,List.take_succ_eq_append_getElem hlt,HY.out,List.map_append,←List.append_assoc];show _++[X]=_++[Co.tellD y];rw[HXX.out]
   go_wp2;go_roundw
   case rel=>exact⟨j+1,m+1,_,al',ql',rfl,by simp,by omega,by omega,HN⟩
   case measure=>simp[intOf];omega
mutual
theorem coTell_any:∀c:Co.C,Co.TellIs c
 | .mk k n s d p l=>coTell_step (.mk k n s d p l) (coTells_any l)
theorem coTells_any:∀(l:List Co.C),∀y∈l,Co.TellIs y
 |[],_,h=>absurd h (by simp)
 |c :: r,y,h=>(List.mem_cons.1 h).elim (fun e=>by rw[e];exact coTell_any c) (fun h'=>coTells_any r y h')
end
end Go.Proofs.YtfjmlfbohenmfaaGreat
