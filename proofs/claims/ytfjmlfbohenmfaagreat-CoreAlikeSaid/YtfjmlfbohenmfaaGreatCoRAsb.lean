/-
 shuttleref07.as, at a datum that is a core's. (Printed by genCoRAs.py, expanded by pp.py.)
-/
import Derived.Test.YtfjmlfbohenmfaaGreatCoreBBM10
import Derived.Test.YtfjmlfbohenmfaaGreatCoreBBM13
import Derived.Test.YtfjmlfbohenmfaaGreatCoTellb
import Derived.Deep.CutBlock
import Derived.Test.YtfjmlfbohenmfaaGreatCoRGoesb
import Derived.Test.YtfjmlfbohenmfaaGreatCoreBBM2
namespace Go.Proofs.YtfjmlfbohenmfaaGreat
open Go.RowKit
attribute [local go_sem] Oper.semAt_some
namespace Co
open Dt (D)
def zD:D:= .mk 0 0 ⟨#[]⟩ [] [] []
def zC:C:= .mk 0 0 ⟨#[]⟩ zD [] []
def asTop:List D→List C→C
 |h :: x :: _,L=>
  if(kd h.s).1=1 then .mk 1 (kd h.s).2 ⟨#[]⟩ x [] (L.drop 2)
  else if(kd h.s).1=2∨(kd h.s).1=4 then .mk (kd h.s).1 x.n ⟨#[]⟩ zD [] (L.drop 2)
  else if(kd h.s).1=3∨(kd h.s).1=5∨(kd h.s).1=6 then .mk (kd h.s).1 (kd h.s).2 x.s zD [] (L.drop 2)
  else if(kd h.s).1=8 then .mk 8 (kd h.s).2 ⟨#[]⟩ zD (x.l.map D.n) (L.drop 2)
  else .mk (kd h.s).1 (kd h.s).2 ⟨#[]⟩ zD [] (L.drop 1)
 |_,_=>zC
mutual
def asC:D→C
 | .mk _ _ _ _ l _=>asTop l (asCs l)
def asCs:List D→List C
 |[]=>[]
 |d :: r=>asC d :: asCs r
end
theorem asCs_map:∀l:List D,asCs l=l.map asC
 |[]=>by rw[asCs];rfl
 |d :: r=>by rw[asCs,asCs_map r];rfl
theorem asC_eq(d:D):asC d=asTop d.l (d.l.map asC):=by
 obtain⟨k,n,s,m,l,t⟩:=d;rw[asC,asCs_map]
 rfl
def goodTop(d:D):Bool:=decide (d.k=6)&&(match d.l with
 | h :: x :: r => decide (h.k = 5) && h.m.isEmpty && (
   if(kd h.s).1=1 then r.isEmpty
   else if(kd h.s).1=2∨(kd h.s).1=4 then decide (x.k=1)&&(decide ((kd h.s).1=4)||r.isEmpty)
   else if(kd h.s).1=3∨(kd h.s).1=5∨(kd h.s).1=6 then decide (x.k=5)&&x.m.isEmpty&&(!decide ((kd h.s).1=3)||r.isEmpty)
   else if(kd h.s).1=8 then decide (x.k=6)&&x.l.all fun y=>decide (y.k=1)&&var y.n
   else decide ((kd h.s).1=7∨(kd h.s).1=9∨(kd h.s).1=10))
 |_=>false)
def inner2(d:D):List D:=match d.l with
 |h :: x :: r=>if(kd h.s).1=7∨(kd h.s).1=9∨(kd h.s).1=10 then x :: r else r
 |_=>[]
structure AS(d:D)(w:World)(F:Nat→Prop)(R0 C0 b:Nat)(rv:Value)(RL:List D)(T:C)(wx:World):Prop where
 hc:∃vm vl vt vp,Hp wx C0 #[.int .i64 T.k,.int .i64 T.n,.string T.s,.int .i64 T.d.k,.int .i64 T.d.n,.string T.d.s,vm,vl,vt,vp,.slice none 0 0] 28∧Dt.Rep (fun k=>F k∧k<w.heap.size) wx T.d vm vl vt∧Dt.IRow (fun k=>C0<k) wx vp T.p
 rw_:∃ro rc,rv= .slice (some ⟨b,ro,none⟩) RL.length rc∧Dt.Reps (fun k=>F k∧k<w.heap.size) wx RL b ro
 tl:T.l=RL.map asC
 k3:(T.k=1∨T.k=2∨T.k=3)→RL.length=0
 hr:Hp wx R0 #[.int .i64 0,.int .i64 0,.string ⟨#[]⟩,.int .i64 0,.int .i64 0,.string ⟨#[]⟩,.slice none 0 0,.slice none 0 0,.slice none 0 0,.slice none 0 0,.slice none 0 0] 28
 kb:Below w.heap.size w wx
 ch:∀y∈RL,y∈inner2 d
 fi:Dt.Fines RL
 le:RL.length≤4096
theorem reps_drop{F:Nat→Prop}{w:World}{l:List D}{b o:Nat}(h:Dt.Reps F w l b o)(j:Nat)(hj:j≤l.length):Dt.Reps F w (l.drop j) b (o+j*6):=by
 refine Dt.Reps.of fun i hi=> ?_
 have hi':j+i<l.length:=by rw[List.length_drop]at hi;omega
 obtain⟨vm,vl,vt,h1,h2⟩:=h.at (j+i) hi';refine⟨vm,vl,vt,?_,?_⟩
 ·rw[show o+j*6+i*6=o+(j+i)*6 by omega];simpa using h1
 ·simpa using h2
structure CRow(G:Nat→Prop)(w:World)(base:Nat)(v:Value)(ls:List PC):Prop where
 row:w.ownsRow base 28 11 v ls.length (flatC ls)
 rep:∀p∈ls,p.rep (fun k=>(G k∨base≤k)∧v.ownBlock≠some k) w
theorem CRow.nil(G:Nat→Prop)(w:World)(base:Nat):CRow G w base (.slice none 0 0) []:=⟨World.ownsRow_nil _ _ _ _,fun _p hp=>nomatch hp⟩
theorem CRow.keep{G S:Nat→Prop}{w w':World}{base:Nat}{v:Value}{ls:List PC}(h:CRow G w base v ls)(hk:Keep S w w')(hS:∀k,(G k∨base≤k)→k<w.heap.size→¬S k):CRow G w' base v ls:=
 ⟨Dt.own_keep h.row hk (fun k hk=>hS k (.inr (Dt.own_lt h.row k hk).1) (Dt.own_lt h.row k hk).2),fun p hp=>Rep.keep hk (fun b hb hb'=>hS b hb.1 hb') p.c (h.rep p hp)⟩
theorem CRow.push{G:Nat→Prop}{w w1 wA w5:World}{base:Nat}{v v':Value}{ls:List PC}{p:PC}(h:CRow G w base v ls)(hbase:base≤w.heap.size)(hG:∀k,G k→k<base)(h1:Below w.heap.size w w1)(hp:p.rep (fun k=>G k∨w.heap.size≤k) w1)(hA:Below w1.heap.size w1 wA)
  (hown:w5.ownsRow base 28 11 v' (ls.length+1) (flatC ls++p.cells)) (hg:wA.grownBy w5 v.ownBlock) (hat:v'.ownBlock=v.ownBlock∨v'.ownBlock=some wA.heap.size):
  CRow G w5 base v' (ls++[p])∧Keep (fun k=>v.ownBlock=some k) w w5:=by
 have hwA:Below w.heap.size w wA:=btr h1 hA;have hK:Keep (fun k=>v.ownBlock=some k) w w5:=grown_keep2 hwA hg;have hK1:Keep (fun k=>v.ownBlock=some k) w1 w5:=grown_keep2 hA hg;have hvl:∀k,v.ownBlock=some k→base≤k∧k<w.heap.size:=Dt.own_lt h.row;refine⟨⟨by rw[List.length_append,flatC_app];exact hown,fun q hq=> ?_⟩,hK⟩;rcases List.mem_append.1 hq with hq|hq
 ·have hr0:q.rep (fun k=>k<w.heap.size∧(G k∨base≤k)∧v.ownBlock≠some k) w:=Rep.mono (fun b hb hl=>⟨hl,hb⟩) q.c (h.rep q hq);refine Rep.mono (fun b hb _=>⟨hb.2.1,fun e=> ?_⟩) q.c (Rep.keep hK (fun b hb _ e=>hb.2.2 e) q.c hr0);rcases hat with e'|e'
  ·rw[e']at e;exact hb.2.2 e
  ·rw[e']at e;cases e;have:=hwA.size;omega
 ·obtain rfl:q=p:=by simpa using hq
  have hr0:q.rep (fun k=>k<w1.heap.size∧(G k∨w.heap.size≤k)) w1:=Rep.mono (fun b hb hl=>⟨hl,hb⟩) q.c hp;have hno:∀b,(G b∨w.heap.size≤b)→v.ownBlock≠some b:=fun b hb e=>by
   have:=hvl b e;rcases hb with hb|hb
   ·have:=hG b hb;omega
   ·omega
  refine Rep.mono (fun b hb _=>⟨hb.2.imp id (fun h=>by omega),fun e=> ?_⟩) q.c (Rep.keep hK1 (fun b hb _ e=>hno b hb.2 e) q.c hr0);rcases hat with e'|e'
  ·rw[e']at e;exact hno b hb.2 e
  ·rw[e']at e;cases e;have:=hA.size;omega
theorem CRow.to_row{G:Nat→Prop}{w:World}{base:Nat}{v:Value}{ls:List PC}(h:CRow G w base v ls):Row (fun k=>G k∨base≤k) w v (ls.map PC.c):=by
 have hreps:∀g,v.ownBlock=some g→Reps (fun k=>G k∨base≤k) w (ls.map PC.c) g 0:=by
  intro g hg;refine Reps.of fun j hj=> ?_
  have hj':j<ls.length:=by simpa using hj
  obtain⟨g',c,rfl,_,hs⟩:=part_at h.row j hj';cases hg;refine⟨ls[j].vm,ls[j].vl,ls[j].vt,ls[j].vp,ls[j].vk,by rw[Nat.zero_add];simpa using hs,?_⟩;have:=Rep.mono (fun b hb _=>hb.1) _ (h.rep ls[j] (List.getElem_mem hj'));simpa using this
 rcases h.row.2 with⟨h1,h0⟩|⟨g,cap,cur,rfl,e2,e3,e4,_⟩
 ·have:ls=[]:=List.length_eq_zero_iff.1 h0;subst this;exact⟨none,0,by rw[h1];rfl,Nat.le_refl _,fun hn=>absurd rfl hn⟩
 ·refine⟨some ⟨g,0,none⟩,cap,by simp,by simpa using e4,fun _=>⟨g,0,rfl,.inr e2,(Array.getElem?_eq_some_iff.1 e3).1,hreps g rfl⟩⟩
structure LI(w:World)(F:Nat→Prop)(R0 C0 Bs b ro:Nat)(RL:List D)(T:C)(vm vl vt vp:Value)(i:Nat)(al:Option Addr)(ql:Nat)(wx:World):Prop where
 hc:Hp wx C0 #[.int .i64 T.k,.int .i64 T.n,.string T.s,.int .i64 T.d.k,.int .i64 T.d.n,.string T.d.s,vm,vl,vt,vp,.slice al i ql] 28
 rd:Dt.Rep (fun k=>F k∧k<w.heap.size) wx T.d vm vl vt
 rp:Dt.IRow (fun k=>C0<k∧k<Bs) wx vp T.p
 row:∃ps,i=ps.length∧CRow (fun k=>F k∧k<w.heap.size) wx Bs (.slice al i ql) ps∧ps.map PC.c=(RL.take i).map asC
 rl:Dt.Reps (fun k=>F k∧k<w.heap.size) wx RL b ro
 hr:Hp wx R0 #[.int .i64 0,.int .i64 0,.string ⟨#[]⟩,.int .i64 0,.int .i64 0,.string ⟨#[]⟩,.slice none 0 0,.slice none 0 0,.slice none 0 0,.slice none 0 0,.slice none 0 0] 28
 kb:Below w.heap.size w wx
 bs:Bs≤wx.heap.size
theorem six_keep{S:Nat→Prop}{w w':World}{b o:Nat}{y:D}{vm vl vt:Value}(h:Dt.Six w b o y vm vl vt)(hl:b<w.heap.size)(hk:Keep S w w')(hn:¬S b):Dt.Six w' b o y vm vl vt:=
 ⟨(hk.cell _ hl hn).trans h.c0,(hk.cell _ hl hn).trans h.c1,(hk.cell _ hl hn).trans h.c2,(hk.cell _ hl hn).trans h.c3,(hk.cell _ hl hn).trans h.c4,(hk.cell _ hl hn).trans h.c5⟩
theorem fines_mem:∀ {l:List D},Dt.Fines l→∀y∈l,Dt.Fine y
 |[],_,y,h=>absurd h (by simp)
 |d :: r,hw,y,h=>by
  rw[Dt.Fines]at hw;rcases List.mem_cons.1 h with rfl|h
  ·exact hw.1
  ·exact fines_mem hw.2 y h
def AsIs(d:D):Prop:=∀(F:Nat→Prop) (vm vl vt:Value) (w:World),Dt.Fine d→Dt.Rep F w d vm vl vt→
 Calls Tryz.prog 87 #[.agg #[.int .i64 d.k,.int .i64 d.n,.string d.s,vm,vl,vt]] w fun e w'=>∃um ul ut up uk,e= .returned (V (asC d) um ul ut up uk)∧Rep (fun k=>F k∨w.heap.size≤k) w' (asC d) um ul ut up uk∧Below w.heap.size w w'
end Co
set_option maxRecDepth 100000 in
set_option maxHeartbeats 16000000 in
theorem coRAs_step(d:Dt.D)(hg:Co.goodTop d=true)(hch:∀y∈Co.inner2 d,Co.AsIs y):Co.AsIs d:=by
 intro F vm vl vt w hFi hR;have hR:=Dt.Rep.mono (G:=fun k=>F k∧k<w.heap.size) (fun b hb hl=>⟨hb,hl⟩) d hR;obtain⟨hrm,hrl,hrt⟩:=(Dt.rep_iff _ _ _ _ _ _).1 hR;obtain⟨a1,n1,q1,a2,n2,q2,a3,n3,q3,rfl,rfl,rfl⟩:=hR.forms;obtain⟨_,_,he,hcap,hrow⟩:=hrl;injection he with he1 he2 he3
 subst he1 he2;subst he3;unfold Co.goodTop at hg;rw[Bool.and_eq_true]at hg;obtain⟨hk6,hg⟩:=hg;have hk6:d.k=6:=of_decide_eq_true hk6;obtain⟨h0,x,r,hl⟩:∃h0 x r,d.l=h0 :: x :: r:=by
  cases h1:d.l with
  |nil=>rw[h1]at hg;cases hg
  |cons h0 t=>cases t with
   |nil=>rw[h1]at hg;cases hg
   |cons x r=>exact⟨h0,x,r,rfl⟩
 rw[hl]at hg;dsimp only at hg;rw[Bool.and_eq_true,Bool.and_eq_true]at hg;obtain⟨⟨hh5,hhm⟩,hg⟩:=hg;have hh5:h0.k=5:=of_decide_eq_true hh5;have hhm:h0.m=[]:=List.isEmpty_iff.1 hhm;obtain⟨b,o,rfl,hFb,hbl,hreps⟩:=hrow (by rw[hl];simp);have hlen:d.l.length=r.length+2:=by rw[hl];rfl
 have hfl:=(Dt.fine_parts hFi).2.1;have hl0:d.l[0]?=some h0:=by rw[hl];rfl
 obtain⟨um,ul,ut,hs0,hr0⟩:=hreps.at 0 (by omega);obtain⟨xm,xl,xt,hs1,hrx⟩:=hreps.at 1 (by omega);have e0:d.l[0]'(by omega)=h0:=by simp[hl]
 have e1:d.l[1]'(by omega)=x:=by simp[hl]
 rw[e0]at hs0 hr0;rw[e1]at hs1 hrx;obtain⟨⟨ma,mc,hum,-,-⟩,-,-⟩:=(Dt.rep_iff _ _ _ _ _ _).1 hr0;rw[hhm]at hum;subst hum;obtain⟨x1,y1,z1,x2,y2,z2,x3,y3,z3,rfl,rfl,rfl⟩:=hrx.forms;have hy12:y1=x.m.length∧y2=x.l.length:=by
  obtain⟨⟨_,_,he1,-⟩,⟨_,_,he2,-⟩,-⟩:=(Dt.rep_iff _ _ _ _ _ _).1 hrx;injection he1 with _ h1 _
  injection he2 with _ h2 _
  exact⟨h1,h2⟩
 have HY:=zh hy12;have HFB:=zh hFb;clear hy12;obtain⟨w1,hw1⟩:∃w1,w.alloc (.cells #[.int .i64 d.k,.int .i64 d.n,.string d.s,.slice a1 n1 q1,.slice (some ⟨b,o,none⟩) d.l.length q2,.slice a3 n3 q3] 25)=w1:=⟨_,rfl⟩
 obtain⟨w2,hw2⟩:∃w2,w1.alloc (.cells #[.int .i64 0,.int .i64 0,.string ⟨#[]⟩,.int .i64 0,.int .i64 0,.string ⟨#[]⟩,.slice none 0 0,.slice none 0 0,.slice none 0 0,.slice none 0 0,.slice none 0 0] 28)=w2:=⟨_,rfl⟩
 obtain⟨w3,hw3⟩:∃w3,w2.alloc (.cells #[.int .i64 0,.int .i64 0,.string ⟨#[]⟩,.int .i64 0,.int .i64 0,.string ⟨#[]⟩,.slice none 0 0,.slice none 0 0,.slice none 0 0,.slice none 0 0,.slice none 0 0] 28)=w3:=⟨_,rfl⟩
 obtain⟨hb1,hs1'⟩:=new_below hw1;obtain⟨hb2,hs2'⟩:=new_below hw2;obtain⟨hb3,hs3'⟩:=new_below hw3;have hb12:Below w.heap.size w w2:=btr hb1 hb2;have hb13:Below w.heap.size w w3:=btr hb12 hb3;obtain⟨R0,hR0⟩:∃R0,w1.heap.size=R0:=⟨_,rfl⟩
 obtain⟨C0,hC0⟩:∃C0,w2.heap.size=C0:=⟨_,rfl⟩
 have Hd:Hid (Hp w3 w.heap.size #[.int .i64 d.k,.int .i64 d.n,.string d.s,.slice a1 n1 q1,.slice (some ⟨b,o,none⟩) d.l.length q2,.slice a3 n3 q3] 25):=((Hp.new hw1).below hb2).below hb3;have Hr:Hid (Hp w3 R0 #[.int .i64 0,.int .i64 0,.string ⟨#[]⟩,.int .i64 0,.int .i64 0,.string ⟨#[]⟩,.slice none 0 0,.slice none 0 0,.slice none 0 0,.slice none 0 0,.slice none 0 0] 28):=by rw[←hR0];exact(Hp.new hw2).below hb3
 have Hc:Hid (Hp w3 C0 #[.int .i64 0,.int .i64 0,.string ⟨#[]⟩,.int .i64 0,.int .i64 0,.string ⟨#[]⟩,.slice none 0 0,.slice none 0 0,.slice none 0 0,.slice none 0 0,.slice none 0 0] 28):=by rw[←hC0];exact Hp.new hw3
 have HN:Hid (R0=w.heap.size+1∧C0=w.heap.size+2∧w3.heap.size=w.heap.size+3):=⟨by omega,by omega,by omega⟩
 have HB3:=zh hb13;have HRE:=zh hreps;have HRX:=zh hrx;have HLL:=zh hl;have HG:=zh hg;have HCH:=zh hch;have HFI:=zh hFi;have HBL:=zh hbl;have HK6:=zh hk6;have HL2:=zh hlen;have hd0:=Hd.out.cell 0 rfl;have hd4:=Hd.out.cell 4 rfl;obtain⟨u0,u1,u2,u3,u4,u5⟩:=hs0;simp only[Nat.zero_mul,Nat.add_zero]at u0 u1 u2 u3 u4 u5;simp only[List.length_nil]at u3;obtain⟨v0,v1,v2,v3,v4,v5⟩:=hs1;have HS1:Hid (Dt.Six w b (o+1*6) x (.slice x1 y1 z1) (.slice x2 y2 z2) (.slice x3 y3 z3)):=⟨v0,v1,v2,v3,v4,v5⟩
 simp only[Nat.one_mul]at v0 v1 v2 v3 v4 v5;have hcell:∀(W:World) (j:Nat) (v:Value),Below w.heap.size w W→w.cell? ⟨b,j,none⟩=some v→W.cell? ⟨b,j,none⟩=some v:=fun W j v hb hv=>(hb.cell (p:=⟨b,j,none⟩) hbl).trans hv
 have HCELL:=zh hcell;have hd2:Hp w2 w.heap.size _ _:=(Hp.new hw1).below hb2;have p0:=hd2.cell 0 rfl;have p4:=hd2.cell 4 rfl;have s0:=hcell w2 _ _ hb12 u0;have s3:=hcell w2 _ _ hb12 u3;have t1:(d.k !=6)=false:=by rw[hk6];rfl
 have t2:decide ((d.l.length:Int)<2)=false:=decide_eq_false (by omega);have t3:(h0.k !=5)=false:=by rw[hh5];rfl
 have hlt0:(0:Int)<(d.l.length:Int):=by omega
 have hlt1:(1:Int)<(d.l.length:Int):=by omega
 have hle2:(2:Int)≤(d.l.length:Int):=by omega
 have hki:=kind07_any h0.s w3;obtain⟨⟨kk,kn⟩,hkk⟩:∃q,Co.kd h0.s=q:=⟨_,rfl⟩
 rw[hkk]at hki;have HKK:=zh hkk;have q0:=Hc.out.cell 0 rfl;have q1':=Hc.out.cell 1 rfl;have HU:Hid (w.cell? ⟨b,o+2,none⟩=some (.string h0.s)):=u2;have s2:=hcell w3 _ _ hb13 u2;clear hb1 hb2 hb3 hs1' hs2' hs3' hb12 hb13 hd2 hreps hrx hl hg hch hFi hbl hlen hl0 e0 e1 hr0 hrow hR hrm hrt hk6 hh5 hhm hkk hcell;go_enter Tryz.func87,Tryz.ntmps87;go_upto_block 0 with((go_at_call 110;refine hki.mono ?_;rintro e wk ⟨rfl,hbk⟩;have HBK:=zh hbk;have HCk:=zh (Hc.out.below hbk);have HDk:=zh (Hd.out.below hbk);clear hki p0 p4 q0 q1' s0 s2 s3 hbk;have k0:=HCk.out.cell 0 rfl;have k1:=HCk.out.cell 1 rfl;have kf0:=HCk.out.frz 0;have kf1:=HCk.out.frz 1;obtain⟨w4,hw4⟩:∃w4,(wk.setCell ⟨C0,0,none⟩ (.int .i64 kk)).setCell ⟨C0,1,none⟩ (.int .i64 kn)=w4:=⟨_,rfl⟩;have hk4:Keep (fun j=>j=C0) wk w4:=(hw4▸((set_keep wk C0 0 (.int .i64 kk)).trans (set_keep _ C0 1 (.int .i64 kn))));have HC4:Hid (Hp w4 C0 #[.int .i64 kk,.int .i64 kn,.string ⟨#[]⟩,.int .i64 0,.int .i64 0,.string ⟨#[]⟩,.slice none 0 0,.slice none 0 0,.slice none 0 0,.slice none 0 0,.slice none 0 0] 28):=(hw4▸(HCk.out.set 0 _).set 1 _);have HB4:Hid (Below w.heap.size w w4):=zh (((btr HB3.out HBK.out)).trans (hk4.to_below (fun j e=>(by have:=HN.out;omega)) (by have h1:=HB3.out.size;have h2:=HBK.out.size;omega)));have HD4:Hid (Hp w4 w.heap.size _ _):=zh (HDk.out.keep hk4 (fun e=>(by have:=HN.out;omega)));have m4:=HD4.out.cell 4 rfl;have z0':=HCELL.out w4 _ _ HB4.out v0;have z1':=HCELL.out w4 _ _ HB4.out v1;have z2':=HCELL.out w4 _ _ HB4.out v2;have z3':=HCELL.out w4 _ _ HB4.out v3;have z4':=HCELL.out w4 _ _ HB4.out v4;have z5':=HCELL.out w4 _ _ HB4.out v5;have HK4:=zh hk4;obtain⟨w5,hw5⟩:∃w5,w4.alloc (.cells #[.int .i64 x.k,.int .i64 x.n,.string x.s,.slice x1 y1 z1,.slice x2 y2 z2,.slice x3 y3 z3] 25)=w5:=⟨_,rfl⟩;obtain⟨hb5,hs5⟩:=new_below hw5;have HB45:=zh hb5;have HX5:=zh (Hp.new hw5);have HC5:=zh (HC4.out.below hb5);have HD5:Hid (Hp w5 w.heap.size _ _):=zh (HD4.out.below hb5);have HB5:Hid (Below w.heap.size w w5):=zh ((btr HB4.out hb5));have HS5:=zh hs5;have m5:=HD5.out.cell 4 rfl;have cc0:=HC5.out.cell 0 rfl;clear hk4 hb5 hs5))
 clear m4 m5 z0' z1' z2' z3' z4' z5' hd0 hd4 hw1 hw2 hw3 hw4 hw5 u0 u1 u2 u3 u4 u5 v0 v1 v2 v3 v4 v5 t1 t2 t3 k0 k1 kf0 kf1;have hlr:=HL2.out;have hG:=HG.out;rw[HKK.out]at hG;dsimp only at hG;have HTE:Hid (Co.asC d=Co.asTop (h0 :: x :: r) ((h0 :: x :: r).map Co.asC)):=by show _=_;rw[Co.asC_eq,HLL.out]
 have HIN:Hid (¬ (kk=7∨kk=9∨kk=10)→Co.inner2 d=r):=fun h=>by
  unfold Co.inner2;rw[HLL.out];dsimp only;rw[HKK.out,if_neg h]
 have HREP2:Hid (∀W,Below w.heap.size w W→Dt.Reps (fun k=>F k∧k<w.heap.size) W r b (o+2*6)):=fun W hb=>by
  have h:=Dt.Reps.keep (keep_of_below (S:=fun _=>False) hb) (fun _ _ _ h=>h) d.l HFB.out HBL.out HRE.out;have h2:=Co.reps_drop h 2 (by omega);rw[HLL.out]at h2;exact h2
 obtain⟨ro,hro,hror⟩:∃ro,(if q2=2 then some (⟨b,o,none⟩:Addr)else some ⟨b,o+12,none⟩)=some ⟨b,ro,none⟩∧∀W,Below w.heap.size w W→Dt.Reps (fun k=>F k∧k<w.heap.size) W r b ro:=by
  by_cases hq:q2=2
  ·refine⟨o,if_pos hq,fun W _=> ?_⟩;have:r=[]:=List.length_eq_zero_iff.1 (by omega);rw[this,Dt.Reps];trivial
  ·exact⟨o+12,if_neg hq,HREP2.out⟩
 have HRO:Hid (True∧∀W,Below w.heap.size w W→Dt.Reps (fun k=>F k∧k<w.heap.size) W r b ro):=⟨trivial,hror⟩
 have HFR:Hid (Dt.Fines r):=by
  have h:=(Dt.fine_parts HFI.out).2.2.2.1;rw[HLL.out,Dt.Fines,Dt.Fines]at h;exact h.2.2
 have HFR2:Hid (Dt.Fines (x :: r)):=by
  have h:=(Dt.fine_parts HFI.out).2.2.2.1;rw[HLL.out,Dt.Fines]at h;exact h.2
 have HR5:Hid (Hp w5 R0 #[.int .i64 0,.int .i64 0,.string ⟨#[]⟩,.int .i64 0,.int .i64 0,.string ⟨#[]⟩,.slice none 0 0,.slice none 0 0,.slice none 0 0,.slice none 0 0,.slice none 0 0] 28):=by
  have h1:=HN.out;exact((Hr.out.below HBK.out).keep HK4.out (fun e=>by omega)).below (by
   exact HB45.out)
 rw[hro,show d.l.length - 2=r.length by omega];have hle4:r.length+2≤4096:=by omega
 clear hro hror hlr
 go_cut [5] (fun v wx=>∃(RL:List Dt.D),Co.AS d w F R0 C0 b v RL (Co.asC d) wx)
 case first=>
  have HX:=HX5;obtain⟨zz0,zz1,zz2,zz3,zz4,zz5⟩:=HX.out.c6;have HCC:=HC5;clear cc0;obtain⟨cc0,cc1,cc2,cc3,cc4,cc5,cc6,cc7,cc8,cc9,cc10⟩:=HCC.out.c11;have ccf0:=HCC.out.frz 0;have ccf1:=HCC.out.frz 1;have ccf2:=HCC.out.frz 2;have ccf3:=HCC.out.frz 3;have ccf4:=HCC.out.frz 4;have ccf5:=HCC.out.frz 5;have ccf6:=HCC.out.frz 6;have ccf7:=HCC.out.frz 7;have ccf8:=HCC.out.frz 8;have ccf9:=HCC.out.frz 9;have ccf10:=HCC.out.frz 10;have HW5:Hid (w.heap.size+2<w5.heap.size):=by have h1:=HC5.out.lt;have h2:=HN.out;show _<_;omega
  by_cases g1:kk=1
  ·subst g1;rw[if_pos rfl]at hG;have hr0:r=[]:=List.isEmpty_iff.1 hG;have hk6':=Co.set6o_keep w5 C0 (.int .i64 x.k) (.int .i64 x.n) (.string x.s) (.slice x1 y1 z1) (.slice x2 y2 z2) (.slice x3 y3 z3);have hb6:Below w.heap.size w (Co.set6o w5 C0 (.int .i64 x.k) (.int .i64 x.n) (.string x.s) (.slice x1 y1 z1) (.slice x2 y2 z2) (.slice x3 y3 z3)):=HB5.out.trans (hk6'.to_below (fun j e=>by have:=HN.out;omega) HB5.out.size);have HT:Hid (Co.asC d= .mk 1 kn ⟨#[]⟩ x [] (r.map Co.asC)):=by
    show _=_;rw[HTE.out];unfold Co.asTop;dsimp only;rw[HKK.out];dsimp only;rw[if_pos rfl]
    rfl
   have HE:Hid ((fun v wx=>∃(RL:List Dt.D),Co.AS d w F R0 C0 b v RL (Co.asC d) wx) (.slice (some ⟨b,ro,none⟩) r.length (q2 - 2)) (Co.set6o w5 C0 (.int .i64 x.k) (.int .i64 x.n) (.string x.s) (.slice x1 y1 z1) (.slice x2 y2 z2) (.slice x3 y3 z3))):=by
    refine⟨r,?_⟩;rw[HT.out];exact⟨⟨_,_,_,_,(((((HC5.out.set 3 _).set 4 _).set 5 _).set 6 _).set 7 _).set 8 _,HRX.out.below hb6,⟨none,0,rfl,Nat.le_refl _,fun h=>absurd rfl h⟩⟩,⟨ro,q2 - 2,rfl,HRO.out.2 _ hb6⟩,rfl,fun _=>by rw[hr0];rfl,HR5.out.keep hk6' (fun e=>by have:=HN.out;omega),hb6,fun y hy=>by rw[HIN.out (by omega)]at*;exact hy,HFR.out,by omega⟩
   clear hG hr0 hk6' hb6 HT;go_wp2;go_meet;exact HE.out
  rw[if_neg g1]at hG;have t1:(kk==1)=false:=by simpa using g1
  by_cases g2:kk=2∨kk=4
  ·rw[if_pos g2,Bool.and_eq_true]at hG;have hx1:x.k=1:=of_decide_eq_true hG.1;have tx:(x.k !=1)=false:=by rw[hx1];rfl
   have hk6':=set_keep w5 C0 1 (.int .i64 x.n);have hb6:Below w.heap.size w (w5.setCell ⟨C0,1,none⟩ (.int .i64 x.n)):=HB5.out.trans (hk6'.to_below (fun j e=>by have:=HN.out;omega) HB5.out.size);have hk3:kk=2→r.length=0:=fun e=>by
    have h:=hG.2;rw[Bool.or_eq_true]at h;rcases h with h|h
    ·have:=of_decide_eq_true h;omega
    ·rw[List.isEmpty_iff.1 h];rfl
   have HT:Hid (Co.asC d= .mk kk x.n ⟨#[]⟩ Co.zD [] (r.map Co.asC)):=by
    show _=_;rw[HTE.out];unfold Co.asTop;dsimp only;rw[HKK.out];dsimp only;rw[if_neg g1,if_pos g2]
    rfl
   have HE:Hid ((fun v wx=>∃(RL:List Dt.D),Co.AS d w F R0 C0 b v RL (Co.asC d) wx) (.slice (some ⟨b,ro,none⟩) r.length (q2 - 2)) (w5.setCell ⟨C0,1,none⟩ (.int .i64 x.n))):=by
    refine⟨r,?_⟩;rw[HT.out];exact⟨⟨_,_,_,_,HC5.out.set 1 _,Co.rep_nil _ _ _ _ _,⟨none,0,rfl,Nat.le_refl _,fun h=>absurd rfl h⟩⟩,⟨ro,q2 - 2,rfl,HRO.out.2 _ hb6⟩,rfl,fun h=>hk3 (by have h:kk=1∨kk=2∨kk=3:=h;omega),HR5.out.keep hk6' (fun e=>by have:=HN.out;omega),hb6,fun y hy=>by rw[HIN.out (by omega)]at*;exact hy,HFR.out,by omega⟩
   have t24:(kk==2)=true∨((kk==2)=false∧(kk==4)=true):=by
    rcases g2 with e|e
    ·exact .inl (by simpa using e)
    ·exact .inr ⟨by rw[beq_eq_false_iff_ne];omega,by simpa using e⟩
   clear hG hx1 hk6' hb6 HT hk3 g1 g2;rcases t24 with t4|⟨t4,t5⟩
   all_goals
    go_wp2;go_meet;exact HE.out
  rw[if_neg g2]at hG;have t2:(kk==2)=false:=by rw[beq_eq_false_iff_ne];omega
  have t4:(kk==4)=false:=by rw[beq_eq_false_iff_ne];omega
  by_cases g3:kk=3∨kk=5∨kk=6
  ·rw[if_pos g3,Bool.and_eq_true,Bool.and_eq_true]at hG;have hx1:x.k=5:=of_decide_eq_true hG.1.1;have hxm:x.m=[]:=List.isEmpty_iff.1 hG.1.2;have tx:(x.k !=5)=false:=by rw[hx1];rfl
   obtain rfl:y1=0:=by rw[HY.out.1,hxm];rfl
   have hk6':=set_keep w5 C0 2 (.string x.s);have hb6:Below w.heap.size w (w5.setCell ⟨C0,2,none⟩ (.string x.s)):=HB5.out.trans (hk6'.to_below (fun j e=>by have:=HN.out;omega) HB5.out.size);have hk3:kk=3→r.length=0:=fun e=>by
    have h:=hG.2;rw[Bool.or_eq_true]at h;rcases h with h|h
    ·have h2:decide (kk=3)=false:=by simpa using h
     have:=of_decide_eq_false h2;omega
    ·rw[List.isEmpty_iff.1 h];rfl
   have HT:Hid (Co.asC d= .mk kk kn x.s Co.zD [] (r.map Co.asC)):=by
    show _=_;rw[HTE.out];unfold Co.asTop;dsimp only;rw[HKK.out];dsimp only;rw[if_neg g1,if_neg g2,if_pos g3]
    rfl
   have HE:Hid ((fun v wx=>∃(RL:List Dt.D),Co.AS d w F R0 C0 b v RL (Co.asC d) wx) (.slice (some ⟨b,ro,none⟩) r.length (q2 - 2)) (w5.setCell ⟨C0,2,none⟩ (.string x.s))):=by
    refine⟨r,?_⟩;rw[HT.out];exact⟨⟨_,_,_,_,HC5.out.set 2 _,Co.rep_nil _ _ _ _ _,⟨none,0,rfl,Nat.le_refl _,fun h=>absurd rfl h⟩⟩,⟨ro,q2 - 2,rfl,HRO.out.2 _ hb6⟩,rfl,fun h=>hk3 (by have h:kk=1∨kk=2∨kk=3:=h;omega),HR5.out.keep hk6' (fun e=>by have:=HN.out;omega),hb6,fun y hy=>by rw[HIN.out (by omega)]at*;exact hy,HFR.out,by omega⟩
   have t35:(kk==3)=true∨((kk==3)=false∧(kk==5)=true)∨((kk==3)=false∧(kk==5)=false∧(kk==6)=true):=by
    rcases g3 with e|e|e
    ·exact .inl (by simpa using e)
    ·exact .inr (.inl ⟨by rw[beq_eq_false_iff_ne];omega,by simpa using e⟩)
    ·exact .inr (.inr ⟨by rw[beq_eq_false_iff_ne];omega,by rw[beq_eq_false_iff_ne];omega,by simpa using e⟩)
   clear hG hx1 hxm hk6' hb6 HT hk3 g1 g2 g3;rcases t35 with t5|⟨t5,t6⟩|⟨t5,t6,t7⟩
   all_goals
    go_wp2;go_meet;exact HE.out
  rw[if_neg g3]at hG;have t5:(kk==3)=false:=by rw[beq_eq_false_iff_ne];omega
  have t6:(kk==5)=false:=by rw[beq_eq_false_iff_ne];omega
  have t7:(kk==6)=false:=by rw[beq_eq_false_iff_ne];omega
  by_cases g8:kk=8
  ·subst g8;rw[if_pos rfl,Bool.and_eq_true]at hG;have hx6:x.k=6:=of_decide_eq_true hG.1;have hxl:=hG.2;have tx:(x.k !=6)=false:=by rw[hx6];rfl
   obtain⟨-,hy2⟩:=HY.out;subst hy2;have HXL:=zh hxl;have hXlen:x.l.length≤4096:=by
    have h:=HFR2.out;rw[Dt.Fines]at h;exact(Dt.fine_parts h.1).2.1
   have HXW:Hid (Dt.Row (fun k=>F k∧k<w.heap.size) w (.slice x2 x.l.length z2) x.l):=((Dt.rep_iff _ _ _ _ _ _).1 HRX.out).2.1;have HT:Hid (Co.asC d= .mk 8 kn ⟨#[]⟩ Co.zD (x.l.map Dt.D.n) (r.map Co.asC)):=by
    show _=_;rw[HTE.out];unfold Co.asTop;dsimp only;rw[HKK.out];dsimp only;rw[if_neg g1,if_neg g2,if_neg g3,if_pos rfl]
    rfl
   obtain⟨j0,hj,hj0,hj1,hj2⟩:=info_parts Dt.infoI;have HJ:=zh hj;have HJ0:=zh hj0;have HJ1:=zh hj1;have HJ2:=zh hj2;have HIN2:Hid (Co.inner2 d=r):=HIN.out (by omega);have HI0:Hid (Hp w5 C0 #[.int .i64 8,.int .i64 kn,.string ⟨#[]⟩,.int .i64 0,.int .i64 0,.string ⟨#[]⟩,.slice none 0 0,.slice none 0 0,.slice none 0 0,.slice none 0 0,.slice none 0 0] 28∧w5.ownsRow w5.heap.size 3 1 (.slice none 0 0) 0 (Co.ints ((x.l.take 0).map Dt.D.n))∧Keep (fun k=>k=C0) w5 w5):=⟨HC5.out,World.ownsRow_nil _ _ _ _,Keep.refl _ _⟩
   clear hG hx6 hxl g1 g2 g3 hj hj0 hj1 hj2 HIN HTE HREP2;go_wp2;clear cc0 cc1 cc2 cc3 cc4 cc5 cc6 cc7 cc8 cc9 cc10 ccf0 ccf1 ccf2 ccf3 ccf4 ccf5 ccf6 ccf7 ccf8 ccf9 ccf10
   go_loopw [6] (fun v wr=>∃(i:Nat) (al:Option Addr) (ql:Nat),v= .int .i64 i∧i≤x.l.length∧Hid (Hp wr C0 #[.int .i64 8,.int .i64 kn,.string ⟨#[]⟩,.int .i64 0,.int .i64 0,.string ⟨#[]⟩,.slice none 0 0,.slice none 0 0,.slice none 0 0,.slice al i ql,.slice none 0 0] 28∧wr.ownsRow w5.heap.size 3 1 (.slice al i ql) i (Co.ints ((x.l.take i).map Dt.D.n))∧Keep (fun k=>k=C0) w5 wr)) (fun v _=>x.l.length - (intOf v).toNat)
   case atStart=>exact⟨0,none,0,rfl,by omega,HI0⟩
   case round=>
    clear HI0 zz0 zz1 zz2 zz3 zz4 zz5;obtain⟨i,al,ql,rfl,hi,HI⟩:=hrel;have HXR:Hid (Hp wr w4.heap.size #[.int .i64 x.k,.int .i64 x.n,.string x.s,.slice x1 y1 z1,.slice x2 x.l.length z2,.slice x3 y3 z3] 25):=HX5.out.keep HI.out.2.2 (fun e=>by have h1:=HC5.out.lt;have h2:=HC4.out.lt;omega);have zz4:=HXR.out.cell 4 rfl;have hbr:Below w.heap.size w wr:=HB5.out.trans (HI.out.2.2.to_below (fun j e=>by have:=HN.out;omega) HB5.out.size);have HBR:=zh hbr;by_cases hlt:i<x.l.length
    case neg=>
     have hge:(x.l.length:Int)≤(i:Int):=by omega
     obtain rfl:i=x.l.length:=by omega
     have HE:Hid ((fun v wx=>∃(RL:List Dt.D),Co.AS d w F R0 C0 b v RL (Co.asC d) wx) (.slice (some ⟨b,ro,none⟩) r.length (q2 - 2)) wr):=by
      refine⟨r,?_⟩;rw[HT.out];refine⟨⟨_,_,_,_,HI.out.1,Co.rep_nil _ _ _ _ _,?_⟩,⟨ro,q2 - 2,rfl,HRO.out.2 _ hbr⟩,rfl,fun h=>by have h:(8:Int)=1∨(8:Int)=2∨(8:Int)=3:=h;omega,HR5.out.keep HI.out.2.2 (fun e=>by have:=HN.out;omega),hbr,fun y hy=>by rw[HIN2.out];exact hy,HFR.out,by omega⟩;have h:=HI.out.2.1;rw[List.take_length]at h;refine Co.irow_mono (fun b hb _=> ?_) (Dt.IRow.of_own (m:=x.l.map Dt.D.n) (by rw[List.length_map];exact h));have:=HC5.out.lt;omega
     clear hbr;go_wp2;go_meet;exact HE.out
    have hlti:(i:Int)<(x.l.length:Int):=by omega
    obtain⟨_,_,he,_,hrow⟩:=HXW.out.below hbr;injection he with he1 he2 he3
    subst he1;clear he2 he3;obtain⟨xb,xo,rfl,hFb,hbl,hreps⟩:=hrow (by intro h0;rw[h0]at hlt;simp at hlt);obtain⟨um,ul,ut,hs,-⟩:=hreps.at i hlt;have hall:=List.all_eq_true.1 HXL.out _ (List.getElem_mem hlt);obtain⟨y,hy⟩:∃y,x.l[i]=y:=⟨_,rfl⟩
    rw[hy]at hs hall;rw[Bool.and_eq_true]at hall;have hyk:y.k=1:=of_decide_eq_true hall.1;have ty:(y.k !=1)=false:=by rw[hyk];rfl
    have hvar:=hall.2;have hnu:=numC_any y.n wr;rw[hvar]at hnu;obtain⟨s0,s1,s2,s3,s4,s5⟩:=hs;have HYY:=zh hy;have HXB:Hid (xb<w.heap.size):=hFb.2;have HLI:Hid (i≤4096):=zh (by omega);clear hrow hFb hbl hreps hall hyk hvar hy hbr s2 s3 s4 s5;go_wp2_with((go_at_call 96;refine hnu.mono ?_;rintro e w6 ⟨rfl,rfl⟩))
    obtain⟨wB,hwB⟩:∃wB,wr.drew.alloc (.cells #[.int .i64 y.n] 3)=wB:=⟨_,rfl⟩
    have hbd0:Below wr.heap.size wr wr.drew:=Co.drew_below wr;have hbB:Below wr.heap.size wr wB:=by rw[←hwB];exact hbd0.alloc (by have:=hbd0.size;omega) _
    have HBB:=zh hbB;have HSd:Hid (Hp wr.drew w4.heap.size #[.int .i64 x.k,.int .i64 x.n,.string x.s,.slice x1 y1 z1,.slice (some ⟨xb,xo,none⟩) x.l.length z2,.slice x3 y3 z3] 25∧wr.drew.cell? ⟨xb,xo+i*6+1,none⟩=some (.int .i64 y.n)):=⟨HXR.out.below hbd0,(hbd0.cell (p:=⟨xb,xo+i*6+1,none⟩) (block_lt_of_cell s1)).trans s1⟩
    have HSB:Hid (Hp wB w4.heap.size #[.int .i64 x.k,.int .i64 x.n,.string x.s,.slice x1 y1 z1,.slice (some ⟨xb,xo,none⟩) x.l.length z2,.slice x3 y3 z3] 25∧wB.cell? ⟨xb,xo+i*6+1,none⟩=some (.int .i64 y.n)):=⟨HXR.out.below hbB,(hbB.cell (p:=⟨xb,xo+i*6+1,none⟩) (block_lt_of_cell s1)).trans s1⟩
    have c9d:=(HI.out.1.below hbd0).cell 9 rfl;have c9B:=(HI.out.1.below hbB).cell 9 rfl;have HSRC:Hid (Ap.Src wB (.slice (some ⟨wr.heap.size,0,none⟩) 1 1) 1 [.int .i64 y.n]):=Co.src1 (w:=wr.drew) hwB;have HOWB:Hid (wB.ownsRow w5.heap.size 3 1 (.slice al i ql) i (Co.ints ((x.l.take i).map Dt.D.n))):=Dt.own_keep (S:=fun _=>False) HI.out.2.1 (keep_of_below hbB) (fun _ _ h=>h);have hbs:w5.heap.size≤wB.heap.size:=Nat.le_trans HI.out.2.2.size hbB.size;have hm1:i+1≤maxLen:=by unfold maxLen;omega
    have hm2:(i+1)*8≤140737488355328:=by omega
    clear hbd0 hbB s0 s1 zz4 ty hnu;refine wp_region_noPanic ?_;refine wp_region_held_drew (S:=fun w'=>Hp w' w4.heap.size #[.int .i64 x.k,.int .i64 x.n,.string x.s,.slice x1 y1 z1,.slice (some ⟨xb,xo,none⟩) x.l.length z2,.slice x3 y3 z3] 25∧w'.cell? ⟨xb,xo+i*6+1,none⟩=some (.int .i64 y.n)) (by kernel_rfl) HSd.out (fun hHeld=> ?_);refine Zm.u 0 ?_ rfl ?_ ?_;rotate_left
    ·intro w9 hSw;clear hSw;go_simp;try with_reducible rfl
    simp only[Act.put,za,zb,zc];refine Zm.u 2 ?_ rfl ?_ ?_;rotate_left
    ·intro w9 hSw;clear hSw;go_simp;try with_reducible rfl
    simp only[Act.put,za,zb,zc];refine Zm.u 3 ?_ rfl ?_ ?_;rotate_left
    ·intro w9 hSw;have hC:Hp w9 w4.heap.size _ _:=hSw.1;have c9:=hC.cell 4 rfl;clear hC;clear hSw;go_simp;try with_reducible rfl
    simp only[Act.put,za,zb,zc];refine Zm.u 4 ?_ rfl ?_ ?_;rotate_left
    ·intro w9 hSw;clear hSw;go_simp;try with_reducible rfl
    simp only[Act.put,za,zb,zc];refine Zm.u 5 ?_ rfl ?_ ?_;rotate_left
    ·intro w9 hSw;clear hSw;go_simp;try with_reducible rfl
    simp only[Act.put,za,zb,zc];refine Zm.u 6 ?_ rfl ?_ ?_;rotate_left
    ·intro w9 hSw;clear hSw;go_simp;try with_reducible rfl
    simp only[Act.put,za,zb,zc];refine Zm.u 7 ?_ rfl ?_ ?_;rotate_left
    ·intro w9 hSw;have q0:=hSw.2;clear hSw;go_simp;try with_reducible rfl
    simp only[Act.put,za,zb,zc];apply Co.cutG
    ·intro rest;refine Zm.q 1 8 rfl rfl (fun K hK=> ?_) (fun K hK=> ?_)
     ·go_simp;refine hK.out _ _ HSd.out (fun hHeld=> ?_);clear hK K;refine Zm.r 8 rfl (fun K hK=> ?_);go_simp;try rw[hwB]
      refine hK.out _ _ HSB.out (fun hHeld=> ?_);clear hK K;exact rest
     ·go_simp;try rw[hwB]
      refine hK.out _ _ HSB.out (fun hHeld=> ?_);clear hK K;refine Zm.r 1 rfl (fun K hK=> ?_);go_simp;refine hK.out _ _ HSB.out (fun hHeld=> ?_);clear hK K;exact rest
    clear c9d c9B hwB;have hHeld:=HSB.out;refine Zm.r 9 rfl (fun K hK=> ?_);refine Ap.step rfl (.tmp 121) (.tmp 128) 22 (by kernel_rfl) w5.heap.size 3 j0 (.int .i64 0) 1 8 Tryz.underlying22 HJ.out HJ0.out HJ1.out HJ2.out rfl (by decide) (.slice al i ql) i (Co.ints ((x.l.take i).map Dt.D.n)) (by kernel_rfl) HOWB.out (.slice (some ⟨wr.heap.size,0,none⟩) 1 1) 1 [.int .i64 y.n] (by kernel_rfl) HSRC.out rfl (by simp[Value.oneCell']) hm1 hm2 hbs ?_;intro v' w6 hown hgrow hat;obtain⟨al',ql',rfl⟩:=Dt.row_form hown;have hk5:Keep (fun k=>(Value.slice al i ql).ownBlock=some k) wr w6:=Co.grown_keep2 HBB.out hgrow;have hol:∀k,(Value.slice al i ql).ownBlock=some k→w5.heap.size≤k:=fun k e=>(Dt.own_lt HI.out.2.1 k e).1
    have hX4:w4.heap.size<w5.heap.size:=HX5.out.lt;have hC5:C0<w5.heap.size:=HC5.out.lt;have hW5:=HW5.out;have HS6:Hid (Hp w6 w4.heap.size #[.int .i64 x.k,.int .i64 x.n,.string x.s,.slice x1 y1 z1,.slice (some ⟨xb,xo,none⟩) x.l.length z2,.slice x3 y3 z3] 25∧w6.cell? ⟨xb,xo+i*6+1,none⟩=some (.int .i64 y.n)):=by
     refine⟨HXR.out.keep hk5 (fun e=>by have:=hol _ e;omega),?_⟩;have h1:=HSd.out.2;have h2:wr.cell? ⟨xb,xo+i*6+1,none⟩=some (.int .i64 y.n):=h1;exact(hk5.cell (xo+i*6+1) (block_lt_of_cell h2) (fun(e:(Value.slice al i ql).ownBlock=some xb)=>by have:=hol _ e;have:=HXB.out;omega)).trans h2
    have hc6:Hp w6 C0 _ _:=HI.out.1.keep hk5 (fun e=>by have:=hol _ e;omega);have k6:=set_keep w6 C0 9 (.slice al' (i+1) ql');have HS7:Hid (Hp (w6.setCell ⟨C0,9,none⟩ (.slice al' (i+1) ql')) w4.heap.size #[.int .i64 x.k,.int .i64 x.n,.string x.s,.slice x1 y1 z1,.slice (some ⟨xb,xo,none⟩) x.l.length z2,.slice x3 y3 z3] 25∧(w6.setCell ⟨C0,9,none⟩ (.slice al' (i+1) ql')).cell? ⟨xb,xo+i*6+1,none⟩=some (.int .i64 y.n)):=⟨HS6.out.1.keep k6 (fun e=>by have h2:=HC4.out.lt;omega),(k6.cell (xo+i*6+1) (block_lt_of_cell HS6.out.2) (fun(e:xb=C0)=>by have:=HXB.out;have:=HN.out;omega)).trans HS6.out.2⟩
    have HN2:Hid (Hp (w6.setCell ⟨C0,9,none⟩ (.slice al' (i+1) ql')) C0 #[.int .i64 8,.int .i64 kn,.string ⟨#[]⟩,.int .i64 0,.int .i64 0,.string ⟨#[]⟩,.slice none 0 0,.slice none 0 0,.slice none 0 0,.slice al' (i+1) ql',.slice none 0 0] 28∧(w6.setCell ⟨C0,9,none⟩ (.slice al' (i+1) ql')).ownsRow w5.heap.size 3 1 (.slice al' (i+1) ql') (i+1) (Co.ints ((x.l.take (i+1)).map Dt.D.n))∧Keep (fun k=>k=C0) w5 (w6.setCell ⟨C0,9,none⟩ (.slice al' (i+1) ql'))):=by
     refine⟨hc6.set 9 _,?_,?_⟩
     ·have h:=Dt.own_keep hown k6 (fun j e he=>by have:=(Dt.own_lt hown j e).1;omega);rw[List.take_succ_eq_append_getElem hlt,HYY.out,List.map_append];unfold Co.ints at h ⊢;rw[List.map_append];exact h
     ·refine Keep.mono ((HI.out.2.2.le (T:=fun k=>k=C0∨w5.heap.size≤k) fun k e=> .inl e).trans ((hk5.le fun k e=> .inr (hol k e)).trans (k6.le fun k e=> .inl e))) (fun k hk e=>by omega)
    have u9:=hc6.cell 9 rfl;have uf9:=hc6.frz 9;clear hown hgrow hat hk5 hol hc6 k6 hX4 hC5 hW5;refine hK.out _ _ HS6.out (fun hHeld=> ?_);clear hK K;refine Zm.u 10 ?_ rfl ?_ ?_;rotate_left
    ·intro w9 hSw;clear hSw;go_simp;try with_reducible rfl
    simp only[Act.put,za,zb,zc];refine Zm.r 11 rfl (fun K hK=> ?_);go_simp;refine hK.out _ _ HS7.out (fun hHeld=> ?_);clear hK K;refine wpAnyH_done (by kernel_rfl) ?_ _;refine NoPanic.normal ?_;clear u9 uf9;go_wp2;go_roundw
    case rel=>exact⟨i+1,al',ql',by simp,by omega,HN2⟩
    case measure=>simp[intOf];omega
  ·rw[if_neg g8]at hG;have g9:=of_decide_eq_true hG;have t8:(kk==8)=false:=by rw[beq_eq_false_iff_ne];omega
   have hlr:=HL2.out;have hq2:¬q2=1:=by omega
   have hle1:(1:Int)≤(d.l.length:Int):=by omega
   have m5:=HD5.out.cell 4 rfl;have HT:Hid (Co.asC d= .mk kk kn ⟨#[]⟩ Co.zD [] ((x :: r).map Co.asC)):=by
    show _=_;rw[HTE.out];unfold Co.asTop;dsimp only;rw[HKK.out];dsimp only;rw[if_neg g1,if_neg g2,if_neg g3,if_neg g8]
    rfl
   have HE:Hid ((fun v wx=>∃(RL:List Dt.D),Co.AS d w F R0 C0 b v RL (Co.asC d) wx) (.slice (some ⟨b,o+6,none⟩) (d.l.length - 1) (q2 - 1)) w5):=by
    refine⟨x :: r,?_⟩;rw[HT.out];refine⟨⟨_,_,_,_,HC5.out,Co.rep_nil _ _ _ _ _,⟨none,0,rfl,Nat.le_refl _,fun h=>absurd rfl h⟩⟩,⟨o+6,q2 - 1,by rw[show d.l.length - 1=(x :: r).length by rw[List.length_cons];omega],?_⟩,rfl,fun h=>by have h:kk=1∨kk=2∨kk=3:=h;omega,HR5.out,HB5.out,fun y hy=> ?_,HFR2.out,by rw[List.length_cons];omega⟩
    ·have h:=Dt.Reps.keep (keep_of_below (S:=fun _=>False) HB5.out) (fun _ _ _ h=>h) d.l HFB.out HBL.out HRE.out;have h2:=Co.reps_drop h 1 (by omega);rw[HLL.out]at h2;exact h2
    ·unfold Co.inner2;rw[HLL.out];dsimp only;rw[HKK.out,if_pos g9];exact hy
   clear hG HT g1 g2 g3 g8 g9 hlr;go_wp2;go_meet;exact HE.out
 case rest=>
  obtain⟨RL,has⟩:=hcut;obtain⟨ws,rfl⟩:∃ws,ws=wc:=⟨_,rfl⟩
  obtain⟨T,hT⟩:∃T,Co.asC d=T:=⟨_,rfl⟩
  rw[hT]at has;have HTT:=zh hT;obtain⟨vm,vl,vt,vp,hcc,hrd,hrp⟩:=has.hc;obtain⟨ro2,rc,hrv,hrl⟩:=has.rw_;subst hrv;have HAS:=zh has;have HC:=zh hcc;have c0:=hcc.cell 0 rfl;obtain⟨Bs,hBs⟩:∃Bs,ws.heap.size=Bs:=⟨_,rfl⟩
  have HBs:=zh hBs;have HCB:Hid (C0<Bs):=by show _<_;have:=hcc.lt;omega
  have HLI0:Hid (Co.LI w F R0 C0 Bs b ro2 RL T vm vl vt vp 0 none 0 ws):=⟨hcc,hrd,Co.irow_mono (fun b hb hl=>⟨hb,by omega⟩) hrp,⟨[],rfl,Co.CRow.nil _ _ _,by simp⟩,hrl,has.hr,has.kb,by omega⟩
  have hk3:=has.k3;have hle:=has.le;clear has hcc hrd hrp hrl hBs hT hG HTE HIN HREP2;go_upto_region 31 with fail
  go_cut [148] (fun v wx=>v= .bool false∧wx=ws)
  case first=>
   by_cases g1:T.k=1
   ·have t1:(T.k==1)=true:=by simpa using g1
    have h0:=hk3 (.inl g1);have hb1:decide ((0:Int)<(RL.length:Int))=false:=decide_eq_false (by omega);have hb2:decide (0<RL.length)=false:=decide_eq_false (by omega);clear hk3 g1 h0 hle;go_wp2;go_meet;exact⟨rfl,rfl⟩
   have t1:(T.k==1)=false:=by simpa using g1
   by_cases g2:T.k=2
   ·have t2:(T.k==2)=true:=by simpa using g2
    have h0:=hk3 (.inr (.inl g2));have hb1:decide ((0:Int)<(RL.length:Int))=false:=decide_eq_false (by omega);have hb2:decide (0<RL.length)=false:=decide_eq_false (by omega);clear hk3 g1 g2 h0 hle;go_wp2;go_meet;exact⟨rfl,rfl⟩
   have t2:(T.k==2)=false:=by simpa using g2
   by_cases g3:T.k=3
   ·have t3:(T.k==3)=true:=by simpa using g3
    have h0:=hk3 (.inr (.inr g3));have hb1:decide ((0:Int)<(RL.length:Int))=false:=decide_eq_false (by omega);have hb2:decide (0<RL.length)=false:=decide_eq_false (by omega);clear hk3 g1 g2 g3 h0 hle;go_wp2;go_meet;exact⟨rfl,rfl⟩
   have t3:(T.k==3)=false:=by simpa using g3
   clear hk3 g1 g2 g3 hle;go_wp2;go_meet;exact⟨rfl,rfl⟩
  case rest=>
   obtain⟨rfl,hw⟩:=hcut;subst hw;clear c0 hk3;go_wp2
   go_loopw [7] (fun v wr=>∃(i:Nat) (al:Option Addr) (ql:Nat),v= .int .i64 i∧i≤RL.length∧Hid (Co.LI w F R0 C0 Bs b ro2 RL T vm vl vt vp i al ql wr)) (fun v _=>RL.length - (intOf v).toNat)
   case atStart=>exact⟨0,none,0,rfl,by omega,HLI0⟩
   case round=>
    clear HLI0;obtain⟨i,al,ql,rfl,hi,HL⟩:=hrel;by_cases hlt:i<RL.length
    case neg=>
     have hge:(RL.length:Int)≤(i:Int):=by omega
     obtain rfl:i=RL.length:=by omega
     have hinv:=HL.out;obtain⟨ps,hpl,hcr,hpm⟩:=hinv.row;rw[List.take_length,←HAS.out.tl]at hpm;obtain⟨e1,f1,j1,e2,f2,j2,e3,f3,j3,rfl,rfl,rfl⟩:=hinv.rd.forms;obtain⟨ap,cp,rfl,hpc,hpp⟩:=hinv.rp;have hrp2:Dt.IRow (fun k=>C0<k∧k<Bs) wr (.slice ap T.p.length cp) T.p:=⟨ap,cp,rfl,hpc,hpp⟩
     have k11:=Co.set11_keep wr R0 (.int .i64 T.k) (.int .i64 T.n) (.string T.s) (.int .i64 T.d.k) (.int .i64 T.d.n) (.string T.d.s) (.slice e1 f1 j1) (.slice e2 f2 j2) (.slice e3 f3 j3) (.slice ap T.p.length cp) (.slice al RL.length ql);have hn:=HN.out;have HF:Hid (Co.Rep (fun k=>F k∨w.heap.size≤k) (Co.set11 wr R0 (.int .i64 T.k) (.int .i64 T.n) (.string T.s) (.int .i64 T.d.k) (.int .i64 T.d.n) (.string T.d.s) (.slice e1 f1 j1) (.slice e2 f2 j2) (.slice e3 f3 j3) (.slice ap T.p.length cp) (.slice al RL.length ql)) T (.slice e1 f1 j1) (.slice e2 f2 j2) (.slice e3 f3 j3) (.slice ap T.p.length cp) (.slice al RL.length ql)∧Below w.heap.size w (Co.set11 wr R0 (.int .i64 T.k) (.int .i64 T.n) (.string T.s) (.int .i64 T.d.k) (.int .i64 T.d.n) (.string T.d.s) (.slice e1 f1 j1) (.slice e2 f2 j2) (.slice e3 f3 j3) (.slice ap T.p.length cp) (.slice al RL.length ql))):=by
      refine⟨?_,hinv.kb.trans (k11.to_below (fun k e=>by omega) hinv.kb.size)⟩;have h1:Co.Rep (fun k=>(F k∧k<w.heap.size)∨C0<k) wr T (.slice e1 f1 j1) (.slice e2 f2 j2) (.slice e3 f3 j3) (.slice ap T.p.length cp) (.slice al RL.length ql):=
       (Co.rep_iff _ _ _ _ _ _ _ _).2 ⟨Dt.Rep.mono (fun b hb _ => .inl hb) T.d hinv.rd, Co.irow_mono (fun b hb _ => .inr hb.1) hrp2, by
        obtain⟨a',c',e1,e2,e3⟩:=hcr.to_row;rw[hpm]at e1 e2 e3;exact⟨a',c',e1,e2,fun hn=>by obtain⟨b,o,f1,f2,f3,f4⟩:=e3 hn;exact⟨b,o,f1,f2.imp id (fun h=>by have:=HCB.out;omega),f3,Co.Reps.mono (fun k hk _=>hk.imp id (fun h=>by have:=HCB.out;omega)) T.l f4⟩⟩⟩
      exact Co.Rep.mono (fun b hb _=>hb.elim (fun h=> .inl h.1) (fun h=> .inr (by omega))) T (Co.Rep.keep k11 (fun b hb _ e=>by omega) T h1)
     have HCR:=zh hinv.hc;have HRR:=zh hinv.hr;obtain⟨c0,c1,c2,c3,c4,c5,c6,c7,c8,c9,c10⟩:=HCR.out.c11;obtain⟨rr0,rr1,rr2,rr3,rr4,rr5,rr6,rr7,rr8,rr9,rr10⟩:=HRR.out.c11;have rrf0:=HRR.out.frz 0;have rrf1:=HRR.out.frz 1;have rrf2:=HRR.out.frz 2;have rrf3:=HRR.out.frz 3;have rrf4:=HRR.out.frz 4;have rrf5:=HRR.out.frz 5;have rrf6:=HRR.out.frz 6;have rrf7:=HRR.out.frz 7;have rrf8:=HRR.out.frz 8;have rrf9:=HRR.out.frz 9;have rrf10:=HRR.out.frz 10;clear hinv hcr hpm hpl k11 hrp2 hpp hpc hn;go_wp2;refine bodyPost_ret (v:=Co.V T (.slice e1 f1 j1) (.slice e2 f2 j2) (.slice e3 f3 j3) (.slice ap T.p.length cp) (.slice al RL.length ql)) (by unfold Co.V;simp[results,Tryz.results87,go_sem, *]) rfl ?_;rw[HTT.out];exact⟨_,_,_,_,_,rfl,HF.out.1,HF.out.2⟩
    have hlti:(i:Int)<(RL.length:Int):=by omega
    have hinv:=HL.out;obtain⟨ps,hpl,hcr,hpm⟩:=hinv.row;obtain⟨ym,yl,yt,hs,hry⟩:=hinv.rl.at i hlt;have hmem:=List.getElem_mem hlt;have hfy:=Co.fines_mem HAS.out.fi _ hmem;have hin:=HAS.out.ch _ hmem;obtain⟨y,hy⟩:∃y,RL[i]=y:=⟨_,rfl⟩
    rw[hy]at hs hry hfy hin;obtain⟨g1,i1,r1,g2,i2,r2,g3,i3,r3,rfl,rfl,rfl⟩:=hry.forms;obtain⟨wD,hwD⟩:∃wD,wr.drew=wD:=⟨_,rfl⟩
    have hbD:=Co.drew_below wr;rw[hwD]at hbD;have hcall:=HCH.out y hin (fun k=>F k∧k<w.heap.size) _ _ _ wD hfy (hry.below hbD);obtain⟨i0,hi',hi0,hi1,hi2⟩:=info_parts Co.infoC;have HI:=zh hi';have HI0:=zh hi0;have HI1:=zh hi1;have HI2:=zh hi2;have HPL:=zh hpl;have HCR:=zh hcr;have HPM:=zh hpm;have HYY:=zh hy;have HBD:=zh hbD;have HSW:Hid (Dt.Six wr b (ro2+i*6) y (.slice g1 i1 r1) (.slice g2 i2 r2) (.slice g3 i3 r3)):=hs;have HBLD:Hid (b<wD.heap.size):=by show _<_;have:=HFB.out.2;have:=hinv.kb.size;have:=hbD.size;omega
    have HSD:Hid (Dt.Six wD b (ro2+i*6) y (.slice g1 i1 r1) (.slice g2 i2 r2) (.slice g3 i3 r3)):=Co.six_keep hs (by have:=HFB.out.2;have:=hinv.kb.size;omega) (keep_of_below hbD) (S:=fun _=>False) id;have cLD:=(hinv.hc.below hbD).cell 10 rfl;have hle4:i+1≤4097:=by have:=HAS.out.le;omega
    have hm1:i+1≤maxLen:=by unfold maxLen;omega
    have hm2:(i+1)*184≤140737488355328:=by omega
    clear hinv hpl hcr hpm hs hry hmem hfy hin hy hi' hi0 hi1 hi2 hbD;go_wp2;refine wp_region_noPanic ?_;refine wp_region_held_drew (S:=fun w'=>Dt.Six w' b (ro2+i*6) y (.slice g1 i1 r1) (.slice g2 i2 r2) (.slice g3 i3 r3)) (by kernel_rfl) (by rw[hwD];exact HSD.out) (fun hHeld=> ?_);rw[hwD]at hHeld ⊢;clear hwD;refine Zm.u 0 ?_ rfl ?_ ?_;rotate_left
    ·intro w9 hSw;clear hSw;go_simp;try with_reducible rfl
    simp only[Act.put,za,zb,zc];refine Zm.u 2 ?_ rfl ?_ ?_;rotate_left
    ·intro w9 hSw;clear hSw;go_simp;try with_reducible rfl
    simp only[Act.put,za,zb,zc];refine Zm.u 3 ?_ rfl ?_ ?_;rotate_left
    ·intro w9 hSw;clear hSw;go_simp;try with_reducible rfl
    simp only[Act.put,za,zb,zc];refine Zm.u 4 ?_ rfl ?_ ?_;rotate_left
    ·intro w9 hSw;clear hSw;go_simp;try with_reducible rfl
    simp only[Act.put,za,zb,zc];refine Zm.u 5 ?_ rfl ?_ ?_;rotate_left
    ·intro w9 hSw;have z0:=hSw.c0;have z1:=hSw.c1;have z2:=hSw.c2;have z3:=hSw.c3;have z4:=hSw.c4;have z5:=hSw.c5;clear hSw;go_simp;try with_reducible rfl
    simp only[Act.put,za,zb,zc];refine Zm.q 1 6 rfl rfl (fun K hK=> ?_) (fun K hK=> ?_)
    ·go_simp;refine hK.out _ _ HSD.out (fun hHeld=> ?_);clear hK K;refine Zm.r 6 rfl (fun K hK=> ?_);go_simp;refine hcall.mono ?_;rintro e w6 ⟨um,ul,ut,up,uk,rfl,hr6,hb6⟩;obtain⟨h1,k1,s1,h2,k2,s2,h3,k3,s3,h4,k4,s4,h5,k5,s5,rfl,rfl,rfl,rfl,rfl⟩:=hr6.forms5;unfold Co.V;obtain⟨c',hX⟩:∃c',Co.asC y=c':=⟨_,rfl⟩
     rw[hX]at hr6 ⊢;have HXY:=zh hX;have HB6:Hid (Below wr.heap.size wr w6):=btr HBD.out hb6;have HR6:Hid (Co.Rep (fun k=>(F k∧k<w.heap.size)∨wr.heap.size≤k) w6 c' (.slice h1 k1 s1) (.slice h2 k2 s2) (.slice h3 k3 s3) (.slice h4 k4 s4) (.slice h5 k5 s5)):=Co.Rep.mono (fun b hb _=>hb.imp id (fun h=>Nat.le_trans HBD.out.size h)) c' hr6;have HS6:Hid (Dt.Six w6 b (ro2+i*6) y (.slice g1 i1 r1) (.slice g2 i2 r2) (.slice g3 i3 r3)):=Co.six_keep HSD.out HBLD.out (keep_of_below hb6) (S:=fun _=>False) id;obtain⟨wB,hwB⟩:∃wB,w6.alloc (.cells #[.int .i64 c'.k,.int .i64 c'.n,.string c'.s,.int .i64 c'.d.k,.int .i64 c'.d.n,.string c'.d.s,.slice h1 k1 s1,.slice h2 k2 s2,.slice h3 k3 s3,.slice h4 k4 s4,.slice h5 k5 s5] 28)=wB:=⟨_,rfl⟩
     obtain⟨hb7,hs7⟩:=new_below hwB;have HB7:=zh hb7;have HBB:Hid (Below wr.heap.size wr wB):=btr HB6.out hb7;have HSB:Hid (Dt.Six wB b (ro2+i*6) y (.slice g1 i1 r1) (.slice g2 i2 r2) (.slice g3 i3 r3)):=Co.six_keep HS6.out (Nat.lt_of_lt_of_le HBLD.out hb6.size) (keep_of_below hb7) (S:=fun _=>False) id;have cL6:=(HL.out.hc.below HB6.out).cell 10 rfl;have cLB:=(HL.out.hc.below HBB.out).cell 10 rfl;have HSRC:Hid (Ap.Src wB (.slice (some ⟨w6.heap.size,0,none⟩) 1 1) 1 [.int .i64 c'.k,.int .i64 c'.n,.string c'.s,.int .i64 c'.d.k,.int .i64 c'.d.n,.string c'.d.s,.slice h1 k1 s1,.slice h2 k2 s2,.slice h3 k3 s3,.slice h4 k4 s4,.slice h5 k5 s5]):=Co.srcNew hwB;have HOWB:Hid (wB.ownsRow Bs 28 11 (.slice al i ql) i (Co.flatC ps)):=by
      have h:=(HCR.out.keep (S:=fun _=>False) (keep_of_below HBB.out) (fun _ _ _ h=>h)).row;rw[←HPL.out]at h;exact h
     have hbs:Bs≤wB.heap.size:=Nat.le_trans HL.out.bs HBB.out.size;clear hX hr6 hb6 hb7 hs7;try simp only
     refine hK.out _ _ HS6.out (fun hHeld=> ?_);clear hK K;refine Zm.r 7 rfl (fun K hK=> ?_);go_simp;try rw[hwB]
     refine hK.out _ _ HSB.out (fun hHeld=> ?_);clear hK K;clear hwB cLD;refine Zm.r 8 rfl (fun K hK=> ?_);refine Ap.step rfl (.tmp 157) (.tmp 163) 26 (by kernel_rfl) Bs 28 i0 (.agg #[.int .i64 0,.int .i64 0,.string ⟨#[]⟩,.int .i64 0,.int .i64 0,.string ⟨#[]⟩,.slice none 0 0,.slice none 0 0,.slice none 0 0,.slice none 0 0,.slice none 0 0]) 11 184 Tryz.underlying26 HI.out HI0.out HI1.out HI2.out rfl (by decide) (.slice al i ql) i (Co.flatC ps) (by kernel_rfl) HOWB.out (.slice (some ⟨w6.heap.size,0,none⟩) 1 1) 1 [.int .i64 c'.k,.int .i64 c'.n,.string c'.s,.int .i64 c'.d.k,.int .i64 c'.d.n,.string c'.d.s,.slice h1 k1 s1,.slice h2 k2 s2,.slice h3 k3 s3,.slice h4 k4 s4,.slice h5 k5 s5] (by kernel_rfl) HSRC.out rfl (by simp[Value.oneCell']) hm1 hm2 hbs ?_;intro v' w7 hown hgrow hat;obtain⟨al',ql',rfl⟩:=Dt.row_form hown;obtain⟨q1',q2'⟩:=HCR.out.push HL.out.bs (fun k hk=>by have:=HL.out.kb.size;have h1:=HCB.out;have h2:=HN.out;omega) HB6.out (p:=⟨c',.slice h1 k1 s1,.slice h2 k2 s2,.slice h3 k3 s3,.slice h4 k4 s4,.slice h5 k5 s5⟩) HR6.out HB7.out (by rw[←HPL.out];exact hown) hgrow hat;have hol:∀k,(Value.slice al i ql).ownBlock=some k→Bs≤k:=fun k e=>(Dt.own_lt HCR.out.row k e).1
     have hcb:=HCB.out;have hn:=HN.out;have HS7:Hid (Dt.Six w7 b (ro2+i*6) y (.slice g1 i1 r1) (.slice g2 i2 r2) (.slice g3 i3 r3)):=Co.six_keep (show Dt.Six wr b (ro2+i*6) y (.slice g1 i1 r1) (.slice g2 i2 r2) (.slice g3 i3 r3)from HSW.out) (by have:=HFB.out.2;have:=HL.out.kb.size;omega) q2' (fun e=>by have:=hol _ e;have:=HFB.out.2;omega);have hc7:Hp w7 C0 _ _:=HL.out.hc.keep q2' (fun e=>by have:=hol _ e;omega);have k8:=set_keep w7 C0 10 (.slice al' (i+1) ql');have HS8:Hid (Dt.Six (w7.setCell ⟨C0,10,none⟩ (.slice al' (i+1) ql')) b (ro2+i*6) y (.slice g1 i1 r1) (.slice g2 i2 r2) (.slice g3 i3 r3)):=Co.six_keep HS7.out (by have:=HFB.out.2;have:=HL.out.kb.size;have:=q2'.size;omega) k8 (fun(e:b=C0)=>by have:=HFB.out.2;omega);have HN2:Hid (Co.LI w F R0 C0 Bs b ro2 RL T vm vl vt vp (i+1) al' ql' (w7.setCell ⟨C0,10,none⟩ (.slice al' (i+1) ql'))):=by
      have kk8:Keep (fun k=>(Value.slice al i ql).ownBlock=some k∨k=C0) wr (w7.setCell ⟨C0,10,none⟩ (.slice al' (i+1) ql')):=(q2'.le fun k e=> .inl e).trans (k8.le fun k e=> .inr e);refine⟨hc7.set 10 _,Dt.Rep.keep kk8 (fun b hb _ e=>e.elim (fun e=>by have:=hol _ e;omega) (fun e=>by omega)) T.d HL.out.rd,HL.out.rp.keep kk8 (fun b hb _ e=>e.elim (fun e=>by have:=hol _ e;omega) (fun e=>by omega)),⟨ps++[⟨c',.slice h1 k1 s1,.slice h2 k2 s2,.slice h3 k3 s3,.slice h4 k4 s4,.slice h5 k5 s5⟩],by rw[List.length_append,←HPL.out];rfl,?_,?_⟩,Dt.Reps.keep kk8 (fun b hb _ e=>e.elim (fun e=>by have:=hol _ e;omega) (fun e=>by omega)) RL HFB.out (by have:=HFB.out.2;have:=HL.out.kb.size;omega) HL.out.rl,HL.out.hr.keep kk8 (fun e=>e.elim (fun e=>by have:=hol _ e;omega) (fun e=>by omega)),HL.out.kb.trans (kk8.to_below (fun k e=>e.elim (fun e=>by have:=hol _ e;omega) (fun e=>by omega)) HL.out.kb.size),Nat.le_trans HL.out.bs kk8.size⟩
      ·rw[HPL.out]at*;exact q1'.keep k8 (fun k hk _ (e:k=C0)=>by rcases hk with hk|hk <;> omega)
      ·rw[List.map_append,HPM.out,List.take_succ_eq_append_getElem hlt,List.map_append];show _++[c']=_++[Co.asC RL[i]];rw[HYY.out,HXY.out]
     have u10:=hc7.cell 10 rfl;have uf10:=hc7.frz 10;clear hown hgrow hat q1' q2' hol hcb hn hc7 k8;refine hK.out _ _ HS7.out (fun hHeld=> ?_);clear hK K;refine Zm.u 9 ?_ rfl ?_ ?_;rotate_left
     ·intro w9 hSw;clear hSw;go_simp;try with_reducible rfl
     simp only[Act.put,za,zb,zc];refine Zm.r 10 rfl (fun K hK=> ?_);go_simp;refine hK.out _ _ HS8.out (fun hHeld=> ?_);clear hK K;refine wpAnyH_done (by kernel_rfl) ?_ _;refine NoPanic.normal ?_;clear u10 uf10 cL6 cLB;go_wp2;go_roundw
     case rel=>exact⟨i+1,al',ql',by simp,by omega,HN2⟩
     case measure=>simp[intOf];omega
    ·go_simp;refine hcall.mono ?_;rintro e w6 ⟨um,ul,ut,up,uk,rfl,hr6,hb6⟩;obtain⟨h1,k1,s1,h2,k2,s2,h3,k3,s3,h4,k4,s4,h5,k5,s5,rfl,rfl,rfl,rfl,rfl⟩:=hr6.forms5;unfold Co.V;obtain⟨c',hX⟩:∃c',Co.asC y=c':=⟨_,rfl⟩
     rw[hX]at hr6 ⊢;have HXY:=zh hX;have HB6:Hid (Below wr.heap.size wr w6):=btr HBD.out hb6;have HR6:Hid (Co.Rep (fun k=>(F k∧k<w.heap.size)∨wr.heap.size≤k) w6 c' (.slice h1 k1 s1) (.slice h2 k2 s2) (.slice h3 k3 s3) (.slice h4 k4 s4) (.slice h5 k5 s5)):=Co.Rep.mono (fun b hb _=>hb.imp id (fun h=>Nat.le_trans HBD.out.size h)) c' hr6;have HS6:Hid (Dt.Six w6 b (ro2+i*6) y (.slice g1 i1 r1) (.slice g2 i2 r2) (.slice g3 i3 r3)):=Co.six_keep HSD.out HBLD.out (keep_of_below hb6) (S:=fun _=>False) id;obtain⟨wB,hwB⟩:∃wB,w6.alloc (.cells #[.int .i64 c'.k,.int .i64 c'.n,.string c'.s,.int .i64 c'.d.k,.int .i64 c'.d.n,.string c'.d.s,.slice h1 k1 s1,.slice h2 k2 s2,.slice h3 k3 s3,.slice h4 k4 s4,.slice h5 k5 s5] 28)=wB:=⟨_,rfl⟩
     obtain⟨hb7,hs7⟩:=new_below hwB;have HB7:=zh hb7;have HBB:Hid (Below wr.heap.size wr wB):=btr HB6.out hb7;have HSB:Hid (Dt.Six wB b (ro2+i*6) y (.slice g1 i1 r1) (.slice g2 i2 r2) (.slice g3 i3 r3)):=Co.six_keep HS6.out (Nat.lt_of_lt_of_le HBLD.out hb6.size) (keep_of_below hb7) (S:=fun _=>False) id;have cL6:=(HL.out.hc.below HB6.out).cell 10 rfl;have cLB:=(HL.out.hc.below HBB.out).cell 10 rfl;have HSRC:Hid (Ap.Src wB (.slice (some ⟨w6.heap.size,0,none⟩) 1 1) 1 [.int .i64 c'.k,.int .i64 c'.n,.string c'.s,.int .i64 c'.d.k,.int .i64 c'.d.n,.string c'.d.s,.slice h1 k1 s1,.slice h2 k2 s2,.slice h3 k3 s3,.slice h4 k4 s4,.slice h5 k5 s5]):=Co.srcNew hwB;have HOWB:Hid (wB.ownsRow Bs 28 11 (.slice al i ql) i (Co.flatC ps)):=by
      have h:=(HCR.out.keep (S:=fun _=>False) (keep_of_below HBB.out) (fun _ _ _ h=>h)).row;rw[←HPL.out]at h;exact h
     have hbs:Bs≤wB.heap.size:=Nat.le_trans HL.out.bs HBB.out.size;clear hX hr6 hb6 hb7 hs7;try simp only
     refine hK.out _ _ HS6.out (fun hHeld=> ?_);clear hK K;refine Zm.q 1 7 rfl rfl (fun K hK=> ?_) (fun K hK=> ?_)
     ·go_simp;refine hK.out _ _ HS6.out (fun hHeld=> ?_);clear hK K;refine Zm.r 7 rfl (fun K hK=> ?_);go_simp;try rw[hwB]
      refine hK.out _ _ HSB.out (fun hHeld=> ?_);clear hK K;clear hwB cLD;refine Zm.r 8 rfl (fun K hK=> ?_);refine Ap.step rfl (.tmp 157) (.tmp 163) 26 (by kernel_rfl) Bs 28 i0 (.agg #[.int .i64 0,.int .i64 0,.string ⟨#[]⟩,.int .i64 0,.int .i64 0,.string ⟨#[]⟩,.slice none 0 0,.slice none 0 0,.slice none 0 0,.slice none 0 0,.slice none 0 0]) 11 184 Tryz.underlying26 HI.out HI0.out HI1.out HI2.out rfl (by decide) (.slice al i ql) i (Co.flatC ps) (by kernel_rfl) HOWB.out (.slice (some ⟨w6.heap.size,0,none⟩) 1 1) 1 [.int .i64 c'.k,.int .i64 c'.n,.string c'.s,.int .i64 c'.d.k,.int .i64 c'.d.n,.string c'.d.s,.slice h1 k1 s1,.slice h2 k2 s2,.slice h3 k3 s3,.slice h4 k4 s4,.slice h5 k5 s5] (by kernel_rfl) HSRC.out rfl (by simp[Value.oneCell']) hm1 hm2 hbs ?_;intro v' w7 hown hgrow hat;obtain⟨al',ql',rfl⟩:=Dt.row_form hown;obtain⟨q1',q2'⟩:=HCR.out.push HL.out.bs (fun k hk=>by have:=HL.out.kb.size;have h1:=HCB.out;have h2:=HN.out;omega) HB6.out (p:=⟨c',.slice h1 k1 s1,.slice h2 k2 s2,.slice h3 k3 s3,.slice h4 k4 s4,.slice h5 k5 s5⟩) HR6.out HB7.out (by rw[←HPL.out];exact hown) hgrow hat;have hol:∀k,(Value.slice al i ql).ownBlock=some k→Bs≤k:=fun k e=>(Dt.own_lt HCR.out.row k e).1
      have hcb:=HCB.out;have hn:=HN.out;have HS7:Hid (Dt.Six w7 b (ro2+i*6) y (.slice g1 i1 r1) (.slice g2 i2 r2) (.slice g3 i3 r3)):=Co.six_keep (show Dt.Six wr b (ro2+i*6) y (.slice g1 i1 r1) (.slice g2 i2 r2) (.slice g3 i3 r3)from HSW.out) (by have:=HFB.out.2;have:=HL.out.kb.size;omega) q2' (fun e=>by have:=hol _ e;have:=HFB.out.2;omega);have hc7:Hp w7 C0 _ _:=HL.out.hc.keep q2' (fun e=>by have:=hol _ e;omega);have k8:=set_keep w7 C0 10 (.slice al' (i+1) ql');have HS8:Hid (Dt.Six (w7.setCell ⟨C0,10,none⟩ (.slice al' (i+1) ql')) b (ro2+i*6) y (.slice g1 i1 r1) (.slice g2 i2 r2) (.slice g3 i3 r3)):=Co.six_keep HS7.out (by have:=HFB.out.2;have:=HL.out.kb.size;have:=q2'.size;omega) k8 (fun(e:b=C0)=>by have:=HFB.out.2;omega);have HN2:Hid (Co.LI w F R0 C0 Bs b ro2 RL T vm vl vt vp (i+1) al' ql' (w7.setCell ⟨C0,10,none⟩ (.slice al' (i+1) ql'))):=by
       have kk8:Keep (fun k=>(Value.slice al i ql).ownBlock=some k∨k=C0) wr (w7.setCell ⟨C0,10,none⟩ (.slice al' (i+1) ql')):=(q2'.le fun k e=> .inl e).trans (k8.le fun k e=> .inr e);refine⟨hc7.set 10 _,Dt.Rep.keep kk8 (fun b hb _ e=>e.elim (fun e=>by have:=hol _ e;omega) (fun e=>by omega)) T.d HL.out.rd,HL.out.rp.keep kk8 (fun b hb _ e=>e.elim (fun e=>by have:=hol _ e;omega) (fun e=>by omega)),⟨ps++[⟨c',.slice h1 k1 s1,.slice h2 k2 s2,.slice h3 k3 s3,.slice h4 k4 s4,.slice h5 k5 s5⟩],by rw[List.length_append,←HPL.out];rfl,?_,?_⟩,Dt.Reps.keep kk8 (fun b hb _ e=>e.elim (fun e=>by have:=hol _ e;omega) (fun e=>by omega)) RL HFB.out (by have:=HFB.out.2;have:=HL.out.kb.size;omega) HL.out.rl,HL.out.hr.keep kk8 (fun e=>e.elim (fun e=>by have:=hol _ e;omega) (fun e=>by omega)),HL.out.kb.trans (kk8.to_below (fun k e=>e.elim (fun e=>by have:=hol _ e;omega) (fun e=>by omega)) HL.out.kb.size),Nat.le_trans HL.out.bs kk8.size⟩
       ·rw[HPL.out]at*;exact q1'.keep k8 (fun k hk _ (e:k=C0)=>by rcases hk with hk|hk <;> omega)
       ·rw[List.map_append,HPM.out,List.take_succ_eq_append_getElem hlt,List.map_append];show _++[c']=_++[Co.asC RL[i]];rw[HYY.out,HXY.out]
      have u10:=hc7.cell 10 rfl;have uf10:=hc7.frz 10;clear hown hgrow hat q1' q2' hol hcb hn hc7 k8;refine hK.out _ _ HS7.out (fun hHeld=> ?_);clear hK K;refine Zm.u 9 ?_ rfl ?_ ?_;rotate_left
      ·intro w9 hSw;clear hSw;go_simp;try with_reducible rfl
      simp only[Act.put,za,zb,zc];refine Zm.r 10 rfl (fun K hK=> ?_);go_simp;refine hK.out _ _ HS8.out (fun hHeld=> ?_);clear hK K;refine wpAnyH_done (by kernel_rfl) ?_ _;refine NoPanic.normal ?_;clear u10 uf10 cL6 cLB;go_wp2;go_roundw
      case rel=>exact⟨i+1,al',ql',by simp,by omega,HN2⟩
      case measure=>simp[intOf];omega
     ·go_simp;try rw[hwB]
      refine hK.out _ _ HSB.out (fun hHeld=> ?_);clear hK K;refine Zm.r 1 rfl (fun K hK=> ?_);go_simp;refine hK.out _ _ HSB.out (fun hHeld=> ?_);clear hK K;clear hwB cLD;refine Zm.r 8 rfl (fun K hK=> ?_);refine Ap.step rfl (.tmp 157) (.tmp 163) 26 (by kernel_rfl) Bs 28 i0 (.agg #[.int .i64 0,.int .i64 0,.string ⟨#[]⟩,.int .i64 0,.int .i64 0,.string ⟨#[]⟩,.slice none 0 0,.slice none 0 0,.slice none 0 0,.slice none 0 0,.slice none 0 0]) 11 184 Tryz.underlying26 HI.out HI0.out HI1.out HI2.out rfl (by decide) (.slice al i ql) i (Co.flatC ps) (by kernel_rfl) HOWB.out (.slice (some ⟨w6.heap.size,0,none⟩) 1 1) 1 [.int .i64 c'.k,.int .i64 c'.n,.string c'.s,.int .i64 c'.d.k,.int .i64 c'.d.n,.string c'.d.s,.slice h1 k1 s1,.slice h2 k2 s2,.slice h3 k3 s3,.slice h4 k4 s4,.slice h5 k5 s5] (by kernel_rfl) HSRC.out rfl (by simp[Value.oneCell']) hm1 hm2 hbs ?_;intro v' w7 hown hgrow hat;obtain⟨al',ql',rfl⟩:=Dt.row_form hown;obtain⟨q1',q2'⟩:=HCR.out.push HL.out.bs (fun k hk=>by have:=HL.out.kb.size;have h1:=HCB.out;have h2:=HN.out;omega) HB6.out (p:=⟨c',.slice h1 k1 s1,.slice h2 k2 s2,.slice h3 k3 s3,.slice h4 k4 s4,.slice h5 k5 s5⟩) HR6.out HB7.out (by rw[←HPL.out];exact hown) hgrow hat;have hol:∀k,(Value.slice al i ql).ownBlock=some k→Bs≤k:=fun k e=>(Dt.own_lt HCR.out.row k e).1
      have hcb:=HCB.out;have hn:=HN.out;have HS7:Hid (Dt.Six w7 b (ro2+i*6) y (.slice g1 i1 r1) (.slice g2 i2 r2) (.slice g3 i3 r3)):=Co.six_keep (show Dt.Six wr b (ro2+i*6) y (.slice g1 i1 r1) (.slice g2 i2 r2) (.slice g3 i3 r3)from HSW.out) (by have:=HFB.out.2;have:=HL.out.kb.size;omega) q2' (fun e=>by have:=hol _ e;have:=HFB.out.2;omega);have hc7:Hp w7 C0 _ _:=HL.out.hc.keep q2' (fun e=>by have:=hol _ e;omega);have k8:=set_keep w7 C0 10 (.slice al' (i+1) ql');have HS8:Hid (Dt.Six (w7.setCell ⟨C0,10,none⟩ (.slice al' (i+1) ql')) b (ro2+i*6) y (.slice g1 i1 r1) (.slice g2 i2 r2) (.slice g3 i3 r3)):=Co.six_keep HS7.out (by have:=HFB.out.2;have:=HL.out.kb.size;have:=q2'.size;omega) k8 (fun(e:b=C0)=>by have:=HFB.out.2;omega);have HN2:Hid (Co.LI w F R0 C0 Bs b ro2 RL T vm vl vt vp (i+1) al' ql' (w7.setCell ⟨C0,10,none⟩ (.slice al' (i+1) ql'))):=by
       have kk8:Keep (fun k=>(Value.slice al i ql).ownBlock=some k∨k=C0) wr (w7.setCell ⟨C0,10,none⟩ (.slice al' (i+1) ql')):=(q2'.le fun k e=> .inl e).trans (k8.le fun k e=> .inr e);refine⟨hc7.set 10 _,Dt.Rep.keep kk8 (fun b hb _ e=>e.elim (fun e=>by have:=hol _ e;omega) (fun e=>by omega)) T.d HL.out.rd,HL.out.rp.keep kk8 (fun b hb _ e=>e.elim (fun e=>by have:=hol _ e;omega) (fun e=>by omega)),⟨ps++[⟨c',.slice h1 k1 s1,.slice h2 k2 s2,.slice h3 k3 s3,.slice h4 k4 s4,.slice h5 k5 s5⟩],by rw[List.length_append,←HPL.out];rfl,?_,?_⟩,Dt.Reps.keep kk8 (fun b hb _ e=>e.elim (fun e=>by have:=hol _ e;omega) (fun e=>by omega)) RL HFB.out (by have:=HFB.out.2;have:=HL.out.kb.size;omega) HL.out.rl,HL.out.hr.keep kk8 (fun e=>e.elim (fun e=>by have:=hol _ e;omega) (fun e=>by omega)),HL.out.kb.trans (kk8.to_below (fun k e=>e.elim (fun e=>by have:=hol _ e;omega) (fun e=>by omega)) HL.out.kb.size),Nat.le_trans HL.out.bs kk8.size⟩
       ·rw[HPL.out]at*;exact q1'.keep k8 (fun k hk _ (e:k=C0)=>by rcases hk with hk|hk <;> omega)
       ·rw[List.map_append,HPM.out,List.take_succ_eq_append_getElem hlt,List.map_append];show _++[c']=_++[Co.asC RL[i]];rw[HYY.out,HXY.out]
      have u10:=hc7.cell 10 rfl;have uf10:=hc7.frz 10;clear hown hgrow hat q1' q2' hol hcb hn hc7 k8;refine hK.out _ _ HS7.out (fun hHeld=> ?_);clear hK K;refine Zm.u 9 ?_ rfl ?_ ?_;rotate_left
      ·intro w9 hSw;clear hSw;go_simp;try with_reducible rfl
      simp only[Act.put,za,zb,zc];refine Zm.r 10 rfl (fun K hK=> ?_);go_simp;refine hK.out _ _ HS8.out (fun hHeld=> ?_);clear hK K;refine wpAnyH_done (by kernel_rfl) ?_ _;refine NoPanic.normal ?_;clear u10 uf10 cL6 cLB;go_wp2;go_roundw
      case rel=>exact⟨i+1,al',ql',by simp,by omega,HN2⟩
      case measure=>simp[intOf];omega
def Co.goodF:Nat→Dt.D→Bool
 |0,_=>false
 |f+1,d=>Co.goodTop d&&(Co.inner2 d).all (Co.goodF f)
theorem coRAs_any:∀(f:Nat) (d:Dt.D),Co.goodF f d=true→Co.AsIs d
 |0,_,h=>by cases h
 |f+1,d,h=>by
  rw[Co.goodF,Bool.and_eq_true]at h;exact coRAs_step d h.1 (fun y hy=>coRAs_any f y (List.all_eq_true.1 h.2 y hy))
end Go.Proofs.YtfjmlfbohenmfaaGreat
