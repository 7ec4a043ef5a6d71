/-
 shuttleref07's walk through a core. (Printed by genCoRGoes.py, expanded by pp.py.)
-/
import Derived.Test.YtfjmlfbohenmfaaGreatCoreBBM12
import Derived.Deep.CutBlock
import Derived.Test.YtfjmlfbohenmfaaGreatCoreBBM7
import Derived.StillTailTactics
import Derived.Test.YtfjmlfbohenmfaaGreatCoreBBM2
namespace Go.Proofs.YtfjmlfbohenmfaaGreat
open Go.RowKit
attribute [local go_sem] Oper.semAt_some
namespace Co
theorem src1{w wD:World}{a:Value}{t:TypeId}(hw:w.alloc (.cells #[a] t)=wD):Ap.Src wD (.slice (some ⟨w.heap.size,0,none⟩) 1 1) 1 [a]:=
 .inr ⟨_,_,rfl,fun z u hu=>by
  rw[Addr.add_mid,Nat.zero_add];have h2:#[a][z]?=some u:=by rw[←hu];simp
  exact(Hp.new hw).cell z h2⟩
def sw(opn:Bool)(c:C)(deep:Nat)(win:List Int)(top:Bool)(cnt:Nat):Int:=
 if 128<deep then 4 else if 8192≤cnt then 3 else if alone c=false∨(c.k=6∧top=false)then 70 else if(c.k=2∨c.k=4)∧opn=false∧win.contains c.n=false then 70 else 0
theorem here_sw(opn:Bool)(c:C)(deep:Nat)(win:List Int)(top:Bool)(cnt:Nat)(bd:List Int):here opn c deep win top cnt bd=if sw opn c deep win top cnt≠0 then sw opn c deep win top cnt else if c.p.any bd.contains then 70 else 0:=by
 unfold here sw;split
 ·rfl
 split
 ·rfl
 split
 ·rfl
 split
 ·rfl
 ·rfl
theorem sw_alone{opn:Bool}{c:C}{deep:Nat}{win:List Int}{top:Bool}{cnt:Nat}(h:sw opn c deep win top cnt=0):alone c=true∧deep≤128∧cnt<8192:=by
 unfold sw at h;split at h
 ·cases h
 split at h
 ·cases h
 split at h
 ·cases h
 rename_i h1 h2 h3;refine⟨?_,by omega,by omega⟩;cases h4:alone c
 ·exact absurd (.inl h4) h3
 ·rfl
structure M1(G:Nat→Prop)(base X:Nat)(opn:Bool)(pv bv:Value)(ps:List PC)(bd:List Int)(w:World)(A0:Nat)(cs:Array Value)(e:Int)(wx:World):Prop where
 rw_:RW G wx base X e opn pv bv ps bd
 bx:Hp wx A0 cs 28
 kp:Keep (WS X pv bv) w wx
structure M2(G:Nat→Prop)(base X:Nat)(opn:Bool)(pv bv:Value)(ps:List PC)(bd:List Int)(w:World)(A0:Nat)(cs:Array Value)(c:C)(e1:Int)(i:Nat)(e:Int)(bv2:Value)(bd2:List Int)(wx:World):Prop where
 rw_:RW G wx base X e opn pv bv2 ps bd2
 bx:Hp wx A0 cs 28
 kp:Keep (WS X pv bv) w wx
 rv:∀k,bv2.ownBlock=some k→bv.ownBlock=some k∨w.heap.size+1≤k
 ok:(e=0∧e1=0∧bd2=bd++c.p.take i∧(∀x∈c.p.take i,x∉bd))∨(e≠0∧((e1≠0∧e=e1)∨(e1=0∧e=70∧c.p.any bd.contains=true)))
theorem M2.here{G:Nat→Prop}{base X:Nat}{opn:Bool}{pv bv:Value}{ps:List PC}{bd:List Int}{w:World}{A0:Nat}{cs:Array Value}{c:C}{e1:Int}{i:Nat}{e:Int}{bv2:Value}{bd2:List Int}{wx:World}{deep:Nat}{win:List Int}{top:Bool}(h:M2 G base X opn pv bv ps bd w A0 cs c e1 i e bv2 bd2 wx)(he:e1=sw opn c deep win top ps.length)(hi:e=0→i=c.p.length):
  Co.here opn c deep win top ps.length bd=e∧(e=0→bd2=bd++c.p):=by
 rw[here_sw,←he];rcases h.ok with⟨h1,h2,h3,h4⟩|⟨h1,⟨h2,h3⟩|⟨h2,h3,h4⟩⟩
 ·have e2:=hi h1;rw[e2,List.take_length]at h3 h4;rw[if_neg (by rw[h2];simp),h1];refine⟨if_neg ?_,fun _=>h3⟩;intro hh;obtain⟨x,hx,hc⟩:=List.any_eq_true.1 hh;exact h4 x hx (by simpa using hc)
 ·rw[if_pos h2];exact⟨h3.symm,fun e=>absurd e h1⟩
 ·rw[if_neg (by rw[h2];simp),if_pos h4,h3];exact⟨rfl,fun e=>by cases e⟩
structure M3(G:Nat→Prop)(base X:Nat)(opn:Bool)(pv bv:Value)(w:World)(A0:Nat)(cs:Array Value)(pv2 bv2:Value)(qs:List PC)(bd2:List Int)(wx:World):Prop where
 rw_:RW G wx base X 0 opn pv2 bv2 qs bd2
 bx:Hp wx A0 cs 28
 kp:Keep (WS X pv bv) w wx
 rp:∀k,pv2.ownBlock=some k→pv.ownBlock=some k∨w.heap.size+1≤k
 rb:∀k,bv2.ownBlock=some k→bv.ownBlock=some k∨w.heap.size+1≤k
structure M4(G G3:Nat→Prop)(base X:Nat)(opn:Bool)(pv bv:Value)(w:World)(A0:Nat)(cs:Array Value)(c:C)(d1:Nat)(win2:List Int)(TB:Bool)(ps:List PC)(bd:List Int)(iv2:Value)(j:Nat)(e:Int)(pvj bvj:Value)(psj:List PC)(bdj:List Int)(wx:World):Prop where
 rw_:RW G wx base X e opn pvj bvj psj bdj
 bx:Hp wx A0 cs 28
 kp:Keep (WS X pv bv) w wx
 rp:∀k,pvj.ownBlock=some k→pv.ownBlock=some k∨w.heap.size+1≤k
 rb:∀k,bvj.ownBlock=some k→bv.ownBlock=some k∨w.heap.size+1≤k
 iv:Dt.IRow G3 wx iv2 win2
 ng:∀k,G3 k→¬WS X pvj bvj k
 gl:∀k,G3 k→k<wx.heap.size
 m0:e=0→goesL opn c.l d1 win2 TB (ps.length+1) (bd++c.p)=goesL opn (c.l.drop j) d1 win2 TB psj.length bdj∧psj.map PC.c=ps.map PC.c++(c :: partsL (c.l.take j))∧bdj.length≤1000000+32*psj.length∧psj.length≤8192
 m1:e≠0→(goesL opn c.l d1 win2 TB (ps.length+1) (bd++c.p)).1=e
theorem goes_go{opn:Bool}{c:C}{deep:Nat}{win:List Int}{top:Bool}{cnt:Nat}{bd:List Int}(h:here opn c deep win top cnt bd=0):goes opn c deep win top cnt bd=goesL opn c.l (deep+1) (inner c.k c.p win) (top&&decide (c.k=9)) (cnt+1) (bd++c.p):=by
 obtain⟨k,n,s,d,p,l⟩:=c;rw[goes,if_neg (by rw[h];simp)]
 rfl
theorem goes_bad{opn:Bool}{c:C}{deep:Nat}{win:List Int}{top:Bool}{cnt:Nat}{bd:List Int}(h:here opn c deep win top cnt bd≠0):(goes opn c deep win top cnt bd).1=here opn c deep win top cnt bd:=by
 obtain⟨k,n,s,d,p,l⟩:=c;rw[goes,if_pos h]
theorem partsL_take{l:List C}{j:Nat}(hj:j<l.length):partsL (l.take (j+1))=partsL (l.take j)++parts l[j]:=by
 induction l generalizing j with
 |nil=>simp at hj
 |cons a r ih=>
  cases j with
  |zero=>rw[List.take_succ_cons,partsL,List.take_zero,List.take_zero,partsL];simp
  |succ j=>rw[List.take_succ_cons,List.take_succ_cons,partsL,partsL,ih (by simpa using hj),List.append_assoc];rfl
theorem M4.next{G G3:Nat→Prop}{base X:Nat}{opn:Bool}{pv bv:Value}{w:World}{A0:Nat}{cs:Array Value}{c:C}{d1:Nat}{win2:List Int}{TB:Bool}{ps:List PC}{bd:List Int}{iv2:Value}{j:Nat}{e:Int}{pvj bvj:Value}{psj:List PC}{bdj:List Int}{wx wd w':World}{x:Ending}(hA:¬WS X pv bv A0)(hA0:A0=w.heap.size)(h:M4 G G3 base X opn pv bv w A0 cs c d1 win2 TB ps bd iv2 j e pvj bvj psj bdj wx)(hb:Below wx.heap.size wx wd)(hj:j<c.l.length)(hp:RPost G base X opn pvj bvj wd c.l[j] d1 win2 TB psj bdj e x w'):
  ∃e' pv' bv' ps' bd',M4 G G3 base X opn pv bv w A0 cs c d1 win2 TB ps bd iv2 (j+1) e' pv' bv' ps' bd' w':=by
 obtain⟨-,e',pv',bv',ps',bd',g1,g2,g3,g4,g5,g6⟩:=hp;have hk:Keep (WS X pvj bvj) wx w':=(keep_of_below hb).trans g2;have hsz:=hb.size;have hbl:=h.bx.lt;have hnA:¬WS X pvj bvj A0:=fun e=>by
  rcases e with e|e|e
  ·exact hA (.inl e)
  ·exact(h.rp A0 e).elim (fun e=>hA (.inr (.inl e))) (fun e=>by omega)
  ·exact(h.rb A0 e).elim (fun e=>hA (.inr (.inr e))) (fun e=>by omega)
 refine⟨e',pv',bv',ps',bd',g1,h.bx.keep hk hnA,?_,fun k hk=> ?_,fun k hk=> ?_,h.iv.keep hk (fun b hb _=>h.ng b hb),fun k hk e=> ?_,fun k hk'=>Nat.lt_of_lt_of_le (h.gl k hk') hk.size,fun he=> ?_,fun he=> ?_⟩
 ·refine Keep.mono ((h.kp.le (T:=fun k=>WS X pv bv k∨WS X pvj bvj k) fun k e=> .inl e).trans (hk.le fun k e=> .inr e)) (fun k hk e=> ?_);rcases e with e|e|e|e
  ·exact e
  ·exact .inl e
  ·exact(h.rp k e).elim (fun e=> .inr (.inl e)) (fun e=>by omega)
  ·exact(h.rb k e).elim (fun e=> .inr (.inr e)) (fun e=>by omega)
 ·exact(g3 k hk).elim (fun e=>h.rp k e) (fun e=> .inr (by omega))
 ·exact(g4 k hk).elim (fun e=>h.rb k e) (fun e=> .inr (by omega))
 ·have hl:=h.gl k hk;rcases e with e|e|e
  ·exact h.ng k hk (.inl e)
  ·exact(g3 k e).elim (fun e=>h.ng k hk (.inr (.inl e))) (fun e=>by omega)
  ·exact(g4 k e).elim (fun e=>h.ng k hk (.inr (.inr e))) (fun e=>by omega)
 ·by_cases h0:e=0
  ·obtain⟨k1,k2⟩:=g6 h0;obtain⟨k3,k4,k5,k6⟩:=k2 he;obtain⟨m1,m2,m3,m4⟩:=h.m0 h0;refine⟨?_,?_,k5,k6⟩
   ·rw[m1,List.drop_eq_getElem_cons hj,goesL,if_neg (by rw[k4];simp),k4]
   ·rw[k3,m2,partsL_take hj];simp
  ·exact absurd ((g5 h0).symm.trans he) h0
 ·by_cases h0:e=0
  ·obtain⟨k1,-⟩:=g6 h0;obtain⟨m1,-⟩:=h.m0 h0;rw[m1,List.drop_eq_getElem_cons hj,goesL,if_pos (by rw[←k1];exact he),←k1]
  ·rw[h.m1 h0];exact(g5 h0).symm
theorem once_take{p:List Int}(h:once p=true):∀i,(hi:i<p.length)→p[i]∉p.take i:=by
 induction p with
 |nil=>intro i hi;simp at hi
 |cons a r ih=>
  unfold once at h;rw[Bool.and_eq_true]at h;intro i hi
  cases i with
  |zero=>simp
  |succ i=>
   have h1:a∉r:=by simpa using h.1
   have h2:=ih h.2 i (by simpa using hi);rw[List.getElem_cons_succ,List.take_succ_cons,List.mem_cons];rintro(e|e)
   ·exact h1 (by rw[←e];exact List.getElem_mem _)
   ·exact h2 e
theorem once_of_alone{c:C}(h:alone c=true):once c.p=true:=by
 obtain⟨k,n,s,d,p,l⟩:=c;show once p=true;unfold alone at h;dsimp only at h;split at h
 ·simp only[Bool.and_eq_true]at h;have:p=[]:=by simpa using h.1.1.2
  rw[this];rfl
 split at h
 ·cases h
 split at h
 ·simp only[Bool.and_eq_true]at h;have h2:=h.2;unfold params at h2;simp only[Bool.and_eq_true]at h2;exact h2.2
 split at h
 ·cases h
 ·rename_i h2;have:p=[]:=by
   cases p with
   |nil=>rfl
   |cons a r=>exact absurd rfl h2
  rw[this];rfl
end Co
set_option maxRecDepth 100000 in
set_option maxHeartbeats 32000000 in
theorem coRGoes_step(c:Co.C)(hch:∀y∈c.l,Co.RGoesIs y):Co.RGoesIs c:=by
 intro G G2 base X opn pv bv vm vl vt vp vk iv ps bd win w deep top er hW hR hG hRW hIV hG2 hwin hdeep hbd;obtain⟨-,hrp,hrk⟩:=(Co.rep_iff _ _ _ _ _ _ _ _).1 hR;obtain⟨b1,n1,q1,b2,n2,q2,b3,n3,q3,b4,n4,q4,b5,n5,q5,rfl,rfl,rfl,rfl,rfl⟩:=hR.forms5;obtain⟨_,_,he5,_,_⟩:=id hrk;injection he5 with he5a he5b he5c
 subst he5b;clear he5a he5c;obtain⟨_,_,he4,_,_⟩:=id hrp;injection he4 with he4a he4b he4c
 subst he4b;clear he4a he4c;obtain⟨pa,pq,rfl⟩:=Dt.row_form hRW.rp;obtain⟨ba,bq,rfl⟩:=Dt.row_form hRW.rb;unfold Co.V;obtain⟨w1,hw1⟩:∃w1,w.alloc (.cells #[.int .i64 c.k,.int .i64 c.n,.string c.s,.int .i64 c.d.k,.int .i64 c.d.n,.string c.d.s,.slice b1 n1 q1,.slice b2 n2 q2,.slice b3 n3 q3,.slice b4 c.p.length q4,.slice b5 c.l.length q5] 28)=w1:=⟨_,rfl⟩
 obtain⟨hb1,hs1⟩:=new_below hw1;have Hc:=zh (Hp.new hw1);have HA0:Hid (w1.heap.size=w.heap.size+1):=hs1;have HNA:Hid (¬Co.WS X (.slice pa ps.length pq) (.slice ba bd.length bq) w.heap.size):=by
  rintro(h|h|h)
  ·have:=hRW.hp.lt;omega
  ·have:=(Dt.own_lt hRW.rp w.heap.size h).2;omega
  ·have:=(Dt.own_lt hRW.rb w.heap.size h).2;omega
 have HX1:Hid (Hp w1 X #[.slice pa ps.length pq,.slice ba bd.length bq,.int .i64 er,.bool opn] 66):=hRW.hp.below hb1;obtain⟨x0,x1,x2,x3⟩:=HX1.out.c4;have xf2:=HX1.out.frz 2;have HRW:=zh (hRW.below hb1);have HB1:=zh hb1;have HK1:Hid (Keep (Co.WS X (.slice pa ps.length pq) (.slice ba bd.length bq)) w w1):=(Keep.refl _ w).below hb1;have HR:=zh hR;have HW:=zh hW;have HG:=zh hG;have HIV:=zh (hIV.below hb1);have HIVW:Hid (Dt.IRow (fun k=>k<w.heap.size∧¬Co.WS X (.slice pa ps.length pq) (.slice ba bd.length bq) k) w iv win):=Co.irow_mono (fun b hb hl=>⟨hl,hG2 b hb hl⟩) hIV;have HG2:=zh hG2;have HBD:=zh hbd;have HCH:=zh hch;clear hb1 hs1 hRW hR hW hG hIV hG2 hbd hch hrp hrk;by_cases her:er=0
 case neg=>
  have heb:(er !=0)=true:=by simpa using her
  have HF:Hid (Co.RPost G base X opn (.slice pa ps.length pq) (.slice ba bd.length bq) w c deep win top ps bd er (.returned (.tuple #[])) w1):=
   ⟨rfl,er,_,_,ps,bd,HRW.out,HK1.out,Co.RV.refl _ _,Co.RV.refl _ _,fun _=>rfl,fun h=>absurd h her⟩
  clear her;go_enter Tryz.func37,Tryz.ntmps37;go_wp2;refine bodyPost_ret (v:= .tuple #[]) (by simp[results,Tryz.results37,go_sem]) rfl ?_;exact HF.out
 subst her;have hcnt:ps.length≤8192:=(HBD.out rfl).2;obtain⟨c0,c1,c2,c3,c4,c5,c6,c7,c8,c9,c10⟩:=Hc.out.c11;have hal:=coRAlone_any c _ _ _ _ _ w1 HW.out (HR.out.below HB1.out);unfold Co.V at hal;obtain⟨AL,hAL⟩:∃AL,Co.alone c=AL:=⟨_,rfl⟩
 rw[hAL]at hal;have HAL:=zh hAL;obtain⟨e1,he1⟩:∃e1,Co.sw opn c deep win top ps.length=e1:=⟨_,rfl⟩
 have HE1:=zh he1;have HFAULT:Hid (∀wx ef,Below w1.heap.size w1 wx→ef=e1→∃e,e=e1∧Co.M1 G base X opn (.slice pa ps.length pq) (.slice ba bd.length bq) ps bd w w.heap.size #[.int .i64 c.k,.int .i64 c.n,.string c.s,.int .i64 c.d.k,.int .i64 c.d.n,.string c.d.s,.slice b1 n1 q1,.slice b2 n2 q2,.slice b3 n3 q3,.slice b4 c.p.length q4,.slice b5 c.l.length q5] e (wx.setCell ⟨X,2,none⟩ (.int .i64 ef))):=fun wx e hb he=>
  ⟨e,he,(HRW.out.below hb).setE HG.out e,(Hc.out.below hb).keep (set_keep wx X 2 _) (fun h=>HNA.out (.inl h)),(HK1.out.below hb).trans ((set_keep wx X 2 _).le fun k h=> .inl h)⟩
 clear hAL he1;go_enter Tryz.func37,Tryz.ntmps37;go_upto_block 0 with fail
 clear hw1
 go_cut [] (fun wx=>∃e,e=e1∧Co.M1 G base X opn (.slice pa ps.length pq) (.slice ba bd.length bq) ps bd w w.heap.size #[.int .i64 c.k,.int .i64 c.n,.string c.s,.int .i64 c.d.k,.int .i64 c.d.n,.string c.d.s,.slice b1 n1 q1,.slice b2 n2 q2,.slice b3 n3 q3,.slice b4 c.p.length q4,.slice b5 c.l.length q5] e wx)
 case first=>
  by_cases g1:128<deep
  ·have t1:decide ((128:Int)<(deep:Int))=true:=decide_eq_true (by omega);have HM:=zh (HFAULT.out w1 4 (Below.refl _ _) (by rw[←HE1.out];unfold Co.sw;rw[if_pos g1]));clear g1 hal;go_wp2;go_meet;exact HM.out
  have t1:decide ((128:Int)<(deep:Int))=false:=decide_eq_false (by omega);by_cases g2:8192≤ps.length
  ·have t2:decide ((8192:Int)≤(ps.length:Int))=true:=decide_eq_true (by omega);have HM:=zh (HFAULT.out w1 3 (Below.refl _ _) (by rw[←HE1.out];unfold Co.sw;rw[if_neg g1,if_pos g2]));clear g1 g2 hal;go_wp2;go_meet;exact HM.out
  have t2:decide ((8192:Int)≤(ps.length:Int))=false:=decide_eq_false (by omega)
  cases AL with
  |false=>
   have HS:Hid (Co.sw opn c deep win top ps.length=70):=by show _=_;unfold Co.sw;rw[if_neg g1,if_neg g2,if_pos (.inl HAL.out)]
   clear g1 g2;go_wp2_with fail
   refine hal.mono ?_;rintro e w2 ⟨rfl,hb2⟩;have HM:=zh (HFAULT.out w2 70 hb2 (by rw[←HE1.out,HS.out]));have HX2:Hid (Hp w2 X _ _):=HX1.out.below hb2;clear x0 x1 x2 x3 xf2;clear c0 c1 c2 c3 c4 c5 c6 c7 c8 c9 c10 hal hb2;obtain⟨x0,x1,x2,x3⟩:=HX2.out.c4;have xf2:=HX2.out.frz 2;go_wp2;go_meet;exact HM.out
  |true=>
  by_cases g3:c.k=6∧top=false
  ·have HS:Hid (Co.sw opn c deep win top ps.length=70):=by show _=_;unfold Co.sw;rw[if_neg g1,if_neg g2,if_pos (.inr g3)]
   have t3:(c.k==6)=true:=by simpa using g3.1
   obtain rfl:top=false:=g3.2;clear g1 g2 g3;go_wp2_with fail
   refine hal.mono ?_;rintro e w2 ⟨rfl,hb2⟩;have HM:=zh (HFAULT.out w2 70 hb2 (by rw[←HE1.out,HS.out]));have HX2:Hid (Hp w2 X _ _):=HX1.out.below hb2;have HC2:Hid (Hp w2 w.heap.size _ _):=Hc.out.below hb2;clear x0 x1 x2 x3 xf2;clear c0 c1 c2 c3 c4 c5 c6 c7 c8 c9 c10 hal hb2;obtain⟨x0,x1,x2,x3⟩:=HX2.out.c4;have xf2:=HX2.out.frz 2;have c0:=HC2.out.cell 0 rfl;go_wp2;go_meet;exact HM.out
  have HNA3:Hid (¬ (Co.alone c=false∨(c.k=6∧top=false))):=fun h=>h.elim (fun h=>by rw[HAL.out]at h;cases h) g3
  have HT3:Hid (c.k=6→top=true):=fun e=>by
   cases top with
   |true=>rfl
   |false=>exact absurd ⟨e,rfl⟩ g3
  clear g3
  go_upto_if 35 with((go_at_call 66;refine hal.mono ?_;rintro e w2 ⟨rfl,hb2⟩;have HX2:Hid (Hp w2 X _ _):=HX1.out.below hb2;have HC2:Hid (Hp w2 w.heap.size _ _):=Hc.out.below hb2;clear x0 x1 x2 x3 xf2;clear c0 c1 c2 c3 c4 c5 c6 c7 c8 c9 c10;have HB2:=zh hb2;clear hal hb2;obtain⟨x0,x1,x2,x3⟩:=HX2.out.c4;have xf2:=HX2.out.frz 2;obtain⟨c0,c1,c2,c3,c4,c5,c6,c7,c8,c9,c10⟩:=HC2.out.c11))
  go_cut [35] (fun v wx=>v= .bool false∧wx=w2)
  case first=>
   by_cases g4:c.k=6
   ·have t3:(c.k==6)=true:=by simpa using g4
    obtain rfl:=HT3.out g4;clear g1 g2 g4;go_wp2;go_meet;exact⟨rfl,rfl⟩
   ·have t3:(c.k==6)=false:=by simpa using g4
    clear g1 g2 g4;go_wp2;go_meet;exact⟨rfl,rfl⟩
  case rest=>
   obtain⟨rfl,rfl⟩:=hcut;obtain⟨w2,rfl⟩:∃w2,w2=wc:=⟨_,rfl⟩
   have HM0:Hid (e1=0→∃e,e=e1∧Co.M1 G base X opn (.slice pa ps.length pq) (.slice ba bd.length bq) ps bd w w.heap.size #[.int .i64 c.k,.int .i64 c.n,.string c.s,.int .i64 c.d.k,.int .i64 c.d.n,.string c.d.s,.slice b1 n1 q1,.slice b2 n2 q2,.slice b3 n3 q3,.slice b4 c.p.length q4,.slice b5 c.l.length q5] e w2):=fun h=>⟨0,h.symm,HRW.out.below HB2.out,HC2.out,HK1.out.below HB2.out⟩
   by_cases gq:c.k=2∨c.k=4
   case neg=>
    have t4:(c.k==2)=false:=by rw[beq_eq_false_iff_ne];omega
    have t5:(c.k==4)=false:=by rw[beq_eq_false_iff_ne];omega
    have HM:=zh (HM0.out (by rw[←HE1.out];unfold Co.sw;rw[if_neg g1,if_neg g2,if_neg HNA3.out,if_neg (fun h=>gq h.1)]));clear g1 g2 gq HM0;go_wp2;go_meet;exact HM.out
   have t45:(c.k==2)=true∨((c.k==2)=false∧(c.k==4)=true):=by
    rcases gq with e|e
    ·exact .inl (by simpa using e)
    ·exact .inr ⟨by rw[beq_eq_false_iff_ne];omega,by simpa using e⟩
   cases opn with
   |true=>
    have HM:=zh (HM0.out (by rw[←HE1.out];unfold Co.sw;rw[if_neg g1,if_neg g2,if_neg HNA3.out,if_neg (fun h=>by cases h.2.1)]));clear g1 g2 gq HM0;rcases t45 with t4|⟨t4,t5⟩
    all_goals
     go_wp2;go_meet;exact HM.out
   |false=>
    have hin:=inI_any iv win c.n w2 (HIV.out.below HB2.out) (by omega);obtain⟨R,hR⟩:∃R,win.contains c.n=R:=⟨_,rfl⟩
    rw[hR]at hin
    cases R with
    |true=>
     have HM:=zh (HM0.out (by rw[←HE1.out];unfold Co.sw;rw[if_neg g1,if_neg g2,if_neg HNA3.out,if_neg (fun h=>by rw[hR]at h;cases h.2.2)]));clear g1 g2 gq HM0 hR;rcases t45 with t4|⟨t4,t5⟩
     all_goals
      go_wp2_with((go_at_call 67;refine hin.mono ?_;rintro e w5 ⟨rfl,rfl⟩))
      go_meet;exact HM.out
    |false=>
     have HM:=zh (HFAULT.out w2 70 HB2.out (by rw[←HE1.out];unfold Co.sw;rw[if_neg g1,if_neg g2,if_neg HNA3.out,if_pos ⟨gq,rfl,hR⟩]));clear g1 g2 gq HM0 hR;rcases t45 with t4|⟨t4,t5⟩
     all_goals
      go_wp2_with((go_at_call 67;refine hin.mono ?_;rintro e w5 ⟨rfl,rfl⟩))
      go_meet;exact HM.out
 case rest=>
  obtain⟨ee,hee,hm1⟩:=hcut;rw[hee]at hm1;clear hee;obtain⟨w4,rfl⟩:∃w4,w4=wc:=⟨_,rfl⟩
  have HM:=zh hm1;clear c0 c1 c2 c3 c4 c5 c6 c7 c8 c9 c10 x0 x1 x2 x3 xf2 hal HX1 HFAULT;clear hm1;obtain⟨j0,hj,hj0,hj1,hj2⟩:=info_parts Dt.infoI;have HJ:=zh hj;have HJ0:=zh hj0;have HJ1:=zh hj1;have HJ2:=zh hj2;clear hj hj0 hj1 hj2;have HPW:Hid (Dt.IRow G w (.slice b4 c.p.length q4) c.p):=((Co.rep_iff _ _ _ _ _ _ _ _).1 HR.out).2.1;have HLOW0:Hid (∀k,Co.WS X (.slice pa ps.length pq) (.slice ba bd.length bq) k→base≤k):=fun k h=>Co.WS.low HRW.out h
  have hbdl:=(HBD.out rfl).1;have HQ0:Hid (Co.M2 G base X opn (.slice pa ps.length pq) (.slice ba bd.length bq) ps bd w w.heap.size #[.int .i64 c.k,.int .i64 c.n,.string c.s,.int .i64 c.d.k,.int .i64 c.d.n,.string c.d.s,.slice b1 n1 q1,.slice b2 n2 q2,.slice b3 n3 q3,.slice b4 c.p.length q4,.slice b5 c.l.length q5] c e1 0 e1 (.slice ba bd.length bq) bd w4):=⟨HM.out.rw_,HM.out.bx,HM.out.kp,fun k h=> .inl h,by
   by_cases h:e1=0
   ·exact .inl ⟨h,h,by simp,by simp⟩
   ·exact .inr ⟨h,.inl ⟨h,rfl⟩⟩⟩
  go_upto_block 1 with fail
  go_cut [] (fun wx=>∃(i:Nat) (e:Int) (ba2:Option Addr) (bq2:Nat) (bd2:List Int),Co.M2 G base X opn (.slice pa ps.length pq) (.slice ba bd.length bq) ps bd w w.heap.size #[.int .i64 c.k,.int .i64 c.n,.string c.s,.int .i64 c.d.k,.int .i64 c.d.n,.string c.d.s,.slice b1 n1 q1,.slice b2 n2 q2,.slice b3 n3 q3,.slice b4 c.p.length q4,.slice b5 c.l.length q5] c e1 i e (.slice ba2 bd2.length bq2) bd2 wx∧(e=0→i=c.p.length))
  case first=>
   go_wp2
   go_loopw [10] (fun v wr=>∃(i:Nat) (e:Int) (ba2:Option Addr) (bq2:Nat) (bd2:List Int),v= .int .i64 i∧i≤c.p.length∧Hid (Co.M2 G base X opn (.slice pa ps.length pq) (.slice ba bd.length bq) ps bd w w.heap.size #[.int .i64 c.k,.int .i64 c.n,.string c.s,.int .i64 c.d.k,.int .i64 c.d.n,.string c.d.s,.slice b1 n1 q1,.slice b2 n2 q2,.slice b3 n3 q3,.slice b4 c.p.length q4,.slice b5 c.l.length q5] c e1 i e (.slice ba2 bd2.length bq2) bd2 wr)) (fun v _=>c.p.length - (intOf v).toNat)
   case atStart=>exact⟨0,e1,ba,bq,bd,rfl,Nat.zero_le _,HQ0⟩
   case round=>
    clear HQ0 HM;obtain⟨i,e,ba2,bq2,bd2,rfl,hi,HQ⟩:=hrel;have hx:Hp wr X _ _:=HQ.out.rw_.hp;have hc:Hp wr w.heap.size _ _:=HQ.out.bx;have x1:=hx.cell 1 rfl;have x2:=hx.cell 2 rfl;have xf2:=hx.frz 2;have c9:=hc.cell 9 rfl;clear hx hc;by_cases hlt:i<c.p.length
    case neg=>
     have hge:(c.p.length:Int)≤(i:Int):=by omega
     have HE:Hid (∃(i:Nat) (e:Int) (ba2:Option Addr) (bq2:Nat) (bd2:List Int),Co.M2 G base X opn (.slice pa ps.length pq) (.slice ba bd.length bq) ps bd w w.heap.size #[.int .i64 c.k,.int .i64 c.n,.string c.s,.int .i64 c.d.k,.int .i64 c.d.n,.string c.d.s,.slice b1 n1 q1,.slice b2 n2 q2,.slice b3 n3 q3,.slice b4 c.p.length q4,.slice b5 c.l.length q5] c e1 i e (.slice ba2 bd2.length bq2) bd2 wr∧(e=0→i=c.p.length)):=⟨i,e,ba2,bq2,bd2,HQ.out,fun _=>by omega⟩
     go_wp2;go_meet;exact HE.out
    have hlti:(i:Int)<(c.p.length:Int):=by omega
    by_cases he:e=0
    case neg=>
     have heb:(e==0)=false:=by simpa using he
     have HE:Hid (∃(i:Nat) (e:Int) (ba2:Option Addr) (bq2:Nat) (bd2:List Int),Co.M2 G base X opn (.slice pa ps.length pq) (.slice ba bd.length bq) ps bd w w.heap.size #[.int .i64 c.k,.int .i64 c.n,.string c.s,.int .i64 c.d.k,.int .i64 c.d.n,.string c.d.s,.slice b1 n1 q1,.slice b2 n2 q2,.slice b3 n3 q3,.slice b4 c.p.length q4,.slice b5 c.l.length q5] c e1 i e (.slice ba2 bd2.length bq2) bd2 wr∧(e=0→i=c.p.length)):=⟨i,e,ba2,bq2,bd2,HQ.out,fun h=>absurd h he⟩
     go_wp2;go_meet;exact HE.out
    subst he;obtain⟨h1,h2,h3⟩:e1=0∧bd2=bd++c.p.take i∧(∀x∈c.p.take i,x∉bd):=by
     rcases HQ.out.ok with⟨-,h⟩|⟨h,-⟩
     ·exact h
     ·exact absurd rfl h
    have hal:=Co.sw_alone (HE1.out.trans h1);have hp32:=Co.alone_p32 hal.1;have hb2l:bd2.length≤1000000+32*ps.length+32:=by rw[h2,List.length_append,List.length_take];omega
    have hon:=Co.once_take (Co.once_of_alone hal.1) i hlt;obtain⟨_,_,he,_,hrow⟩:=HPW.out.keep HQ.out.kp (fun b hb _ h=>by have:=HG.out b hb;have:=HLOW0.out b h;omega);injection he with he1 he2 he3
    subst he1;clear he2 he3;obtain⟨pb,po,rfl,hGp,hbl,hcell⟩:=hrow (by intro h0;rw[h0]at hlt;simp at hlt);have p0:=hcell i hlt;obtain⟨x,hx⟩:∃x,c.p[i]=x:=⟨_,rfl⟩
    rw[hx]at p0 hon;have HXX:=zh hx;have HON:=zh hon;have HGP:Hid (pb<base):=HG.out pb hGp;have HNB:Hid (∀k,k=w.heap.size→¬ (Value.slice ba2 bd2.length bq2).ownBlock=some k):=fun k hk h=>(HQ.out.rv k h).elim (fun h=>HNA.out (.inr (.inr (by rw[←hk];exact h)))) (fun h=>by omega)
    have H1:=zh h1;have H2:=zh h2;have H3:=zh h3;obtain⟨wd,hwd⟩:∃wd,wr.drew=wd:=⟨_,rfl⟩
    have hbd:=Co.drew_below wr;rw[hwd]at hbd;have hin:=inI_any (.slice ba2 bd2.length bq2) bd2 x wd (HQ.out.rw_.ib.below hbd) (by omega);obtain⟨R,hR⟩:∃R,bd2.contains x=R:=⟨_,rfl⟩
    rw[hR]at hin;have HRR:=zh hR;have HBD2:=zh hbd;have p0d:=(hbd.cell (p:=⟨pb,po+i,none⟩) (block_lt_of_cell p0)).trans p0;have hxd:Hp wd X _ _:=HQ.out.rw_.hp.below hbd;have hcd:Hp wd w.heap.size _ _:=HQ.out.bx.below hbd;have x1d:=hxd.cell 1 rfl;have x2d:=hxd.cell 2 rfl;have xf2d:=hxd.frz 2;have c9d:=hcd.cell 9 rfl;clear h1 h2 h3 hrow hcell hx hGp hbl hal hon hR hbd hxd hcd;go_wp2;refine wp_region_still_tail 9 (by kernel_rfl) (by kernel_rfl) ?_;change wpStill _ _ wr.drew _ _ _;rw[hwd];have HWD:=zh hwd;clear hwd p0 x1 x2 xf2 c9;simp only[List.take_succ_cons,List.take_zero,List.drop_succ_cons,List.drop_zero];repeat still_step
    try refine wpStill_nil ?_
    go_wp2_with fail
    rw[HWD.out];refine hin.mono ?_;rintro e w5 ⟨rfl,rfl⟩;clear hin
    cases R with
    |false=>
     have HRY:Hid (Co.RW G wd base X 0 opn (.slice pa ps.length pq) (.slice ba2 bd2.length bq2) ps bd2):=HQ.out.rw_.below HBD2.out;have HBY:Hid (Hp wd w.heap.size #[.int .i64 c.k,.int .i64 c.n,.string c.s,.int .i64 c.d.k,.int .i64 c.d.n,.string c.d.s,.slice b1 n1 q1,.slice b2 n2 q2,.slice b3 n3 q3,.slice (some ⟨pb,po,none⟩) c.p.length q4,.slice b5 c.l.length q5] 28):=HQ.out.bx.below HBD2.out;have HKY:Hid (Keep (Co.WS X (.slice pa ps.length pq) (.slice ba2 bd2.length bq2)) wr wd):=keep_of_below HBD2.out;have P0:=zh p0d;clear x1d x2d xf2d c9d p0d;go_wp2;obtain⟨wB,hwB⟩:∃wB,wd.drew.alloc (.cells #[.int .i64 x] 3)=wB:=⟨_,rfl⟩
     have hbd0:Below wd.heap.size wd wd.drew:=Co.drew_below wd;have hbB:Below wd.heap.size wd wB:=by rw[←hwB];exact hbd0.alloc (by have:=hbd0.size;omega) _
     have HBB:=zh hbB;have HSd:Hid (Hp wd.drew w.heap.size #[.int .i64 c.k,.int .i64 c.n,.string c.s,.int .i64 c.d.k,.int .i64 c.d.n,.string c.d.s,.slice b1 n1 q1,.slice b2 n2 q2,.slice b3 n3 q3,.slice (some ⟨pb,po,none⟩) c.p.length q4,.slice b5 c.l.length q5] 28∧wd.drew.cell? ⟨pb,po+i,none⟩=some (.int .i64 x)):=⟨HBY.out.below hbd0,(hbd0.cell (p:=⟨pb,po+i,none⟩) (block_lt_of_cell P0.out)).trans P0.out⟩
     have HSB:Hid (Hp wB w.heap.size #[.int .i64 c.k,.int .i64 c.n,.string c.s,.int .i64 c.d.k,.int .i64 c.d.n,.string c.d.s,.slice b1 n1 q1,.slice b2 n2 q2,.slice b3 n3 q3,.slice (some ⟨pb,po,none⟩) c.p.length q4,.slice b5 c.l.length q5] 28∧wB.cell? ⟨pb,po+i,none⟩=some (.int .i64 x)):=⟨HBY.out.below hbB,(hbB.cell (p:=⟨pb,po+i,none⟩) (block_lt_of_cell P0.out)).trans P0.out⟩
     have z1:=(HRY.out.below hbd0).hp.cell 1 rfl;have z1B:=(HRY.out.below hbB).hp.cell 1 rfl;have HSRC:Hid (Ap.Src wB (.slice (some ⟨wd.heap.size,0,none⟩) 1 1) 1 [.int .i64 x]):=Co.src1 (w:=wd.drew) hwB;have HOWB:=zh (HRY.out.below hbB).rb;have HLOW:=zh HRY.out;have hbs:base≤wB.heap.size:=by have h1:=HRY.out.bx;have h2:=HRY.out.hp.lt;have h3:=hbB.size;omega
     have hm1:bd2.length+1≤maxLen:=by unfold maxLen;omega
     have hm2:(bd2.length+1)*8≤140737488355328:=by omega
     clear hbd0 hbB;refine wp_region_noPanic ?_;refine wp_region_held_drew (S:=fun w'=>Hp w' w.heap.size #[.int .i64 c.k,.int .i64 c.n,.string c.s,.int .i64 c.d.k,.int .i64 c.d.n,.string c.d.s,.slice b1 n1 q1,.slice b2 n2 q2,.slice b3 n3 q3,.slice (some ⟨pb,po,none⟩) c.p.length q4,.slice b5 c.l.length q5] 28∧w'.cell? ⟨pb,po+i,none⟩=some (.int .i64 x)) (by kernel_rfl) HSd.out (fun hHeld=> ?_);refine Zm.u 0 ?_ rfl ?_ ?_;rotate_left
     ·intro w9 hSw;clear hSw;go_simp;try with_reducible rfl
     simp only[Act.put,za,zb,zc];refine Zm.u 1 ?_ rfl ?_ ?_;rotate_left
     ·intro w9 hSw;clear hSw;go_simp;try with_reducible rfl
     simp only[Act.put,za,zb,zc];refine Zm.u 2 ?_ rfl ?_ ?_;rotate_left
     ·intro w9 hSw;clear hSw;go_simp;try with_reducible rfl
     simp only[Act.put,za,zb,zc];refine Zm.u 3 ?_ rfl ?_ ?_;rotate_left
     ·intro w9 hSw;clear hSw;go_simp;try with_reducible rfl
     simp only[Act.put,za,zb,zc];refine Zm.u 5 ?_ rfl ?_ ?_;rotate_left
     ·intro w9 hSw;clear hSw;go_simp;try with_reducible rfl
     simp only[Act.put,za,zb,zc];refine Zm.u 6 ?_ rfl ?_ ?_;rotate_left
     ·intro w9 hSw;have hC:Hp w9 w.heap.size _ _:=hSw.1;have c9:=hC.cell 9 rfl;clear hC;clear hSw;go_simp;try with_reducible rfl
     simp only[Act.put,za,zb,zc];refine Zm.u 7 ?_ rfl ?_ ?_;rotate_left
     ·intro w9 hSw;clear hSw;go_simp;try with_reducible rfl
     simp only[Act.put,za,zb,zc];refine Zm.u 8 ?_ rfl ?_ ?_;rotate_left
     ·intro w9 hSw;clear hSw;go_simp;try with_reducible rfl
     simp only[Act.put,za,zb,zc];refine Zm.u 9 ?_ rfl ?_ ?_;rotate_left
     ·intro w9 hSw;have q0:=hSw.2;clear hSw;go_simp;try with_reducible rfl
     simp only[Act.put,za,zb,zc];apply Co.cutG
     ·intro rest;refine Zm.q 4 10 rfl rfl (fun K hK=> ?_) (fun K hK=> ?_)
      ·go_simp;refine hK.out _ _ HSd.out (fun hHeld=> ?_);clear hK K;refine Zm.r 10 rfl (fun K hK=> ?_);go_simp;try rw[hwB]
       refine hK.out _ _ HSB.out (fun hHeld=> ?_);clear hK K;exact rest
      ·go_simp;try rw[hwB]
       refine hK.out _ _ HSB.out (fun hHeld=> ?_);clear hK K;refine Zm.r 4 rfl (fun K hK=> ?_);go_simp;refine hK.out _ _ HSB.out (fun hHeld=> ?_);clear hK K;exact rest
     clear z1 z1B hwB;have hHeld:=HSB.out;refine Zm.r 11 rfl (fun K hK=> ?_);refine Ap.step rfl (.tmp 106) (.tmp 112) 22 (by kernel_rfl) base 3 j0 (.int .i64 0) 1 8 Tryz.underlying22 HJ.out HJ0.out HJ1.out HJ2.out rfl (by decide) (.slice ba2 bd2.length bq2) bd2.length (Co.ints bd2) (by kernel_rfl) HOWB.out (.slice (some ⟨wd.heap.size,0,none⟩) 1 1) 1 [.int .i64 x] (by kernel_rfl) HSRC.out rfl (by simp[Value.oneCell']) hm1 hm2 hbs ?_;intro v' w5 hown hgrow hat;obtain⟨ba3,bq3,rfl⟩:=Dt.row_form hown;have HOWN:=zh hown;have HGR:=zh hgrow;have HAT:=zh hat;have hk5:Keep (fun k=>(Value.slice ba2 bd2.length bq2).ownBlock=some k) wd w5:=Co.grown_keep2 HBB.out hgrow;have hnA:¬ (Value.slice ba2 bd2.length bq2).ownBlock=some w.heap.size:=fun e=>HNB.out w.heap.size rfl e
     have hnE:¬ (Value.slice ba2 bd2.length bq2).ownBlock=some pb:=fun e=>by have:=(Dt.own_lt HLOW.out.rb pb e).1;have:=HGP.out;omega
     have HS5:Hid (Hp w5 w.heap.size #[.int .i64 c.k,.int .i64 c.n,.string c.s,.int .i64 c.d.k,.int .i64 c.d.n,.string c.d.s,.slice b1 n1 q1,.slice b2 n2 q2,.slice b3 n3 q3,.slice (some ⟨pb,po,none⟩) c.p.length q4,.slice b5 c.l.length q5] 28∧w5.cell? ⟨pb,po+i,none⟩=some (.int .i64 x)):=⟨HBY.out.keep hk5 hnA,(hk5.cell (po+i) (block_lt_of_cell P0.out) hnE).trans P0.out⟩
     have hx5:Hp w5 X _ _:=HLOW.out.hp.keep hk5 HLOW.out.nb;have k6:=set_keep w5 X 1 (.slice ba3 (bd2.length+1) bq3);have HS6:Hid (Hp (w5.setCell ⟨X,1,none⟩ (.slice ba3 (bd2.length+1) bq3)) w.heap.size #[.int .i64 c.k,.int .i64 c.n,.string c.s,.int .i64 c.d.k,.int .i64 c.d.n,.string c.d.s,.slice b1 n1 q1,.slice b2 n2 q2,.slice b3 n3 q3,.slice (some ⟨pb,po,none⟩) c.p.length q4,.slice b5 c.l.length q5] 28∧(w5.setCell ⟨X,1,none⟩ (.slice ba3 (bd2.length+1) bq3)).cell? ⟨pb,po+i,none⟩=some (.int .i64 x)):=⟨HS5.out.1.keep k6 (fun e=>HNA.out (.inl e)),(k6.cell (po+i) (block_lt_of_cell HS5.out.2) (fun(e:pb=X)=>by have:=HGP.out;have:=HLOW.out.bx;omega)).trans HS5.out.2⟩
     have u1:=hx5.cell 1 rfl;have uf1:=hx5.frz 1;clear hown hgrow hat hk5 hnA hnE hx5 k6;refine hK.out _ _ HS5.out (fun hHeld=> ?_);clear hK K;refine Zm.u 12 ?_ rfl ?_ ?_;rotate_left
     ·intro w9 hSw;clear hSw;go_simp;try with_reducible rfl
     simp only[Act.put,za,zb,zc];refine Zm.u 13 ?_ rfl ?_ ?_;rotate_left
     ·intro w9 hSw;clear hSw;go_simp;try with_reducible rfl
     simp only[Act.put,za,zb,zc];refine Zm.r 14 rfl (fun K hK=> ?_);go_simp;refine hK.out _ _ HS6.out (fun hHeld=> ?_);clear hK K;refine wpAnyH_done (by kernel_rfl) ?_ _;refine NoPanic.normal ?_;clear u1 uf1;have HN:Hid (Co.M2 G base X opn (.slice pa ps.length pq) (.slice ba bd.length bq) ps bd w w.heap.size #[.int .i64 c.k,.int .i64 c.n,.string c.s,.int .i64 c.d.k,.int .i64 c.d.n,.string c.d.s,.slice b1 n1 q1,.slice b2 n2 q2,.slice b3 n3 q3,.slice (some ⟨pb,po,none⟩) c.p.length q4,.slice b5 c.l.length q5] c e1 (i+1) 0 (.slice ba3 (bd2.length+1) bq3) (bd2++[x]) (w5.setCell ⟨X,1,none⟩ (.slice ba3 (bd2.length+1) bq3))):=by
      obtain⟨p1,p2,p3⟩:=HRY.out.pushB HG.out HBB.out HOWN.out HGR.out HAT.out;refine⟨p1,HS6.out.1,?_,(fun k hk=>(p3 k hk).elim (fun h=>HQ.out.rv k h) (fun h=> .inr (by have h1:=HKY.out.size;have h2:=HQ.out.bx.lt;omega))),?_⟩
      ·refine Keep.mono ((HQ.out.kp.le (T:=fun k=>Co.WS X (.slice pa ps.length pq) (.slice ba bd.length bq) k∨Co.WS X (.slice pa ps.length pq) (.slice ba2 bd2.length bq2) k) fun k h=> .inl h).trans ((HKY.out.le fun k h=> .inr h).trans (p2.le fun k h=> .inr h))) (fun k hk h=> ?_);rcases h with h|h|h|h
       ·exact h
       ·exact .inl h
       ·exact .inr (.inl h)
       ·exact(HQ.out.rv k h).elim (fun h=> .inr (.inr h)) (fun h=>by omega)
      ·refine .inl ⟨rfl,H1.out,?_,fun y hy=> ?_⟩
       ·rw[List.take_succ_eq_append_getElem hlt,HXX.out,←List.append_assoc,←H2.out]
       ·rw[List.take_succ_eq_append_getElem hlt,HXX.out]at hy;rcases List.mem_append.1 hy with hy|hy
        ·exact H3.out y hy
        ·obtain rfl:y=x:=by simpa using hy
         intro hb;have h:=HRR.out;rw[H2.out]at h;have h5:(bd++c.p.take i).contains y=true:=by simpa using Or.inl hb
         rw[h5]at h;cases h
     clear HRY HBY HKY P0 HBB HSd HSB HSRC HOWB HLOW HOWN HGR HAT HS5 HS6;go_wp2;go_roundw
     case rel=>exact⟨i+1,_,ba3,bq3,bd2++[x],by simp,by omega,by rw[show(bd2++[x]).length=bd2.length+1 by simp];exact HN⟩
     case measure=>simp[intOf];omega
    |true=>
     have HRY:Hid (Co.RW G (wd.setCell ⟨X,2,none⟩ (.int .i64 70)) base X 70 opn (.slice pa ps.length pq) (.slice ba2 bd2.length bq2) ps bd2):=(HQ.out.rw_.below HBD2.out).setE HG.out 70;have k2:=set_keep wd X 2 (.int .i64 70);have HBY:Hid (Hp (wd.setCell ⟨X,2,none⟩ (.int .i64 70)) w.heap.size #[.int .i64 c.k,.int .i64 c.n,.string c.s,.int .i64 c.d.k,.int .i64 c.d.n,.string c.d.s,.slice b1 n1 q1,.slice b2 n2 q2,.slice b3 n3 q3,.slice (some ⟨pb,po,none⟩) c.p.length q4,.slice b5 c.l.length q5] 28):=(HQ.out.bx.below HBD2.out).keep k2 (fun h=>HNA.out (.inl h));have HKY:Hid (Keep (Co.WS X (.slice pa ps.length pq) (.slice ba2 bd2.length bq2)) wr (wd.setCell ⟨X,2,none⟩ (.int .i64 70))):=(keep_of_below HBD2.out).trans (k2.le fun k h=> .inl h);have P0:Hid ((wd.setCell ⟨X,2,none⟩ (.int .i64 70)).cell? ⟨pb,po+i,none⟩=some (.int .i64 x)):=(k2.cell (po+i) (block_lt_of_cell p0d) (fun(e:pb=X)=>by have:=HGP.out;have:=HRY.out.bx;omega)).trans p0d;clear p0d k2;go_wp2;clear x1d x2d xf2d c9d;obtain⟨wy,hwy⟩:∃wy,wd.setCell ⟨X,2,none⟩ (.int .i64 70)=wy:=⟨_,rfl⟩
     rw[hwy]at HRY HBY HKY P0 ⊢;clear hwy;obtain⟨wB,hwB⟩:∃wB,wy.drew.alloc (.cells #[.int .i64 x] 3)=wB:=⟨_,rfl⟩
     have hbd0:Below wy.heap.size wy wy.drew:=Co.drew_below wy;have hbB:Below wy.heap.size wy wB:=by rw[←hwB];exact hbd0.alloc (by have:=hbd0.size;omega) _
     have HBB:=zh hbB;have HSd:Hid (Hp wy.drew w.heap.size #[.int .i64 c.k,.int .i64 c.n,.string c.s,.int .i64 c.d.k,.int .i64 c.d.n,.string c.d.s,.slice b1 n1 q1,.slice b2 n2 q2,.slice b3 n3 q3,.slice (some ⟨pb,po,none⟩) c.p.length q4,.slice b5 c.l.length q5] 28∧wy.drew.cell? ⟨pb,po+i,none⟩=some (.int .i64 x)):=⟨HBY.out.below hbd0,(hbd0.cell (p:=⟨pb,po+i,none⟩) (block_lt_of_cell P0.out)).trans P0.out⟩
     have HSB:Hid (Hp wB w.heap.size #[.int .i64 c.k,.int .i64 c.n,.string c.s,.int .i64 c.d.k,.int .i64 c.d.n,.string c.d.s,.slice b1 n1 q1,.slice b2 n2 q2,.slice b3 n3 q3,.slice (some ⟨pb,po,none⟩) c.p.length q4,.slice b5 c.l.length q5] 28∧wB.cell? ⟨pb,po+i,none⟩=some (.int .i64 x)):=⟨HBY.out.below hbB,(hbB.cell (p:=⟨pb,po+i,none⟩) (block_lt_of_cell P0.out)).trans P0.out⟩
     have z1:=(HRY.out.below hbd0).hp.cell 1 rfl;have z1B:=(HRY.out.below hbB).hp.cell 1 rfl;have HSRC:Hid (Ap.Src wB (.slice (some ⟨wy.heap.size,0,none⟩) 1 1) 1 [.int .i64 x]):=Co.src1 (w:=wy.drew) hwB;have HOWB:=zh (HRY.out.below hbB).rb;have HLOW:=zh HRY.out;have hbs:base≤wB.heap.size:=by have h1:=HRY.out.bx;have h2:=HRY.out.hp.lt;have h3:=hbB.size;omega
     have hm1:bd2.length+1≤maxLen:=by unfold maxLen;omega
     have hm2:(bd2.length+1)*8≤140737488355328:=by omega
     clear hbd0 hbB;refine wp_region_noPanic ?_;refine wp_region_held_drew (S:=fun w'=>Hp w' w.heap.size #[.int .i64 c.k,.int .i64 c.n,.string c.s,.int .i64 c.d.k,.int .i64 c.d.n,.string c.d.s,.slice b1 n1 q1,.slice b2 n2 q2,.slice b3 n3 q3,.slice (some ⟨pb,po,none⟩) c.p.length q4,.slice b5 c.l.length q5] 28∧w'.cell? ⟨pb,po+i,none⟩=some (.int .i64 x)) (by kernel_rfl) HSd.out (fun hHeld=> ?_);refine Zm.u 0 ?_ rfl ?_ ?_;rotate_left
     ·intro w9 hSw;clear hSw;go_simp;try with_reducible rfl
     simp only[Act.put,za,zb,zc];refine Zm.u 1 ?_ rfl ?_ ?_;rotate_left
     ·intro w9 hSw;clear hSw;go_simp;try with_reducible rfl
     simp only[Act.put,za,zb,zc];refine Zm.u 2 ?_ rfl ?_ ?_;rotate_left
     ·intro w9 hSw;clear hSw;go_simp;try with_reducible rfl
     simp only[Act.put,za,zb,zc];refine Zm.u 3 ?_ rfl ?_ ?_;rotate_left
     ·intro w9 hSw;clear hSw;go_simp;try with_reducible rfl
     simp only[Act.put,za,zb,zc];refine Zm.u 5 ?_ rfl ?_ ?_;rotate_left
     ·intro w9 hSw;clear hSw;go_simp;try with_reducible rfl
     simp only[Act.put,za,zb,zc];refine Zm.u 6 ?_ rfl ?_ ?_;rotate_left
     ·intro w9 hSw;have hC:Hp w9 w.heap.size _ _:=hSw.1;have c9:=hC.cell 9 rfl;clear hC;clear hSw;go_simp;try with_reducible rfl
     simp only[Act.put,za,zb,zc];refine Zm.u 7 ?_ rfl ?_ ?_;rotate_left
     ·intro w9 hSw;clear hSw;go_simp;try with_reducible rfl
     simp only[Act.put,za,zb,zc];refine Zm.u 8 ?_ rfl ?_ ?_;rotate_left
     ·intro w9 hSw;clear hSw;go_simp;try with_reducible rfl
     simp only[Act.put,za,zb,zc];refine Zm.u 9 ?_ rfl ?_ ?_;rotate_left
     ·intro w9 hSw;have q0:=hSw.2;clear hSw;go_simp;try with_reducible rfl
     simp only[Act.put,za,zb,zc];apply Co.cutG
     ·intro rest;refine Zm.q 4 10 rfl rfl (fun K hK=> ?_) (fun K hK=> ?_)
      ·go_simp;refine hK.out _ _ HSd.out (fun hHeld=> ?_);clear hK K;refine Zm.r 10 rfl (fun K hK=> ?_);go_simp;try rw[hwB]
       refine hK.out _ _ HSB.out (fun hHeld=> ?_);clear hK K;exact rest
      ·go_simp;try rw[hwB]
       refine hK.out _ _ HSB.out (fun hHeld=> ?_);clear hK K;refine Zm.r 4 rfl (fun K hK=> ?_);go_simp;refine hK.out _ _ HSB.out (fun hHeld=> ?_);clear hK K;exact rest
     clear z1 z1B hwB;have hHeld:=HSB.out;refine Zm.r 11 rfl (fun K hK=> ?_);refine Ap.step rfl (.tmp 106) (.tmp 112) 22 (by kernel_rfl) base 3 j0 (.int .i64 0) 1 8 Tryz.underlying22 HJ.out HJ0.out HJ1.out HJ2.out rfl (by decide) (.slice ba2 bd2.length bq2) bd2.length (Co.ints bd2) (by kernel_rfl) HOWB.out (.slice (some ⟨wy.heap.size,0,none⟩) 1 1) 1 [.int .i64 x] (by kernel_rfl) HSRC.out rfl (by simp[Value.oneCell']) hm1 hm2 hbs ?_;intro v' w5 hown hgrow hat;obtain⟨ba3,bq3,rfl⟩:=Dt.row_form hown;have HOWN:=zh hown;have HGR:=zh hgrow;have HAT:=zh hat;have hk5:Keep (fun k=>(Value.slice ba2 bd2.length bq2).ownBlock=some k) wy w5:=Co.grown_keep2 HBB.out hgrow;have hnA:¬ (Value.slice ba2 bd2.length bq2).ownBlock=some w.heap.size:=fun e=>HNB.out w.heap.size rfl e
     have hnE:¬ (Value.slice ba2 bd2.length bq2).ownBlock=some pb:=fun e=>by have:=(Dt.own_lt HLOW.out.rb pb e).1;have:=HGP.out;omega
     have HS5:Hid (Hp w5 w.heap.size #[.int .i64 c.k,.int .i64 c.n,.string c.s,.int .i64 c.d.k,.int .i64 c.d.n,.string c.d.s,.slice b1 n1 q1,.slice b2 n2 q2,.slice b3 n3 q3,.slice (some ⟨pb,po,none⟩) c.p.length q4,.slice b5 c.l.length q5] 28∧w5.cell? ⟨pb,po+i,none⟩=some (.int .i64 x)):=⟨HBY.out.keep hk5 hnA,(hk5.cell (po+i) (block_lt_of_cell P0.out) hnE).trans P0.out⟩
     have hx5:Hp w5 X _ _:=HLOW.out.hp.keep hk5 HLOW.out.nb;have k6:=set_keep w5 X 1 (.slice ba3 (bd2.length+1) bq3);have HS6:Hid (Hp (w5.setCell ⟨X,1,none⟩ (.slice ba3 (bd2.length+1) bq3)) w.heap.size #[.int .i64 c.k,.int .i64 c.n,.string c.s,.int .i64 c.d.k,.int .i64 c.d.n,.string c.d.s,.slice b1 n1 q1,.slice b2 n2 q2,.slice b3 n3 q3,.slice (some ⟨pb,po,none⟩) c.p.length q4,.slice b5 c.l.length q5] 28∧(w5.setCell ⟨X,1,none⟩ (.slice ba3 (bd2.length+1) bq3)).cell? ⟨pb,po+i,none⟩=some (.int .i64 x)):=⟨HS5.out.1.keep k6 (fun e=>HNA.out (.inl e)),(k6.cell (po+i) (block_lt_of_cell HS5.out.2) (fun(e:pb=X)=>by have:=HGP.out;have:=HLOW.out.bx;omega)).trans HS5.out.2⟩
     have u1:=hx5.cell 1 rfl;have uf1:=hx5.frz 1;clear hown hgrow hat hk5 hnA hnE hx5 k6;refine hK.out _ _ HS5.out (fun hHeld=> ?_);clear hK K;refine Zm.u 12 ?_ rfl ?_ ?_;rotate_left
     ·intro w9 hSw;clear hSw;go_simp;try with_reducible rfl
     simp only[Act.put,za,zb,zc];refine Zm.u 13 ?_ rfl ?_ ?_;rotate_left
     ·intro w9 hSw;clear hSw;go_simp;try with_reducible rfl
     simp only[Act.put,za,zb,zc];refine Zm.r 14 rfl (fun K hK=> ?_);go_simp;refine hK.out _ _ HS6.out (fun hHeld=> ?_);clear hK K;refine wpAnyH_done (by kernel_rfl) ?_ _;refine NoPanic.normal ?_;clear u1 uf1;have HN:Hid (Co.M2 G base X opn (.slice pa ps.length pq) (.slice ba bd.length bq) ps bd w w.heap.size #[.int .i64 c.k,.int .i64 c.n,.string c.s,.int .i64 c.d.k,.int .i64 c.d.n,.string c.d.s,.slice b1 n1 q1,.slice b2 n2 q2,.slice b3 n3 q3,.slice (some ⟨pb,po,none⟩) c.p.length q4,.slice b5 c.l.length q5] c e1 (i+1) 70 (.slice ba3 (bd2.length+1) bq3) (bd2++[x]) (w5.setCell ⟨X,1,none⟩ (.slice ba3 (bd2.length+1) bq3))):=by
      obtain⟨p1,p2,p3⟩:=HRY.out.pushB HG.out HBB.out HOWN.out HGR.out HAT.out;refine⟨p1,HS6.out.1,?_,(fun k hk=>(p3 k hk).elim (fun h=>HQ.out.rv k h) (fun h=> .inr (by have h1:=HKY.out.size;have h2:=HQ.out.bx.lt;omega))),?_⟩
      ·refine Keep.mono ((HQ.out.kp.le (T:=fun k=>Co.WS X (.slice pa ps.length pq) (.slice ba bd.length bq) k∨Co.WS X (.slice pa ps.length pq) (.slice ba2 bd2.length bq2) k) fun k h=> .inl h).trans ((HKY.out.le fun k h=> .inr h).trans (p2.le fun k h=> .inr h))) (fun k hk h=> ?_);rcases h with h|h|h|h
       ·exact h
       ·exact .inl h
       ·exact .inr (.inl h)
       ·exact(HQ.out.rv k h).elim (fun h=> .inr (.inr h)) (fun h=>by omega)
      ·refine .inr ⟨by decide,.inr ⟨H1.out,rfl,List.any_eq_true.2 ⟨x,?_,?_⟩⟩⟩
       ·rw[←HXX.out];exact List.getElem_mem hlt
       ·have h:=HRR.out;rw[H2.out]at h;have h5:x∈bd∨x∈c.p.take i:=by simpa using h
        exact h5.elim (fun h=>by simpa using h) (fun h=>absurd h HON.out)
     clear HRY HBY HKY P0 HBB HSd HSB HSRC HOWB HLOW HOWN HGR HAT HS5 HS6;go_wp2;go_roundw
     case rel=>exact⟨i+1,_,ba3,bq3,bd2++[x],by simp,by omega,by rw[show(bd2++[x]).length=bd2.length+1 by simp];exact HN⟩
     case measure=>simp[intOf];omega
  case rest=>
   obtain⟨i,e,ba2,bq2,bd2,hq,hei⟩:=hcut;obtain⟨w6,rfl⟩:∃w6,w6=wc:=⟨_,rfl⟩
   have HQ:=zh hq;obtain⟨hh,hbd2⟩:=hq.here HE1.out.symm hei;clear HQ0 HM hq;have hx:Hp w6 X _ _:=HQ.out.rw_.hp;have x2:=hx.cell 2 rfl;clear hx;by_cases he:e=0
   case neg=>
    have heb:(e !=0)=true:=by simpa using he
    have HF:Hid (Co.RPost G base X opn (.slice pa ps.length pq) (.slice ba bd.length bq) w c deep win top ps bd 0 (.returned (.tuple #[])) w6):=⟨rfl,e,_,_,ps,bd2,HQ.out.rw_,HQ.out.kp,Co.RV.refl _ _,fun k hk=>(HQ.out.rv k hk).imp id (fun h=>by omega),fun h=>absurd rfl h,fun _=>⟨by rw[Co.goes_bad (by rw[hh];exact he),hh],fun h=>absurd h he⟩⟩
    clear he hh hbd2 hei;go_wp2;refine bodyPost_ret (v:= .tuple #[]) (by simp[results,Tryz.results37,go_sem]) rfl ?_;exact HF.out
   subst he;obtain rfl:=(hbd2 rfl)
   have HH:=zh hh;have h1:e1=0:=by
    rcases HQ.out.ok with⟨-,h,-⟩|⟨h,-⟩
    ·exact h
    ·exact absurd rfl h
   have hal:=Co.sw_alone (HE1.out.trans h1);have hp32:=Co.alone_p32 hal.1;have hpl:ps.length<8192:=hal.2.2;have hdl:deep≤128:=hal.2.1;have hb2l:(bd++c.p).length≤1000000+32*(ps.length+1):=by rw[List.length_append];omega
   obtain⟨i0,hi,hi0,hi1,hi2⟩:=info_parts Co.infoC;have HI:=zh hi;have HI0:=zh hi0;have HI1:=zh hi1;have HI2:=zh hi2;clear hei hh hbd2 h1 hal hi hi0 hi1 hi2;obtain⟨bd2,hbd2⟩:∃bd2,bd++c.p=bd2:=⟨_,rfl⟩
   rw[hbd2]at HQ hb2l;have HBD2:=zh hbd2;clear hbd2;go_wp2;clear x2;obtain⟨wB,hwB⟩:∃wB,w6.drew.alloc (.cells #[.int .i64 0,.int .i64 0,.string ⟨#[]⟩,.int .i64 0,.int .i64 0,.string ⟨#[]⟩,.slice none 0 0,.slice none 0 0,.slice none 0 0,.slice none 0 0,.slice none 0 0] 28)=wB:=⟨_,rfl⟩
   have hbd0:Below w6.heap.size w6 w6.drew:=Co.drew_below w6;have hbB:Below w6.heap.size w6 wB:=by rw[←hwB];exact hbd0.alloc (by have:=hbd0.size;omega) _
   have HBB:=zh hbB;have HSd:Hid (Hp w6.drew w.heap.size #[.int .i64 c.k,.int .i64 c.n,.string c.s,.int .i64 c.d.k,.int .i64 c.d.n,.string c.d.s,.slice b1 n1 q1,.slice b2 n2 q2,.slice b3 n3 q3,.slice b4 c.p.length q4,.slice b5 c.l.length q5] 28):=HQ.out.bx.below hbd0;have HSB:Hid (Hp wB w.heap.size #[.int .i64 c.k,.int .i64 c.n,.string c.s,.int .i64 c.d.k,.int .i64 c.d.n,.string c.d.s,.slice b1 n1 q1,.slice b2 n2 q2,.slice b3 n3 q3,.slice b4 c.p.length q4,.slice b5 c.l.length q5] 28):=HQ.out.bx.below hbB;have z0:=(HQ.out.rw_.below hbd0).hp.cell 0 rfl;have z0B:=(HQ.out.rw_.below hbB).hp.cell 0 rfl;have HSRC:Hid (Ap.Src wB (.slice (some ⟨w6.heap.size,0,none⟩) 1 1) 1 [.int .i64 0,.int .i64 0,.string ⟨#[]⟩,.int .i64 0,.int .i64 0,.string ⟨#[]⟩,.slice none 0 0,.slice none 0 0,.slice none 0 0,.slice none 0 0,.slice none 0 0]):=Co.srcNew (w:=w6.drew) hwB;have HOWB:=zh (HQ.out.rw_.below hbB).rp;have hbs:base≤wB.heap.size:=by have h1:=HQ.out.rw_.bx;have h2:=HQ.out.rw_.hp.lt;have h3:=hbB.size;omega
   have hm1:ps.length+1≤maxLen:=by unfold maxLen;omega
   have hm2:(ps.length+1)*184≤140737488355328:=by omega
   have hlti:(ps.length:Int)<(ps.length:Int)+1:=by omega
   clear hbd0 hbB;refine wp_region_noPanic ?_;refine wp_region_held_drew (S:=fun w'=>Hp w' w.heap.size #[.int .i64 c.k,.int .i64 c.n,.string c.s,.int .i64 c.d.k,.int .i64 c.d.n,.string c.d.s,.slice b1 n1 q1,.slice b2 n2 q2,.slice b3 n3 q3,.slice b4 c.p.length q4,.slice b5 c.l.length q5] 28) (by kernel_rfl) HSd.out (fun hHeld=> ?_);refine Zm.u 0 ?_ rfl ?_ ?_;rotate_left
   ·intro w9 hSw;clear hSw;go_simp;try with_reducible rfl
   simp only[Act.put,za,zb,zc];refine Zm.u 1 ?_ rfl ?_ ?_;rotate_left
   ·intro w9 hSw;clear hSw;go_simp;try with_reducible rfl
   simp only[Act.put,za,zb,zc];refine Zm.u 2 ?_ rfl ?_ ?_;rotate_left
   ·intro w9 hSw;clear hSw;go_simp;try with_reducible rfl
   simp only[Act.put,za,zb,zc];refine Zm.u 4 ?_ rfl ?_ ?_;rotate_left
   ·intro w9 hSw;have hC:Hp w9 w.heap.size _ _:=hSw;obtain⟨c0,c1,c2,c3,c4,c5,c6,c7,c8,c9,c10⟩:=hC.c11;clear hC;clear hSw;go_simp;try with_reducible rfl
   simp only[Act.put,za,zb,zc];apply Co.cutG
   ·intro rest;refine Zm.q 3 6 rfl rfl (fun K hK=> ?_) (fun K hK=> ?_)
    ·go_simp;refine hK.out _ _ HSd.out (fun hHeld=> ?_);clear hK K;refine Zm.u 5 ?_ rfl ?_ ?_;rotate_left
     ·intro w9 hSw;clear hSw;go_simp;try with_reducible rfl
     simp only[Act.put,za,zb,zc];refine Zm.r 6 rfl (fun K hK=> ?_);go_simp;try rw[hwB]
     refine hK.out _ _ HSB.out (fun hHeld=> ?_);clear hK K;exact rest
    ·go_simp;try rw[hwB]
     refine hK.out _ _ HSB.out (fun hHeld=> ?_);clear hK K;refine Zm.r 3 rfl (fun K hK=> ?_);go_simp;refine hK.out _ _ HSB.out (fun hHeld=> ?_);clear hK K;refine Zm.u 5 ?_ rfl ?_ ?_;rotate_left
     ·intro w9 hSw;clear hSw;go_simp;try with_reducible rfl
     simp only[Act.put,za,zb,zc];exact rest
   clear z0 z0B hwB;have hHeld:=HSB.out;refine Zm.r 7 rfl (fun K hK=> ?_);refine Ap.step rfl (.tmp 124) (.tmp 127) 26 (by kernel_rfl) base 28 i0 (.agg #[.int .i64 0,.int .i64 0,.string ⟨#[]⟩,.int .i64 0,.int .i64 0,.string ⟨#[]⟩,.slice none 0 0,.slice none 0 0,.slice none 0 0,.slice none 0 0,.slice none 0 0]) 11 184 Tryz.underlying26 HI.out HI0.out HI1.out HI2.out rfl (by decide) (.slice pa ps.length pq) ps.length (Co.flatC ps) (by kernel_rfl) HOWB.out (.slice (some ⟨w6.heap.size,0,none⟩) 1 1) 1 [.int .i64 0,.int .i64 0,.string ⟨#[]⟩,.int .i64 0,.int .i64 0,.string ⟨#[]⟩,.slice none 0 0,.slice none 0 0,.slice none 0 0,.slice none 0 0,.slice none 0 0] (by kernel_rfl) HSRC.out rfl (by simp[Value.oneCell']) hm1 hm2 hbs ?_;intro v' w5 hown hgrow hat;obtain⟨g,cap,rfl⟩:∃g cap,v'=(.slice (some ⟨g,0,none⟩) (ps.length+1) cap):=by
    rcases hown.2 with⟨-,h0⟩|⟨g,cap,-,e,-⟩
    ·omega
    ·exact⟨g,cap,e⟩
   have hg:(Value.slice pa ps.length pq).ownBlock=some g∨g=wB.heap.size:=hat.elim (fun h=> .inl (h.symm.trans rfl)) (fun h=> .inr (by simpa[Value.ownBlock]using h));have hk5:Keep (fun k=>(Value.slice pa ps.length pq).ownBlock=some k) w6 w5:=Co.grown_keep2 HBB.out hgrow;have hnA:¬ (Value.slice pa ps.length pq).ownBlock=some w.heap.size:=fun e=>HNA.out (.inr (.inl e))
   have hAl:=HQ.out.bx.lt;have hgA:g≠w.heap.size:=fun e=>hg.elim (fun h=>hnA (by rw[h,e])) (fun h=>by have:=HBB.out.size;omega)
   have hXl:=HQ.out.rw_.hp.lt;have hgX:g≠X:=fun e=>hg.elim (fun h=>HQ.out.rw_.np (by rw[h,e])) (fun h=>by have:=HBB.out.size;omega)
   have HS5:Hid (Hp w5 w.heap.size #[.int .i64 c.k,.int .i64 c.n,.string c.s,.int .i64 c.d.k,.int .i64 c.d.n,.string c.d.s,.slice b1 n1 q1,.slice b2 n2 q2,.slice b3 n3 q3,.slice b4 c.p.length q4,.slice b5 c.l.length q5] 28):=HQ.out.bx.keep hk5 hnA;have HX5:Hid (Hp w5 X #[(.slice pa ps.length pq),(.slice ba2 bd2.length bq2),.int .i64 0,.bool opn] 66):=HQ.out.rw_.hp.keep hk5 HQ.out.rw_.np;have HTH:Hid (w5.there g (ps.length*11) 11):=Pt.own_there hown (by rw[List.length_append,Co.flatC_length];exact Nat.le_refl _);obtain⟨w7,hw7⟩:∃w7,w5.setCells g (ps.length*11) (#[.int .i64 c.k,.int .i64 c.n,.string c.s,.int .i64 c.d.k,.int .i64 c.d.n,.string c.d.s,.slice b1 n1 q1,.slice b2 n2 q2,.slice b3 n3 q3,.slice b4 c.p.length q4,.slice b5 c.l.length q5]:Array Value).toList=w7:=⟨_,rfl⟩
   have hk7:Keep (fun k=>k=g) w5 w7:=by rw[←hw7];exact Co.setCells_keep _ _ _ _
   have HS7:Hid (Hp w7 w.heap.size #[.int .i64 c.k,.int .i64 c.n,.string c.s,.int .i64 c.d.k,.int .i64 c.d.n,.string c.d.s,.slice b1 n1 q1,.slice b2 n2 q2,.slice b3 n3 q3,.slice b4 c.p.length q4,.slice b5 c.l.length q5] 28):=HS5.out.keep hk7 (fun e=>hgA e.symm);have HX7:Hid (Hp w7 X #[(.slice pa ps.length pq),(.slice ba2 bd2.length bq2),.int .i64 0,.bool opn] 66):=HX5.out.keep hk7 (fun e=>hgX e.symm);obtain⟨w8,hw8⟩:∃w8,w5.setCell ⟨X,0,none⟩ (.slice (some ⟨g,0,none⟩) (ps.length+1) cap)=w8:=⟨_,rfl⟩
   have hk8:Keep (fun k=>k=X) w5 w8:=by rw[←hw8];exact set_keep _ _ _ _
   have HS8:Hid (Hp w8 w.heap.size #[.int .i64 c.k,.int .i64 c.n,.string c.s,.int .i64 c.d.k,.int .i64 c.d.n,.string c.d.s,.slice b1 n1 q1,.slice b2 n2 q2,.slice b3 n3 q3,.slice b4 c.p.length q4,.slice b5 c.l.length q5] 28):=HS5.out.keep hk8 (fun e=>HNA.out (.inl e));have HTH8:Hid (w8.there g (ps.length*11) 11):=fun j hj=>by
    have h:=HTH.out j hj;have e1:w8.heap[g]?=w5.heap[g]?:=hk8.block g (Dt.own_lt hown g rfl).2 hgX;exact⟨by rw[World.cell?_of_block (a:=⟨g,ps.length*11+j,none⟩) e1];exact h.1,by rw[World.frozen?_of_block (a:=⟨g,ps.length*11+j,none⟩) e1];exact h.2⟩
   obtain⟨wF,hwF⟩:∃wF,w7.setCell ⟨X,0,none⟩ (.slice (some ⟨g,0,none⟩) (ps.length+1) cap)=wF:=⟨_,rfl⟩
   have hwF8:w8.setCells g (ps.length*11) (#[.int .i64 c.k,.int .i64 c.n,.string c.s,.int .i64 c.d.k,.int .i64 c.d.n,.string c.d.s,.slice b1 n1 q1,.slice b2 n2 q2,.slice b3 n3 q3,.slice b4 c.p.length q4,.slice b5 c.l.length q5]:Array Value).toList=wF:=by rw[←hwF,←hw7,←hw8];exact Co.setCells_comm hgX _ _ _ _ _
   have hkF:Keep (fun k=>k=X) w7 wF:=by rw[←hwF];exact set_keep _ _ _ _
   have HSF:Hid (Hp wF w.heap.size #[.int .i64 c.k,.int .i64 c.n,.string c.s,.int .i64 c.d.k,.int .i64 c.d.n,.string c.d.s,.slice b1 n1 q1,.slice b2 n2 q2,.slice b3 n3 q3,.slice b4 c.p.length q4,.slice b5 c.l.length q5] 28):=HS7.out.keep hkF (fun e=>HNA.out (.inl e));have HN:Hid (Co.M3 G base X opn (.slice pa ps.length pq) (.slice ba bd.length bq) w w.heap.size #[.int .i64 c.k,.int .i64 c.n,.string c.s,.int .i64 c.d.k,.int .i64 c.d.n,.string c.d.s,.slice b1 n1 q1,.slice b2 n2 q2,.slice b3 n3 q3,.slice b4 c.p.length q4,.slice b5 c.l.length q5] (.slice (some ⟨g,0,none⟩) (ps.length+1) cap) (.slice ba2 bd2.length bq2) (ps++[(⟨c,.slice b1 n1 q1,.slice b2 n2 q2,.slice b3 n3 q3,.slice b4 c.p.length q4,.slice b5 c.l.length q5⟩:Co.PC)]) bd2 wF):=by
    have hp:((⟨c,.slice b1 n1 q1,.slice b2 n2 q2,.slice b3 n3 q3,.slice b4 c.p.length q4,.slice b5 c.l.length q5⟩:Co.PC)).rep G w6:=Co.Rep.keep HQ.out.kp (fun b hb _ h=>by have:=HG.out b hb;have:=HLOW0.out b h;omega) c HR.out;obtain⟨p1,p2,p3⟩:=HQ.out.rw_.pushP HG.out HBB.out rfl hp hown hgrow hg;have ew:(w5.setCells g (ps.length*11) ((⟨c,.slice b1 n1 q1,.slice b2 n2 q2,.slice b3 n3 q3,.slice b4 c.p.length q4,.slice b5 c.l.length q5⟩:Co.PC)).cells).setCell ⟨X,0,none⟩ (.slice (some ⟨g,0,none⟩) (ps.length+1) cap)=wF:=by rw[←hwF,←hw7];rfl
    rw[ew]at p1 p2;refine⟨p1,HSF.out,?_,fun k hk=>(p3 k hk).imp id (fun h=>by omega),HQ.out.rv⟩;refine Keep.mono ((HQ.out.kp.le (T:=fun k=>Co.WS X (.slice pa ps.length pq) (.slice ba bd.length bq) k∨Co.WS X (.slice pa ps.length pq) (.slice ba2 bd2.length bq2) k) fun k h=> .inl h).trans (p2.le fun k h=> .inr h)) (fun k hk h=> ?_);rcases h with h|h|h|h
    ·exact h
    ·exact .inl h
    ·exact .inr (.inl h)
    ·exact(HQ.out.rv k h).elim (fun h=> .inr (.inr h)) (fun h=>by omega)
   clear hown hgrow hat hk5 hk7 hk8 hkF hnA;have hHeld2:=HS5.out;refine hK.out _ _ HS5.out (fun hHeld=> ?_);clear hK K;refine Zm.u 10 ?_ rfl ?_ ?_;rotate_left
   ·intro w9 hSw;clear hSw;go_simp;try with_reducible rfl
   simp only[Act.put,za,zb,zc];refine Zm.u 11 ?_ rfl ?_ ?_;rotate_left
   ·intro w9 hSw;clear hSw;go_simp;try with_reducible rfl
   simp only[Act.put,za,zb,zc];refine Zm.u 8 ?_ rfl ?_ ?_;rotate_left
   ·intro w9 hSw;clear hSw;go_simp;try with_reducible rfl
   simp only[Act.put,za,zb,zc];apply Co.cutG
   ·intro rest;refine Zm.q 9 12 rfl rfl (fun K hK=> ?_) (fun K hK=> ?_)
    ·refine wp_store_mid 28 (.tmp 129) (.tmp 125) rfl g (ps.length*11) #[.int .i64 c.k,.int .i64 c.n,.string c.s,.int .i64 c.d.k,.int .i64 c.d.n,.string c.d.s,.slice b1 n1 q1,.slice b2 n2 q2,.slice b3 n3 q3,.slice b4 c.p.length q4,.slice b5 c.l.length q5] (by kernel_rfl) (by kernel_rfl) HTH.out (by kernel_rfl) (by kernel_rfl) ?_;rw[hw7];refine hK.out _ _ HS7.out (fun hHeld=> ?_);clear hK K;have cX7:=HX7.out.cell 0 rfl;have fX7:=HX7.out.frz 0;refine Zm.r 12 rfl (fun K hK=> ?_);go_simp;try rw[hwF]
     refine hK.out _ _ HSF.out (fun hHeld=> ?_);clear hK K;refine wpAnyH_done (by kernel_rfl) ?_ _;exact rest
    ·have cX5:=HX5.out.cell 0 rfl;have fX5:=HX5.out.frz 0;go_simp;try rw[hw8]
     refine hK.out _ _ HS8.out (fun hHeld=> ?_);clear hK K;refine Zm.r 9 rfl (fun K hK=> ?_);refine wp_store_mid 28 (.tmp 129) (.tmp 125) rfl g (ps.length*11) #[.int .i64 c.k,.int .i64 c.n,.string c.s,.int .i64 c.d.k,.int .i64 c.d.n,.string c.d.s,.slice b1 n1 q1,.slice b2 n2 q2,.slice b3 n3 q3,.slice b4 c.p.length q4,.slice b5 c.l.length q5] (by kernel_rfl) (by kernel_rfl) HTH8.out (by kernel_rfl) (by kernel_rfl) ?_;rw[hwF8];refine hK.out _ _ HSF.out (fun hHeld=> ?_);clear hK K;refine wpAnyH_done (by kernel_rfl) ?_ _;exact rest
   clear hwF hwF8 hw7 hw8;refine NoPanic.normal ?_;clear HS5 HX5 HTH HS7 HX7 HS8 HTH8 HSB HSd HSRC HOWB HBB;have hcF:Hp wF w.heap.size _ _:=HSF.out;have c0:=hcF.cell 0 rfl;clear hcF;have HLF:Hid (w.heap.size<wF.heap.size):=HSF.out.lt;have HIVF:Hid (Dt.IRow (fun k=>k<wF.heap.size∧¬Co.WS X (.slice (some ⟨g,0,none⟩) (ps.length+1) cap) (.slice ba2 bd2.length bq2) k) wF iv win):=by
    have h1:Dt.IRow (fun k=>k<w.heap.size∧¬Co.WS X (.slice pa ps.length pq) (.slice ba bd.length bq) k) w iv win:=HIVW.out;refine Co.irow_mono (fun b hb hl=>⟨hl,fun e=> ?_⟩) (h1.keep HN.out.kp (fun b hb _=>hb.2));rcases e with e|e|e
    ·exact hb.2 (.inl e)
    ·exact(HN.out.rp b e).elim (fun e=>hb.2 (.inr (.inl e))) (fun e=>by have:=hb.1;omega)
    ·exact(HN.out.rb b e).elim (fun e=>hb.2 (.inr (.inr e))) (fun e=>by have:=hb.1;omega)
   go_upto_if 135 with fail
   go_cut [11] (fun v wx=>∃iv2:Value,iv2=v∧Dt.IRow (fun k=>k<wx.heap.size∧¬Co.WS X (.slice (some ⟨g,0,none⟩) (ps.length+1) cap) (.slice ba2 bd2.length bq2) k) wx iv2 (Co.inner c.k c.p win)∧Below wF.heap.size wF wx)
   case first=>
    by_cases hk8:c.k=8
    case neg=>
     have hkb:(c.k==8)=false:=by simpa using hk8
     have HE:Hid ((fun v wx=>∃iv2:Value,iv2=v∧Dt.IRow (fun k=>k<wx.heap.size∧¬Co.WS X (.slice (some ⟨g,0,none⟩) (ps.length+1) cap) (.slice ba2 bd2.length bq2) k) wx iv2 (Co.inner c.k c.p win)∧Below wF.heap.size wF wx) iv wF):=⟨_,rfl,by unfold Co.inner;rw[if_neg hk8];exact HIVF.out,Below.refl _ _⟩
     clear hk8 c0;go_wp2;go_meet;exact HE.out
    have hkb:(c.k==8)=true:=by simpa using hk8
    have HK8:=zh hk8;clear hk8;go_wp2;clear c0;obtain⟨wD,hwD⟩:∃wD,wF.drew=wD:=⟨_,rfl⟩
    have hbD:=Co.drew_below wF;rw[hwD]at hbD;have HSD:Hid (Hp wD w.heap.size #[.int .i64 c.k,.int .i64 c.n,.string c.s,.int .i64 c.d.k,.int .i64 c.d.n,.string c.d.s,.slice b1 n1 q1,.slice b2 n2 q2,.slice b3 n3 q3,.slice b4 c.p.length q4,.slice b5 c.l.length q5] 28):=HSF.out.below hbD;have HBD:=zh hbD;have HSR1:Hid (Ap.Src2 wD iv win.length (Co.ints win)):=(HIVF.out.below hbD).src2;have HPD:Hid (Dt.IRow G wD (.slice b4 c.p.length q4) c.p):=(HPW.out.keep HN.out.kp (fun b hb _ h=>by have:=HG.out b hb;have:=HLOW0.out b h;omega)).below hbD;have hn1:0+win.length≤maxLen:=by unfold maxLen;omega
    have hn2:(0+win.length)*8≤140737488355328:=by omega
    have hn3:(0+win.length)+c.p.length≤maxLen:=by unfold maxLen;omega
    have hn4:((0+win.length)+c.p.length)*8≤140737488355328:=by omega
    clear hbD;refine wp_region_noPanic ?_;refine wp_region_held_drew (S:=fun w'=>Hp w' w.heap.size #[.int .i64 c.k,.int .i64 c.n,.string c.s,.int .i64 c.d.k,.int .i64 c.d.n,.string c.d.s,.slice b1 n1 q1,.slice b2 n2 q2,.slice b3 n3 q3,.slice b4 c.p.length q4,.slice b5 c.l.length q5] 28) (by kernel_rfl) (by rw[hwD];exact HSD.out) (fun hHeld=> ?_);rw[hwD]at hHeld ⊢;clear hwD;refine Zm.u 0 ?_ rfl ?_ ?_;rotate_left
    ·intro w9 hSw;clear hSw;go_simp;try with_reducible rfl
    simp only[Act.put,za,zb,zc];refine Zm.u 2 ?_ rfl ?_ ?_;rotate_left
    ·intro w9 hSw;clear hSw;go_simp;try with_reducible rfl
    simp only[Act.put,za,zb,zc];refine Zm.u 3 ?_ rfl ?_ ?_;rotate_left
    ·intro w9 hSw;have hC:Hp w9 w.heap.size _ _:=hSw;have c9:=hC.cell 9 rfl;clear hC;clear hSw;go_simp;try with_reducible rfl
    simp only[Act.put,za,zb,zc];refine Zm.r 1 rfl (fun K hK=> ?_);refine Ap.step2 rfl (.const (.slice none 0 0)) (.tmp 136) 22 (by kernel_rfl) wD.heap.size 3 j0 (.int .i64 0) 1 8 Tryz.underlying22 HJ.out HJ0.out HJ1.out HJ2.out rfl (by decide) (.slice none 0 0) 0 [] (by kernel_rfl) (World.ownsRow_nil _ _ _ _) iv win.length (Co.ints win) (by kernel_rfl) HSR1.out (by unfold Co.ints;simp) (by unfold Co.ints;intro u hu;obtain⟨x,-,rfl⟩:=List.mem_map.1 hu;rfl) hn1 hn2 (Nat.le_refl _) ?_;intro v1 wE hown1 hgrow1 hat1;obtain⟨a1',c1',rfl⟩:=Dt.row_form hown1;have hkE:Keep (fun _=>False) wD wE:=(Co.grown_keep2 (Below.refl _ _) hgrow1).le (fun k e=>by simp[Value.ownBlock]at e);have HSE:Hid (Hp wE w.heap.size #[.int .i64 c.k,.int .i64 c.n,.string c.s,.int .i64 c.d.k,.int .i64 c.d.n,.string c.d.s,.slice b1 n1 q1,.slice b2 n2 q2,.slice b3 n3 q3,.slice b4 c.p.length q4,.slice b5 c.l.length q5] 28):=HSD.out.keep hkE id;have HOW1:=zh hown1;have HKE:=zh hkE;have HSR2:Hid (Ap.Src2 wE (.slice b4 c.p.length q4) c.p.length (Co.ints c.p)):=(HPD.out.keep hkE (fun _ _ _ h=>h)).src2;have hbE:wD.heap.size≤wE.heap.size:=hkE.size;clear hown1 hgrow1 hat1 hkE;refine hK.out _ _ HSE.out (fun hHeld=> ?_);clear hK K;refine Zm.r 4 rfl (fun K hK=> ?_);refine Ap.step2 rfl (.tmp 137) (.tmp 139) 22 (by kernel_rfl) wD.heap.size 3 j0 (.int .i64 0) 1 8 Tryz.underlying22 HJ.out HJ0.out HJ1.out HJ2.out rfl (by decide) (.slice a1' (0+win.length) c1') (0+win.length) ([]++Co.ints win) (by kernel_rfl) HOW1.out (.slice b4 c.p.length q4) c.p.length (Co.ints c.p) (by kernel_rfl) HSR2.out (by unfold Co.ints;simp) (by unfold Co.ints;intro u hu;obtain⟨x,-,rfl⟩:=List.mem_map.1 hu;rfl) hn3 hn4 hbE ?_;intro v2 wG hown2 hgrow2 hat2;obtain⟨a2',c2',rfl⟩:=Dt.row_form hown2;have hkG:Keep (fun k=>wD.heap.size≤k) wD wG:=(HKE.out.le fun k e=>e.elim).trans ((Co.grown_keep2 (Below.refl _ _) hgrow2).le (fun k e=>(Dt.own_lt HOW1.out k e).1));have HSG:Hid (Hp wG w.heap.size #[.int .i64 c.k,.int .i64 c.n,.string c.s,.int .i64 c.d.k,.int .i64 c.d.n,.string c.d.s,.slice b1 n1 q1,.slice b2 n2 q2,.slice b3 n3 q3,.slice b4 c.p.length q4,.slice b5 c.l.length q5] 28):=HSD.out.keep hkG (fun e=>by have h1:=HBD.out.size;have h2:=HLF.out;have e:wD.heap.size≤w.heap.size:=e;omega);have HE:Hid ((fun v wx=>∃iv2:Value,iv2=v∧Dt.IRow (fun k=>k<wx.heap.size∧¬Co.WS X (.slice (some ⟨g,0,none⟩) (ps.length+1) cap) (.slice ba2 bd2.length bq2) k) wx iv2 (Co.inner c.k c.p win)∧Below wF.heap.size wF wx) (.slice a2' (0+win.length+c.p.length) c2') wG):=by
     have hbw:Below wF.heap.size wF wG:=HBD.out.trans ((hkG.to_below (n:=wF.heap.size) (fun k e=>by have:=HBD.out.size;omega) (by have:=HBD.out.size;omega)));refine⟨_,rfl,?_,hbw⟩;have hi:Dt.IRow (fun k=>wD.heap.size≤k) wG (.slice a2' (0+win.length+c.p.length) c2') (win++c.p):=Dt.IRow.of_own (by
      have h:=hown2;rw[List.length_append];unfold Co.ints at h;simp only[Nat.zero_add,List.nil_append]at h ⊢;rw[List.map_append];exact h)
     unfold Co.inner;rw[if_pos HK8.out];refine Co.irow_mono (fun b hb hl=>⟨hl,fun e=> ?_⟩) hi;have h1:=HBD.out.size;rcases e with e|e|e
     ·have:=HN.out.rw_.hp.lt;omega
     ·have:=(Dt.own_lt HN.out.rw_.rp b e).2;omega
     ·have:=(Dt.own_lt HN.out.rw_.rb b e).2;omega
    clear hown2 hgrow2 hat2 hkG;refine hK.out _ _ HSG.out (fun hHeld=> ?_);clear hK K;refine Zm.u 5 ?_ rfl ?_ ?_;rotate_left
    ·intro w9 hSw;clear hSw;go_simp;try with_reducible rfl
    simp only[Act.put,za,zb,zc];refine wpAnyH_done (by kernel_rfl) ?_ _;refine NoPanic.normal ?_;clear HSD HBD HSR1 HPD HSE HOW1 HKE HSR2 HSG;go_wp2;go_meet;have h:=HE.out;simp only[Nat.zero_add]at h;exact h
   case rest=>
    obtain⟨iv2,rfl,hiv2,hbx⟩:=hcut;obtain⟨wS,rfl⟩:∃wS,wS=wc:=⟨_,rfl⟩
    obtain⟨TB,hTB⟩:∃TB,(top&&decide (c.k=9))=TB:=⟨_,rfl⟩
    have HTB:=zh hTB;have HM4:Hid (Co.M4 G (fun k=>k<wS.heap.size∧¬Co.WS X (.slice (some ⟨g,0,none⟩) (ps.length+1) cap) (.slice ba2 bd2.length bq2) k) base X opn (.slice pa ps.length pq) (.slice ba bd.length bq) w w.heap.size #[.int .i64 c.k,.int .i64 c.n,.string c.s,.int .i64 c.d.k,.int .i64 c.d.n,.string c.d.s,.slice b1 n1 q1,.slice b2 n2 q2,.slice b3 n3 q3,.slice b4 c.p.length q4,.slice b5 c.l.length q5] c (deep+1) (Co.inner c.k c.p win) TB ps bd iv2 0 0 (.slice (some ⟨g,0,none⟩) (ps.length+1) cap) (.slice ba2 bd2.length bq2) (ps++[(⟨c,.slice b1 n1 q1,.slice b2 n2 q2,.slice b3 n3 q3,.slice b4 c.p.length q4,.slice b5 c.l.length q5⟩:Co.PC)]) bd2 wS):=⟨HN.out.rw_.below hbx,HN.out.bx.below hbx,HN.out.kp.below hbx,HN.out.rp,HN.out.rb,hiv2,fun k hk=>hk.2,fun k hk=>hk.1,fun _=>⟨by rw[List.drop_zero,HBD2.out,List.length_append];rfl,by rw[List.map_append,List.take_zero,Co.partsL];rfl,by rw[List.length_append];exact hb2l,by rw[List.length_append];exact hpl⟩,fun h=>absurd rfl h⟩
    have HGOES:Hid (Co.goes opn c deep win top ps.length bd=Co.goesL opn c.l (deep+1) (Co.inner c.k c.p win) TB (ps.length+1) (bd++c.p)):=by
     show _=_;rw[Co.goes_go HH.out,hTB]
    have HWL:Hid (Co.Wfs c.l):=(Co.wf_parts HW.out).2.2.2.2.2.2;have HLL:Hid (c.l.length≤140737488355328):=(Co.wf_parts HW.out).2.2.2.2.2.1;have hll:=HLL.out;have hwin2:(Co.inner c.k c.p win).length≤1000000+32*(deep+1):=by
     unfold Co.inner;split
     ·rw[List.length_append];omega
     ·omega
    clear hTB hiv2 hbx HQ HSF HIVF c0;go_wp2
    go_loopw [12] (fun v wr=>∃(j:Nat) (e:Int) (pvj bvj:Value) (psj:List Co.PC) (bdj:List Int),v= .int .i64 j∧j≤c.l.length∧Hid (Co.M4 G (fun k=>k<wS.heap.size∧¬Co.WS X (.slice (some ⟨g,0,none⟩) (ps.length+1) cap) (.slice ba2 bd2.length bq2) k) base X opn (.slice pa ps.length pq) (.slice ba bd.length bq) w w.heap.size #[.int .i64 c.k,.int .i64 c.n,.string c.s,.int .i64 c.d.k,.int .i64 c.d.n,.string c.d.s,.slice b1 n1 q1,.slice b2 n2 q2,.slice b3 n3 q3,.slice b4 c.p.length q4,.slice b5 c.l.length q5] c (deep+1) (Co.inner c.k c.p win) TB ps bd iv2 j e pvj bvj psj bdj wr)) (fun v _=>c.l.length - (intOf v).toNat)
    case atStart=>exact⟨0,0,_,_,_,_,rfl,Nat.zero_le _,HM4⟩
    case round=>
     clear HM4;obtain⟨j,e,pvj,bvj,psj,bdj,rfl,hj,HL⟩:=hrel;have hcr:Hp wr w.heap.size _ _:=HL.out.bx;have c10:=hcr.cell 10 rfl;clear hcr;by_cases hlt:j<c.l.length
     case neg=>
      have hge:(c.l.length:Int)≤(j:Int):=by omega
      obtain rfl:j=c.l.length:=by omega
      have HF:Hid (Co.RPost G base X opn (.slice pa ps.length pq) (.slice ba bd.length bq) w c deep win top ps bd 0 (.returned (.tuple #[])) wr):=by
       refine⟨rfl,e,pvj,bvj,psj,bdj,HL.out.rw_,HL.out.kp,fun k hk=>(HL.out.rp k hk).imp id (fun h=>by omega),fun k hk=>(HL.out.rb k hk).imp id (fun h=>by omega),fun h=>absurd rfl h,fun _=>⟨?_,fun he=> ?_⟩⟩
       ·rw[HGOES.out];by_cases he:e=0
        ·obtain⟨m1,-⟩:=HL.out.m0 he;rw[m1,List.drop_length,Co.goesL,he]
        ·exact(HL.out.m1 he).symm
       ·obtain⟨m1,m2,m3,m4⟩:=HL.out.m0 he;refine⟨?_,?_,m3,m4⟩
        ·rw[m2,List.take_length];obtain⟨k,n,s,d,p,l⟩:=c;rw[Co.parts]
         rfl
        ·rw[HGOES.out,m1,List.drop_length,Co.goesL]
      go_wp2;first|go_end0|go_ret2
      exact HF.out
     have hlti:(j:Int)<(c.l.length:Int):=by omega
     obtain⟨wd,hwd⟩:∃wd,wr.drew=wd:=⟨_,rfl⟩
     have hbd:=Co.drew_below wr;rw[hwd]at hbd;have hRj:=Co.Rep.keep HL.out.kp (fun b hb _ h=>by have:=HG.out b hb;have:=HLOW0.out b h;omega) c HR.out;obtain⟨-,-,⟨_,_,he,_,hrow⟩⟩:=(Co.rep_iff _ _ _ _ _ _ _ _).1 (hRj.below hbd);injection he with he1 he2 he3
     subst he1;clear he2 he3;obtain⟨kb,ko,rfl,hGk,hkl,hreps⟩:=hrow (by intro h0;rw[h0]at hlt;simp at hlt);obtain⟨um,ul,ut,up,uk,hel,hry⟩:=hreps.at j hlt;have hmem:c.l[j]∈c.l:=List.getElem_mem hlt;have hwy:Co.Wf c.l[j]:=HWL.out.at j hlt;have hcall:=HCH.out c.l[j] hmem G (fun k=>k<wS.heap.size∧¬Co.WS X (.slice (some ⟨g,0,none⟩) (ps.length+1) cap) (.slice ba2 bd2.length bq2) k) base X opn pvj bvj um ul ut up uk iv2 psj bdj (Co.inner c.k c.p win) wd (deep+1) TB e hwy hry HG.out (HL.out.rw_.below hbd) (HL.out.iv.below hbd) (fun k hk _=>HL.out.ng k hk) hwin2 (by omega) (fun h=>(HL.out.m0 h).2.2);have hnext:=fun x w'=>Co.M4.next (x:=x) (w':=w') HNA.out rfl HL.out hbd hlt
     obtain⟨y,hy⟩:∃y,c.l[j]=y:=⟨_,rfl⟩
     rw[hy]at hel hry hcall hnext hwy;obtain⟨g1,i1,r1,g2,i2,r2,g3,i3,r3,g4,i4,r4,g5,i5,r5,rfl,rfl,rfl,rfl,rfl⟩:=hry.forms5;unfold Co.V at hcall;rw[show((deep+1:Nat):Int)=(deep:Int)+1 from rfl]at hcall;obtain⟨e0,e1',e2,e3,e4,e5,e6,e7,e8,e9,e10⟩:=hel;have hcd:Hp wd w.heap.size _ _:=HL.out.bx.below hbd;have d0:=hcd.cell 0 rfl;have d10:=hcd.cell 10 rfl;have HNX:=zh hnext;obtain⟨K9,hK9⟩:∃K9,(c.k==9)=K9:=⟨_,rfl⟩
     have HTK:Hid (TB=(top&&K9)):=by
      show _=_;rw[←HTB.out,←hK9];by_cases e:c.k=9 <;> simp[e]
     clear hnext hcd hRj hrow hreps hry hwy hmem hGk hkl hy hbd
     cases htop:top with
     |false=>
      have hTB:TB=false:=by rw[HTK.out,htop];rfl
      have hcall2:=hcall;rw[hTB]at hcall2;have HTT:=zh hTB;clear hcall hTB;subst htop;go_wp2;refine wp_region_still_tail 15 (by kernel_rfl) (by kernel_rfl) ?_;change wpStill _ _ wr.drew _ _ _;rw[hwd];have HWD:=zh hwd;clear hwd c10;simp only[List.take_succ_cons,List.take_zero,List.drop_succ_cons,List.drop_zero];repeat still_step
      try refine wpStill_nil ?_
      go_wp2_with fail
      rw[HWD.out];refine hcall2.mono ?_;rintro x w9 hp;have hp2:Co.RPost G base X opn pvj bvj wd y (deep+1) (Co.inner c.k c.p win) TB psj bdj e x w9:=by rw[HTT.out];exact hp
      obtain⟨e',pv',bv',ps',bd',hm⟩:=HNX.out x w9 hp2;obtain rfl:x= .returned (.tuple #[]):=hp.1;have HM5:=zh hm;clear hcall2 hp hp2 hm d0 d10 e0 e1' e2 e3 e4 e5 e6 e7 e8 e9 e10 hK9;go_wp2;go_roundw
      case rel=>exact⟨j+1,e',pv',bv',ps',bd',by simp,by omega,HM5⟩
      case measure=>simp[intOf];omega
     |true=>
      have hTB:TB=K9:=by rw[HTK.out,htop];exact Bool.true_and _
      have hcall2:=hcall;rw[hTB]at hcall2;have HTT:=zh hTB;clear hcall hTB;subst htop;go_wp2;refine wp_region_still_tail 15 (by kernel_rfl) (by kernel_rfl) ?_;change wpStill _ _ wr.drew _ _ _;rw[hwd];have HWD:=zh hwd;clear hwd c10;simp only[List.take_succ_cons,List.take_zero,List.drop_succ_cons,List.drop_zero];repeat still_step
      try refine wpStill_nil ?_
      go_wp2_with fail
      rw[HWD.out];refine hcall2.mono ?_;rintro x w9 hp;have hp2:Co.RPost G base X opn pvj bvj wd y (deep+1) (Co.inner c.k c.p win) TB psj bdj e x w9:=by rw[HTT.out];exact hp
      obtain⟨e',pv',bv',ps',bd',hm⟩:=HNX.out x w9 hp2;obtain rfl:x= .returned (.tuple #[]):=hp.1;have HM5:=zh hm;clear hcall2 hp hp2 hm d0 d10 e0 e1' e2 e3 e4 e5 e6 e7 e8 e9 e10 hK9;go_wp2;go_roundw
      case rel=>exact⟨j+1,e',pv',bv',ps',bd',by simp,by omega,HM5⟩
      case measure=>simp[intOf];omega
mutual
theorem coRGoes_any:∀c:Co.C,Co.RGoesIs c
 | .mk k n s d p l=>coRGoes_step (.mk k n s d p l) (coRGoesL_any l)
theorem coRGoesL_any:∀(l:List Co.C),∀y∈l,Co.RGoesIs y
 |[],_,h=>absurd h (by simp)
 |c :: r,y,h=>(List.mem_cons.1 h).elim (fun e=>by rw[e];exact coRGoes_any c) (fun h'=>coRGoesL_any r y h')
end
end Go.Proofs.YtfjmlfbohenmfaaGreat
