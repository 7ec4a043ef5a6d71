/-
 datum.own, datum.Clone: a datum in memory of its own.
-/
import Derived.Test.YtfjmlfbohenmfaaGreatCoreBBM7
import Derived.Deep.Draws
import Derived.Deep.RegionHeld3
import Derived.Deep.DeepCutAuto
import Derived.WalkSpells
import Derived.Test.YtfjmlfbohenmfaaGreatCoreBBM2
namespace Go.Proofs.YtfjmlfbohenmfaaGreat
open Go.RowKit
set_option maxRecDepth 100000 in
set_option maxHeartbeats 4000000 in
theorem cloneInts_any{F:Nat→Prop}(v:Value)(m:List Int)(w:World)(h:Dt.IRow F w v m)(hl:m.length≤16):
  Calls Tryz.prog 23 #[v] w fun e w'=>∃v',e= .returned v'∧Dt.IRow (fun k=>w.heap.size≤k) w' v' m∧Below w.heap.size w w':=by
 have h0:=h;obtain⟨a,c,rfl,hc,_⟩:=h;have hsrc:=fun ha=>h0.src (a:=a) ha
 have hnil:a=none→m=[]:=fun ha=>by
  obtain⟨a',c',h1,h2,h3⟩:=h0;cases h1
  cases hm:m with
  |nil=>rfl
  |cons x r=>obtain⟨b,o,e,_⟩:=h3 (by rw[hm];simp);rw[ha]at e;cases e
 clear h0;have hn:=Lib.run_eql_slice_nil (P:=Tryz.prog) w 22 3 a m.length c 0 0 Tryz.underlying22
 cases a with
 |none=>
  obtain rfl:=hnil rfl;have hn':(binOp .eql 22 (.slice none 0 c) (.slice none 0 0)).run Tryz.prog w= .ok (.bool true) w:=hn;clear hsrc hnil hn;go_enter Tryz.func23,Tryz.ntmps23;go_wp2;go_ret;exact⟨_,rfl,⟨none,0,rfl,Nat.le_refl _,fun hn=>absurd rfl hn⟩,Below.refl _ _⟩
 |some ad=>
  have hs:=hsrc (by simp);clear hsrc hnil;obtain⟨i1,hi1,hy0,hy1,hy2⟩:=info_parts Dt.infoI;have hm1:0+m.length≤maxLen:=by unfold maxLen;omega
  have hm2:(0+m.length)*8≤140737488355328:=by omega
  obtain⟨wA,hwA⟩:∃wA,w.alloc (.cells #[] 3)=wA:=⟨_,rfl⟩
  have hb:Below w.heap.size w wA:=by rw[←hwA];exact(Below.refl _ _).alloc (Nat.le_refl _) _
  have hown:wA.ownsRow w.heap.size 3 1 (.slice (some ⟨w.heap.size,0,none⟩) 0 0) 0 []:=by rw[←hwA];exact World.ownsRow_made w #[] 0 (Nat.le_refl _) (by decide) (by simp)
  have hsA:Ap.Src wA (.slice (some ad) m.length c) m.length (m.map (Value.int .i64)):=by
   rcases hs with⟨h1,_⟩|⟨ad',c',h1,h2⟩
   ·cases h1
   ·refine .inr ⟨ad',c',h1,fun j u hu=> ?_⟩;have hc:=h2 j u hu;exact(hb.cell (World.block_lt_of_cell? w _ hc)).trans hc
  have HS:=zh hsA;have HO:=zh hown;have HB:=zh hb;clear hs hsA hown hb;go_enter Tryz.func23,Tryz.ntmps23;go_wp2_with(at_builtin;refine Ap.list rfl _ _ 22 rfl w.heap.size 3 i1 (.int .i64 0) 1 8 Tryz.underlying22 hi1 hy0 hy1 hy2 rfl (by decide) (.slice (some ⟨w.heap.size,0,none⟩) 0 0) 0 [] rfl HO.out (.slice (some ad) m.length c) m.length (m.map (Value.int .i64)) rfl HS.out (by simp) (by intro u hu;obtain⟨x,_,rfl⟩:=List.mem_map.1 hu;rfl) hm1 hm2 HB.out.size ?_;intro v' w5 hown hg hat;obtain⟨a5,c5,rfl⟩:=Dt.row_form hown)
  go_ret;simp only[Nat.zero_add,List.nil_append]at hown;exact⟨_,rfl,Dt.IRow.of_own hown,Dt.grown_below HB.out hg (Nat.le_refl _) (fun k hk=>by cases hk;exact Nat.le_refl _)⟩
namespace Dt
def Own(x:D):Prop:=∀(F:Nat→Prop) (vm vl vt:Value) (w:World),Wf x→Fine x→Rep F w x vm vl vt→
 Calls Tryz.prog 81 #[.agg #[.int .i64 x.k,.int .i64 x.n,.string x.s,vm,vl,vt],.func (.func 23) #[] #[]] w fun e w'=>Fresh w.heap.size w' x e∧Below w.heap.size w w'
theorem row_at{F:Nat→Prop}{w:World}{a:Option Addr}{n c:Nat}{l:List D}(h:Row F w (.slice a n c) l)(j:Nat)(hj:j<l.length):∃g o vm vl vt,a=some ⟨g,o,none⟩∧g<w.heap.size∧Six w g (o+j*6) l[j] vm vl vt∧Rep F w l[j] vm vl vt:=by
 obtain⟨a',c',h1,h2,h3⟩:=h;cases h1;obtain⟨g,o,e1,_,e3,e4⟩:=h3 (by intro e;rw[e]at hj;simp at hj);obtain⟨vm,vl,vt,hs,hr⟩:=e4.at j hj;exact⟨g,o,vm,vl,vt,e1,e3,hs,hr⟩
def CBox(w:World)(B:Nat):Prop:=w.cell? ⟨B,0,none⟩=some (.func (.func 23) #[] #[])
theorem CBox.below{w w':World}{B:Nat}(h:CBox w B)(hb:Below w.heap.size w w'):CBox w' B:=(hb.cell (p:=⟨B,0,none⟩) (block_lt_of_cell h)).trans h
def EachPost(w:World)(l:List D)(e:Ending)(w':World):Prop:=∃a c,e= .returned (.slice a l.length c)∧Row (fun k=>w.heap.size≤k) w' (.slice a l.length c) l∧Below w.heap.size w w'
end Dt
set_option maxRecDepth 100000 in
set_option maxHeartbeats 8000000 in
theorem each_any{F:Nat→Prop}(l:List Dt.D)(hl:∀y∈l,Dt.Own y)(a:Option Addr)(c B:Nat)(w:World)(hW:Dt.Wfs l)(hF:Dt.Fines l)(hR:Dt.Row F w (.slice a l.length c) l)(h64:l.length≤4096)(hB:Dt.CBox w B):
  Calls Tryz.prog 106 #[.slice a l.length c,.pointer (some ⟨B,0,none⟩)] w (Dt.EachPost w l):=by
 have HL:=zh hl;have HW:=zh hW;have HF:=zh hF;have HR:=zh hR;have HB:=zh hB;obtain⟨i0,hi,hz0,hz1,hz2⟩:=info_parts Dt.infoD;clear hl hW hF hR hB;go_enter Tryz.func106,Tryz.ntmps106;go_wp2
 go_loopw [4,9] (fun v i wr=>∃(j:Nat) (ps:List Dt.P),i= .int .i64 j∧j≤l.length∧ps.length=j∧(∃a' c',v= .slice a' j c')∧Hid (Dt.Rowing wr w.heap.size v ps∧ps.map Dt.P.d=l.take j∧Below w.heap.size w wr)) (fun _ i _=>l.length - (intOf i).toNat)
 case atStart=>exact⟨0,[],rfl,Nat.zero_le _,rfl,⟨_,_,rfl⟩,Dt.Rowing.nil _ _,rfl,Below.refl _ _⟩
 case round=>
  obtain⟨j,ps,rfl,hj,hps,⟨a',c',rfl⟩,HI⟩:=hrel;by_cases hlt:j<l.length
  ·have hlti:(j:Int)<(l.length:Int):=by omega
   have hj0:(0:Int)≤(j:Int):=by omega
   obtain⟨hRo,hpd,hbl⟩:=HI.out;obtain⟨g,o,vm,vl,vt,hag,hgl,⟨y0,y1,y2,y3,y4,y5⟩,hrp⟩:=Dt.row_at (HR.out.below hbl) j hlt;obtain⟨a1,n1,q1,a2,n2,q2,a3,n3,q3,rfl,rfl,rfl⟩:=hrp.forms;have hy:=HL.out l[j] (List.getElem_mem hlt);have hwf:=HW.out.at j hlt;have hfi:=HF.out.at l[j] (List.getElem_mem hlt);have HTK:Hid (∀d,d=l[j]→l.take j++[d]=l.take (j+1)):=fun d hd=>by rw[hd,List.take_succ_eq_append_getElem hlt]
   obtain⟨y,hyy⟩:∃y,y=l[j]:=⟨_,rfl⟩
   rw[←hyy]at y0 y1 y2 hrp hy hwf hfi;have HTY:=zh (HTK.out y hyy);clear hyy HTK;subst hag;obtain⟨wc,hwc⟩:∃wc,wr.alloc (.cells #[.int .i64 y.k,.int .i64 y.n,.string y.s,.slice a1 n1 q1,.slice a2 n2 q2,.slice a3 n3 q3] 25)=wc:=⟨_,rfl⟩
   have hbc:Below wr.heap.size wr wc:=by rw[←hwc];exact(Below.refl _ _).alloc (Nat.le_refl _) _
   have hsix:=Dt.six_new wr y.k y.n y.s (.slice a1 n1 q1) (.slice a2 n2 q2) (.slice a3 n3 q3) 25;rw[hwc]at hsix;have z0:wc.cell? ⟨wr.heap.size,0,none⟩=some (.int .i64 y.k):=hsix 0 (by omega);have z1:wc.cell? ⟨wr.heap.size,1,none⟩=some (.int .i64 y.n):=hsix 1 (by omega);have z2:wc.cell? ⟨wr.heap.size,2,none⟩=some (.string y.s):=hsix 2 (by omega);have z3:wc.cell? ⟨wr.heap.size,3,none⟩=some (.slice a1 n1 q1):=hsix 3 (by omega);have z4:wc.cell? ⟨wr.heap.size,4,none⟩=some (.slice a2 n2 q2):=hsix 4 (by omega);have z5:wc.cell? ⟨wr.heap.size,5,none⟩=some (.slice a3 n3 q3):=hsix 5 (by omega);have hcb:wc.cell? ⟨B,0,none⟩=some (.func (.func 23) #[] #[]):=(HB.out.below hbl).below hbc;have hcall:=hy F (.slice a1 n1 q1) (.slice a2 n2 q2) (.slice a3 n3 q3) wc hwf hfi (hrp.below hbc);have HRo:=zh (hRo.below hbc);have HPD:=zh hpd;have HBL:=zh ((btr hbl hbc));have hsz:w.heap.size≤wc.heap.size:=HBL.out.size;clear hsix hy hwf hfi hrp hRo hpd hbl hbc HI hgl;go_wp2_with fail
   refine hcall.mono ?_;rintro e w2 ⟨⟨um,ul,ut,rfl,hr2⟩,hb2⟩;obtain⟨b1,m1,p1,b2,m2,p2,b3,m3,p3,rfl,rfl,rfl⟩:=hr2.forms;have hm1:j+1≤maxLen:=by unfold maxLen;omega
   have hm2:(j+1)*104≤140737488355328:=by omega
   have HO2:=zh (Dt.own_below HRo.out.row hb2);have HW2:Hid (∀v' w5,w5.ownsRow w.heap.size 25 6 v' (ps.length+1) (Dt.flatP ps++[.int .i64 y.k,.int .i64 y.n,.string y.s,.slice b1 m1 p1,.slice b2 m2 p2,.slice b3 m3 p3])→(w2.alloc (.cells #[.int .i64 y.k,.int .i64 y.n,.string y.s,.slice b1 m1 p1,.slice b2 m2 p2,.slice b3 m3 p3] 25)).grownBy w5 (Value.slice a' j c').ownBlock→(v'.ownBlock=(Value.slice a' j c').ownBlock∨v'.ownBlock=some (w2.alloc (.cells #[.int .i64 y.k,.int .i64 y.n,.string y.s,.slice b1 m1 p1,.slice b2 m2 p2,.slice b3 m3 p3] 25)).heap.size)→
     Dt.Rowing w5 w.heap.size v' (ps++[Dt.P.mk y (.slice b1 m1 p1) (.slice b2 m2 p2) (.slice b3 m3 p3)])∧(ps++[Dt.P.mk y (.slice b1 m1 p1) (.slice b2 m2 p2) (.slice b3 m3 p3)]).map Dt.P.d=l.take (j+1)∧Below w.heap.size w w5):=by
    intro v' w5 hown hg hat;obtain⟨k1,k2⟩:=HRo.out.push (p:=Dt.P.mk y (.slice b1 m1 p1) (.slice b2 m2 p2) (.slice b3 m3 p3)) hsz hb2 hr2 ((Below.refl _ w2).alloc (Nat.le_refl _) _) hown hg hat;refine⟨k1,by rw[List.map_append,HPD.out];exact HTY.out,HBL.out.trans (k2.to_below (fun k hk=>(Dt.own_lt HRo.out.row k hk).1) hsz)⟩
   have HBB:Hid (w.heap.size≤w2.heap.size+1):=by show _≤_;have:=hb2.size;omega
   clear hcall z0 z1 z2 z3 z4 z5 hcb y0 y1 y2 y3 y4 y5 hr2 hb2 hwc hsz;subst hps;go_wp2_with(at_builtin;refine Ap.list rfl _ _ 23 rfl w.heap.size 25 i0 (.agg #[.int .i64 0,.int .i64 0,.string ⟨#[]⟩,.slice none 0 0,.slice none 0 0,.slice none 0 0]) 6 104 Tryz.underlying23 hi hz0 hz1 hz2 rfl (by decide) (.slice a' ps.length c') ps.length (Dt.flatP ps) rfl (HO2.out.alloc _) (.slice (some ⟨w2.heap.size,0,none⟩) 1 1) 1 [.int .i64 y.k,.int .i64 y.n,.string y.s,.slice b1 m1 p1,.slice b2 m2 p2,.slice b3 m3 p3] rfl (.inr ⟨_,_,rfl,World.news_of_block (cs:=#[.int .i64 y.k,.int .i64 y.n,.string y.s,.slice b1 m1 p1,.slice b2 m2 p2,.slice b3 m3 p3]) (t:=25) (fr:=(0,0)) (heap_alloc_new w2 _)⟩) rfl (by simp[Value.oneCell']) hm1 hm2 (by simpa using HBB.out) ?_;intro v' w5 hown hg hat;obtain⟨a5,c5,rfl⟩:=Dt.row_form hown;have HI5:=zh (HW2.out _ w5 hown hg hat);clear hown hg hat)
   go_roundw
   case rel=>exact⟨ps.length+1,ps++[Dt.P.mk y (.slice b1 m1 p1) (.slice b2 m2 p2) (.slice b3 m3 p3)],by simp,by omega,by simp,⟨a5,c5,rfl⟩,HI5⟩
   case measure=>simp[intOf];omega
  ·obtain rfl:j=l.length:=by omega
   have hge:(l.length:Int)≤(l.length:Int):=by omega
   have HX:Hid (Dt.EachPost w l (.returned (.slice a' l.length c')) wr):=by
    obtain⟨h1,h2,h3⟩:=HI.out;have:=h1.to_row;rw[h2,List.take_length]at this;exact⟨a',c',rfl,this,h3⟩
   go_wp2;go_ret;exact HX.out
namespace Dt
def OwnStart(w:World)(x:D)(al:Option Addr)(cl:Nat)(at':Option Addr)(ct:Nat)(wx:World):Prop:=∃a c,Box wx w.heap.size x (.slice a x.m.length c) (.slice al x.l.length cl) (.slice at' x.t.length ct)∧IRow (fun k=>w.heap.size+1+1<k) wx (.slice a x.m.length c) x.m∧Row (fun k=>k<w.heap.size) wx (.slice al x.l.length cl) x.l∧Row (fun k=>k<w.heap.size) wx (.slice at' x.t.length ct) x.t∧Below w.heap.size w wx∧wx.heap.size≥w.heap.size+3∧Box wx (w.heap.size+1+1) (.mk 0 0 ⟨#[]⟩ [] [] []) (.slice none 0 0) (.slice none 0 0) (.slice none 0 0)∧(∀j,wx.frozen? ⟨w.heap.size+1+1,j,none⟩=false)∧(∀j,wx.frozen? ⟨w.heap.size,j,none⟩=false)∧CBox wx (w.heap.size+1)
def OwnMid(w:World)(x:D)(wx:World):Prop:=∃a c al cl at' ct,Box wx w.heap.size x (.slice a x.m.length c) (.slice al x.l.length cl) (.slice at' x.t.length ct)∧IRow (fun k=>w.heap.size+1+1<k) wx (.slice a x.m.length c) x.m∧Row (fun k=>w.heap.size+1+1<k) wx (.slice al x.l.length cl) x.l∧Row (fun k=>w.heap.size+1+1<k) wx (.slice at' x.t.length ct) x.t∧Below w.heap.size w wx∧wx.heap.size≥w.heap.size+3∧Box wx (w.heap.size+1+1) (.mk 0 0 ⟨#[]⟩ [] [] []) (.slice none 0 0) (.slice none 0 0) (.slice none 0 0)∧(∀j,wx.frozen? ⟨w.heap.size+1+1,j,none⟩=false)
theorem Box.keep{S:Nat→Prop}{w w':World}{X:Nat}{d:D}{a b c:Value}(h:Box w X d a b c)(hk:Keep S w w')(hS:¬S X):Box w' X d a b c:=by
 obtain⟨h0,h1,h2,h3,h4,h5⟩:=h;have hl:=block_lt_of_cell h0;exact⟨(hk.cell 0 hl hS).trans h0,(hk.cell 1 hl hS).trans h1,(hk.cell 2 hl hS).trans h2,(hk.cell 3 hl hS).trans h3,(hk.cell 4 hl hS).trans h4,(hk.cell 5 hl hS).trans h5⟩
theorem cell_set_ne(w:World)(X i j:Nat)(v:Value)(h:i≠j):(w.setCell ⟨X,i,none⟩ v).cell? ⟨X,j,none⟩=w.cell? ⟨X,j,none⟩:=World.cell?_setCell_other _ _ _ _ (by intro e;cases e;exact h rfl)
theorem cell_set_eq(w:World)(X i:Nat)(v u:Value)(h:w.cell? ⟨X,i,none⟩=some u):(w.setCell ⟨X,i,none⟩ v).cell? ⟨X,i,none⟩=some v:=World.cell?_setCell_same' _ _ _ (by rw[h];rfl)
theorem frz_set(w:World)(X i:Nat)(v:Value)(Y j:Nat):(w.setCell ⟨X,i,none⟩ v).frozen? ⟨Y,j,none⟩=w.frozen? ⟨Y,j,none⟩:=World.frozen?_setCell _ _ _ _
theorem Box.set3{w:World}{X:Nat}{d:D}{a b c:Value}(h:Box w X d a b c)(v:Value):Box (w.setCell ⟨X,3,none⟩ v) X d v b c:=by
 obtain⟨h0,h1,h2,h3,h4,h5⟩:=h;exact⟨(cell_set_ne w X 3 0 v (by omega)).trans h0,(cell_set_ne w X 3 1 v (by omega)).trans h1,(cell_set_ne w X 3 2 v (by omega)).trans h2,cell_set_eq w X 3 v _ h3,(cell_set_ne w X 3 4 v (by omega)).trans h4,(cell_set_ne w X 3 5 v (by omega)).trans h5⟩
theorem Box.set4{w:World}{X:Nat}{d:D}{a b c:Value}(h:Box w X d a b c)(v:Value):Box (w.setCell ⟨X,4,none⟩ v) X d a v c:=by
 obtain⟨h0,h1,h2,h3,h4,h5⟩:=h;exact⟨(cell_set_ne w X 4 0 v (by omega)).trans h0,(cell_set_ne w X 4 1 v (by omega)).trans h1,(cell_set_ne w X 4 2 v (by omega)).trans h2,(cell_set_ne w X 4 3 v (by omega)).trans h3,cell_set_eq w X 4 v _ h4,(cell_set_ne w X 4 5 v (by omega)).trans h5⟩
theorem Box.set5{w:World}{X:Nat}{d:D}{a b c:Value}(h:Box w X d a b c)(v:Value):Box (w.setCell ⟨X,5,none⟩ v) X d a b v:=by
 obtain⟨h0,h1,h2,h3,h4,h5⟩:=h;exact⟨(cell_set_ne w X 5 0 v (by omega)).trans h0,(cell_set_ne w X 5 1 v (by omega)).trans h1,(cell_set_ne w X 5 2 v (by omega)).trans h2,(cell_set_ne w X 5 3 v (by omega)).trans h3,(cell_set_ne w X 5 4 v (by omega)).trans h4,cell_set_eq w X 5 v _ h5⟩
theorem frz_keep{S:Nat→Prop}{w w':World}{X:Nat}(h:∀j,w.frozen? ⟨X,j,none⟩=false)(hk:Keep S w w')(hX:X<w.heap.size)(hS:¬S X):∀j,w'.frozen? ⟨X,j,none⟩=false:=fun j=>(hk.frozen j hX hS).trans (h j)
theorem keep1(w:World)(X j:Nat)(v:Value):Keep (fun k=>k=X) w (w.setCell ⟨X,j,none⟩ v):=(Keep.refl (fun k=>k=X) w).setCell rfl j v
theorem IRow.mono{F G:Nat→Prop}{w:World}{v:Value}{m:List Int}(h:IRow F w v m)(hFG:∀b,F b→b<w.heap.size→G b):IRow G w v m:=by
 obtain⟨a,c,h1,h2,h3⟩:=h;refine⟨a,c,h1,h2,fun hn=> ?_⟩;obtain⟨b,o,e1,e2,e3,e4⟩:=h3 hn;exact⟨b,o,e1,hFG b e2 e3,e3,e4⟩
theorem Row.mono{F G:Nat→Prop}{w:World}{v:Value}{l:List D}(h:Row F w v l)(hFG:∀b,F b→b<w.heap.size→G b):Row G w v l:=by
 obtain⟨a,c,h1,h2,h3⟩:=h;refine⟨a,c,h1,h2,fun hn=> ?_⟩;obtain⟨b,o,e1,e2,e3,e4⟩:=h3 hn;exact⟨b,o,e1,hFG b e2 e3,e3,Reps.mono hFG l e4⟩
theorem OwnStart.mk'{w w3 w4:World}{x:D}{am al at':Option Addr}{cm cl ct c4:Nat}{a4:Option Addr}(hbox:Box w3 w.heap.size x (.slice am x.m.length cm) (.slice al x.l.length cl) (.slice at' x.t.length ct))(h0:Box w3 (w.heap.size+1+1) (.mk 0 0 ⟨#[]⟩ [] [] []) (.slice none 0 0) (.slice none 0 0) (.slice none 0 0))(hf0:∀j,w3.frozen? ⟨w.heap.size+1+1,j,none⟩=false)(hfx:∀j,w3.frozen? ⟨w.heap.size,j,none⟩=false)(hcb:CBox w3 (w.heap.size+1))(hb3:Below w.heap.size w w3)(hs3:w3.heap.size=w.heap.size+1+1+1)
  {F:Nat→Prop} (hrl:Row F w (.slice al x.l.length cl) x.l) (hrt:Row F w (.slice at' x.t.length ct) x.t) (hi:IRow (fun k=>w3.heap.size≤k) w4 (.slice a4 x.m.length c4) x.m) (hb4:Below w3.heap.size w3 w4):
  OwnStart w x al cl at' ct (w4.setCell ⟨w.heap.size,3,none⟩ (.slice a4 x.m.length c4)):=by
 have hk:=keep1 w4 w.heap.size 3 (.slice a4 x.m.length c4);have hs:=hb4.size;have hx4:w.heap.size<w4.heap.size:=by omega
 have hb:Below w.heap.size w w4:=hb3.trans (hb4.mono (by omega));have hrl':=(Row.mono (G:=fun k=>k<w.heap.size) hrl (fun _ _ h=>h)).below hb;have hrt':=(Row.mono (G:=fun k=>k<w.heap.size) hrt (fun _ _ h=>h)).below hb;exact⟨a4,c4,(hbox.below hb4).set3 _,(hi.mono (G:=fun k=>w3.heap.size≤k) (fun _ h _=>h)).keep hk (fun b hb _ e=>by omega) |>.mono (fun b h _=>by omega),hrl'.keep hk (fun b hb _ e=>by omega),hrt'.keep hk (fun b hb _ e=>by omega),hb.setCell (p:=⟨w.heap.size,3,none⟩) (Nat.le_refl _) _,by rw[World.size_setCell];omega,(h0.below hb4).keep hk (by omega),frz_keep (fun j=>(hb4.frozen (p:=⟨_,j,none⟩) (by show w.heap.size+1+1<_;omega)).trans (hf0 j)) hk (by omega) (by omega),fun j=>(World.frozen?_setCell _ _ _ _).trans ((hb4.frozen (p:=⟨_,j,none⟩) (by show w.heap.size<_;omega)).trans (hfx j)),(hk.cell 0 (by omega) (by omega)).trans (hcb.below hb4)⟩
theorem OwnMid.mk'{w w5 w6 w7:World}{x:D}{al at':Option Addr}{cl ct:Nat}(h:OwnStart w x al cl at' ct w5){a6 a7:Option Addr}{c6 c7:Nat}(hr6:Row (fun k=>w5.drew.heap.size≤k) w6 (.slice a6 x.l.length c6) x.l)(hb6:Below w5.drew.heap.size w5.drew w6)(hr7:Row (fun k=>w6.heap.size≤k) w7 (.slice a7 x.t.length c7) x.t)(hb7:Below w6.heap.size w6 w7):
  w7.cell? ⟨w.heap.size,4,none⟩=some (.slice al x.l.length cl)∧w7.cell? ⟨w.heap.size,5,none⟩=some (.slice at' x.t.length ct)∧(∀j,w7.frozen? ⟨w.heap.size,j,none⟩=false)∧
  OwnMid w x ((w7.setCell ⟨w.heap.size,4,none⟩ (.slice a6 x.l.length c6)).setCell ⟨w.heap.size,5,none⟩ (.slice a7 x.t.length c7)):=by
 obtain⟨a,c,hbox,hi,_,_,hb,hs,h0,hf0,hfx,_⟩:=h;have hs6:w5.heap.size≤w6.heap.size:=hb6.size;have hb57:Below w5.heap.size w5 w7:=(⟨hb6.os,hb6.tape,hb6.output,hb6.size,hb6.block⟩:Below w5.heap.size w5 w6).trans (hb7.mono hs6);have hs7:=hb57.size;have hbox7:=hbox.below hb57;have hk:Keep (fun k=>k=w.heap.size) w7 ((w7.setCell ⟨w.heap.size,4,none⟩ (.slice a6 x.l.length c6)).setCell ⟨w.heap.size,5,none⟩ (.slice a7 x.t.length c7)):=(keep1 w7 _ 4 _).setCell rfl 5 _;have hfx7:∀j,w7.frozen? ⟨w.heap.size,j,none⟩=false:=fun j=>(hb57.frozen (p:=⟨w.heap.size,j,none⟩) (by show w.heap.size<_;omega)).trans (hfx j)
 refine⟨hbox7.2.2.2.2.1,hbox7.2.2.2.2.2,hfx7,a,c,a6,c6,a7,c7,(hbox7.set4 _).set5 _,?_,?_,?_,?_,?_,?_,?_⟩
 ·exact(hi.below hb57).keep hk (fun b hb _ e=>by omega) |>.mono (fun b h _=>by omega)
 ·exact((hr6.mono (G:=fun k=>w5.heap.size≤k) (fun _ h _=>h)).below hb7).keep hk (fun b hb _ e=>by omega) |>.mono (fun b h _=>by omega)
 ·exact hr7.keep hk (fun b hb _ e=>by omega) |>.mono (fun b h _=>by omega)
 ·exact(((btr hb hb57)).setCell (p:=⟨w.heap.size,4,none⟩) (Nat.le_refl _) _).setCell (p:=⟨w.heap.size,5,none⟩) (Nat.le_refl _) _
 ·rw[World.size_setCell,World.size_setCell];omega
 ·exact(h0.below hb57).keep hk (by omega)
 ·exact frz_keep (fun j=>(hb57.frozen (p:=⟨_,j,none⟩) (by show w.heap.size+1+1<_;omega)).trans (hf0 j)) hk (by omega) (by omega)
def six6(w:World)(Y:Nat)(x:D)(a b c:Value):World:=(((((w.setCell ⟨Y,0,none⟩ (.int .i64 x.k)).setCell ⟨Y,1,none⟩ (.int .i64 x.n)).setCell ⟨Y,2,none⟩ (.string x.s)).setCell ⟨Y,3,none⟩ a).setCell ⟨Y,4,none⟩ b).setCell ⟨Y,5,none⟩ c
theorem six6_keep(w:World)(Y:Nat)(x:D)(a b c:Value):Keep (fun k=>k=Y) w (six6 w Y x a b c):=(((((keep1 w Y 0 _).setCell rfl 1 _).setCell rfl 2 _).setCell rfl 3 _).setCell rfl 4 _).setCell rfl 5 _
def Own6(w:World)(x:D)(a6:Option Addr)(c6:Nat)(a7:Option Addr)(c7:Nat)(a8:Option Addr)(c8:Nat)(Y:Nat)(wc:World):Prop:=
 Fresh w.heap.size (six6 wc Y x (.slice a6 x.m.length c6) (.slice a7 x.l.length c7) (.slice a8 x.t.length c8)) x (.returned (.agg #[.int .i64 x.k,.int .i64 x.n,.string x.s,.slice a6 x.m.length c6,.slice a7 x.l.length c7,.slice a8 x.t.length c8]))∧Below w.heap.size w (six6 wc Y x (.slice a6 x.m.length c6) (.slice a7 x.l.length c7) (.slice a8 x.t.length c8))
theorem Own6.mk'{w wc:World}{x:D}{a6 a7 a8:Option Addr}{c6 c7 c8:Nat}{Y:Nat}(h1:IRow (fun k=>w.heap.size+1+1<k) wc (.slice a6 x.m.length c6) x.m)(h2:Row (fun k=>w.heap.size+1+1<k) wc (.slice a7 x.l.length c7) x.l)(h3:Row (fun k=>w.heap.size+1+1<k) wc (.slice a8 x.t.length c8) x.t)(hb:Below w.heap.size w wc)(hY:Y=w.heap.size+1+1):Own6 w x a6 c6 a7 c7 a8 c8 Y wc:=by
 have hk:=six6_keep wc Y x (.slice a6 x.m.length c6) (.slice a7 x.l.length c7) (.slice a8 x.t.length c8);refine⟨⟨_,_,_,rfl,(rep_iff _ _ _ _ _ _).2 ⟨?_,?_,?_⟩⟩,hb.trans (hk.to_below (fun k e=>by omega) hb.size)⟩
 ·exact(h1.keep hk (fun b hb _ e=>by omega)).mono (fun b h _=>by omega)
 ·exact(h2.keep hk (fun b hb _ e=>by omega)).mono (fun b h _=>by omega)
 ·exact(h3.keep hk (fun b hb _ e=>by omega)).mono (fun b h _=>by omega)
end Dt
set_option maxRecDepth 100000 in
set_option maxHeartbeats 8000000 in
theorem own_step(x:Dt.D)(hl:∀y∈x.l,Dt.Own y)(ht:∀y∈x.t,Dt.Own y):Dt.Own x:=by
 intro F vm vl vt w hW hF hR;obtain⟨hm,⟨al,cl,rfl,hcl⟩,⟨at_,ct,rfl,hct⟩⟩:=(Dt.rep_iff _ _ _ _ _ _).1 hR;have hrl:=((Dt.rep_iff _ _ _ _ _ _).1 hR).2.1;have hrt:=((Dt.rep_iff _ _ _ _ _ _).1 hR).2.2;have hm0:=hm;obtain⟨am,cm,rfl,hcm⟩:=hm;obtain⟨f1,f2,f3,f4,f5⟩:=Dt.fine_parts hF;obtain⟨w1,hw1⟩:∃w1,w.alloc (.cells #[.int .i64 x.k,.int .i64 x.n,.string x.s,.slice am x.m.length cm,.slice al x.l.length cl,.slice at_ x.t.length ct] 25)=w1:=⟨_,rfl⟩
 obtain⟨w2,hw2⟩:∃w2,w1.alloc (.cells #[.func (.func 23) #[] #[]] 46)=w2:=⟨_,rfl⟩
 obtain⟨w3,hw3⟩:∃w3,w2.alloc (.cells #[.int .i64 0,.int .i64 0,.string ⟨#[]⟩,.slice none 0 0,.slice none 0 0,.slice none 0 0] 25)=w3:=⟨_,rfl⟩
 have s1:w1.heap.size=w.heap.size+1:=by rw[←hw1];simp
 have s2:w2.heap.size=w.heap.size+1+1:=by rw[←hw2,World.size_alloc,s1]
 have s3:w3.heap.size=w.heap.size+1+1+1:=by rw[←hw3,World.size_alloc,s2]
 have hb1:Below w.heap.size w w1:=by rw[←hw1];exact(Below.refl _ _).alloc (Nat.le_refl _) _
 have hb2:Below w1.heap.size w1 w2:=by rw[←hw2];exact(Below.refl _ _).alloc (Nat.le_refl _) _
 have hb3:Below w2.heap.size w2 w3:=by rw[←hw3];exact(Below.refl _ _).alloc (Nat.le_refl _) _
 have hsix:=Dt.six_new w x.k x.n x.s (.slice am x.m.length cm) (.slice al x.l.length cl) (.slice at_ x.t.length ct) 25;rw[hw1]at hsix;have hbox1:Dt.Box w1 w.heap.size x (.slice am x.m.length cm) (.slice al x.l.length cl) (.slice at_ x.t.length ct):=⟨hsix 0 (by omega),hsix 1 (by omega),hsix 2 (by omega),hsix 3 (by omega),hsix 4 (by omega),hsix 5 (by omega)⟩
 have hbox3:=(hbox1.below hb2).below hb3;have hc2:=Dt.one_new w1 (.func (.func 23) #[] #[]) 46;rw[hw2,s1]at hc2;have hc3:w3.cell? ⟨w.heap.size+1,0,none⟩=some (.func (.func 23) #[] #[]):=Dt.CBox.below hc2 hb3;have hsix3:=Dt.six_new w2 0 0 ⟨#[]⟩ (.slice none 0 0) (.slice none 0 0) (.slice none 0 0) 25;rw[hw3,s2]at hsix3;have hbox0:Dt.Box w3 (w.heap.size+1+1) (.mk 0 0 ⟨#[]⟩ [] [] []) (.slice none 0 0) (.slice none 0 0) (.slice none 0 0):=⟨hsix3 0 (by omega),hsix3 1 (by omega),hsix3 2 (by omega),hsix3 3 (by omega),hsix3 4 (by omega),hsix3 5 (by omega)⟩
 have hfz3:∀j,w3.frozen? ⟨w.heap.size+1+1,j,none⟩=false:=fun j=>by have:=Dt.frz_new w2 #[.int .i64 0,.int .i64 0,.string ⟨#[]⟩,.slice none 0 0,.slice none 0 0,.slice none 0 0] 25 j;rw[hw3,s2]at this;exact this
 have hfx1:∀j,w1.frozen? ⟨w.heap.size,j,none⟩=false:=fun j=>by have:=Dt.frz_new w #[.int .i64 x.k,.int .i64 x.n,.string x.s,.slice am x.m.length cm,.slice al x.l.length cl,.slice at_ x.t.length ct] 25 j;rw[hw1]at this;exact this
 have hfx3:∀j,w3.frozen? ⟨w.heap.size,j,none⟩=false:=fun j=>(hb3.frozen (p:=⟨w.heap.size,j,none⟩) (by show w.heap.size<_;omega)).trans ((hb2.frozen (p:=⟨w.heap.size,j,none⟩) (by show w.heap.size<_;omega)).trans (hfx1 j))
 have hb13:Below w.heap.size w w3:=(hb1.trans (hb2.mono (by omega))).trans (hb3.mono (by omega));have hcl3:=cloneInts_any (.slice am x.m.length cm) x.m w3 (hm0.below hb13) f1;obtain⟨b0,b1,b2,b3,b4,b5⟩:=hbox3;have HRL:=zh hrl;have HRT:=zh hrt;have HL:=zh hl;have HT:=zh ht;have HW:=zh hW;have HB0:=zh hbox0;have HFZ:=zh hfz3;have HFX:=zh hfx3;have HB:=zh hb13;have HS3:=zh s3;have HF4:=zh f4;have HF5:=zh f5;clear hsix hsix3 hbox0 hfz3 hfx1 hfx3 hb1 hb2 hb3 hb13 hc2 hrl hrt hl ht hR hF hW hm0 s3 hbox1 f4 f5;go_enter Tryz.func81,Tryz.ntmps81;go_wp2_with fail
 clear hw1 hw2 hw3 s1 s2;refine hcl3.mono ?_;rintro e w4 ⟨v4,rfl,hi4,hb4⟩;obtain⟨a4,c4,rfl,_⟩:=id hi4;have e3:=(hb4.cell (p:=⟨w.heap.size,3,none⟩) (block_lt_of_cell b3)).trans b3;have g3:=(hb4.frozen (p:=⟨w.heap.size,3,none⟩) (block_lt_of_cell b3)).trans (HFX.out 3);have HMID:Hid (Dt.OwnStart w x al cl at_ ct (w4.setCell ⟨w.heap.size,3,none⟩ (.slice a4 x.m.length c4))):=Dt.OwnStart.mk' ⟨b0,b1,b2,b3,b4,b5⟩ HB0.out HFZ.out HFX.out hc3 HB.out HS3.out HRL.out HRT.out hi4 hb4;clear hcl3 hi4 hb4 b0 b1 b2 b3 b4 b5 hc3 hcm hcl hct;go_upto_region 3 with fail
 obtain⟨w5,hw5⟩:∃w5,w4.setCell ⟨w.heap.size,3,none⟩ (.slice a4 x.m.length c4)=w5:=⟨_,rfl⟩
 rw[hw5]at HMID ⊢;clear hw5 e3 g3
 go_cut [] (fun wx=>Dt.OwnMid w x wx)
 case first=>
  obtain⟨a5,c5,⟨b0,b1,b2,b3,b4,b5⟩,j1,j2,j3,j4,j5,j6,j7,j8,j9⟩:=id HMID.out;have hbd:Below w5.heap.size w5 w5.drew:=(Below.refl _ w5).drew;have HE3:=zh (each_any x.l HL.out al cl (w.heap.size+1) w5.drew (Dt.wf_l HW.out) HF4.out (j2.below hbd) f2 (j9.below hbd));have HE7:Hid (∀w6,Below w5.drew.heap.size w5.drew w6→Calls Tryz.prog 106 #[.slice at_ x.t.length ct,.pointer (some ⟨w.heap.size+1,0,none⟩)] w6 (Dt.EachPost w6 x.t)):=fun w6 h6=>each_any x.t HT.out at_ ct (w.heap.size+1) w6 (Dt.wf_t HW.out) HF5.out ((j3.below hbd).below h6) f3 ((j9.below hbd).below h6)
  have x4:w5.drew.cell? ⟨w.heap.size,4,none⟩=some (.slice al x.l.length cl):=b4;have x5:w5.drew.cell? ⟨w.heap.size,5,none⟩=some (.slice at_ x.t.length ct):=b5;clear b0 b1 b2 b3 b4 b5 j1 j2 j3 j4 j5 j6 j7 j8 j9 hbd;refine wp_region_noPanic ?_;refine wp_region_held_drew (S:=fun _=>True) (by kernel_rfl) trivial (fun hHeld=> ?_);refine Zm.u 0 ?_ rfl ?_ ?_;rotate_left
  ·intro w hSw;try dsimp only at hSw
   go_simp;try with_reducible rfl
  simp only[Act.put,za,zb,zc];refine Zm.u 1 ?_ rfl ?_ ?_;rotate_left
  ·intro w hSw;try dsimp only at hSw
   go_simp;try with_reducible rfl
  simp only[Act.put,za,zb,zc];refine Zm.u 4 ?_ rfl ?_ ?_;rotate_left
  ·intro w hSw;try dsimp only at hSw
   go_simp;try with_reducible rfl
  simp only[Act.put,za,zb,zc];refine Zm.u 5 ?_ rfl ?_ ?_;rotate_left
  ·intro w hSw;try dsimp only at hSw
   go_simp;try with_reducible rfl
  simp only[Act.put,za,zb,zc];refine wpAnyH_ready (rs:=[2,6]) (by kernel_rfl) (by simp) ?_;refine AllReadyH.cons (o:=⟨_,_,_,_,_,_⟩) rfl (fun K hK=> ?_) ?_
  ·go_simp;refine hK.out _ _ ?_ (fun hHeld=> ?_)
   ·trivial
   clear hK K;try simp only[Act.put,za,zb,zc]
   refine wpAnyH_ready (rs:=[3,6]) (by kernel_rfl) (by simp) ?_;refine AllReadyH.cons (o:=⟨_,_,_,_,_,_⟩) rfl (fun K hK=> ?_) ?_
   ·go_simp;refine HE3.out.mono ?_;rintro e w6 ⟨a6,c6,rfl,hr6,hb6⟩;have x6:=(hb6.cell (p:=⟨w.heap.size,5,none⟩) (block_lt_of_cell x5)).trans x5;dsimp only;refine hK.out _ _ ?_ (fun hHeld=> ?_)
    ·trivial
    clear hK K;try simp only[Act.put,za,zb,zc]
    refine Zm.r 6 rfl (fun K hK=> ?_);go_simp;refine hK.out _ _ ?_ (fun hHeld=> ?_)
    ·trivial
    clear hK K;try simp only[Act.put,za,zb,zc]
    refine Zm.u 8 ?_ rfl ?_ ?_;rotate_left
    ·intro w hSw;try dsimp only at hSw
     go_simp;try with_reducible rfl
    simp only[Act.put,za,zb,zc];refine Zm.r 7 rfl (fun K hK=> ?_);go_simp;refine(HE7.out w6 hb6).mono ?_;rintro e w7 ⟨a7,c7,rfl,hr7,hb7⟩;obtain⟨y4,y5,yf,hmid⟩:=Dt.OwnMid.mk' HMID.out hr6 hb6 hr7 hb7;have y4f:=yf 4;have y5f:=yf 5;have y5':=(Dt.cell_set_ne w7 w.heap.size 4 5 (.slice a6 x.l.length c6) (by omega)).trans y5;have y5f':=(Dt.frz_set w7 w.heap.size 4 (.slice a6 x.l.length c6) w.heap.size 5).trans y5f;dsimp only;refine hK.out _ _ ?_ (fun hHeld=> ?_)
    ·trivial
    clear hK K;try simp only[Act.put,za,zb,zc]
    refine Zm.r 9 rfl (fun K hK=> ?_);go_simp;refine hK.out _ _ ?_ (fun hHeld=> ?_)
    ·trivial
    clear hK K;try simp only[Act.put,za,zb,zc]
    refine Zm.u 10 ?_ rfl ?_ ?_;rotate_left
    ·intro w hSw;try dsimp only at hSw
     go_simp;try with_reducible rfl
    simp only[Act.put,za,zb,zc];refine Zm.r 11 rfl (fun K hK=> ?_);go_simp;refine hK.out _ _ ?_ (fun hHeld=> ?_)
    ·trivial
    clear hK K;try simp only[Act.put,za,zb,zc]
    refine wpAnyH_done (by kernel_rfl) ?_ _;refine NoPanic.normal ?_;go_wp2_with fail
    go_meet;exact hmid
   refine AllReadyH.cons (o:=⟨_,_,_,_,_,_⟩) rfl (fun K hK=> ?_) AllReadyH.nil;go_simp;refine hK.out _ _ ?_ (fun hHeld=> ?_)
   ·trivial
   clear hK K;try simp only[Act.put,za,zb,zc]
   refine Zm.r 3 rfl (fun K hK=> ?_);go_simp;refine HE3.out.mono ?_;rintro e w6 ⟨a6,c6,rfl,hr6,hb6⟩;have x6:=(hb6.cell (p:=⟨w.heap.size,5,none⟩) (block_lt_of_cell x5)).trans x5;dsimp only;refine hK.out _ _ ?_ (fun hHeld=> ?_)
   ·trivial
   clear hK K;try simp only[Act.put,za,zb,zc]
   refine Zm.u 8 ?_ rfl ?_ ?_;rotate_left
   ·intro w hSw;try dsimp only at hSw
    go_simp;try with_reducible rfl
   simp only[Act.put,za,zb,zc];refine Zm.r 7 rfl (fun K hK=> ?_);go_simp;refine(HE7.out w6 hb6).mono ?_;rintro e w7 ⟨a7,c7,rfl,hr7,hb7⟩;obtain⟨y4,y5,yf,hmid⟩:=Dt.OwnMid.mk' HMID.out hr6 hb6 hr7 hb7;have y4f:=yf 4;have y5f:=yf 5;have y5':=(Dt.cell_set_ne w7 w.heap.size 4 5 (.slice a6 x.l.length c6) (by omega)).trans y5;have y5f':=(Dt.frz_set w7 w.heap.size 4 (.slice a6 x.l.length c6) w.heap.size 5).trans y5f;dsimp only;refine hK.out _ _ ?_ (fun hHeld=> ?_)
   ·trivial
   clear hK K;try simp only[Act.put,za,zb,zc]
   refine Zm.r 9 rfl (fun K hK=> ?_);go_simp;refine hK.out _ _ ?_ (fun hHeld=> ?_)
   ·trivial
   clear hK K;try simp only[Act.put,za,zb,zc]
   refine Zm.u 10 ?_ rfl ?_ ?_;rotate_left
   ·intro w hSw;try dsimp only at hSw
    go_simp;try with_reducible rfl
   simp only[Act.put,za,zb,zc];refine Zm.r 11 rfl (fun K hK=> ?_);go_simp;refine hK.out _ _ ?_ (fun hHeld=> ?_)
   ·trivial
   clear hK K;try simp only[Act.put,za,zb,zc]
   refine wpAnyH_done (by kernel_rfl) ?_ _;refine NoPanic.normal ?_;go_wp2_with fail
   go_meet;exact hmid
  refine AllReadyH.cons (o:=⟨_,_,_,_,_,_⟩) rfl (fun K hK=> ?_) AllReadyH.nil;go_simp;refine hK.out _ _ ?_ (fun hHeld=> ?_)
  ·trivial
  clear hK K;try simp only[Act.put,za,zb,zc]
  refine Zm.r 2 rfl (fun K hK=> ?_);go_simp;refine hK.out _ _ ?_ (fun hHeld=> ?_)
  ·trivial
  clear hK K;try simp only[Act.put,za,zb,zc]
  refine Zm.r 3 rfl (fun K hK=> ?_);go_simp;refine HE3.out.mono ?_;rintro e w6 ⟨a6,c6,rfl,hr6,hb6⟩;have x6:=(hb6.cell (p:=⟨w.heap.size,5,none⟩) (block_lt_of_cell x5)).trans x5;dsimp only;refine hK.out _ _ ?_ (fun hHeld=> ?_)
  ·trivial
  clear hK K;try simp only[Act.put,za,zb,zc]
  refine Zm.u 8 ?_ rfl ?_ ?_;rotate_left
  ·intro w hSw;try dsimp only at hSw
   go_simp;try with_reducible rfl
  simp only[Act.put,za,zb,zc];refine Zm.r 7 rfl (fun K hK=> ?_);go_simp;refine(HE7.out w6 hb6).mono ?_;rintro e w7 ⟨a7,c7,rfl,hr7,hb7⟩;obtain⟨y4,y5,yf,hmid⟩:=Dt.OwnMid.mk' HMID.out hr6 hb6 hr7 hb7;have y4f:=yf 4;have y5f:=yf 5;have y5':=(Dt.cell_set_ne w7 w.heap.size 4 5 (.slice a6 x.l.length c6) (by omega)).trans y5;have y5f':=(Dt.frz_set w7 w.heap.size 4 (.slice a6 x.l.length c6) w.heap.size 5).trans y5f;dsimp only;refine hK.out _ _ ?_ (fun hHeld=> ?_)
  ·trivial
  clear hK K;try simp only[Act.put,za,zb,zc]
  refine Zm.r 9 rfl (fun K hK=> ?_);go_simp;refine hK.out _ _ ?_ (fun hHeld=> ?_)
  ·trivial
  clear hK K;try simp only[Act.put,za,zb,zc]
  refine Zm.u 10 ?_ rfl ?_ ?_;rotate_left
  ·intro w hSw;try dsimp only at hSw
   go_simp;try with_reducible rfl
  simp only[Act.put,za,zb,zc];refine Zm.r 11 rfl (fun K hK=> ?_);go_simp;refine hK.out _ _ ?_ (fun hHeld=> ?_)
  ·trivial
  clear hK K;try simp only[Act.put,za,zb,zc]
  refine wpAnyH_done (by kernel_rfl) ?_ _;refine NoPanic.normal ?_;go_wp2_with fail
  go_meet;exact hmid
 case rest=>
  obtain⟨a6,c6,a7,c7,a8,c8,⟨b0,b1,b2,b3,b4,b5⟩,i1,i2,i3,i4,i5,⟨d0,d1,d2,d3,d4,d5⟩,i6⟩:=hcut;have k0:=i6 0;have k1:=i6 1;have k2:=i6 2;have k3:=i6 3;have k4:=i6 4;have k5:=i6 5;obtain⟨Y,hY⟩:∃Y,w.heap.size+1+1=Y:=⟨_,rfl⟩
  rw[hY]at d0 d1 d2 d3 d4 d5 k0 k1 k2 k3 k4 k5;have HY:=zh hY;have HE:Hid (Dt.Own6 w x a6 c6 a7 c7 a8 c8 Y wc):=Dt.Own6.mk' i1 i2 i3 i4 hY.symm;clear i1 i2 i3 i4 i5 i6;go_wp2;refine bodyPost_ret (v:= .agg #[.int .i64 x.k,.int .i64 x.n,.string x.s,.slice a6 x.m.length c6,.slice a7 x.l.length c7,.slice a8 x.t.length c8]) ?_ rfl ?_
  ·simp[results,Tryz.results81,go_sem, *]
  ·exact HE.out
mutual
theorem Dt.own_any:∀x:Dt.D,Dt.Own x
 | .mk k n s m l t=>own_step (.mk k n s m l t) (Dt.owns_any l) (Dt.owns_any t)
theorem Dt.owns_any:∀(l:List Dt.D) (y:Dt.D),y∈l→Dt.Own y
 |[],_,h=>absurd h (by simp)
 |x :: r,y,h=>(List.mem_cons.1 h).elim (fun e=>by rw[e];exact Dt.own_any x) (fun h'=>Dt.owns_any r y h')
end
namespace Dt
def clone(x:D):D:=if check x=0 then x else .mk 0 0 ⟨#[]⟩ [] [] []
theorem rep_zero(F:Nat→Prop)(w:World):Rep F w (.mk 0 0 ⟨#[]⟩ [] [] []) (.slice none 0 0) (.slice none 0 0) (.slice none 0 0):=
 (rep_iff _ _ _ _ _ _).2 ⟨⟨none,0,rfl,Nat.le_refl _,fun h=>absurd rfl h⟩,⟨none,0,rfl,Nat.le_refl _,fun h=>absurd rfl h⟩,⟨none,0,rfl,Nat.le_refl _,fun h=>absurd rfl h⟩⟩
end Dt
set_option maxRecDepth 100000 in
set_option maxHeartbeats 4000000 in
theorem dClone_any{F:Nat→Prop}(x:Dt.D)(vm vl vt:Value)(w:World)(hW:Dt.Wf x)(hR:Dt.Rep F w x vm vl vt):
  Calls Tryz.prog 59 #[.agg #[.int .i64 x.k,.int .i64 x.n,.string x.s,vm,vl,vt]] w fun e w'=>Dt.Fresh w.heap.size w' (Dt.clone x) e∧Below w.heap.size w w':=by
 obtain⟨a1,n1,q1,a2,n2,q2,a3,n3,q3,rfl,rfl,rfl⟩:=hR.forms;obtain⟨w2,hw2,hb2,hs2,hx2,hy2⟩:=Dt.boxes2 w x (.mk 0 0 ⟨#[]⟩ [] [] []) (.slice a1 n1 q1) (.slice a2 n2 q2) (.slice a3 n3 q3) (.slice none 0 0) (.slice none 0 0) (.slice none 0 0);have hck:=dCheck_any x _ _ _ w2 hW (hR.below hb2);have HR2:=zh (hR.below hb2);have HS2:=zh hs2;have HB2:=zh hb2;have HX:=zh hx2;have HY:=zh hy2;have HW:=zh hW;have HFZ:Hid (∀j,w2.frozen? ⟨w.heap.size+1,j,none⟩=false):=by
  intro j;rw[←hw2];have:=Dt.frz_new (w.alloc (.cells #[.int .i64 x.k,.int .i64 x.n,.string x.s,.slice a1 n1 q1,.slice a2 n2 q2,.slice a3 n3 q3] 25)) #[.int .i64 0,.int .i64 0,.string ⟨#[]⟩,.slice none 0 0,.slice none 0 0,.slice none 0 0] 25 j;rw[World.size_alloc]at this;exact this
 obtain⟨b0,b1,b2,b3,b4,b5⟩:=hx2;have hw2':(w.alloc (.cells #[.int .i64 x.k,.int .i64 x.n,.string x.s,.slice a1 n1 q1,.slice a2 n2 q2,.slice a3 n3 q3] 25)).alloc (.cells #[.int .i64 0,.int .i64 0,.string ⟨#[]⟩,.slice none 0 0,.slice none 0 0,.slice none 0 0] 25)=w2:=hw2;clear hR hW hs2 hb2 hy2 hw2;by_cases h0:Dt.check x=0
 ·have HC:Hid (Dt.clone x=x):=by show _=_;unfold Dt.clone;rw[if_pos h0]
  have HF:=zh (Dt.fine_of_check h0);rw[h0]at hck;rw[HC.out];clear h0;go_enter Tryz.func59,Tryz.ntmps59;go_wp2_with fail
  refine hck.mono ?_;rintro e w3 ⟨rfl,hb3⟩;obtain⟨c0,c1,c2,c3,c4,c5⟩:=HX.out.below hb3;have hown:=Dt.own_any x F (.slice a1 n1 q1) (.slice a2 n2 q2) (.slice a3 n3 q3) w3 HW.out HF.out (HR2.out.below hb3);have HB3:=zh hb3;clear hck hw2' hb3 b0 b1 b2 b3 b4 b5;go_wp2_with fail
  refine hown.mono ?_;rintro e w4 ⟨⟨um,ul,ut,rfl,hr4⟩,hb4⟩;obtain⟨b1,m1,p1,b2,m2,p2,b3,m3,p3,rfl,rfl,rfl⟩:=hr4.forms;have hb24:Below w2.heap.size w2 w4:=btr HB3.out hb4;obtain⟨d0,d1,d2,d3,d4,d5⟩:=HY.out.below hb24;have hl:w.heap.size+1<w2.heap.size:=by have:=HS2.out;omega
  have hf:∀j,w4.frozen? ⟨w.heap.size+1,j,none⟩=false:=fun j=>(hb24.frozen (p:=⟨w.heap.size+1,j,none⟩) hl).trans (HFZ.out j)
  have k0:=hf 0;have k1:=hf 1;have k2:=hf 2;have k3:=hf 3;have k4:=hf 4;have k5:=hf 5;have HE:Hid (Dt.Fresh w.heap.size (Dt.six6 w4 (w.heap.size+1) x (.slice b1 m1 p1) (.slice b2 m2 p2) (.slice b3 m3 p3)) x (.returned (.agg #[.int .i64 x.k,.int .i64 x.n,.string x.s,.slice b1 m1 p1,.slice b2 m2 p2,.slice b3 m3 p3]))∧Below w.heap.size w (Dt.six6 w4 (w.heap.size+1) x (.slice b1 m1 p1) (.slice b2 m2 p2) (.slice b3 m3 p3))):=by
   have hk:=Dt.six6_keep w4 (w.heap.size+1) x (.slice b1 m1 p1) (.slice b2 m2 p2) (.slice b3 m3 p3);have hs3:=HB3.out.size;have hs2:=HS2.out;have hr4':Dt.Rep (fun k=>w.heap.size+1<k) w4 x (.slice b1 m1 p1) (.slice b2 m2 p2) (.slice b3 m3 p3):=Dt.Rep.mono (fun b hb _=>by omega) x hr4;refine⟨⟨_,_,_,rfl,Dt.Rep.mono (fun b hb _=>by omega) x (Dt.Rep.keep hk (fun b hb _ e=>by omega) x hr4')⟩,((btr HB2.out hb24)).trans (hk.to_below (fun k e=>by omega) (by have:=hb24.size;omega))⟩
  clear hown hr4 hb4 hb24 hf c0 c1 c2 c3 c4 c5;go_wp2;refine bodyPost_ret (v:= .agg #[.int .i64 x.k,.int .i64 x.n,.string x.s,.slice b1 m1 p1,.slice b2 m2 p2,.slice b3 m3 p3]) ?_ rfl ?_
  ·simp[results,Tryz.results59,go_sem, *]
  ·exact HE.out
 ·have HC:Hid (Dt.clone x= .mk 0 0 ⟨#[]⟩ [] [] []):=by show _=_;unfold Dt.clone;rw[if_neg h0]
  have h1:(Dt.check x !=0)=true:=by simpa using h0
  have h2:(Dt.check x==0)=false:=by simpa using h0
  rw[HC.out];clear h0;go_enter Tryz.func59,Tryz.ntmps59;go_wp2_with fail
  refine hck.mono ?_;rintro e w3 ⟨rfl,hb3⟩;obtain⟨d0,d1,d2,d3,d4,d5⟩:=HY.out.below hb3;have hl:w.heap.size+1<w2.heap.size:=by have:=HS2.out;omega
  have hf:∀j,w3.frozen? ⟨w.heap.size+1,j,none⟩=false:=fun j=>(hb3.frozen (p:=⟨w.heap.size+1,j,none⟩) hl).trans (HFZ.out j)
  have k0:=hf 0;have k1:=hf 1;have k2:=hf 2;have k3:=hf 3;have k4:=hf 4;have k5:=hf 5;have HE:Hid (∀u,Keep (fun k=>k=w.heap.size+1) w3 u→Below w.heap.size w u):=by
   intro u hu;exact((btr HB2.out hb3)).trans (hu.to_below (fun k e=>by omega) (by have:=hb3.size;omega))
  clear hck hw2' hb3 hf b0 b1 b2 b3 b4 b5;simp only[Dt.D.k,Dt.D.n,Dt.D.s]at d0 d1 d2;go_wp2;refine bodyPost_ret (v:= .agg #[.int .i64 0,.int .i64 0,.string ⟨#[]⟩,.slice none 0 0,.slice none 0 0,.slice none 0 0]) ?_ rfl ?_
  ·simp[results,Tryz.results59,go_sem, *]
  ·exact⟨⟨_,_,_,rfl,Dt.rep_zero _ _⟩,HE.out _ (Dt.six6_keep w3 (w.heap.size+1) (.mk 0 0 ⟨#[]⟩ [] [] []) (.slice none 0 0) (.slice none 0 0) (.slice none 0 0))⟩
end Go.Proofs.YtfjmlfbohenmfaaGreat
