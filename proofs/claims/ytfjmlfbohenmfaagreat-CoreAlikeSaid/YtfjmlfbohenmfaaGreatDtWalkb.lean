/-
 datum.walk's inner function, datum.Check, at whatever datum.
-/
import Derived.Test.YtfjmlfbohenmfaaGreatDtSingleKb
import Derived.Laws.EntriesVeiled
import Derived.Deep.Draws
import Derived.Test.YtfjmlfbohenmfaaGreatCoreBBM2
namespace Go.Proofs.YtfjmlfbohenmfaaGreat
open Go.RowKit
namespace Dt
mutual
theorem chk_le:∀(d:D) (deep p:Nat),p≤4096→(chk d deep p).2≤4096
 | .mk k n s m l t,deep,p,h=>by
  rw[chk];split
  ·exact h
  ·split
   ·exact h
   ·split
    ·have h1:=chks_le l (deep+1) (p+1) (by omega);split
     ·exact chks_le t (deep+1) _ h1
     ·exact h1
    ·exact h
theorem chks_le:∀(l:List D) (deep p:Nat),p≤4096→(chks l deep p).2≤4096
 |[],_,p,h=>by rw[chks];exact h
 |d :: r,deep,p,h=>by
  rw[chks];have h1:=chk_le d deep p h;split
  ·exact chks_le r deep _ h1
  ·exact h1
end
theorem eqlIn_see(d:Nat)(w:World):(Op.equalIn (d+1) 105 .nilFunc .nilFunc).run Tryz.prog w= .ok true w:=by
 simp[Op.equalIn,run_underlying Tryz.underlying105]
theorem neq_see(w:World):(binOp .neq 105 .nilFunc .nilFunc).run Tryz.prog w= .ok (.bool false) w:=by
 have h:=eqlIn_see 9999 w;have h2:(Op.equal 105 .nilFunc .nilFunc).run Tryz.prog w= .ok true w:=h;show((do pure (.bool (!(←Op.equal 105 .nilFunc .nilFunc))):Sem Value)).run _ _=_;rw[Sem.run_bind,h2]
 rfl
abbrev downF(p d s t u:Nat):Value:= .func (.func 104) #[] #[.pointer (some ⟨p,0,none⟩),.pointer (some ⟨d,0,none⟩),.pointer (some ⟨s,0,none⟩),.pointer (some ⟨t,0,none⟩),.pointer (some ⟨u,0,none⟩)]
structure Env(w:World)(p d s t u:Nat)(a:Nat)(b:Int):Prop where
 cp:w.cell? ⟨p,0,none⟩=some (.int .i64 (a:Int))
 cd:w.cell? ⟨d,0,none⟩=some (.int .i64 b)
 cs:w.cell? ⟨s,0,none⟩=some .nilFunc
 ct:w.cell? ⟨t,0,none⟩=some (.bool false)
 cu:w.cell? ⟨u,0,none⟩=some (downF p d s t u)
 fp:w.frozen? ⟨p,0,none⟩=false
 fd:w.frozen? ⟨d,0,none⟩=false
theorem Env.below{w w':World}{p d s t u a:Nat}{b:Int}(h:Env w p d s t u a b)(hb:Below w.heap.size w w'):Env w' p d s t u a b:=
 ⟨(hb.cell (p:=⟨p,0,none⟩) (block_lt_of_cell h.cp)).trans h.cp,(hb.cell (p:=⟨d,0,none⟩) (block_lt_of_cell h.cd)).trans h.cd,(hb.cell (p:=⟨s,0,none⟩) (block_lt_of_cell h.cs)).trans h.cs,(hb.cell (p:=⟨t,0,none⟩) (block_lt_of_cell h.ct)).trans h.ct,(hb.cell (p:=⟨u,0,none⟩) (block_lt_of_cell h.cu)).trans h.cu,(hb.frozen (p:=⟨p,0,none⟩) (block_lt_of_cell h.cp)).trans h.fp,(hb.frozen (p:=⟨d,0,none⟩) (block_lt_of_cell h.cd)).trans h.fd⟩
structure Five(p d s t u:Nat):Prop where
 pd:p≠d
 ps:p≠s
 pt:p≠t
 pu:p≠u
 ds:d≠s
 dt:d≠t
 du:d≠u
theorem Env.count{w:World}{p d s t u a:Nat}{b:Int}(h:Env w p d s t u a b)(g:Five p d s t u)(a':Nat)(v b':Int)(hv:v=(a':Int)):Env ((w.setCell ⟨p,0,none⟩ (.int .i64 v)).setCell ⟨d,0,none⟩ (.int .i64 b')) p d s t u a' b':=by
 subst hv;have n:∀ {x y:Nat},x≠y→(⟨x,0,none⟩:Addr)≠⟨y,0,none⟩:=fun hxy e=>by cases e;exact hxy rfl
 refine⟨?_,?_,?_,?_,?_,?_,?_⟩
 ·exact(World.cell?_setCell_other _ _ _ _ (n (Ne.symm g.pd))).trans (World.cell?_setCell_same' _ _ _ (by rw[h.cp];rfl))
 ·exact World.cell?_setCell_same' _ _ _ (by rw[World.cell?_setCell_other _ _ _ _ (n g.pd),h.cd];rfl)
 ·exact(World.cell?_setCell_other _ _ _ _ (n g.ds)).trans ((World.cell?_setCell_other _ _ _ _ (n g.ps)).trans h.cs)
 ·exact(World.cell?_setCell_other _ _ _ _ (n g.dt)).trans ((World.cell?_setCell_other _ _ _ _ (n g.pt)).trans h.ct)
 ·exact(World.cell?_setCell_other _ _ _ _ (n g.du)).trans ((World.cell?_setCell_other _ _ _ _ (n g.pu)).trans h.cu)
 ·rw[World.frozen?_setCell,World.frozen?_setCell];exact h.fp
 ·rw[World.frozen?_setCell,World.frozen?_setCell];exact h.fd
def PD(p d k:Nat):Prop:=k=p∨k=d
def Down(x:D):Prop:=∀(F:Nat→Prop) (deep a:Nat) (b:Int) (vm vl vt:Value) (w:World) (p d s t u:Nat),Wf x→Rep F w x vm vl vt→(∀k,F k→¬PD p d k)→Env w p d s t u a b→Five p d s t u→deep≤65→a≤4096→
 Calls Tryz.prog 104 #[.agg #[.int .i64 x.k,.int .i64 x.n,.string x.s,vm,vl,vt],.int .i64 (deep:Int),.pointer (some ⟨p,0,none⟩),.pointer (some ⟨d,0,none⟩),.pointer (some ⟨s,0,none⟩),.pointer (some ⟨t,0,none⟩),.pointer (some ⟨u,0,none⟩)] w
  fun e w'=>e= .returned (.int .i64 (chk x deep a).1)∧(∃b',Env w' p d s t u (chk x deep a).2 b')∧Keep (PD p d) w w'
theorem gen{P:Program}{c:Code}{Q:Exit→Act→World→Prop}{act:Act}{w2:World}{p d s t u a:Nat}{b v b':Int}{x y:Value}{T:TypeId}(h:Env w2 p d s t u a b)(g:Five p d s t u)(hv:v=((a+1:Nat):Int))
  (k:∀w3,(∃b',Env w3 p d s t u (a+1) b')→Keep (PD p d) w2 w3→w3.cell? ⟨w2.heap.size,0,none⟩=some x→w3.cell? ⟨w2.heap.size,1,none⟩=some y→w2.heap.size<w3.heap.size→Code.wp P c Q act w3):
  Code.wp P c Q act (((w2.setCell ⟨p,0,none⟩ (.int .i64 v)).setCell ⟨d,0,none⟩ (.int .i64 b')).alloc (.cells #[x,y] T)):=by
 have hz:((w2.setCell ⟨p,0,none⟩ (.int .i64 v)).setCell ⟨d,0,none⟩ (.int .i64 b')).heap.size=w2.heap.size:=by simp[World.setCell]
 have hE:=(h.count g (a+1) v b' hv).below ((Below.refl _ _).alloc (Nat.le_refl _) (.cells #[x,y] T));have hh:=heap_alloc_new ((w2.setCell ⟨p,0,none⟩ (.int .i64 v)).setCell ⟨d,0,none⟩ (.int .i64 b')) (.cells #[x,y] T);rw[hz]at hh;refine k _ ⟨b',hE⟩ ((((Keep.refl _ w2).setCell (B:=p) (.inl rfl) 0 _).setCell (B:=d) (.inr rfl) 0 _).alloc _) ?_ ?_ (by rw[World.size_alloc,hz];omega)
 ·unfold World.cell?;rw[hh];rfl
 ·unfold World.cell?;rw[hh];rfl
def At(x:D)(deep a:Nat)(M:Int×Nat)(i q:Nat):Prop:=(i=0∧q=a+1)∨(i=1∧chks x.l (deep+1) (a+1)=(0,q))∨(i=2∧M=(0,q))
theorem Rep.forms{F:Nat→Prop}{w:World}{d:D}{vm vl vt:Value}(h:Rep F w d vm vl vt):∃a1 n1 c1 a2 n2 c2 a3 n3 c3,vm= .slice a1 n1 c1∧vl= .slice a2 n2 c2∧vt= .slice a3 n3 c3:=by
 obtain⟨⟨a1,c1,h1,_⟩,⟨a2,c2,h2,_⟩,⟨a3,c3,h3,_⟩⟩:=(rep_iff F w d vm vl vt).1 h;exact⟨a1,_,c1,a2,_,c2,a3,_,c3,h1,h2,h3⟩
theorem wf_l{d:D}(h:Wf d):Wfs d.l:=by cases d;rw[Wf]at h;exact h.2.2.2.2.2.1
theorem wf_len{d:D}(h:Wf d):d.l.length≤140737488355328∧d.t.length≤140737488355328:=by cases d;rw[Wf]at h;exact⟨h.2.2.2.1,h.2.2.2.2.1⟩
theorem wf_t{d:D}(h:Wf d):Wfs d.t:=by cases d;rw[Wf]at h;exact h.2.2.2.2.2.2
theorem six_new(w:World)(x y:Int)(s:ByteArray)(vm vl vt:Value)(t:TypeId):∀j,j<6→(w.alloc (.cells #[.int .i64 x,.int .i64 y,.string s,vm,vl,vt] t)).cell? ⟨w.heap.size,j,none⟩=#[Value.int .i64 x,.int .i64 y,.string s,vm,vl,vt][j]?:=fun j _=>by
 unfold World.cell?;rw[heap_alloc_new];rfl
theorem two_new(w:World)(x y:Value)(t:TypeId):(w.alloc (.cells #[x,y] t)).cell? ⟨w.heap.size,0,none⟩=some x∧(w.alloc (.cells #[x,y] t)).cell? ⟨w.heap.size,1,none⟩=some y:=by
 have h:=heap_alloc_new w (.cells #[x,y] t);exact⟨by unfold World.cell?;rw[h];rfl,by unfold World.cell?;rw[h];rfl⟩
theorem chk_deep{d:D}{deep p:Nat}(h:64<deep):chk d deep p=(4,p):=by cases d;rw[chk,if_pos h]
theorem chk_long{d:D}{deep p:Nat}(h:¬64<deep)(h':4096≤p):chk d deep p=(3,p):=by cases d;rw[chk,if_neg h,if_pos h']
theorem chk_bad{d:D}{deep p:Nat}(h:¬64<deep)(h':¬4096≤p)(hs:single d=false):chk d deep p=(20,p):=by cases d;rw[chk,if_neg h,if_neg h',hs];rfl
theorem chk_good{d:D}{deep p:Nat}(h:¬64<deep)(h':¬4096≤p)(hs:single d=true):chk d deep p=if(chks d.l (deep+1) (p+1)).1=0 then chks d.t (deep+1) (chks d.l (deep+1) (p+1)).2 else chks d.l (deep+1) (p+1):=by
 cases d;rw[chk,if_neg h,if_neg h',hs,if_pos rfl]
 rfl
theorem chks_drop{L:List D}{deep q:Nat}{j:Nat}(hj:j<L.length):chks (L.drop j) deep q=if(chk L[j] deep q).1=0 then chks (L.drop (j+1)) deep (chk L[j] deep q).2 else chk L[j] deep q:=by
 rw[List.drop_eq_getElem_cons hj,chks]
end Dt
set_option maxRecDepth 100000 in
set_option maxHeartbeats 8000000 in
theorem down_step(x:Dt.D)(hl:∀y∈x.l,Dt.Down y)(ht:∀y∈x.t,Dt.Down y):Dt.Down x:=by
 intro F deep a b vm vl vt w p d s t u hW hR hF hE h5 hd ha;have hsg:=fun w h=>dSingle_any (F:=F) x vm vl vt w hW h
 obtain⟨w1,hw1⟩:∃w1,w.alloc (.cells #[.int .i64 x.k,.int .i64 x.n,.string x.s,vm,vl,vt] 25)=w1:=⟨_,rfl⟩
 have hb1:Below w.heap.size w w1:=by rw[←hw1];exact(Below.refl _ _).alloc (Nat.le_refl _) _
 have hE1:=hE.below hb1;have hR1:=hR.below hb1;have hz1:w.heap.size<w1.heap.size:=by rw[←hw1];simp
 have hsix:=Dt.six_new w x.k x.n x.s vm vl vt 25;rw[hw1]at hsix;have d0:w1.cell? ⟨w.heap.size,0,none⟩=some (.int .i64 x.k):=hsix 0 (by omega);have d1:w1.cell? ⟨w.heap.size,1,none⟩=some (.int .i64 x.n):=hsix 1 (by omega);have d2:w1.cell? ⟨w.heap.size,2,none⟩=some (.string x.s):=hsix 2 (by omega);have d3:w1.cell? ⟨w.heap.size,3,none⟩=some vm:=hsix 3 (by omega);have d4:w1.cell? ⟨w.heap.size,4,none⟩=some vl:=hsix 4 (by omega);have d5:w1.cell? ⟨w.heap.size,5,none⟩=some vt:=hsix 5 (by omega);have HE1:=zh hE1;have HB1:=zh hb1;have HR1:=zh hR1;obtain⟨hLb,hTb⟩:=Dt.wf_len hW;have HWL:=zh (Dt.wf_l hW);have HWT:=zh (Dt.wf_t hW);have HF:=zh hF;have H5:=zh h5;have HL:=zh hl;have HT:=zh ht;obtain⟨D0,hD0⟩:∃D0,w.heap.size=D0:=⟨_,rfl⟩
 rw[hD0]at d0 d1 d2 d3 d4 d5 hz1;have HE0:Hid (Dt.Env w p d s t u a b):=hE;have HD0:=zh hD0;clear hsix hE hR hE1 hR1 hb1 hW hF h5 hl ht;by_cases c1:64<deep
 ·have HC:=zh (Dt.chk_deep (d:=x) (p:=a) c1);have c1i:(64:Int)<(deep:Int):=by omega
  rw[HC.out];clear c1 hsg;go_enter Tryz.func104,Tryz.ntmps104;go_wp2;go_ret;exact⟨rfl,⟨b,HE1.out⟩,(Keep.refl _ w).below HB1.out⟩
 have c1i:¬ (64:Int)<(deep:Int):=by omega
 have cp:=HE1.out.cp;by_cases c2:4096≤a
 ·have HC:=zh (Dt.chk_long (d:=x) c1 c2);have c2i:(4096:Int)≤(a:Int):=by omega
  rw[HC.out];clear c1 c2 hsg;go_enter Tryz.func104,Tryz.ntmps104;go_wp2;go_ret;exact⟨rfl,⟨b,HE1.out⟩,(Keep.refl _ w).below HB1.out⟩
 have c2i:¬ (4096:Int)≤(a:Int):=by omega
 obtain⟨S,hS⟩:∃S,S=Dt.single x:=⟨_,rfl⟩
 rw[←hS]at hsg
 cases S with
 |false=>
  have HC:=zh (Dt.chk_bad (d:=x) c1 c2 hS.symm);rw[HC.out];clear c1 c2 hS;go_enter Tryz.func104,Tryz.ntmps104;go_wp2_with fail
  refine(hsg _ HR1.out).mono ?_;rintro e w2 ⟨rfl,hb2⟩;clear hsg hw1 hD0;have HE2:=zh (HE1.out.below hb2);have HK2:=zh (((Keep.refl (Dt.PD p d) w).below HB1.out).below hb2);clear hb2;go_wp2;go_ret;exact⟨rfl,⟨b,HE2.out⟩,HK2.out⟩
 |true=>
  have HC:=zh (Dt.chk_good (d:=x) c1 c2 hS.symm);clear hS;obtain⟨M,hM⟩:∃M,M=Dt.chk x deep a:=⟨_,rfl⟩
  rw[←hM]at HC ⊢;clear hM;go_enter Tryz.func104,Tryz.ntmps104;go_wp2_with fail
  refine(hsg _ HR1.out).mono ?_;rintro e w2 ⟨rfl,hb2⟩;clear hsg hw1 hD0 cp;have hE2:=HE1.out.below hb2;have HK2:=zh (((Keep.refl (Dt.PD p d) w).below HB1.out).below hb2);have e4:=(hb2.cell (p:=⟨D0,4,none⟩) hz1).trans d4;have e5:=(hb2.cell (p:=⟨D0,5,none⟩) hz1).trans d5;have hz2:=Nat.lt_of_lt_of_le hz1 hb2.size;have HR2:=zh ((Dt.rep_iff F w2 x vm vl vt).1 (HR1.out.below hb2));have HE2:=zh hE2;obtain⟨cp2,cd2,cs2,ct2,cu2,fp2,fd2⟩:=hE2;have hns:=Dt.neq_see;obtain⟨_,⟨al,cl,rfl,hcl,hL0⟩,⟨at_,ct,rfl,hct,hT0⟩⟩:=HR2.out;have HL0:=zh hL0;have HT0:=zh hT0;clear hL0 hT0;obtain⟨g1,g2,g3,g4,g5,g6,g7⟩:=H5.out;have hpD:p≠D0:=by have:=block_lt_of_cell HE0.out.cp;simp only at this;have:=HD0.out;omega
  have hdD:d≠D0:=by have:=block_lt_of_cell HE0.out.cd;simp only at this;have:=HD0.out;omega
  clear HE1 HB1 HR1 d0 d1 d2 d3 d4 d5 hz1 c1 c2;go_wp2_with fail
  all_goals
   refine Dt.gen HE2.out H5.out (by simp) ?_;intro w3 hE3 hK3 z0 z1 hz3;have HE3:=zh hE3;have HK3:=zh hK3;have HKW:=zh (HK2.out.trans hK3);obtain⟨G,hG⟩:∃G,w2.heap.size=G:=⟨_,rfl⟩
   have hpG:p≠G:=by have:=block_lt_of_cell HE2.out.cp;simp only at this;omega
   have hdG:d≠G:=by have:=block_lt_of_cell HE2.out.cd;simp only at this;omega
   rw[hG]at z0 z1 hz3 ⊢;clear hE3 hK3 hG cp2 cd2 cs2 ct2 cu2 fp2 fd2 e4 e5 hns hz2
   go_loopw [46] (fun v wr=>∃(i q:Nat),v= .int .i64 i∧q≤4096∧Hid (∃b',Dt.Env wr p d s t u q b')∧Hid (Keep (Dt.PD p d) w3 wr)∧Hid (Dt.At x deep a M i q)) (fun v _=>2 - (intOf v).toNat)
   case atStart=>exact⟨0,a+1,rfl,by omega,HE3.out,Keep.refl _ _,.inl ⟨rfl,rfl⟩⟩
   case round=>
    obtain⟨i,q0,rfl,hq0,HEQ,HKQ,HA⟩:=hrel;clear HE3;have z0r:=(HKQ.out.cell 0 hz3 (fun h=>h.elim (Ne.symm hpG) (Ne.symm hdG))).trans z0;have z1r:=(HKQ.out.cell 1 hz3 (fun h=>h.elim (Ne.symm hpG) (Ne.symm hdG))).trans z1;rcases HA.out with⟨rfl,h0⟩|⟨rfl,h0⟩|⟨rfl,h0⟩
    ·have HB0:=zh h0;clear h0 HA;go_wp2_with fail
     obtain⟨wo,hwo⟩:∃wo,wo=wr:=⟨_,rfl⟩
     rw[←hwo]at HEQ HKQ z0r z1r ⊢;clear hwo
     go_loopw [52] (fun v wr=>∃(j q:Nat),v= .int .i64 j∧j≤x.l.length∧q≤4096∧Hid (∃b',Dt.Env wr p d s t u q b')∧Hid (Keep (Dt.PD p d) w3 wr)∧Hid (Dt.chks x.l (deep+1) q0=Dt.chks (x.l.drop j) (deep+1) q)) (fun v _=>x.l.length - (intOf v).toNat)
     case atStart=>exact⟨0,q0,rfl,by omega,hq0,HEQ,HKQ,rfl⟩
     case round=>
      obtain⟨j,q,rfl,hj,hq,HEJ,HKJ,HD⟩:=hrel;clear HEQ HKQ z0r z1r;by_cases hlt:j<x.l.length
      case neg=>
       have hge:(x.l.length:Int)≤(j:Int):=by omega
       have HX:Hid (Dt.chks x.l (deep+1) q0=(0,q)):=by
        show _=_;rw[HD.out,List.drop_eq_nil_of_le (by omega),Dt.chks]
       go_wp2;go_roundw
       case rel=>exact⟨0+1,q,rfl,hq,HEJ,HKJ,.inr (.inl ⟨rfl,by rw[←HX.out,HB0.out]⟩)⟩
       case measure=>simp[intOf]
      have hlti:(j:Int)<(x.l.length:Int):=by omega
      have hdr:=Dt.chks_drop (deep:=deep+1) (q:=q) hlt;rw[←HD.out]at hdr;obtain⟨g,o,hao,hFg,hgl,hreps⟩:=HL0.out (by intro hc;rw[hc]at hlt;simp at hlt);have hreps':=Dt.Reps.keep (HK3.out.trans HKJ.out) (fun k hk _=>HF.out k hk) _ hFg hgl hreps;obtain⟨vmj,vlj,vtj,hsx,hrp⟩:=hreps'.at j hlt;obtain⟨a1,n1,c1,a2,n2,c2,a3,n3,c3,rfl,rfl,rfl⟩:=hrp.forms;have hy:=HL.out x.l[j] (List.getElem_mem hlt);have hwf:=HWL.out.at j hlt;obtain⟨y,hyy⟩:∃y,x.l[j]=y:=⟨_,rfl⟩
      rw[hyy]at hdr hsx hrp hy hwf;subst hao;obtain⟨y0,y1,y2,y3,y4,y5⟩:=hsx;obtain⟨bj,hEj⟩:=HEJ.out;obtain⟨wc,hwc⟩:∃wc,wr.alloc (.cells #[.int .i64 y.k,.int .i64 y.n,.string y.s,(.slice a1 n1 c1),(.slice a2 n2 c2),(.slice a3 n3 c3)] 25)=wc:=⟨_,rfl⟩
      have hbc:Below wr.heap.size wr wc:=by rw[←hwc];exact(Below.refl _ _).alloc (Nat.le_refl _) _
      have hcall:=hy F (deep+1) q bj (.slice a1 n1 c1) (.slice a2 n2 c2) (.slice a3 n3 c3) wc p d s t u hwf (hrp.below hbc) HF.out (hEj.below hbc) H5.out (by omega) hq;rw[show(((deep+1:Nat):Int))=(deep:Int)+1 by omega]at hcall;obtain⟨⟨e',q'⟩,hr⟩:∃r,r=Dt.chk y (deep+1) q:=⟨_,rfl⟩
      have hq':q'≤4096:=by have:=Dt.chk_le y (deep+1) q hq;rw[←hr]at this;exact this
      rw[←hr]at hcall hdr;have HCALL:=zh hcall;have HKC:=zh (HKJ.out.below hbc);have HDR:=zh hdr;have ct1:=hEj.ct;have hEc:=hEj.below hbc;have ct2:=hEc.ct;have cu2:=hEc.cu;have hsw:=Dt.six_new wr y.k y.n y.s (.slice a1 n1 c1) (.slice a2 n2 c2) (.slice a3 n3 c3) 25;rw[hwc]at hsw;obtain⟨YB,hYB⟩:∃YB,wr.heap.size=YB:=⟨_,rfl⟩
      rw[hYB]at hsw;have s0:wc.cell? ⟨YB,0,none⟩=some (.int .i64 y.k):=hsw 0 (by omega);have s1:wc.cell? ⟨YB,1,none⟩=some (.int .i64 y.n):=hsw 1 (by omega);have s2:wc.cell? ⟨YB,2,none⟩=some (.string y.s):=hsw 2 (by omega);have s3:wc.cell? ⟨YB,3,none⟩=some (.slice a1 n1 c1):=hsw 3 (by omega);have s4:wc.cell? ⟨YB,4,none⟩=some (.slice a2 n2 c2):=hsw 4 (by omega);have s5:wc.cell? ⟨YB,5,none⟩=some (.slice a3 n3 c3):=hsw 5 (by omega);clear hreps hreps' hy hwf hyy hcall hdr hEj hEc hr hbc hsw hrp hgl hFg hlt;go_wp2_with fail
      clear hwc;refine HCALL.out.mono ?_;rintro e w7 ⟨rfl,hE7,hk7⟩;have HE7:=zh hE7;have HK7:=zh (HKC.out.trans hk7);clear hE7 hk7 HCALL HKC ct1 ct2 cu2 s0 s1 s2 s3 s4 s5 y0 y1 y2 y3 y4 y5 hYB HKJ HEJ HD;by_cases he:e'=0
      ·subst he;have HDN:Hid (Dt.chks x.l (deep+1) q0=Dt.chks (x.l.drop (j+1)) (deep+1) q'):=by show _=_;rw[HDR.out];rfl
       clear HDR;go_wp2;go_roundw
       case rel=>first|exact⟨j+1,q',by simp,by omega,hq',HE7,HK7,HDN⟩|exact⟨_,_,_,_,_,_,_,_,_,_,_,_,_,_,_,_,_,⟨j+1,q',by simp,by omega,hq',HE7,HK7,HDN⟩,rfl⟩
       case measure=>simp[intOf];omega
      ·have he':(e'==0)=false:=by simpa using he
       have HDN:Hid (Dt.chks x.l (deep+1) q0=(e',q')):=by show _=_;rw[HDR.out,if_neg he]
       have HMN:Hid (M=(e',q')):=by
        show _=_;have hd1:=HDN.out;rw[HB0.out]at hd1;rw[HC.out,hd1,if_neg he]
       clear HDR;go_wp2;go_ret;exact⟨by rw[HMN.out];rfl,by rw[HMN.out];exact HE7.out,HKW.out.trans HK7.out⟩
    ·have HB0:=zh h0;clear h0 HA;go_wp2_with fail
     obtain⟨wo,hwo⟩:∃wo,wo=wr:=⟨_,rfl⟩
     rw[←hwo]at HEQ HKQ z0r z1r ⊢;clear hwo
     go_loopw [52] (fun v wr=>∃(j q:Nat),v= .int .i64 j∧j≤x.t.length∧q≤4096∧Hid (∃b',Dt.Env wr p d s t u q b')∧Hid (Keep (Dt.PD p d) w3 wr)∧Hid (Dt.chks x.t (deep+1) q0=Dt.chks (x.t.drop j) (deep+1) q)) (fun v _=>x.t.length - (intOf v).toNat)
     case atStart=>exact⟨0,q0,rfl,by omega,hq0,HEQ,HKQ,rfl⟩
     case round=>
      obtain⟨j,q,rfl,hj,hq,HEJ,HKJ,HD⟩:=hrel;clear HEQ HKQ z0r z1r;by_cases hlt:j<x.t.length
      case neg=>
       have hge:(x.t.length:Int)≤(j:Int):=by omega
       have HX:Hid (Dt.chks x.t (deep+1) q0=(0,q)):=by
        show _=_;rw[HD.out,List.drop_eq_nil_of_le (by omega),Dt.chks]
       go_wp2;go_roundw
       case rel=>exact⟨1+1,q,rfl,hq,HEJ,HKJ,.inr (.inr ⟨rfl,by rw[HC.out,HB0.out,if_pos rfl,HX.out]⟩)⟩
       case measure=>simp[intOf]
      have hlti:(j:Int)<(x.t.length:Int):=by omega
      have hdr:=Dt.chks_drop (deep:=deep+1) (q:=q) hlt;rw[←HD.out]at hdr;obtain⟨g,o,hao,hFg,hgl,hreps⟩:=HT0.out (by intro hc;rw[hc]at hlt;simp at hlt);have hreps':=Dt.Reps.keep (HK3.out.trans HKJ.out) (fun k hk _=>HF.out k hk) _ hFg hgl hreps;obtain⟨vmj,vlj,vtj,hsx,hrp⟩:=hreps'.at j hlt;obtain⟨a1,n1,c1,a2,n2,c2,a3,n3,c3,rfl,rfl,rfl⟩:=hrp.forms;have hy:=HT.out x.t[j] (List.getElem_mem hlt);have hwf:=HWT.out.at j hlt;obtain⟨y,hyy⟩:∃y,x.t[j]=y:=⟨_,rfl⟩
      rw[hyy]at hdr hsx hrp hy hwf;subst hao;obtain⟨y0,y1,y2,y3,y4,y5⟩:=hsx;obtain⟨bj,hEj⟩:=HEJ.out;obtain⟨wc,hwc⟩:∃wc,wr.alloc (.cells #[.int .i64 y.k,.int .i64 y.n,.string y.s,(.slice a1 n1 c1),(.slice a2 n2 c2),(.slice a3 n3 c3)] 25)=wc:=⟨_,rfl⟩
      have hbc:Below wr.heap.size wr wc:=by rw[←hwc];exact(Below.refl _ _).alloc (Nat.le_refl _) _
      have hcall:=hy F (deep+1) q bj (.slice a1 n1 c1) (.slice a2 n2 c2) (.slice a3 n3 c3) wc p d s t u hwf (hrp.below hbc) HF.out (hEj.below hbc) H5.out (by omega) hq;rw[show(((deep+1:Nat):Int))=(deep:Int)+1 by omega]at hcall;obtain⟨⟨e',q'⟩,hr⟩:∃r,r=Dt.chk y (deep+1) q:=⟨_,rfl⟩
      have hq':q'≤4096:=by have:=Dt.chk_le y (deep+1) q hq;rw[←hr]at this;exact this
      rw[←hr]at hcall hdr;have HCALL:=zh hcall;have HKC:=zh (HKJ.out.below hbc);have HDR:=zh hdr;have ct1:=hEj.ct;have hEc:=hEj.below hbc;have ct2:=hEc.ct;have cu2:=hEc.cu;have hsw:=Dt.six_new wr y.k y.n y.s (.slice a1 n1 c1) (.slice a2 n2 c2) (.slice a3 n3 c3) 25;rw[hwc]at hsw;obtain⟨YB,hYB⟩:∃YB,wr.heap.size=YB:=⟨_,rfl⟩
      rw[hYB]at hsw;have s0:wc.cell? ⟨YB,0,none⟩=some (.int .i64 y.k):=hsw 0 (by omega);have s1:wc.cell? ⟨YB,1,none⟩=some (.int .i64 y.n):=hsw 1 (by omega);have s2:wc.cell? ⟨YB,2,none⟩=some (.string y.s):=hsw 2 (by omega);have s3:wc.cell? ⟨YB,3,none⟩=some (.slice a1 n1 c1):=hsw 3 (by omega);have s4:wc.cell? ⟨YB,4,none⟩=some (.slice a2 n2 c2):=hsw 4 (by omega);have s5:wc.cell? ⟨YB,5,none⟩=some (.slice a3 n3 c3):=hsw 5 (by omega);clear hreps hreps' hy hwf hyy hcall hdr hEj hEc hr hbc hsw hrp hgl hFg hlt;go_wp2_with fail
      clear hwc;refine HCALL.out.mono ?_;rintro e w7 ⟨rfl,hE7,hk7⟩;have HE7:=zh hE7;have HK7:=zh (HKC.out.trans hk7);clear hE7 hk7 HCALL HKC ct1 ct2 cu2 s0 s1 s2 s3 s4 s5 y0 y1 y2 y3 y4 y5 hYB HKJ HEJ HD;by_cases he:e'=0
      ·subst he;have HDN:Hid (Dt.chks x.t (deep+1) q0=Dt.chks (x.t.drop (j+1)) (deep+1) q'):=by show _=_;rw[HDR.out];rfl
       clear HDR;go_wp2;go_roundw
       case rel=>first|exact⟨j+1,q',by simp,by omega,hq',HE7,HK7,HDN⟩|exact⟨_,_,_,_,_,_,_,_,_,_,_,_,_,_,_,_,_,⟨j+1,q',by simp,by omega,hq',HE7,HK7,HDN⟩,rfl⟩
       case measure=>simp[intOf];omega
      ·have he':(e'==0)=false:=by simpa using he
       have HDN:Hid (Dt.chks x.t (deep+1) q0=(e',q')):=by show _=_;rw[HDR.out,if_neg he]
       have HMN:Hid (M=(e',q')):=by
        show _=_;rw[HC.out,HB0.out,if_pos rfl,HDN.out]
       clear HDR;go_wp2;go_ret;exact⟨by rw[HMN.out];rfl,by rw[HMN.out];exact HE7.out,HKW.out.trans HK7.out⟩
    ·have HB0:=zh h0;clear h0 HA;go_wp2;go_ret;exact⟨by rw[HB0.out];rfl,by rw[HB0.out];exact HEQ.out,HKW.out.trans HKQ.out⟩
end Go.Proofs.YtfjmlfbohenmfaaGreat
