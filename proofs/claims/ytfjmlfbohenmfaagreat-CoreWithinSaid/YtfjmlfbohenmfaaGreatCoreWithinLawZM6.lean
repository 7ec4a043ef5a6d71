/-
  DtOwnPq, CoAlikeq, DtEqq, DtSamePq, CdModelq, CoAlikePq, CoSameq, CoFreeq, CoAlikeLq, CoSetsq, CoMarksq, ApNq, CoBesPq, DtOpenq, CdOpenq, CdOperq, CdWaysPq, CdAtq, CdFewq, CdIndexq, CdEqSq, CoWithinq, RdOpenDq, CoOpenq.
-/
import Derived.Test.YtfjmlfbohenmfaaGreatDtSameq
import Derived.Test.YtfjmlfbohenmfaaGreatCoreWithinLawZM2
import Derived.Test.YtfjmlfbohenmfaaGreatCoreWithinLawZM5
import Derived.Test.YtfjmlfbohenmfaaGreatDtCheckq
import Derived.Deep.Slices
import Derived.Deep.Fields
import Derived.SizedLaws
import Derived.Lib.SmallJoins
import Derived.Deep.QuietTactic
import Derived.BigQuiet
import Derived.Test.YtfjmlfbohenmfaaGreatDtAllq
set_option maxRecDepth 100000
set_option maxHeartbeats 32000000
namespace Go.Proofs.YtfjmlfbohenmfaaGreat
open Go.RowKit
namespace Dt
mutual
def Fine:D→Prop
 | .mk _ _ _ m l t=>m.length≤16∧l.length≤4096∧t.length≤4096∧Fines l∧Fines t
def Fines:List D→Prop
 |[]=>True
 |d :: r=>Fine d∧Fines r
end
theorem single_m{d:D}(h:single d=true):d.m.length≤16:=by
 cases d with
 |mk k n s m l t=>
  dsimp only[single]at h;show m.length≤16;have he:∀(m:List Int),m.isEmpty=true→m.length≤16:=fun m h=>by
   have:=List.isEmpty_iff.1 h;rw[this];simp
  by_cases h1:k=1
  ·rw[if_pos h1]at h;simp only[Bool.and_eq_true]at h;exact he m h.1.1.2
  rw[if_neg h1]at h;by_cases h2:k=2
  ·rw[if_pos h2]at h;simp only[Bool.and_eq_true]at h;exact he m h.1.1.2
  rw[if_neg h2]at h;by_cases h3:k=3
  ·rw[if_pos h3]at h;simp only[Bool.and_eq_true]at h;exact he m h.1.1.2
  rw[if_neg h3]at h;by_cases h4:k=4
  ·rw[if_pos h4]at h;simp only[Bool.and_eq_true]at h;exact he m h.1.1.2
  rw[if_neg h4]at h;by_cases h5:k=5
  ·rw[if_pos h5]at h;simp only[Bool.and_eq_true,decide_eq_true_eq]at h;exact h.1.1.1.1.2
  rw[if_neg h5]at h;by_cases h6:k=6∨k=8
  ·rw[if_pos h6]at h;simp only[Bool.and_eq_true]at h;exact he m h.1.2
  rw[if_neg h6]at h;by_cases h7:k=7
  ·rw[if_pos h7]at h;simp only[Bool.and_eq_true]at h;exact he m h.1.1.2
  ·rw[if_neg h7]at h;simp at h
mutual
theorem chk_fine:∀(d:D) (deep p:Nat),p≤4096→(chk d deep p).1=0→p+1≤(chk d deep p).2∧Fine d
 | .mk k n s m l t,deep,p,hp,h=>by
  rw[chk]at h ⊢;split at h
  ·simp at h
  rename_i h1;rw[if_neg h1];split at h
  ·simp at h
  rename_i h2;rw[if_neg h2];split at h
  ·rename_i h3;rw[if_pos h3];split at h
   ·rename_i h4;rw[if_pos h4];have a1:=chks_fine l (deep+1) (p+1) (by omega) h4;have a2:=chks_fine t (deep+1) _ (chks_le l (deep+1) (p+1) (by omega)) h;have b1:=chks_le l (deep+1) (p+1) (by omega);have b2:=chks_le t (deep+1) _ b1;refine⟨by omega,?_⟩;rw[Fine];exact⟨single_m h3,by omega,by omega,a1.2,a2.2⟩
   ·rename_i h4;exact absurd h h4
  ·simp at h
theorem chks_fine:∀(l:List D) (deep p:Nat),p≤4096→(chks l deep p).1=0→p+l.length≤(chks l deep p).2∧Fines l
 |[],_,p,_,_=>by rw[chks,Fines];exact⟨by simp,trivial⟩
 |d :: r,deep,p,hp,h=>by
  rw[chks]at h ⊢;split at h
  ·rename_i h1;rw[if_pos h1];have a1:=chk_fine d deep p hp h1;have a2:=chks_fine r deep _ (chk_le d deep p hp) h;rw[Fines];refine⟨by rw[List.length_cons];omega,a1.2,a2.2⟩
  ·rename_i h1;exact absurd h h1
end
theorem fine_of_check{d:D}(h:check d=0):Fine d:=(chk_fine d 1 0 (by omega) h).2
theorem Fines.at:∀ {l:List D},Fines l→∀y∈l,Fine y
 |[],_,y,h=>absurd h (by simp)
 |d :: r,hw,y,h=>by
  rw[Fines]at hw;rcases List.mem_cons.1 h with rfl|h
  ·exact hw.1
  ·exact Fines.at hw.2 y h
theorem fine_parts{d:D}(h:Fine d):d.m.length≤16∧d.l.length≤4096∧d.t.length≤4096∧Fines d.l∧Fines d.t:=by cases d;rw[Fine]at h;exact h
structure Rowing(w:World)(base:Nat)(v:Value)(ls:List P):Prop where
 row:w.ownsRow base 25 6 v ls.length (flatP ls)
 rep:∀p∈ls,Rep (fun k=>base≤k∧v.ownBlock≠some k) w p.d p.vm p.vl p.vt
theorem Rowing.nil(w:World)(base:Nat):Rowing w base (.slice none 0 0) []:=⟨World.ownsRow_nil _ _ _ _,by simp⟩
theorem Rowing.keep{S:Nat→Prop}{w w':World}{base:Nat}{v:Value}{ls:List P}(h:Rowing w base v ls)(hk:Keep S w w')(hS:∀k,base≤k→k<w.heap.size→¬S k):Rowing w' base v ls:=
 ⟨own_keep h.row hk (fun k hk=>hS k (own_lt h.row k hk).1 (own_lt h.row k hk).2),fun p hp=>Rep.keep hk (fun b hb hb'=>hS b hb.1 hb') p.d (h.rep p hp)⟩
theorem Rowing.below{w w':World}{base:Nat}{v:Value}{ls:List P}(h:Rowing w base v ls)(hb:Below w.heap.size w w'):Rowing w' base v ls:=
 h.keep (S:=fun _=>False) ((Keep.refl _ w).below hb) (fun _ _ _ h=>h)
theorem Rowing.push{w w1 wA w5:World}{base:Nat}{v v':Value}{ls:List P}{p:P}(h:Rowing w base v ls)(hbase:base≤w.heap.size)(h1:Below w.heap.size w w1)(hp:Rep (fun k=>w.heap.size≤k) w1 p.d p.vm p.vl p.vt)(hA:Below w1.heap.size w1 wA)
  (hown:w5.ownsRow base 25 6 v' (ls.length+1) (flatP ls++p.cells)) (hg:wA.grownBy w5 v.ownBlock) (hat:v'.ownBlock=v.ownBlock∨v'.ownBlock=some wA.heap.size):
  Rowing w5 base v' (ls++[p])∧Keep (fun k=>v.ownBlock=some k) w w5:=by
 have hwA:Below w.heap.size w wA:=btr h1 hA;have hK:Keep (fun k=>v.ownBlock=some k) w w5:=⟨hg.os.trans hwA.os,hg.tape.trans hwA.tape,hg.output.trans hwA.output,Nat.le_trans hwA.size hg.size,fun k hk hn=>(hg.block k (by have:=hwA.size;omega) (fun e=>hn e.symm)).trans (hwA.block k hk)⟩
 have hK1:Keep (fun k=>v.ownBlock=some k) w1 w5:=⟨hg.os.trans hA.os,hg.tape.trans hA.tape,hg.output.trans hA.output,Nat.le_trans hA.size hg.size,fun k hk hn=>(hg.block k (by have:=hA.size;omega) (fun e=>hn e.symm)).trans (hA.block k hk)⟩
 have hvl:∀k,v.ownBlock=some k→base≤k∧k<w.heap.size:=own_lt h.row;refine⟨⟨by rw[List.length_append,flatP_app];exact hown,fun q hq=> ?_⟩,hK⟩;rcases List.mem_append.1 hq with hq|hq
 ·have hr:=Rep.keep hK (fun b hb _ e=>hb.2 e) q.d (h.rep q hq);have hr0:Rep (fun k=>k<w.heap.size∧base≤k∧v.ownBlock≠some k) w q.d q.vm q.vl q.vt:=Rep.mono (fun b hb hl=>⟨hl,hb⟩) q.d (h.rep q hq);refine Rep.mono (fun b hb _=>⟨hb.2.1,fun e=> ?_⟩) q.d (Rep.keep hK (fun b hb _ e=>hb.2.2 e) q.d hr0);rcases hat with e'|e'
  ·rw[e']at e;exact hb.2.2 e
  ·rw[e']at e;cases e;have:=hwA.size;omega
 ·obtain rfl:q=p:=by simpa using hq
  have hr0:Rep (fun k=>k<w1.heap.size∧w.heap.size≤k) w1 q.d q.vm q.vl q.vt:=Rep.mono (fun b hb hl=>⟨hl,hb⟩) q.d hp;refine Rep.mono (fun b hb _=>⟨Nat.le_trans hbase hb.2,fun e=> ?_⟩) q.d (Rep.keep hK1 (fun b hb _ e=>by have:=(hvl b e).2;omega) q.d hr0);rcases hat with e'|e'
  ·rw[e']at e;have:=(hvl b e).2;omega
  ·rw[e']at e;cases e;have:=hA.size;omega
theorem Rowing.to_row{w:World}{base:Nat}{v:Value}{ls:List P}(h:Rowing w base v ls):Row (fun k=>base≤k) w v (ls.map P.d):=by
 have hreps:∀g,v.ownBlock=some g→Reps (fun k=>base≤k) w (ls.map P.d) g 0:=by
  intro g hg;refine Reps.of fun j hj=> ?_
  have hj':j<ls.length:=by simpa using hj
  obtain⟨g',c,rfl,_,hs⟩:=part_at h.row j hj';cases hg;refine⟨ls[j].vm,ls[j].vl,ls[j].vt,by rw[Nat.zero_add];simpa using hs,?_⟩;have:=Rep.mono (fun b hb _=>hb.1) _ (h.rep ls[j] (List.getElem_mem hj'));simpa using this
 rcases h.row.2 with⟨h1,h0⟩|⟨g,cap,cur,rfl,e2,e3,e4,_⟩
 ·have:ls=[]:=List.length_eq_zero_iff.1 h0;subst this;exact⟨none,0,by rw[h1];rfl,Nat.le_refl _,fun hn=>absurd rfl hn⟩
 ·refine⟨some ⟨g,0,none⟩,cap,by simp,by simpa using e4,fun _=>⟨g,0,rfl,e2,(Array.getElem?_eq_some_iff.1 e3).1,hreps g rfl⟩⟩
theorem IRow.of_own{w:World}{base:Nat}{v:Value}{m:List Int}(h:w.ownsRow base 3 1 v m.length (m.map (Value.int .i64))):IRow (fun k=>base≤k) w v m:=by
 have hc:=fun g hg=>h.cells (g:=g) hg
 rcases h.2 with⟨h1,h0⟩|⟨g,cap,cur,rfl,e2,e3,e4,_⟩
 ·have:m=[]:=List.length_eq_zero_iff.1 h0;subst this;exact⟨none,0,by rw[h1];rfl,Nat.le_refl _,fun hn=>absurd rfl hn⟩
 ·refine⟨some ⟨g,0,none⟩,cap,rfl,e4,fun _=>⟨g,0,rfl,e2,(Array.getElem?_eq_some_iff.1 e3).1,fun j hj=> ?_⟩⟩;have:=hc g rfl j (.int .i64 m[j]) (by simp[hj]);rw[show(⟨g,0,none⟩:Addr).add j=⟨g,0+j,none⟩by unfold Addr.add;split <;> simp_all]at this;exact this
theorem IRow.src{F:Nat→Prop}{w:World}{a:Option Addr}{c:Nat}{m:List Int}(h:IRow F w (.slice a m.length c) m)(ha:a≠none):Ap.Src w (.slice a m.length c) m.length (m.map (Value.int .i64)):=by
 obtain⟨a',c',h1,h2,h3⟩:=h;cases h1;obtain⟨ad,rfl⟩:=Option.ne_none_iff_exists'.1 ha;refine .inr ⟨ad,c,rfl,fun j u hu=> ?_⟩;have hj:j<m.length:=by simpa using(List.getElem?_eq_some_iff.1 hu).1
 obtain⟨b,o,e1,_,_,hc⟩:=h3 (by intro e;rw[e]at hj;simp at hj);cases e1;have:=hc j hj;rw[show(⟨b,o,none⟩:Addr).add j=⟨b,o+j,none⟩by unfold Addr.add;split <;> simp_all,this];simpa[hj]using hu
def Fresh(n:Nat)(w:World)(x:D)(e:Ending):Prop:=∃vm vl vt,e= .returned (.agg #[.int .i64 x.k,.int .i64 x.n,.string x.s,vm,vl,vt])∧Rep (fun k=>n≤k) w x vm vl vt
end Dt
end Go.Proofs.YtfjmlfbohenmfaaGreat
namespace Go.Proofs.YtfjmlfbohenmfaaGreat
namespace Co
open Dt (D)
def sd(a b:D):Bool:=(none_ a&&none_ b)||Dt.sameD a b
def like(a b:C):Bool:=decide (a.k=b.k)&&decide (a.s=b.s)&&decide (a.p.length=b.p.length)&&decide (a.l.length=b.l.length)&&sd a.d b.d
mutual
def pairs:C→C→Nat→Int→Bool×Int
 | .mk k n s d p l,b,deep,left=>
  if left - 1<0∨128<deep then(false,left - 1)
  else if(like (.mk k n s d p l) b&&decide (n=b.n)&&decide (p=b.p))=false then(false,left - 1)
  else pairsL l b.l (deep+1) (left - 1)
def pairsL:List C→List C→Nat→Int→Bool×Int
 |[],_,_,left=>(true,left)
 |a :: r,bs,deep,left=>match bs with
  |[]=>(true,left)
  |b :: q=>if(pairs a b deep left).1=false then pairs a b deep left else pairsL r q deep (pairs a b deep left).2
end
def same(a b:C):Bool:=(pairs a b 1 8192).1
def step(m:List (Int×Int))(x y:Int):Bool×List (Int×Int):=
 match m.find? (·.1=x),m.find? (·.2=y)with
 |none,none=>(true,m++[(x,y)])
 |some u,some v=>(decide (u.2=y)&&decide (v.1=x),m)
 |_,_=>(false,m)
def steps(m:List (Int×Int)):List Int→List Int→Bool×List (Int×Int)
 |[],_=>(true,m)
 |_,[]=>(true,m)
 |x :: p,y :: q=>if(step m x y).1 then steps (step m x y).2 p q else step m x y
mutual
def beside:C→C→Nat→Int→List (Int×Int)→Bool×Int×List (Int×Int)
 | .mk k n s d p l,b,deep,left,m=>
  if left - 1<0∨128<deep then(false,left - 1,m)
  else if like (.mk k n s d p l) b=false then(false,left - 1,m)
  else if(steps m p b.p).1=false then(false,left - 1,m)
  else if(k=2∨k=4)∧(step (steps m p b.p).2 n b.n).1=false then(false,left - 1,m)
  else if ¬ (k=2∨k=4)∧n≠b.n then(false,left - 1,m)
  else besideL l b.l (deep+1) (left - 1) (if k=2∨k=4 then(step (steps m p b.p).2 n b.n).2 else(steps m p b.p).2)
def besideL:List C→List C→Nat→Int→List (Int×Int)→Bool×Int×List (Int×Int)
 |[],_,_,left,m=>(true,left,m)
 |a :: r,bs,deep,left,m=>match bs with
  |[]=>(true,left,m)
  |b :: q=>if(beside a b deep left m).1=false then beside a b deep left m else besideL r q deep (beside a b deep left m).2.1 (beside a b deep left m).2.2
end
def alike(a b:C):Bool:=decide (check a []=0)&&decide (check b []=0)&&(beside a b 1 8192 []).1
end Co
end Go.Proofs.YtfjmlfbohenmfaaGreat
namespace Go.Proofs.YtfjmlfbohenmfaaGreat
open Go.RowKit
theorem iEqual_any{F G:Nat→Prop}(va vb:Value)(m m':List Int)(w:World)(ha:Dt.IRow F w va m)(hb:Dt.IRow G w vb m')(hl:m.length≤140737488355328)(_hl':m'.length≤140737488355328):
  Calls Tryz.prog 25 #[va,vb] w fun e w'=>e= .returned (.bool (decide (m=m')))∧Below w.heap.size w w':=by
 obtain⟨a,c,rfl,_,hc⟩:=ha;obtain⟨a',c',rfl,_,hc'⟩:=hb;obtain⟨R,hR⟩:∃R,R=decide (m=m'):=⟨_,rfl⟩
 rw[←hR];by_cases hlen:m.length=m'.length
 case neg=>
  have hne:((m.length:Int) !=(m'.length:Int))=true:=by simpa using fun h=>hlen (by omega)
  have HR:Hid (R=false):=by show _=_;rw[hR];exact decide_eq_false (fun e=>hlen (by rw[e]))
  clear hc hc' hR hlen;go_enter Tryz.func25,Tryz.ntmps25;go_wp2;go_ret;exact⟨by rw[HR.out];rfl,Below.refl _ _⟩
 have hne:((m.length:Int) !=(m'.length:Int))=false:=by simp[hlen]
 have H0:Hid (R=decide (m.drop 0=m'.drop 0)):=by show _=_;rw[List.drop_zero,List.drop_zero];exact hR
 have HC:=zh hc;have HC':=zh hc';have HL:=zh hlen;clear hc hc' hR hlen;go_enter Tryz.func25,Tryz.ntmps25;go_wp2
 go_loopw [13] (fun v wr=>∃k:Nat,v= .int .i64 k∧k≤m.length∧Hid (R=decide (m.drop k=m'.drop k))∧∃q,wr=w.drewN q) (fun v _=>m.length - (intOf v).toNat)
 case atStart=>exact⟨0,rfl,by omega,H0,0,rfl⟩
 case round=>
  obtain⟨k,rfl,hk,HR,q,rfl⟩:=hrel;by_cases hlt:k<m.length
  ·have hlti:(k:Int)<(m.length:Int):=by omega
   have hlt':k<m'.length:=by have:=HL.out;omega
   have hlti':(k:Int)<(m'.length:Int):=by omega
   obtain⟨b,o,rfl,_,hb,hcell⟩:=HC.out (by intro h0;rw[h0]at hlt;simp at hlt);obtain⟨b',o',rfl,_,hb',hcell'⟩:=HC'.out (by intro h0;rw[h0]at hlt';simp at hlt');have x0:=hcell k hlt;have y0:=hcell' k hlt';have hr:=HR.out;rw[List.drop_eq_getElem_cons hlt,List.drop_eq_getElem_cons hlt']at hr;obtain⟨x,hx⟩:∃x,m[k]=x:=⟨_,rfl⟩
   obtain⟨y,hy⟩:∃y,m'[k]=y:=⟨_,rfl⟩
   rw[hx]at x0 hr;rw[hy]at y0 hr;clear hx hy hcell hcell';by_cases hxy:x=y
   ·have hxe:(x !=y)=false:=by simp[hxy]
    have HN:Hid (R=decide (m.drop (k+1)=m'.drop (k+1))):=by show _=_;rw[hr];simp[hxy]
    clear hr;go_wp2
    go_quiet (fail)
    go_wp2;go_roundw
    case rel=>exact⟨k+1,by simp,by omega,HN,_,rfl⟩
    case measure=>simp[intOf];omega
   ·have hxe:(x !=y)=true:=by simpa using hxy
    have HN:Hid (R=false):=by show _=_;rw[hr];simp[hxy]
    clear hr hxy;go_wp2
    go_quiet (fail)
    go_wp2;go_ret;exact⟨by rw[HN.out];rfl,⟨rfl,rfl,rfl,Nat.le_refl _,fun _ _=>rfl⟩⟩
  ·have hge:(m.length:Int)≤(k:Int):=by omega
   have HN:Hid (R=true):=by show _=_;rw[HR.out,List.drop_eq_nil_of_le (by omega),List.drop_eq_nil_of_le (by have:=HL.out;omega)];rfl
   go_wp2;go_ret;exact⟨by rw[HN.out];rfl,⟨rfl,rfl,rfl,Nat.le_refl _,fun _ _=>rfl⟩⟩
namespace Dt
def EqC(y:D):Prop:=∀(F G:Nat→Prop) (z:D) (vm vl vt um ul ut:Value) (w:World),Wf y→Wf z→Rep F w y vm vl vt→Rep G w z um ul ut→
 Calls Tryz.prog 97 #[.agg #[.int .i64 y.k,.int .i64 y.n,.string y.s,vm,vl,vt],.agg #[.int .i64 z.k,.int .i64 z.n,.string z.s,um,ul,ut]] w fun e w'=>e= .returned (.bool (eqD y z))∧Below w.heap.size w w'
theorem six_of'(w:World)(x:D)(vm vl vt:Value)(t:TypeId):Six (w.alloc (.cells #[.int .i64 x.k,.int .i64 x.n,.string x.s,vm,vl,vt] t)) w.heap.size 0 x vm vl vt:=by
 have h:=six_new w x.k x.n x.s vm vl vt t;exact⟨h 0 (by omega),h 1 (by omega),h 2 (by omega),h 3 (by omega),h 4 (by omega),h 5 (by omega)⟩
theorem eqDs_len:∀(l r:List D),l.length≠r.length→eqDs l r=false
 |[],[],h=>absurd rfl h
 |[],_ :: _,_=>rfl
 |_ :: _,[],_=>rfl
 |a :: l,b :: r,h=>by rw[eqDs,eqDs_len l r (by simpa using h)];simp
end Dt
theorem eqFunc_any{F G:Nat→Prop}(va vb:Value)(l r:List Dt.D)(w:World)(ha:Dt.Row F w va l)(hb:Dt.Row G w vb r)(hl:l.length≤140737488355328)(_hl':r.length≤140737488355328)(hW:Dt.Wfs l)(hW':Dt.Wfs r)(hE:∀y∈l,Dt.EqC y):
  Calls Tryz.prog 116 #[va,vb,.func (.func 97) #[] #[]] w fun e w'=>e= .returned (.bool (Dt.eqDs l r))∧Below w.heap.size w w':=by
 obtain⟨a,c,rfl,_,hc⟩:=ha;obtain⟨a',c',rfl,_,hc'⟩:=hb;obtain⟨R,hR⟩:∃R,R=Dt.eqDs l r:=⟨_,rfl⟩
 rw[←hR];by_cases hlen:l.length=r.length
 case neg=>
  have hne:((l.length:Int) !=(r.length:Int))=true:=by simpa using fun h=>hlen (by omega)
  have HR:Hid (R=false):=by show _=_;rw[hR];exact Dt.eqDs_len _ _ hlen
  clear hc hc' hR hlen hE;go_enter Tryz.func116,Tryz.ntmps116;go_wp2;go_ret;exact⟨by rw[HR.out];rfl,Below.refl _ _⟩
 have hne:((l.length:Int) !=(r.length:Int))=false:=by simp[hlen]
 have H0:Hid (R=Dt.eqDs (l.drop 0) (r.drop 0)):=by show _=_;rw[List.drop_zero,List.drop_zero];exact hR
 have HC:=zh hc;have HC':=zh hc';have HL:=zh hlen;have HW:=zh hW;have HW':=zh hW';have HE:=zh hE;clear hc hc' hR hlen hE hW hW';go_enter Tryz.func116,Tryz.ntmps116;go_wp2
 go_loopw [17] (fun v wr=>∃k:Nat,v= .int .i64 k∧k≤l.length∧Hid (R=Dt.eqDs (l.drop k) (r.drop k))∧Hid (Below w.heap.size w wr)) (fun v _=>l.length - (intOf v).toNat)
 case atStart=>exact⟨0,rfl,by omega,H0,Below.refl _ _⟩
 case round=>
  obtain⟨k,rfl,hk,HR,HB⟩:=hrel;by_cases hlt:k<l.length
  ·have hlti:(k:Int)<(l.length:Int):=by omega
   have hlt':k<r.length:=by have:=HL.out;omega
   have hlti':(k:Int)<(r.length:Int):=by omega
   obtain⟨b,o,hao,hFb,hbl,hreps⟩:=HC.out (by intro h0;rw[h0]at hlt;simp at hlt);obtain⟨b',o',hao',hFb',hbl',hreps'⟩:=HC'.out (by intro h0;rw[h0]at hlt';simp at hlt');subst hao hao';have hkp:Keep (fun _=>False) w wr:=(Keep.refl _ w).below HB.out;obtain⟨vm,vl,vt,hs,hrp⟩:=(Dt.Reps.keep hkp (fun k hk _ h=>h) _ hFb hbl hreps).at k hlt;obtain⟨um,ul,ut,hs',hrp'⟩:=(Dt.Reps.keep hkp (fun k hk _ h=>h) _ hFb' hbl' hreps').at k hlt';obtain⟨a1,n1,c1,a2,n2,c2,a3,n3,c3,rfl,rfl,rfl⟩:=hrp.forms;obtain⟨d1,p1,q1,d2,p2,q2,d3,p3,q3,rfl,rfl,rfl⟩:=hrp'.forms;have hr:=HR.out;rw[List.drop_eq_getElem_cons hlt,List.drop_eq_getElem_cons hlt',Dt.eqDs]at hr;have hy:=HE.out l[k] (List.getElem_mem hlt);have hwf:=HW.out.at k hlt;have hwf':=HW'.out.at k hlt';obtain⟨y,hyy⟩:∃y,l[k]=y:=⟨_,rfl⟩
   obtain⟨z,hzz⟩:∃z,r[k]=z:=⟨_,rfl⟩
   rw[hyy]at hs hrp hr hy hwf;rw[hzz]at hs' hrp' hr hwf';obtain⟨y0,y1,y2,y3,y4,y5⟩:=hs;obtain⟨wc,hwc⟩:∃wc,wr.alloc (.cells #[.int .i64 y.k,.int .i64 y.n,.string y.s,.slice a1 n1 c1,.slice a2 n2 c2,.slice a3 n3 c3] 25)=wc:=⟨_,rfl⟩
   have hbc:Below wr.heap.size wr wc:=by rw[←hwc];exact(Below.refl _ _).alloc (Nat.le_refl _) _
   obtain⟨z0,z1,z2,z3,z4,z5⟩:=hs'.keep (S:=fun _=>False) ((Keep.refl _ _).below hbc) (Nat.lt_of_lt_of_le hbl' HB.out.size) id;obtain⟨wd,hwd⟩:∃wd,wc.alloc (.cells #[.int .i64 z.k,.int .i64 z.n,.string z.s,.slice d1 p1 q1,.slice d2 p2 q2,.slice d3 p3 q3] 25)=wd:=⟨_,rfl⟩
   have hbd:Below wc.heap.size wc wd:=by rw[←hwd];exact(Below.refl _ _).alloc (Nat.le_refl _) _
   have hcall:=hy F G z _ _ _ _ _ _ wd hwf hwf' ((hrp.below hbc).below hbd) ((hrp'.below hbc).below hbd);obtain⟨V,hV⟩:∃V,Dt.eqD y z=V:=⟨_,rfl⟩
   rw[hV]at hcall hr;have HCALL:=zh hcall;have HBD:Hid (Below w.heap.size w wd):=((btr HB.out hbc)).trans (hbd.mono (Nat.le_trans HB.out.size hbc.size));have HRR:=zh hr;have HBD2:=zh hbd;have hltc:wr.heap.size<wc.heap.size:=by rw[←hwc,World.size_alloc];omega
   clear hcall hr hy hwf hwf' hrp hrp' hreps hreps' hkp hyy hzz hbc hbd hFb hFb' hbl hbl' hV;obtain⟨YB,hYB⟩:∃YB,wr.heap.size=YB:=⟨_,rfl⟩
   obtain⟨ZB,hZB⟩:∃ZB,wc.heap.size=ZB:=⟨_,rfl⟩
   have hsy:Dt.Six wd YB 0 y (.slice a1 n1 c1) (.slice a2 n2 c2) (.slice a3 n3 c3):=by
    have h:=Dt.six_of' wr y (.slice a1 n1 c1) (.slice a2 n2 c2) (.slice a3 n3 c3) 25;rw[hwc,hYB]at h;exact h.keep (S:=fun _=>False) ((Keep.refl _ _).below HBD2.out) (by rw[←hYB];exact hltc) id
   have hsz:Dt.Six wd ZB 0 z (.slice d1 p1 q1) (.slice d2 p2 q2) (.slice d3 p3 q3):=by
    have h:=Dt.six_of' wc z (.slice d1 p1 q1) (.slice d2 p2 q2) (.slice d3 p3 q3) 25;rw[hwd,hZB]at h;exact h
   obtain⟨s0,s1,s2,s3,s4,s5⟩:=hsy;obtain⟨t0,t1,t2,t3,t4,t5⟩:=hsz;simp only[Nat.zero_add]at s0 s1 s2 s3 s4 s5 t0 t1 t2 t3 t4 t5;clear hltc
   cases V with
   |false=>
    have HN:Hid (R=false):=by show _=_;rw[HRR.out];rfl
    clear HRR;go_wp2_with(go_at_call 97;refine HCALL.out.mono ?_;rintro e w9 ⟨rfl,hb9⟩;have HB9:=zh (btr HBD.out hb9);clear hb9 HCALL HBD HBD2 hwc hwd hYB hZB s0 s1 s2 s3 s4 s5 t0 t1 t2 t3 t4 t5 y0 y1 y2 y3 y4 y5 z0 z1 z2 z3 z4 z5)
    go_ret;exact⟨by rw[HN.out];rfl,HB9.out⟩
   |true=>
    have HN:Hid (R=Dt.eqDs (l.drop (k+1)) (r.drop (k+1))):=by show _=_;rw[HRR.out];rfl
    clear HRR;go_wp2_with(go_at_call 97;refine HCALL.out.mono ?_;rintro e w9 ⟨rfl,hb9⟩;have HB9:=zh (btr HBD.out hb9);clear hb9 HCALL HBD HBD2 hwc hwd hYB hZB s0 s1 s2 s3 s4 s5 t0 t1 t2 t3 t4 t5 y0 y1 y2 y3 y4 y5 z0 z1 z2 z3 z4 z5)
    go_roundw
    case rel=>exact⟨k+1,by simp,by omega,HN,HB9⟩
    case measure=>simp[intOf];omega
  ·have hge:(l.length:Int)≤(k:Int):=by omega
   have HN:Hid (R=true):=by show _=_;rw[HR.out,List.drop_eq_nil_of_le (by omega),List.drop_eq_nil_of_le (by have:=HL.out;omega)];rfl
   go_wp2;go_ret;exact⟨by rw[HN.out];rfl,HB.out⟩
theorem equal_step(x:Dt.D)(hl:∀y∈x.l,Dt.EqC y)(ht:∀y∈x.t,Dt.EqC y):Dt.EqC x:=by
 intro F G z vm vl vt um ul ut w hW hW' hR hR';obtain⟨w1,hw1⟩:∃w1,w.alloc (.cells #[.int .i64 x.k,.int .i64 x.n,.string x.s,vm,vl,vt] 25)=w1:=⟨_,rfl⟩
 obtain⟨w2,hw2⟩:∃w2,w1.alloc (.cells #[.int .i64 z.k,.int .i64 z.n,.string z.s,um,ul,ut] 25)=w2:=⟨_,rfl⟩
 have hb1:Below w.heap.size w w1:=by rw[←hw1];exact(Below.refl _ _).alloc (Nat.le_refl _) _
 have hb2:Below w1.heap.size w1 w2:=by rw[←hw2];exact(Below.refl _ _).alloc (Nat.le_refl _) _
 have hz1:w1.heap.size=w.heap.size+1:=by rw[←hw1,World.size_alloc]
 have hz2:w2.heap.size=w.heap.size+2:=by rw[←hw2,World.size_alloc,hz1]
 have hsx:Dt.Six w2 w.heap.size 0 x vm vl vt:=by
  have h:=Dt.six_of' w x vm vl vt 25;rw[hw1]at h;exact h.keep (S:=fun _=>False) ((Keep.refl _ _).below hb2) (by omega) id
 obtain⟨Z,hZ⟩:∃Z,w1.heap.size=Z:=⟨_,rfl⟩
 have hsz:Dt.Six w2 Z 0 z um ul ut:=by
  have h:=Dt.six_of' w1 z um ul ut 25;rw[hw2,hZ]at h;exact h
 have HB:=zh (hb1.trans (hb2.mono (by omega)));have HR:=zh ((hR.below hb1).below hb2);have HR':=zh ((hR'.below hb1).below hb2);have h3:=(Dt.rep_iff F w2 x vm vl vt).1 HR.out;have h3':=(Dt.rep_iff G w2 z um ul ut).1 HR'.out;have hm:=iEqual_any vm um x.m z.m w2 h3.1 h3'.1 (Dt.wf_m hW) (Dt.wf_m hW');have hLc:=fun u (hu:Below w2.heap.size w2 u)=>eqFunc_any vl ul x.l z.l u (((Dt.rep_iff F u x vm vl vt).1 (HR.out.below hu)).2.1) (((Dt.rep_iff G u z um ul ut).1 (HR'.out.below hu)).2.1) (Dt.wf_len hW).1 (Dt.wf_len hW').1 (Dt.wf_l hW) (Dt.wf_l hW') hl
 have hTc:=fun u (hu:Below w2.heap.size w2 u)=>eqFunc_any vt ut x.t z.t u (((Dt.rep_iff F u x vm vl vt).1 (HR.out.below hu)).2.2) (((Dt.rep_iff G u z um ul ut).1 (HR'.out.below hu)).2.2) (Dt.wf_len hW).2 (Dt.wf_len hW').2 (Dt.wf_t hW) (Dt.wf_t hW') ht
 obtain⟨x0,x1,x2,x3,x4,x5⟩:=hsx;obtain⟨z0,z1,z2,z3,z4,z5⟩:=hsz;have HSX:Hid (Dt.Six w2 w.heap.size 0 x vm vl vt):=⟨x0,x1,x2,x3,x4,x5⟩
 have HSZ:Hid (Dt.Six w2 Z 0 z um ul ut):=⟨z0,z1,z2,z3,z4,z5⟩
 simp only[Nat.zero_add]at x0 x1 x2 x3 x4 x5 z0 z1 z2 z3 z4 z5;have hev:Dt.eqD x z=(decide (x.k=z.k)&&decide (x.n=z.n)&&decide (x.s.data.toList=z.s.data.toList)&&decide (x.m=z.m)&&Dt.eqDs x.l z.l&&Dt.eqDs x.t z.t):=by
  cases x;cases z;rw[Dt.eqD];rfl
 obtain⟨a1,n1,c1,a2,n2,c2,a3,n3,c3,rfl,rfl,rfl⟩:=hR.forms;obtain⟨d1,p1,q1,d2,p2,q2,d3,p3,q3,rfl,rfl,rfl⟩:=hR'.forms;have HM:=zh hm;have HLC:=zh hLc;have HTC:=zh hTc;have HEV:=zh hev;have HZ2:Hid (w.heap.size<w2.heap.size∧Z<w2.heap.size):=⟨by omega,by omega⟩
 clear hm hLc hTc hev h3 h3' hR hR' hW hW' hb1 hb2 hl ht hz1 hz2;by_cases k1:x.k=z.k
 case neg=>
  have b1:(x.k==z.k)=false:=by simpa using k1
  have HN:Hid (Dt.eqD x z=false):=by show _=_;rw[HEV.out];simp[k1]
  clear k1;go_enter Tryz.func97,Tryz.ntmps97;go_wp2_with(fail)
  go_ret;exact⟨by rw[HN.out];rfl,HB.out⟩
 have b1:(x.k==z.k)=true:=by simpa using k1
 have K1:=zh k1;clear k1;by_cases k2:x.n=z.n
 case neg=>
  have b2:(x.n==z.n)=false:=by simpa using k2
  have HN:Hid (Dt.eqD x z=false):=by show _=_;rw[HEV.out];simp[K1.out,k2]
  clear k2;go_enter Tryz.func97,Tryz.ntmps97;go_wp2_with(fail)
  go_ret;exact⟨by rw[HN.out];rfl,HB.out⟩
 have b2:(x.n==z.n)=true:=by simpa using k2
 have K2:=zh k2;clear k2;by_cases k3:x.s.data.toList=z.s.data.toList
 case neg=>
  have b3:(x.s.data==z.s.data)=false:=by rw[beq_eq_false_iff_ne];intro e;exact k3 (by rw[e])
  have b3b:decide (x.s=z.s)=false:=by simpa using fun e=>k3 (by rw[e])
  have b3c:(x.s.toList==z.s.toList)=false:=by rw[ByteArray.toList_eq,ByteArray.toList_eq];simpa using k3
  have b3d:(x.s==z.s)=false:=b3;have HN:Hid (Dt.eqD x z=false):=by show _=_;rw[HEV.out];simp[K1.out,K2.out,k3]
  clear k3;go_enter Tryz.func97,Tryz.ntmps97;go_wp2_with(fail)
  go_ret;exact⟨by rw[HN.out];rfl,HB.out⟩
 have b3:(x.s.data==z.s.data)=true:=by rw[Dt.bytes_ext k3];simp
 have b3b:decide (x.s=z.s)=true:=decide_eq_true (Dt.bytes_ext k3);have b3c:(x.s.toList==z.s.toList)=true:=by rw[Dt.bytes_ext k3];simp
 have b3d:(x.s==z.s)=true:=b3;have K3:=zh k3;clear k3;by_cases k4:x.m=z.m
 case neg=>
  have b4:decide (x.m=z.m)=false:=decide_eq_false k4;have HN:Hid (Dt.eqD x z=false):=by show _=_;rw[HEV.out];simp[K1.out,K2.out,K3.out,k4]
  clear k4;go_enter Tryz.func97,Tryz.ntmps97;go_wp2_with(first|(go_at_call 25;refine HM.out.mono ?_;clear x0 x1 x2 x3 x4 x5 z0 z1 z2 z3 z4 z5;rintro e w3 ⟨rfl,hb3⟩;have HB3:=zh hb3;clear hb3 hw1 hw2;obtain⟨x0,x1,x2,x3,x4,x5⟩:=HSX.out.keep (S:=fun _=>False) ((Keep.refl _ _).below HB3.out) HZ2.out.1 id;obtain⟨z0,z1,z2,z3,z4,z5⟩:=HSZ.out.keep (S:=fun _=>False) ((Keep.refl _ _).below HB3.out) HZ2.out.2 id;simp only[Nat.zero_add]at x0 x1 x2 x3 x4 x5 z0 z1 z2 z3 z4 z5))
  go_ret;exact⟨by rw[HN.out];rfl,(btr HB.out HB3.out)⟩
 have b4:decide (x.m=z.m)=true:=decide_eq_true k4;have K4:=zh k4;clear k4;by_cases k5:Dt.eqDs x.l z.l=true
 case neg=>
  have b5:Dt.eqDs x.l z.l=false:=by simpa using k5
  have HN:Hid (Dt.eqD x z=false):=by show _=_;rw[HEV.out];simp[K1.out,K2.out,K3.out,K4.out,k5]
  clear k5;go_enter Tryz.func97,Tryz.ntmps97;go_wp2_with(first|(go_at_call 25;refine HM.out.mono ?_;clear x0 x1 x2 x3 x4 x5 z0 z1 z2 z3 z4 z5;rintro e w3 ⟨rfl,hb3⟩;have HB3:=zh hb3;clear hb3 hw1 hw2;obtain⟨x0,x1,x2,x3,x4,x5⟩:=HSX.out.keep (S:=fun _=>False) ((Keep.refl _ _).below HB3.out) HZ2.out.1 id;obtain⟨z0,z1,z2,z3,z4,z5⟩:=HSZ.out.keep (S:=fun _=>False) ((Keep.refl _ _).below HB3.out) HZ2.out.2 id;simp only[Nat.zero_add]at x0 x1 x2 x3 x4 x5 z0 z1 z2 z3 z4 z5)|(go_at_call 116;with_reducible refine(HLC.out _ HB3.out).mono ?_;clear x0 x1 x2 x3 x4 x5 z0 z1 z2 z3 z4 z5;rintro e w4 ⟨rfl,hb4⟩;have HB4:=zh ((btr HB3.out hb4));clear hb4;obtain⟨x0,x1,x2,x3,x4,x5⟩:=HSX.out.keep (S:=fun _=>False) ((Keep.refl _ _).below HB4.out) HZ2.out.1 id;obtain⟨z0,z1,z2,z3,z4,z5⟩:=HSZ.out.keep (S:=fun _=>False) ((Keep.refl _ _).below HB4.out) HZ2.out.2 id;simp only[Nat.zero_add]at x0 x1 x2 x3 x4 x5 z0 z1 z2 z3 z4 z5))
  go_ret;exact⟨by rw[HN.out];rfl,(btr HB.out HB4.out)⟩
 have b5:Dt.eqDs x.l z.l=true:=k5;have K5:=zh k5;clear k5;by_cases k6:Dt.eqDs x.t z.t=true
 case neg=>
  have b6:Dt.eqDs x.t z.t=false:=by simpa using k6
  have HN:Hid (Dt.eqD x z=false):=by show _=_;rw[HEV.out];simp[K1.out,K2.out,K3.out,K4.out,K5.out,k6]
  clear k6;go_enter Tryz.func97,Tryz.ntmps97;go_wp2_with(first|(go_at_call 25;refine HM.out.mono ?_;clear x0 x1 x2 x3 x4 x5 z0 z1 z2 z3 z4 z5;rintro e w3 ⟨rfl,hb3⟩;have HB3:=zh hb3;clear hb3 hw1 hw2;obtain⟨x0,x1,x2,x3,x4,x5⟩:=HSX.out.keep (S:=fun _=>False) ((Keep.refl _ _).below HB3.out) HZ2.out.1 id;obtain⟨z0,z1,z2,z3,z4,z5⟩:=HSZ.out.keep (S:=fun _=>False) ((Keep.refl _ _).below HB3.out) HZ2.out.2 id;simp only[Nat.zero_add]at x0 x1 x2 x3 x4 x5 z0 z1 z2 z3 z4 z5)|(go_at_call 116;with_reducible refine(HLC.out _ HB3.out).mono ?_;clear x0 x1 x2 x3 x4 x5 z0 z1 z2 z3 z4 z5;rintro e w4 ⟨rfl,hb4⟩;have HB4:=zh ((btr HB3.out hb4));clear hb4;obtain⟨x0,x1,x2,x3,x4,x5⟩:=HSX.out.keep (S:=fun _=>False) ((Keep.refl _ _).below HB4.out) HZ2.out.1 id;obtain⟨z0,z1,z2,z3,z4,z5⟩:=HSZ.out.keep (S:=fun _=>False) ((Keep.refl _ _).below HB4.out) HZ2.out.2 id;simp only[Nat.zero_add]at x0 x1 x2 x3 x4 x5 z0 z1 z2 z3 z4 z5)|(go_at_call 116;with_reducible refine(HTC.out _ HB4.out).mono ?_;clear x0 x1 x2 x3 x4 x5 z0 z1 z2 z3 z4 z5;rintro e w5 ⟨rfl,hb5⟩;have HB5:=zh ((btr HB4.out hb5));clear hb5))
  go_ret;exact⟨by rw[HN.out];rfl,(btr HB.out HB5.out)⟩
 have b6:Dt.eqDs x.t z.t=true:=k6;have K6:=zh k6;clear k6;have HN:Hid (Dt.eqD x z=true):=by show _=_;rw[HEV.out];simp[K1.out,K2.out,K3.out,K4.out,K5.out,K6.out]
 go_enter Tryz.func97,Tryz.ntmps97;go_wp2_with(first|(go_at_call 25;refine HM.out.mono ?_;clear x0 x1 x2 x3 x4 x5 z0 z1 z2 z3 z4 z5;rintro e w3 ⟨rfl,hb3⟩;have HB3:=zh hb3;clear hb3 hw1 hw2;obtain⟨x0,x1,x2,x3,x4,x5⟩:=HSX.out.keep (S:=fun _=>False) ((Keep.refl _ _).below HB3.out) HZ2.out.1 id;obtain⟨z0,z1,z2,z3,z4,z5⟩:=HSZ.out.keep (S:=fun _=>False) ((Keep.refl _ _).below HB3.out) HZ2.out.2 id;simp only[Nat.zero_add]at x0 x1 x2 x3 x4 x5 z0 z1 z2 z3 z4 z5)|(go_at_call 116;with_reducible refine(HLC.out _ HB3.out).mono ?_;clear x0 x1 x2 x3 x4 x5 z0 z1 z2 z3 z4 z5;rintro e w4 ⟨rfl,hb4⟩;have HB4:=zh ((btr HB3.out hb4));clear hb4;obtain⟨x0,x1,x2,x3,x4,x5⟩:=HSX.out.keep (S:=fun _=>False) ((Keep.refl _ _).below HB4.out) HZ2.out.1 id;obtain⟨z0,z1,z2,z3,z4,z5⟩:=HSZ.out.keep (S:=fun _=>False) ((Keep.refl _ _).below HB4.out) HZ2.out.2 id;simp only[Nat.zero_add]at x0 x1 x2 x3 x4 x5 z0 z1 z2 z3 z4 z5)|(go_at_call 116;with_reducible refine(HTC.out _ HB4.out).mono ?_;clear x0 x1 x2 x3 x4 x5 z0 z1 z2 z3 z4 z5;rintro e w5 ⟨rfl,hb5⟩;have HB5:=zh ((btr HB4.out hb5));clear hb5))
 go_ret;exact⟨by rw[HN.out];rfl,(btr HB.out HB5.out)⟩
mutual
theorem Dt.equal_any:∀x:Dt.D,Dt.EqC x
 | .mk k n s m l t=>equal_step (.mk k n s m l t) (Dt.equals_any l) (Dt.equals_any t)
theorem Dt.equals_any:∀(l:List Dt.D) (y:Dt.D),y∈l→Dt.EqC y
 |[],_,h=>absurd h (by simp)
 |x :: r,y,h=>(List.mem_cons.1 h).elim (fun e=>by rw[e];exact Dt.equal_any x) (fun h'=>Dt.equals_any r y h')
end
theorem dSame_any{F G:Nat→Prop}(x z:Dt.D)(vm vl vt um ul ut:Value)(w:World)(hW:Dt.Wf x)(hW':Dt.Wf z)(hR:Dt.Rep F w x vm vl vt)(hR':Dt.Rep G w z um ul ut):
  Calls Tryz.prog 69 #[.agg #[.int .i64 x.k,.int .i64 x.n,.string x.s,vm,vl,vt],.agg #[.int .i64 z.k,.int .i64 z.n,.string z.s,um,ul,ut]] w fun e w'=>e= .returned (.bool (Dt.sameD x z))∧Below w.heap.size w w':=by
 obtain⟨w1,hw1⟩:∃w1,w.alloc (.cells #[.int .i64 x.k,.int .i64 x.n,.string x.s,vm,vl,vt] 25)=w1:=⟨_,rfl⟩
 obtain⟨w2,hw2⟩:∃w2,w1.alloc (.cells #[.int .i64 z.k,.int .i64 z.n,.string z.s,um,ul,ut] 25)=w2:=⟨_,rfl⟩
 have hb1:Below w.heap.size w w1:=by rw[←hw1];exact(Below.refl _ _).alloc (Nat.le_refl _) _
 have hb2:Below w1.heap.size w1 w2:=by rw[←hw2];exact(Below.refl _ _).alloc (Nat.le_refl _) _
 have hz1:w1.heap.size=w.heap.size+1:=by rw[←hw1,World.size_alloc]
 have hz2:w2.heap.size=w.heap.size+2:=by rw[←hw2,World.size_alloc,hz1]
 have hsx:Dt.Six w2 w.heap.size 0 x vm vl vt:=by
  have h:=Dt.six_of' w x vm vl vt 25;rw[hw1]at h;exact h.keep (S:=fun _=>False) ((Keep.refl _ _).below hb2) (by omega) id
 obtain⟨Z,hZ⟩:∃Z,w1.heap.size=Z:=⟨_,rfl⟩
 have hsz:Dt.Six w2 Z 0 z um ul ut:=by
  have h:=Dt.six_of' w1 z um ul ut 25;rw[hw2,hZ]at h;exact h
 have HB:=zh (hb1.trans (hb2.mono (by omega)));have HR:=zh ((hR.below hb1).below hb2);have HR':=zh ((hR'.below hb1).below hb2);have hc:=fun u (hu:Below w2.heap.size w2 u)=>dCheck_any x vm vl vt u hW (HR.out.below hu)
 have hc':=fun u (hu:Below w2.heap.size w2 u)=>dCheck_any z um ul ut u hW' (HR'.out.below hu)
 have he:=fun u (hu:Below w2.heap.size w2 u)=>Dt.equal_any x F G z vm vl vt um ul ut u hW hW' (HR.out.below hu) (HR'.out.below hu)
 obtain⟨x0,x1,x2,x3,x4,x5⟩:=hsx;obtain⟨z0,z1,z2,z3,z4,z5⟩:=hsz;have HSX:Hid (Dt.Six w2 w.heap.size 0 x vm vl vt):=⟨x0,x1,x2,x3,x4,x5⟩
 have HSZ:Hid (Dt.Six w2 Z 0 z um ul ut):=⟨z0,z1,z2,z3,z4,z5⟩
 simp only[Nat.zero_add]at x0 x1 x2 x3 x4 x5 z0 z1 z2 z3 z4 z5;obtain⟨a1,n1,c1,a2,n2,c2,a3,n3,c3,rfl,rfl,rfl⟩:=hR.forms;obtain⟨d1,p1,q1,d2,p2,q2,d3,p3,q3,rfl,rfl,rfl⟩:=hR'.forms;obtain⟨S,hS⟩:∃S,S=Dt.sameD x z:=⟨_,rfl⟩
 rw[←hS];unfold Dt.sameD at hS;obtain⟨C,hC⟩:∃C,C=Dt.check x:=⟨_,rfl⟩
 obtain⟨C',hC'⟩:∃C',C'=Dt.check z:=⟨_,rfl⟩
 obtain⟨E,hE⟩:∃E,E=Dt.eqD x z:=⟨_,rfl⟩
 rw[←hC]at hc;rw[←hC']at hc';rw[←hE]at he;rw[←hC,←hC',←hE]at hS;have HC:=zh hc;have HC':=zh hc';have HE:=zh he;have HZ2:Hid (w.heap.size<w2.heap.size∧Z<w2.heap.size):=⟨by omega,by omega⟩
 clear hc hc' he hR hR' hW hW' hb1 hb2 hz1 hz2 hC hC' hE;by_cases k1:C=0
 case neg=>
  have b1:(C==0)=false:=by simpa using k1
  have HN:Hid (S=false):=by show _=_;rw[hS];simp[k1]
  clear k1 hS;go_enter Tryz.func69,Tryz.ntmps69;go_wp2_with(first|(go_at_call 58;with_reducible refine(HC.out _ (Below.refl _ _)).mono ?_;clear x0 x1 x2 x3 x4 x5 z0 z1 z2 z3 z4 z5;rintro e w3 ⟨rfl,hb3⟩;have HB3:=zh hb3;clear hb3 hw1 hw2;obtain⟨x0,x1,x2,x3,x4,x5⟩:=HSX.out.keep (S:=fun _=>False) ((Keep.refl _ _).below HB3.out) HZ2.out.1 id;obtain⟨z0,z1,z2,z3,z4,z5⟩:=HSZ.out.keep (S:=fun _=>False) ((Keep.refl _ _).below HB3.out) HZ2.out.2 id;simp only[Nat.zero_add]at x0 x1 x2 x3 x4 x5 z0 z1 z2 z3 z4 z5)|fail)
  go_ret;exact⟨by rw[HN.out];rfl,(btr HB.out HB3.out)⟩
 have b1:(C==0)=true:=by simpa using k1
 have K1:=zh k1;clear k1;by_cases k2:C'=0
 case neg=>
  have b2:(C'==0)=false:=by simpa using k2
  have HN:Hid (S=false):=by show _=_;rw[hS];simp[k2]
  clear k2 hS;go_enter Tryz.func69,Tryz.ntmps69;go_wp2_with(first|(go_at_call 58;with_reducible refine(HC.out _ (Below.refl _ _)).mono ?_;clear x0 x1 x2 x3 x4 x5 z0 z1 z2 z3 z4 z5;rintro e w3 ⟨rfl,hb3⟩;have HB3:=zh hb3;clear hb3 hw1 hw2;obtain⟨x0,x1,x2,x3,x4,x5⟩:=HSX.out.keep (S:=fun _=>False) ((Keep.refl _ _).below HB3.out) HZ2.out.1 id;obtain⟨z0,z1,z2,z3,z4,z5⟩:=HSZ.out.keep (S:=fun _=>False) ((Keep.refl _ _).below HB3.out) HZ2.out.2 id;simp only[Nat.zero_add]at x0 x1 x2 x3 x4 x5 z0 z1 z2 z3 z4 z5)|(go_at_call 58;with_reducible refine(HC'.out _ HB3.out).mono ?_;clear x0 x1 x2 x3 x4 x5 z0 z1 z2 z3 z4 z5;rintro e w4 ⟨rfl,hb4⟩;have HB4:=zh ((btr HB3.out hb4));clear hb4;obtain⟨x0,x1,x2,x3,x4,x5⟩:=HSX.out.keep (S:=fun _=>False) ((Keep.refl _ _).below HB4.out) HZ2.out.1 id;obtain⟨z0,z1,z2,z3,z4,z5⟩:=HSZ.out.keep (S:=fun _=>False) ((Keep.refl _ _).below HB4.out) HZ2.out.2 id;simp only[Nat.zero_add]at x0 x1 x2 x3 x4 x5 z0 z1 z2 z3 z4 z5)|fail)
  go_ret;exact⟨by rw[HN.out];rfl,(btr HB.out HB4.out)⟩
 have b2:(C'==0)=true:=by simpa using k2
 have HN:Hid (S=E):=by show _=_;rw[hS];simp[K1.out,k2]
 clear k2 hS;go_enter Tryz.func69,Tryz.ntmps69;go_wp2_with(first|(go_at_call 58;with_reducible refine(HC.out _ (Below.refl _ _)).mono ?_;clear x0 x1 x2 x3 x4 x5 z0 z1 z2 z3 z4 z5;rintro e w3 ⟨rfl,hb3⟩;have HB3:=zh hb3;clear hb3 hw1 hw2;obtain⟨x0,x1,x2,x3,x4,x5⟩:=HSX.out.keep (S:=fun _=>False) ((Keep.refl _ _).below HB3.out) HZ2.out.1 id;obtain⟨z0,z1,z2,z3,z4,z5⟩:=HSZ.out.keep (S:=fun _=>False) ((Keep.refl _ _).below HB3.out) HZ2.out.2 id;simp only[Nat.zero_add]at x0 x1 x2 x3 x4 x5 z0 z1 z2 z3 z4 z5)|(go_at_call 58;with_reducible refine(HC'.out _ HB3.out).mono ?_;clear x0 x1 x2 x3 x4 x5 z0 z1 z2 z3 z4 z5;rintro e w4 ⟨rfl,hb4⟩;have HB4:=zh ((btr HB3.out hb4));clear hb4;obtain⟨x0,x1,x2,x3,x4,x5⟩:=HSX.out.keep (S:=fun _=>False) ((Keep.refl _ _).below HB4.out) HZ2.out.1 id;obtain⟨z0,z1,z2,z3,z4,z5⟩:=HSZ.out.keep (S:=fun _=>False) ((Keep.refl _ _).below HB4.out) HZ2.out.2 id;simp only[Nat.zero_add]at x0 x1 x2 x3 x4 x5 z0 z1 z2 z3 z4 z5)|(go_at_call 97;with_reducible refine(HE.out _ HB4.out).mono ?_;clear x0 x1 x2 x3 x4 x5 z0 z1 z2 z3 z4 z5;rintro e w5 ⟨rfl,hb5⟩;have HB5:=zh ((btr HB4.out hb5));clear hb5)|fail)
 go_ret;exact⟨by rw[HN.out];rfl,(btr HB.out HB5.out)⟩
namespace Cd
open Dt
def NameRow(F:Nat→Prop)(w:World)(v:Value)(l:List ByteArray):Prop:=
 ∃(a:Option Addr) (c:Nat),v= .slice a l.length c∧l.length≤c∧(l≠[]→∃b o,a=some ⟨b,o,none⟩∧F b∧b<w.heap.size∧∀j,(h:j<l.length)→w.cell? ⟨b,o+j,none⟩=some (.string l[j]))
theorem NameRow.keep{F S:Nat→Prop}{w w':World}{v:Value}{l:List ByteArray}(h:NameRow F w v l)(hk:Keep S w w')(hS:∀b,F b→b<w.heap.size→¬S b):NameRow F w' v l:=by
 obtain⟨a,c,h1,h2,h3⟩:=h;refine⟨a,c,h1,h2,fun hn=> ?_⟩;obtain⟨b,o,h4,h5,h6,h7⟩:=h3 hn;exact⟨b,o,h4,h5,Nat.lt_of_lt_of_le h6 hk.size,fun j hj=>(hk.cell _ h6 (hS b h5 h6)).trans (h7 j hj)⟩
def plainD(d:D):Bool:=decide (check d=0)&&(pre d).all fun x=>x.m.isEmpty
end Cd
end Go.Proofs.YtfjmlfbohenmfaaGreat
namespace Go.Proofs.YtfjmlfbohenmfaaGreat
namespace Co
open Dt (D)
theorem once_nodup:∀ {p:List Int},once p=true→p.Nodup
 |[],_=>List.nodup_nil
 |x :: r,h=>by
  rw[once,Bool.and_eq_true]at h;rw[List.nodup_cons];exact⟨by simpa using h.1,once_nodup h.2⟩
theorem alone_p{c:C}(h:alone c=true):c.p=[]∨(c.k=8∧c.p.Nodup):=by
 cases c with
 |mk k n s d p l=>
  show p=[]∨(k=8∧p.Nodup);unfold alone at h;dsimp only at h;split at h
  ·simp only[Bool.and_eq_true,List.isEmpty_iff]at h;exact .inl h.1.1.2
  split at h
  ·cases h
  split at h
  ·rename_i hk;simp only[Bool.and_eq_true,params]at h;exact .inr ⟨hk,once_nodup h.2.2⟩
  split at h
  ·cases h
  ·rename_i hp;left;simpa using hp
theorem here_ok{opn:Bool}{c:C}{deep:Nat}{win:List Int}{top:Bool}{cnt:Nat}{bd:List Int}(h:here opn c deep win top cnt bd=0):
  alone c=true∧((c.k=2∨c.k=4)→opn=false→c.n∈win)∧(∀x∈c.p,x∉bd):=by
 unfold here at h;split at h
 ·cases h
 split at h
 ·cases h
 split at h
 ·cases h
 rename_i h1;split at h
 ·cases h
 rename_i h2;split at h
 ·cases h
 rename_i h3;refine⟨?_,fun hk ho=> ?_,fun x hx hb=> ?_⟩
 ·cases ha:alone c with
  |true=>rfl
  |false=>exact absurd (.inl ha) h1
 ·cases hc:win.contains c.n with
  |true=>simpa using hc
  |false=>exact absurd ⟨hk,ho,hc⟩ h2
 ·exact h3 (List.any_eq_true.2 ⟨x,hx,by simpa using hb⟩)
theorem goes_ok{opn:Bool}{k n:Int}{s:ByteArray}{d:D}{p:List Int}{l:List C}{deep:Nat}{win:List Int}{top:Bool}{cnt:Nat}{bd:List Int}{r:Nat×List Int}
  (h:goes opn (.mk k n s d p l) deep win top cnt bd=(0,r)):here opn (.mk k n s d p l) deep win top cnt bd=0∧goesL opn l (deep+1) (inner k p win) (top&&decide (k=9)) (cnt+1) (bd++p)=(0,r):=by
 rw[goes]at h;split at h
 ·rename_i h1;exact absurd (Prod.mk.inj h).1 h1
 ·rename_i h1;exact⟨Classical.byContradiction h1,h⟩
theorem goesL_ok{opn:Bool}{c:C}{l:List C}{deep:Nat}{win:List Int}{top:Bool}{cnt:Nat}{bd:List Int}{r:Nat×List Int}
  (h:goesL opn (c :: l) deep win top cnt bd=(0,r)):∃q:Nat×List Int,goes opn c deep win top cnt bd=(0,q)∧goesL opn l deep win top q.1 q.2=(0,r):=by
 rw[goesL]at h;split at h
 ·rename_i h1;exact absurd (by rw[h]) h1
 ·rename_i h1;exact⟨(goes opn c deep win top cnt bd).2,Prod.ext (Classical.byContradiction h1) rfl,h⟩
theorem inner_sub{k:Int}{p win bd:List Int}(h:∀x∈win,x∈bd):∀x∈inner k p win,x∈bd++p:=fun x hx=>by
 unfold inner at hx;split at hx
 ·rcases List.mem_append.1 hx with hx|hx
  ·exact List.mem_append_left _ (h x hx)
  ·exact List.mem_append_right _ hx
 ·exact List.mem_append_left _ (h x hx)
end Co
namespace Co
open Dt (D)
theorem none_eq{d:D}(h:none_ d=true):d= .mk 0 0 ⟨#[]⟩ [] [] []:=by
 cases d with
 |mk k n s m l t=>
  have h':(decide (k=0)&&decide (n=0)&&s.data.toList.isEmpty&&m.isEmpty&&l.isEmpty&&t.isEmpty)=true:=h;simp only[Bool.and_eq_true,decide_eq_true_eq,List.isEmpty_iff]at h';obtain⟨⟨⟨⟨⟨rfl,rfl⟩,h3⟩,rfl⟩,rfl⟩,rfl⟩:=h';have:s=⟨#[]⟩:=by
   apply ByteArray.ext
   apply Array.toList_inj.1
   rw[h3]
  rw[this]
theorem here_room{opn:Bool}{c:C}{deep:Nat}{win:List Int}{top:Bool}{cnt:Nat}{bd:List Int}(h:here opn c deep win top cnt bd=0):deep≤128∧cnt<8192:=by
 unfold here at h;split at h
 ·cases h
 rename_i h1;split at h
 ·cases h
 rename_i h2;omega
end Co
namespace Co
open Dt (D)
theorem here_open{c:C}{deep:Nat}{win win':List Int}{top:Bool}{cnt:Nat}{bd:List Int}(h:here false c deep win top cnt bd=0):here true c deep win' top cnt bd=0:=by
 unfold here at h ⊢;split at h
 ·cases h
 rename_i h1;rw[if_neg h1];split at h
 ·cases h
 rename_i h2;rw[if_neg h2];split at h
 ·cases h
 rename_i h3;rw[if_neg h3];split at h
 ·cases h
 rw[if_neg (by simp)];exact h
mutual
theorem goes_open:∀(c:C) {deep:Nat} {win win':List Int} {top:Bool} {cnt:Nat} {bd:List Int} {r:Nat×List Int},goes false c deep win top cnt bd=(0,r)→goes true c deep win' top cnt bd=(0,r)
 | .mk k n s d p l,deep,win,win',top,cnt,bd,r,h=>by
  obtain⟨h1,h2⟩:=goes_ok h;rw[goes,if_neg (by rw[here_open h1];simp)];exact goesL_open l h2
theorem goesL_open:∀(l:List C) {deep:Nat} {win win':List Int} {top:Bool} {cnt:Nat} {bd:List Int} {r:Nat×List Int},goesL false l deep win top cnt bd=(0,r)→goesL true l deep win' top cnt bd=(0,r)
 |[],_,_,_,_,_,_,_,h=>by rw[goesL]at h ⊢;exact h
 |c :: l,deep,win,win',top,cnt,bd,r,h=>by
  obtain⟨q,h1,h2⟩:=goesL_ok h;have h3:=goes_open (win':=win') c h1;rw[goesL,h3,if_neg (by simp)];exact goesL_open l h2
end
mutual
theorem free_none:∀(c:C) {deep:Nat} {win:List Int} {top:Bool} {cnt:Nat} {bd:List Int} {r:Nat×List Int} (out:List Int),goes false c deep win top cnt bd=(0,r)→free c win out=out
 | .mk k n s d p l,deep,win,top,cnt,bd,r,out,h=>by
  obtain⟨h1,h2⟩:=goes_ok h;obtain⟨h3,h4,h5⟩:=here_ok h1;rw[free];have e:(if(k=2∨k=4)∧win.contains n=false then put out n else out)=out:=by
   split
   ·rename_i h6;have h7:n∈win:=h4 h6.1 rfl;have h8:win.contains n=true:=by simpa using h7
    rw[h8]at h6;exact absurd h6.2 (by decide)
   ·rfl
  rw[e];exact freeL_none l out h2
theorem freeL_none:∀(l:List C) {deep:Nat} {win:List Int} {top:Bool} {cnt:Nat} {bd:List Int} {r:Nat×List Int} (out:List Int),goesL false l deep win top cnt bd=(0,r)→freeL l win out=out
 |[],_,_,_,_,_,_,_,_=>by rw[freeL]
 |c :: l,deep,win,top,cnt,bd,r,out,h=>by
  obtain⟨q,h1,h2⟩:=goesL_ok h;rw[freeL,free_none c out h1];exact freeL_none l out h2
end
theorem check_closed{c:C}(h:check c []=0):openE c=0∧free c [] []=[]∧ok c=true:=by
 have h1:goes false c 1 [] true 0 []=(0,(goes false c 1 [] true 0 []).2):=Prod.ext h rfl;have h2:openE c=0:=by unfold openE;rw[goes_open (win':=[]) c h1]
 have h3:=free_none c [] h1;refine⟨h2,h3,?_⟩;unfold ok;rw[h2,h3,h]
 rfl
theorem here_more{c:C}{deep:Nat}{win bd:List Int}{top:Bool}{cnt:Nat}{more:Int}(win' bd':List Int)(hw:∀x∈win,x∈win')(hb:∀x∈bd',x∈bd∨x=more)(hp:more∉c.p)(h:here false c deep win top cnt bd=0):here false c deep win' top cnt bd'=0:=by
 obtain⟨h3,h4,h5⟩:=here_ok h;unfold here at h ⊢;split at h
 ·cases h
 rename_i h1;rw[if_neg h1];split at h
 ·cases h
 rename_i h2;rw[if_neg h2];split at h
 ·cases h
 rename_i h6;rw[if_neg h6,if_neg (fun e=>by
  have:=hw _ (h4 e.1 rfl);have h8:win'.contains c.n=true:=by simpa using this
  rw[h8]at e;exact absurd e.2.2 (by decide)),if_neg (fun e=>by
  obtain⟨x,hx,hxb⟩:=List.any_eq_true.1 e;have hxb':x∈bd':=by simpa using hxb
  rcases hb x hxb' with h7|h7
  ·exact h5 x hx h7
  ·exact hp (h7▸hx))]
end Co
namespace Co
end Co
namespace Co
def puts(l:List Int):List Int:=l.foldl put []
theorem put_mem:∀(l:List Int) (n x:Int),x∈put l n↔x∈l∨x=n
 |[],n,x=>by rw[put];simp
 |y :: r,n,x=>by
  rw[put];split
  ·simp only[List.mem_cons];constructor
   ·rintro(h|h|h)
    ·exact .inr h
    ·exact .inl (.inl h)
    ·exact .inl (.inr h)
   ·rintro((h|h)|h)
    ·exact .inr (.inl h)
    ·exact .inr (.inr h)
    ·exact .inl h
  split
  ·rename_i h1 h2;subst h2;simp only[List.mem_cons];constructor
   ·rintro(h|h)
    ·exact .inl (.inl h)
    ·exact .inl (.inr h)
   ·rintro((h|h)|h)
    ·exact .inl h
    ·exact .inr h
    ·exact .inl h
  ·simp only[List.mem_cons,put_mem r n x];constructor
   ·rintro(h|h|h)
    ·exact .inl (.inl h)
    ·exact .inl (.inr h)
    ·exact .inr h
   ·rintro((h|h)|h)
    ·exact .inl h
    ·exact .inr (.inl h)
    ·exact .inr (.inr h)
theorem put_sorted:∀ {l:List Int} (n:Int),l.Pairwise (· < ·)→(put l n).Pairwise (· < ·)
 |[],n,_=>by rw[put];simp
 |y :: r,n,h=>by
  rw[List.pairwise_cons]at h;rw[put];split
  ·rename_i h1;rw[List.pairwise_cons];refine⟨fun x hx=> ?_,List.pairwise_cons.2 h⟩;rcases List.mem_cons.1 hx with rfl|hx
   ·exact h1
   ·have:=h.1 x hx;omega
  split
  ·exact List.pairwise_cons.2 h
  ·rename_i h1 h2;rw[List.pairwise_cons];refine⟨fun x hx=> ?_,put_sorted n h.2⟩;rcases(put_mem r n x).1 hx with hx|rfl
   ·exact h.1 x hx
   ·omega
theorem foldl_put:∀(l acc:List Int),acc.Pairwise (· < ·)→(l.foldl put acc).Pairwise (· < ·)∧∀x,x∈l.foldl put acc↔x∈acc∨x∈l
 |[],acc,h=>⟨h,fun x=>by simp⟩
 |n :: r,acc,h=>by
  obtain⟨h1,h2⟩:=foldl_put r (put acc n) (put_sorted n h);refine⟨h1,fun x=> ?_⟩;rw[List.foldl_cons,h2,put_mem,List.mem_cons];constructor
  ·rintro((h|h)|h)
   ·exact .inl h
   ·exact .inr (.inl h)
   ·exact .inr (.inr h)
  ·rintro(h|h|h)
   ·exact .inl (.inl h)
   ·exact .inl (.inr h)
   ·exact .inr h
theorem puts_mem(l:List Int)(x:Int):x∈puts l↔x∈l:=by
 unfold puts;rw[(foldl_put l [] List.Pairwise.nil).2];simp
theorem puts_sorted(l:List Int):(puts l).Pairwise (· < ·):=(foldl_put l [] List.Pairwise.nil).1
mutual
def frees:C→List Int→List Int
 | .mk k n _ _ p l,win=>(if(k=2∨k=4)∧win.contains n=false then [n]else [])++freesL l (inner k p win)
def freesL:List C→List Int→List Int
 |[],_=>[]
 |c :: r,win=>frees c win++freesL r win
end
mutual
theorem free_fold:∀(c:C) (win out:List Int),free c win out=(frees c win).foldl put out
 | .mk k n s d p l,win,out=>by
  rw[free,frees,List.foldl_append,freeL_fold l];congr 1;split <;> rfl
theorem freeL_fold:∀(l:List C) (win out:List Int),freeL l win out=(freesL l win).foldl put out
 |[],_,_=>by rw[freeL,freesL];rfl
 |c :: r,win,out=>by rw[freeL,freesL,List.foldl_append,free_fold c,freeL_fold r]
end
theorem free_puts(c:C):free c [] []=puts (frees c []):=free_fold c [] []
end Co
end Go.Proofs.YtfjmlfbohenmfaaGreat
namespace Go.Proofs.YtfjmlfbohenmfaaGreat
open Go.RowKit
attribute [local go_sem] Oper.semAt_some
namespace Co
def marked(d:Dt.D):Bool:= !((if Dt.check d=0 then Dt.pre d else []).all fun x=>x.m.isEmpty)
theorem const_marked(d:Dt.D):const d=(decide (Dt.check d=0)&& !(marked d)):=by
 unfold const marked;by_cases h:Dt.check d=0
 ·rw[decide_eq_true h,if_pos h,Bool.not_not]
 ·rw[decide_eq_false h];rfl
theorem all_take{l:List Dt.D}{j:Nat}(hj:j<l.length)(h:(l.take j).all (fun x=>x.m.isEmpty)=true)(h2:l[j].m.isEmpty=true):(l.take (j+1)).all (fun x=>x.m.isEmpty)=true:=by
 rw[List.take_succ_eq_append_getElem hj,List.all_append,h,List.all_cons,h2]
 rfl
end Co
theorem coMarks_any{F:Nat→Prop}(d:Dt.D)(vm vl vt:Value)(w:World)(hW:Dt.Wf d)(hR:Dt.Rep F w d vm vl vt):
  Calls Tryz.prog 92 #[.agg #[.int .i64 d.k,.int .i64 d.n,.string d.s,vm,vl,vt]] w fun e w'=>e= .returned (.bool (Co.marked d))∧Below w.heap.size w w':=by
 obtain⟨a1,n1,q1,a2,n2,q2,a3,n3,q3,rfl,rfl,rfl⟩:=hR.forms;obtain⟨w1,hw1⟩:∃w1,w.alloc (.cells #[.int .i64 d.k,.int .i64 d.n,.string d.s,.slice a1 n1 q1,.slice a2 n2 q2,.slice a3 n3 q3] 25)=w1:=⟨_,rfl⟩
 obtain⟨hb1,hs1⟩:=new_below hw1;have hall:=rAll_any d _ _ _ w1 hW (hR.below hb1);unfold Dt.AllPost at hall;have H1:=zh (Hp.new hw1);have HB1:=zh hb1;obtain⟨c0,c1,c2,c3,c4,c5⟩:=H1.out.c6;obtain⟨M,hM⟩:∃M,Co.marked d=M:=⟨_,rfl⟩
 unfold Co.marked at hM;obtain⟨L,hL⟩:∃L,(if Dt.check d=0 then Dt.pre d else [])=L:=⟨_,rfl⟩
 rw[hL]at hM hall;have HM:=zh hM;rw[show Co.marked d=M by unfold Co.marked;rw[hL];exact hM];clear hb1 hs1 hM hL hW hR;go_enter Tryz.func92,Tryz.ntmps92;go_wp2_with fail
 refine hall.mono ?_;rintro e w2 ⟨vp,ls,rfl,hown,hrep,hmap,hlen,hb2⟩;obtain⟨ap,cp,rfl⟩:=Dt.row_form hown;have HOWN:=zh hown;have HREP:=zh hrep;have HMAP:=zh hmap;have HB2:Hid (Below w.heap.size w w2):=btr HB1.out hb2;clear c0 c1 c2 c3 c4 c5;clear hall hown hrep hmap hb2 hw1 H1;have HQ0:Hid ((L.take 0).all (fun x=>x.m.isEmpty)=true):=zh (by rw[List.take_zero];rfl);go_wp2
 go_loopw [4] (fun v wr=>∃j:Nat,v= .int .i64 j∧j≤ls.length∧wr=w2∧Hid ((L.take j).all (fun x=>x.m.isEmpty)=true)) (fun v _=>ls.length - (intOf v).toNat)
 case atStart=>exact⟨0,rfl,by omega,rfl,HQ0⟩
 case round=>
  clear HQ0;obtain⟨j,rfl,hj,rfl,HQ⟩:=hrel;by_cases hlt:j<ls.length
  case neg=>
   have hge:(ls.length:Int)≤(j:Int):=by omega
   have hM:M=false:=by
    have h:=HQ.out;rw[show j=ls.length by omega,show ls.length=L.length by rw[←HMAP.out,List.length_map],List.take_length]at h;rw[←HM.out,h]
    rfl
   subst hM;clear hlt hj;go_wp2;go_ret;exact⟨rfl,HB2.out⟩
  have hlti:(j:Int)<(ls.length:Int):=by omega
  obtain⟨g,c,he,hgl,hsix⟩:=Dt.part_at HOWN.out j hlt;cases he;have hr:=HREP.out ls[j] (List.getElem_mem hlt);have hjL:j<L.length:=by rw[←HMAP.out,List.length_map];exact hlt
  have hLj:L[j]=ls[j].d:=by simp[←HMAP.out]
  obtain⟨⟨b1,r1,hm1,hmc,-⟩,-,-⟩:=(Dt.rep_iff _ _ _ _ _ _).1 hr;have s3:=hsix.c3;rw[hm1]at s3;obtain⟨N,hN⟩:∃N,ls[j].d.m.length=N:=⟨_,rfl⟩
  rw[hN]at s3;have HN:=zh hN;have HLJ:=zh hLj;clear hr hsix hm1 hmc hN hLj hgl;by_cases h0:0<N
  ·have hb:decide ((0:Int)<(N:Int))=true:=decide_eq_true (by omega);have hbn:decide (0<N)=true:=decide_eq_true h0;have hM:M=true:=by
    rw[←HM.out,Bool.not_eq_true',Bool.eq_false_iff];intro h;have h1:=List.all_eq_true.1 h L[j] (List.getElem_mem hjL);rw[HLJ.out]at h1;have h2:ls[j].d.m=[]:=by simpa using h1
    have h3:=HN.out;rw[h2]at h3;simp at h3;omega
   subst hM;clear h0;go_wp2;go_ret;exact⟨rfl,HB2.out⟩
  ·have hb:decide ((0:Int)<(N:Int))=false:=decide_eq_false (by omega);have hbn:decide (0<N)=false:=decide_eq_false h0;have HN2:Hid ((L.take (j+1)).all (fun x=>x.m.isEmpty)=true):=Co.all_take hjL HQ.out (by
    rw[HLJ.out];have h3:=HN.out;have:ls[j].d.m=[]:=List.length_eq_zero_iff.1 (by omega);rw[this]
    rfl)
   clear h0;go_wp2;go_roundw
   case rel=>exact⟨j+1,by simp,by omega,trivial,HN2⟩
   case measure=>simp[intOf];omega
end Go.Proofs.YtfjmlfbohenmfaaGreat
namespace Go.Proofs.YtfjmlfbohenmfaaGreat
open Go.RowKit
namespace Ap
def Src2(w:World)(src:Value)(m:Nat)(news:List Value):Prop:=Src w src m news∨∃c,src= .slice none 0 c∧m=0∧news=[]
section
variable {P:Program} {w:World}
theorem run_none(base:Nat)(t ty e:TypeId)(i:TypeInfo)(size:Nat)(ht:P.underlying t=some (.slice e))(hi:P.info? e=some i)
  (v:Value) (n c:Nat) (xs:List Value) (hown:w.ownsRow base e size v n xs):
  (Builtin.append_ #[t,t] ty #[v,.slice none 0 c]).run P w= .ok v w:=by
 rcases hown.2 with⟨rfl,rfl⟩|⟨g,cap,cur,rfl,_,_,hnc,_⟩
 ·simp[Builtin.append_,run_underlying ht,sizeOf,typeInfo,hi,Builtin.lenOf,Builtin.firstCells]
 ·simp[Builtin.append_,run_underlying ht,sizeOf,typeInfo,hi,Builtin.lenOf,Builtin.firstCells,hnc,storeCells]
theorem step2{ops:Array Oper}{o:Oper}{a:Act}{K:Act→World→Prop}{Q:Exit→Act→World→Prop}{E:Prop}(hgd:o.guard=none)(s x:Operand)(t:TypeId)
  (ho:o.op= .call {callee:= .builtin .append,args:=#[s,x],argTypes:=#[t,t]})
  (base:Nat) (e:TypeId) (i:TypeInfo) (z:Value) (size bytes:Nat) (ht:P.underlying t=some (.slice e)) (hi:P.info? e=some i) (hz:i.zero=some z)
  (hsize:i.size=size) (hby:i.bytes=bytes) (hzs:z.cells.size=size) (hsz:0<size)
  (v:Value) (n:Nat) (xs:List Value) (hs:a.eval s=v) (hown:w.ownsRow base e size v n xs)
  (src:Value) (m:Nat) (news:List Value) (hx:a.eval x=src) (hsrc:Src2 w src m news) (hl:news.length=m*size) (h1:∀u∈news,u.oneCell'=true)
  (h63:n+m≤maxLen) (hbytes:(n+m)*bytes≤140737488355328) (hbase:base≤w.heap.size)
  (h:∀v' w',w'.ownsRow base e size v' (n+m) (xs++news)→w.grownBy w' v.ownBlock→(v'.ownBlock=v.ownBlock∨v'.ownBlock=some w.heap.size)→K (a.put o.dst v') w'):
  if Region.wanted o (yielded ops a.tmps)=true then Oper.wp P o a w K Q else E:=by
 rcases hsrc with hsrc|⟨c,rfl,rfl,rfl⟩
 ·exact step hgd s x t ho base e i z size bytes ht hi hz hsize hby hzs hsz v n xs hs hown src m news hx hsrc hl h1 h63 hbytes hbase h
 ·have hw:Region.wanted o (yielded ops a.tmps)=true:=by simp[Region.wanted,hgd]
  rw[if_pos hw];unfold Oper.wp execOp;simp only[ho,resolve,invoke,builtin,Sem.run_bind,Sem.run_pure,Result.andThen_ok,List.map_toArray,List.map_cons,List.map_nil,hs,hx,run_none base t o.type e i size ht hi v n c xs hown];exact h v w (by simpa using hown) ⟨rfl,rfl,rfl,Nat.le_refl _,fun _ _ _=>rfl⟩ (.inl rfl)
theorem list2{ops:Array Oper}{rest:List Oper}{o:Oper}{a:Act}{Q:Exit→Act→World→Prop}(hgd:o.guard=none)(s x:Operand)(t:TypeId)
  (ho:o.op= .call {callee:= .builtin .append,args:=#[s,x],argTypes:=#[t,t]})
  (base:Nat) (e:TypeId) (i:TypeInfo) (z:Value) (size bytes:Nat) (ht:P.underlying t=some (.slice e)) (hi:P.info? e=some i) (hz:i.zero=some z)
  (hsize:i.size=size) (hby:i.bytes=bytes) (hzs:z.cells.size=size) (hsz:0<size)
  (v:Value) (n:Nat) (xs:List Value) (hs:a.eval s=v) (hown:w.ownsRow base e size v n xs)
  (src:Value) (m:Nat) (news:List Value) (hx:a.eval x=src) (hsrc:Src2 w src m news) (hl:news.length=m*size) (h1:∀u∈news,u.oneCell'=true)
  (h63:n+m≤maxLen) (hbytes:(n+m)*bytes≤140737488355328) (hbase:base≤w.heap.size)
  (h:∀v' w',w'.ownsRow base e size v' (n+m) (xs++news)→w.grownBy w' v.ownBlock→(v'.ownBlock=v.ownBlock∨v'.ownBlock=some w.heap.size)→wpList P ops Q rest (a.put o.dst v') w'):wpList P ops Q (o :: rest) a w:=by
 rcases hsrc with hsrc|⟨c,rfl,rfl,rfl⟩
 ·exact list hgd s x t ho base e i z size bytes ht hi hz hsize hby hzs hsz v n xs hs hown src m news hx hsrc hl h1 h63 hbytes hbase h
 ·refine wpList_plain hgd fun _ hK=> ?_
  unfold Oper.wp execOp;simp only[ho,resolve,invoke,builtin,Sem.run_bind,Sem.run_pure,Result.andThen_ok,List.map_toArray,List.map_cons,List.map_nil,hs,hx,run_none base t o.type e i size ht hi v n c xs hown];exact hK _ _ (h v w (by simpa using hown) ⟨rfl,rfl,rfl,Nat.le_refl _,fun _ _ _=>rfl⟩ (.inl rfl))
end
end Ap
theorem Dt.IRow.src2{F:Nat→Prop}{w:World}{v:Value}{m:List Int}(h:Dt.IRow F w v m):Ap.Src2 w v m.length (m.map (Value.int .i64)):=by
 have h0:=h;obtain⟨a,c,rfl,-,h3⟩:=h;by_cases ha:a=none
 ·right;have hm:m=[]:=by
   cases m with
   |nil=>rfl
   |cons x r=>obtain⟨b,o,e,-⟩:=h3 (by simp);rw[ha]at e;cases e
  subst hm ha;exact⟨c,rfl,rfl,rfl⟩
 ·exact .inl (Dt.IRow.src h0 ha)
end Go.Proofs.YtfjmlfbohenmfaaGreat
namespace Go.Proofs.YtfjmlfbohenmfaaGreat
namespace Co
open Dt (D)
abbrev Asks:=List (Int×Int)→Int→Int→Bool×List (Int×Int)
def stepsG(st:Asks)(m:List (Int×Int)):List Int→List Int→Bool×List (Int×Int)
 |[],_=>(true,m)
 |_,[]=>(true,m)
 |x :: p,y :: q=>if(st m x y).1 then stepsG st (st m x y).2 p q else st m x y
mutual
def besideG(st:Asks):C→C→Nat→Int→List (Int×Int)→Bool×Int×List (Int×Int)
 | .mk k n s d p l,b,deep,left,m=>
  if left - 1<0∨128<deep then(false,left - 1,m)
  else if like (.mk k n s d p l) b=false then(false,left - 1,m)
  else if(stepsG st m p b.p).1=false then(false,left - 1,m)
  else if(k=2∨k=4)∧(st (stepsG st m p b.p).2 n b.n).1=false then(false,left - 1,m)
  else if ¬ (k=2∨k=4)∧n≠b.n then(false,left - 1,m)
  else besideGL st l b.l (deep+1) (left - 1) (if k=2∨k=4 then(st (stepsG st m p b.p).2 n b.n).2 else(stepsG st m p b.p).2)
def besideGL(st:Asks):List C→List C→Nat→Int→List (Int×Int)→Bool×Int×List (Int×Int)
 |[],_,_,left,m=>(true,left,m)
 |a :: r,bs,deep,left,m=>match bs with
  |[]=>(true,left,m)
  |b :: q=>if(besideG st a b deep left m).1=false then besideG st a b deep left m else besideGL st r q deep (besideG st a b deep left m).2.1 (besideG st a b deep left m).2.2
end
theorem stepsG_step:∀(p q:List Int) (m:List (Int×Int)),stepsG step m p q=steps m p q
 |[],_,m=>by rw[stepsG,steps]
 |_ :: _,[],m=>by rw[stepsG,steps];all_goals (intro h;cases h)
 |x :: p,y :: q,m=>by rw[stepsG,steps,stepsG_step p q]
mutual
theorem besideG_step:∀(a b:C) (deep:Nat) (left:Int) (m:List (Int×Int)),besideG step a b deep left m=beside a b deep left m
 | .mk k n s d p l,b,deep,left,m=>by rw[besideG,beside,stepsG_step,besideGL_step]
theorem besideGL_step:∀(a b:List C) (deep:Nat) (left:Int) (m:List (Int×Int)),besideGL step a b deep left m=besideL a b deep left m
 |[],b,deep,left,m=>by rw[besideGL,besideL]
 |c :: r,[],deep,left,m=>by rw[besideGL,besideL]
 |c :: r,b :: q,deep,left,m=>by rw[besideGL,besideL];simp only[besideG_step c b,besideGL_step r q]
end
def eqs:Asks:=fun m x y=>(decide (x=y),m)
theorem stepsG_eqs:∀(p q:List Int),p.length=q.length→stepsG eqs [] p q=(decide (p=q),[])
 |[],[],_=>rfl
 |[],_ :: _,h=>by simp at h
 |_ :: _,[],h=>by simp at h
 |x :: p,y :: q,h=>by
  rw[stepsG];show(if decide (x=y)=true then stepsG eqs [] p q else(decide (x=y),[]))=_;rw[stepsG_eqs p q (by simpa using h)];by_cases e:x=y
  ·rw[if_pos (decide_eq_true e)];simp[e]
  ·rw[decide_eq_false e,if_neg (by simp)];simp[e]
theorem like_len{a b:C}(h:like a b=true):a.k=b.k∧a.s=b.s∧a.p.length=b.p.length∧a.l.length=b.l.length∧sd a.d b.d=true:=by
 unfold like at h;simpa[and_assoc]using h
mutual
theorem besideG_eqs:∀(a b:C) (deep:Nat) (left:Int),besideG eqs a b deep left []=((pairs a b deep left).1,(pairs a b deep left).2,[])
 | .mk k n s d p l,b,deep,left=>by
  rw[besideG,pairs];by_cases h1:left - 1<0∨128<deep
  ·rw[if_pos h1,if_pos h1]
  rw[if_neg h1,if_neg h1];cases h2:like (.mk k n s d p l) b
  ·rw[if_pos rfl];simp
  have hl:=(like_len h2).2.2.1;rw[if_neg (by simp),stepsG_eqs p b.p hl];by_cases h3:p=b.p
  ·rw[if_neg (by simp[h3])];by_cases h4:n=b.n
   ·rw[if_neg (show ¬ ((k=2∨k=4)∧(eqs (decide (p=b.p),([]:List (Int×Int))).2 n b.n).1=false)from fun h=>(by simp[eqs,h4]at h)),if_neg (show ¬ (¬ (k=2∨k=4)∧n≠b.n)from fun h=>h.2 h4),if_neg (show ¬ ((true&&decide (n=b.n)&&decide (p=b.p))=false)by simp[h3,h4])];have e:(if k=2∨k=4 then(eqs (decide (p=b.p),([]:List (Int×Int))).2 n b.n).2 else(decide (p=b.p),([]:List (Int×Int))).2)=[]:=by split <;> rfl
    rw[e,besideGL_eqs l b.l]
   ·rw[if_pos (by simp[h4]:(true&&decide (n=b.n)&&decide (p=b.p))=false)];by_cases hk:k=2∨k=4
    ·rw[if_pos ⟨hk,by simp[eqs,h4]⟩]
    ·rw[if_neg (fun h=>hk h.1),if_pos ⟨hk,h4⟩]
  ·rw[if_pos (by simp[h3]),if_pos (by simp[h3])]
theorem besideGL_eqs:∀(a b:List C) (deep:Nat) (left:Int),besideGL eqs a b deep left []=((pairsL a b deep left).1,(pairsL a b deep left).2,[])
 |[],b,deep,left=>by rw[besideGL,pairsL]
 |c :: r,[],deep,left=>by rw[besideGL,pairsL]
 |c :: r,b :: q,deep,left=>by
  rw[besideGL,pairsL];simp only[besideG_eqs c b];split
  ·rfl
  ·exact besideGL_eqs r q _ _
end
end Co
end Go.Proofs.YtfjmlfbohenmfaaGreat
namespace Go.Proofs.YtfjmlfbohenmfaaGreat
open Go.ChangeShapes Go.WideShapes Go.RowKit Go.Deep
namespace Dt
section
variable {H:Type} {enc:TypeId×Value→H} {P:Program} {w:World} {base:Nat} {spare:Nat→Bool} {held:Bool}
theorem weights_all{e:TypeId}:∀ {l:List (DataW H)} {d:DataW H},d∈l→∀n∈d.weights P e,n∈DataW.weightsAll P e l
 |a :: l,d,hd,n,hn=>by
  simp only[DataW.weightsAll,List.mem_append];rcases List.mem_cons.1 hd with rfl|hd
  ·exact .inl hn
  ·exact .inr (weights_all hd n hn)
def Fits(P:Program)(t:TypeId)(d:DataW H):Prop:=∀n∈d.weights P t,n≤reachBytes
theorem trod_six{t:TypeId}{f0 f1 f2 f3 f4 f5:Field}{fuel:Nat}{cs:List Value}{x:DataW H×List MemPlace}(hs:P.underlying t=some (.struct #[f0,f1,f2,f3,f4,f5]))(hone:oneCellFields P #[f0,f1,f2,f3,f4,f5]=true)(hC:P.cellsOf t=6)
  (h:DataW.trod enc P w base spare held fuel t cs=some x) (hf:Fits P t x.1):
  ∃(v0 v1 v2 v3 v4 v5:Value) (y0 y1 y2 y3 y4 y5:DataW H×List MemPlace) (n:Nat),fuel=n+1∧cs=[v0,v1,v2,v3,v4,v5]∧
   (DataW.trod enc P w base spare held n f0.type [v0]=some y0∧Fits P f0.type y0.1)∧(DataW.trod enc P w base spare held n f1.type [v1]=some y1∧Fits P f1.type y1.1)∧(DataW.trod enc P w base spare held n f2.type [v2]=some y2∧Fits P f2.type y2.1)∧(DataW.trod enc P w base spare held n f3.type [v3]=some y3∧Fits P f3.type y3.1)∧(DataW.trod enc P w base spare held n f4.type [v4]=some y4∧Fits P f4.type y4.1)∧(DataW.trod enc P w base spare held n f5.type [v5]=some y5∧Fits P f5.type y5.1):=by
 obtain⟨xs,n,hn,hx,hsz,hlen,hg⟩:=DataW.trod_struct hs h
 match cs,hsz.trans hC with
 |[c0,c1,c2,c3,c4,c5],_=>
  obtain⟨o0,k0⟩:=hone_of hone 0 f0 rfl;obtain⟨o1,k1⟩:=hone_of hone 1 f1 rfl;obtain⟨o2,k2⟩:=hone_of hone 2 f2 rfl;obtain⟨o3,k3⟩:=hone_of hone 3 f3 rfl;obtain⟨o4,k4⟩:=hone_of hone 4 f4 rfl;obtain⟨o5,k5⟩:=hone_of hone 5 f5 rfl
  match xs,hlen with
  |[y0,y1,y2,y3,y4,y5],_=>
   have hw:∀(i:Nat) (f:Field) (y:DataW H×List MemPlace),#[f0,f1,f2,f3,f4,f5][i]?=some f→[y0,y1,y2,y3,y4,y5][i]?=some y→Fits P f.type y.1:=by
    intro i f y h1 h2 m hm;refine hf m ?_;rw[hx];show m∈(DataW.agg ([y0,y1,y2,y3,y4,y5].map (·.1))).weights P t;simp only[DataW.weights,hs];refine DataW.weights_mem_each (j:=i) (t:=f.type) (d:=y.1) ?_ ?_ m hm
    ·rw[List.getElem?_map,Array.getElem?_toList,h1];rfl
    ·rw[List.getElem?_map,h2];rfl
   exact⟨c0,c1,c2,c3,c4,c5,y0,y1,y2,y3,y4,y5,n,hn,rfl,⟨by simpa[o0,k0]using hg 0 f0 rfl,hw 0 f0 y0 rfl rfl⟩,⟨by simpa[o1,k1]using hg 1 f1 rfl,hw 1 f1 y1 rfl rfl⟩,⟨by simpa[o2,k2]using hg 2 f2 rfl,hw 2 f2 y2 rfl rfl⟩,⟨by simpa[o3,k3]using hg 3 f3 rfl,hw 3 f3 y3 rfl rfl⟩,⟨by simpa[o4,k4]using hg 4 f4 rfl,hw 4 f4 y4 rfl rfl⟩,⟨by simpa[o5,k5]using hg 5 f5 rfl,hw 5 f5 y5 rfl rfl⟩⟩
theorem open_row{t e:TypeId}{fuel:Nat}{cs:List Value}{x:DataW H×List MemPlace}(ht:P.underlying t=some (.slice e))(h:DataW.trod enc P w base spare held fuel t cs=some x)(hf:Fits P t x.1):
  (cs = [.slice none 0 0]) ∨ ∃ (a : Addr) (len cap n : Nat), fuel = n + 1 ∧ cs = [.slice (some a) len cap] ∧ len ≤ cap ∧ len * P.bytesOf e ≤ reachBytes ∧
   ∀i,i<len→∃cs' y,w.cells? base (a.add (i*P.cellsOf e)) (P.cellsOf e)=some cs'∧DataW.trod enc P w base spare held n e cs'=some y∧Fits P e y.1:=by
 rcases DataW.trod_slice ht h with⟨h0,_⟩|⟨a,len,cap,elems,rest,n,hn,hcs,hx,hb,hl,hm,hlen,hel,_,_⟩
 ·exact .inl h0
 refine .inr ⟨a,len,cap,n,hn,hcs,hl,?_,fun i hi=> ?_⟩
 ·have h9:=hf ((elems.length+rest.length)*P.bytesOf e) (by rw[hx];simp[DataW.weights,ht]);rw[hlen]at h9;exact Nat.le_trans (Nat.mul_le_mul_right _ (Nat.le_add_right _ _)) h9
 ·have h1:=hel i hi;rw[List.getElem?_eq_getElem (by omega)]at h1;obtain⟨cs',h2,h3⟩:=Option.bind_eq_some_iff.1 h1;refine⟨cs',elems[i],h2,h3,fun m hm'=>hf m ?_⟩;rw[hx];simp only[DataW.weights,ht,List.mem_cons,List.mem_append];exact .inr (.inl (weights_all (List.mem_map_of_mem (List.getElem_mem _)) m hm'))
end
theorem gather{α:Type}(Q:Nat→α→Prop):∀n,(∀i,i<n→∃t,Q i t)→∃l:List α,l.length=n∧∀j,(h:j<l.length)→Q j l[j]
 |0,_=>⟨[],rfl,fun j h=>absurd h (by simp)⟩
 |n+1,h=>by
  obtain⟨l,hl,hq⟩:=gather Q n (fun i hi=>h i (by omega));obtain⟨t,ht⟩:=h n (by omega);refine⟨l++[t],by simp[hl],fun j hj=> ?_⟩;by_cases e:j<l.length
  ·rw[List.getElem_append_left e];exact hq j e
  ·have:j=l.length:=by simp at hj;omega
   subst this;rw[List.getElem_append_right (by omega)];simpa[hl]using ht
theorem add_none{b o i:Nat}:(⟨b,o,none⟩:Addr).add i=⟨b,o+i,none⟩:=by unfold Addr.add;split <;> simp_all
theorem spot_none{w:World}{b o:Nat}{spot:Option Nat}{i:Nat}{v:Value}(h:w.cell? ((⟨b,o,spot⟩:Addr).add i)=some v)(hi:i=0):spot=none:=by
 subst hi;have:=World.cell?_spot h;simpa[Addr.add]using this
section
variable {H:Type} {enc:TypeId×Value→H} {w:World} {base:Nat} {spare:Nat→Bool} {held:Bool}
theorem open_ints{fuel:Nat}{v:Value}{x:DataW H×List MemPlace}(h:DataW.trod enc Tryz.prog w base spare held fuel 22 [v]=some x)(hf:Fits Tryz.prog 22 x.1):
  ∃m:List Int,IRow (fun _=>True) w v m∧m.length≤140737488355328∧∀y∈m,-9223372036854775808≤y∧y≤9223372036854775807:=by
 rcases open_row Tryz.underlying22 h hf with h0|⟨a,len,cap,n,-,hcs,hl,hb,hel⟩
 ·obtain rfl:v= .slice none 0 0:=by simpa using h0
  exact⟨[],⟨none,0,rfl,Nat.le_refl _,fun h=>absurd rfl h⟩,by simp,by simp⟩
 ·obtain rfl:v= .slice (some a) len cap:=by simpa using hcs
  have hC:Tryz.prog.cellsOf 3=1:=by kernel_rfl
  have hB:Tryz.prog.bytesOf 3=8:=by kernel_rfl
  rw[hB]at hb;rw[hC]at hel;have hr:reachBytes=140737488351232:=by decide
  obtain⟨m,hm,hq⟩:=gather (fun i (y:Int)=>w.cell? (a.add i)=some (.int .i64 y)∧ -9223372036854775808≤y∧y≤9223372036854775807) len (fun i hi=>by
   obtain⟨cs',y,hc,ht,_⟩:=hel i hi;obtain⟨z,e0,_,hz⟩:=DataW.trod_int Tryz.underlying3 ht;subst e0;obtain⟨_,_,hat⟩:=World.cells?_some hc;have g0:=hat 0 (by omega);rw[Nat.mul_one]at g0;have hz':(decide (IntKind.i64.min≤z)&&decide (z≤IntKind.i64.max))=true:=hz;rw[show IntKind.i64.min= -9223372036854775808 by decide,show IntKind.i64.max=9223372036854775807 by decide]at hz';simp only[Bool.and_eq_true,decide_eq_true_eq]at hz';refine⟨z,?_,hz'⟩;have e9:(a.add i).add 0=a.add i:=by unfold Addr.add;rw[if_pos rfl]
   rw[e9]at g0;exact g0)
  refine⟨m,⟨some a,cap,by rw[hm],by omega,fun hn=> ?_⟩,by omega,fun y hy=> ?_⟩
  ·have hpos:0<m.length:=List.length_pos_iff.2 hn;obtain⟨b,off,spot⟩:=a;obtain rfl:=spot_none (hq 0 hpos).1 rfl;refine⟨b,off,rfl,trivial,?_,fun j hj=> ?_⟩
   ·have:=(hq 0 hpos).1;rw[add_none]at this;exact block_lt_of_cell this
   ·have:=(hq j hj).1;rw[add_none]at this;exact this
  ·obtain⟨j,hj,rfl⟩:=List.getElem_of_mem hy;exact(hq j hj).2
theorem wfs_of{l:List D}(h:∀j,(hj:j<l.length)→Wf l[j]):Wfs l:=by
 induction l with
 |nil=>rw[Wfs];trivial
 |cons a l ih=>
  rw[Wfs];exact⟨h 0 (by simp),ih (fun j hj=>h (j+1) (by simpa using hj))⟩
theorem open_data{fuel:Nat}{v:Value}{x:DataW H×List MemPlace}(h:DataW.trod enc Tryz.prog w base spare held fuel 23 [v]=some x)(hf:Fits Tryz.prog 23 x.1)
  (ih:∀n,n<fuel→∀cs y,DataW.trod enc Tryz.prog w base spare held n 25 cs=some y→Fits Tryz.prog 25 y.1→∃(d:D) (vm vl vt:Value),cs=[.int .i64 d.k,.int .i64 d.n,.string d.s,vm,vl,vt]∧Wf d∧Rep (fun _=>True) w d vm vl vt):
  ∃l:List D,Row (fun _=>True) w v l∧l.length≤140737488355328∧Wfs l:=by
 rcases open_row Tryz.underlying23 h hf with h0|⟨a,len,cap,n,hn,hcs,hl,hb,hel⟩
 ·obtain rfl:v= .slice none 0 0:=by simpa using h0
  exact⟨[],⟨none,0,rfl,Nat.le_refl _,fun h=>absurd rfl h⟩,by simp,by rw[Wfs];trivial⟩
 ·obtain rfl:v= .slice (some a) len cap:=by simpa using hcs
  have hC:Tryz.prog.cellsOf 25=6:=by kernel_rfl
  have hB:Tryz.prog.bytesOf 25=104:=by kernel_rfl
  rw[hB]at hb;rw[hC]at hel;have hr:reachBytes=140737488351232:=by decide
  obtain⟨l,hm,hq⟩:=gather (fun i (d:D)=>Wf d∧∃vm vl vt,Rep (fun _=>True) w d vm vl vt∧∀j,j<6→w.cell? ((a.add (i*6)).add j)=[Value.int .i64 d.k,.int .i64 d.n,.string d.s,vm,vl,vt][j]?) len (fun i hi=>by
   obtain⟨cs',y,hc,ht,hfy⟩:=hel i hi;obtain⟨d,vm,vl,vt,e0,hw,hr⟩:=ih n (by omega) cs' y ht hfy;subst e0;obtain⟨_,_,hat⟩:=World.cells?_some hc;exact⟨d,hw,vm,vl,vt,hr,hat⟩)
  refine⟨l,⟨some a,cap,by rw[hm],by omega,fun hne=> ?_⟩,by omega,wfs_of (fun j hj=>(hq j hj).1)⟩;have hpos:0<l.length:=List.length_pos_iff.2 hne;obtain⟨b,off,spot⟩:=a;obtain⟨_,vm,vl,vt,_,h6⟩:=hq 0 hpos;have e0:=h6 0 (by omega);rw[Nat.zero_mul]at e0;have hsp:spot=none:=by
   have e9:(((⟨b,off,spot⟩:Addr).add 0).add 0)=(⟨b,off,spot⟩:Addr).add 0:=by unfold Addr.add;simp
   rw[e9]at e0;exact spot_none e0 rfl
  subst hsp;rw[add_none,add_none]at e0;refine⟨b,off,rfl,trivial,block_lt_of_cell e0,Reps.of (fun j hj=> ?_)⟩;obtain⟨_,vm,vl,vt,hrep,h6⟩:=hq j hj;refine⟨vm,vl,vt,⟨?_,?_,?_,?_,?_,?_⟩,hrep⟩
  ·have:=h6 0 (by omega);rw[add_none,add_none]at this;exact this
  ·have:=h6 1 (by omega);rw[add_none,add_none]at this;exact this
  ·have:=h6 2 (by omega);rw[add_none,add_none]at this;exact this
  ·have:=h6 3 (by omega);rw[add_none,add_none]at this;exact this
  ·have:=h6 4 (by omega);rw[add_none,add_none]at this;exact this
  ·have:=h6 5 (by omega);rw[add_none,add_none]at this;exact this
theorem open_fuel:∀(fuel:Nat) (cs:List Value) (y:DataW H×List MemPlace),DataW.trod enc Tryz.prog w base spare held fuel 25 cs=some y→Fits Tryz.prog 25 y.1→∃(d:D) (vm vl vt:Value),cs=[.int .i64 d.k,.int .i64 d.n,.string d.s,vm,vl,vt]∧Wf d∧Rep (fun _=>True) w d vm vl vt:=by
 intro fuel
 induction fuel using Nat.strongRecOn with
 |_ fuel ih=>
  intro cs y h hf;have hC:Tryz.prog.cellsOf 25=6:=by kernel_rfl
  obtain⟨v0,v1,v2,v3,v4,v5,y0,y1,y2,y3,y4,y5,n,rfl,rfl,⟨h0,_⟩,⟨h1,_⟩,⟨h2,f2⟩,⟨h3,f3⟩,⟨h4,f4⟩,⟨h5,f5⟩⟩:=trod_six Tryz.underlying25 (by kernel_rfl) hC h hf;obtain⟨k,e0,_,_⟩:=DataW.trod_int Tryz.underlying3 h0;obtain⟨z,e1,_,hz⟩:=DataW.trod_int Tryz.underlying2 h1;obtain⟨s,e2,hx2,hs⟩:=DataW.trod_string Tryz.underlying9 h2;obtain⟨m,hm,hml,_⟩:=open_ints h3 f3;have ih':∀n',n'<n→∀cs y,DataW.trod enc Tryz.prog w base spare held n' 25 cs=some y→Fits Tryz.prog 25 y.1→∃(d:D) (vm vl vt:Value),cs=[.int .i64 d.k,.int .i64 d.n,.string d.s,vm,vl,vt]∧Wf d∧Rep (fun _=>True) w d vm vl vt:=fun n' hn=>ih n' (by omega)
  obtain⟨l,hl,hll,hlw⟩:=open_data h4 f4 ih';obtain⟨t,ht,htl,htw⟩:=open_data h5 f5 ih';obtain rfl:v0= .int .i64 k:=by simpa using e0
  obtain rfl:v1= .int .i64 z:=by simpa using e1
  obtain rfl:v2= .string s:=by simpa using e2
  have hz':(decide (IntKind.i64.min≤z)&&decide (z≤IntKind.i64.max))=true:=hz;rw[show IntKind.i64.min= -9223372036854775808 by decide,show IntKind.i64.max=9223372036854775807 by decide]at hz';simp only[Bool.and_eq_true,decide_eq_true_eq]at hz';have hs2:s.size≤140737488355328:=by
   have hr:reachBytes=140737488351232:=by decide
   have h9:=f2 s.data.toList.length (by rw[hx2];simp[DataW.weights]);have e9:s.data.toList.length=s.size:=by rw[Array.length_toList];rfl
   omega
  refine⟨.mk k z s m l t,v3,v4,v5,rfl,?_,(rep_iff _ _ _ _ _ _).2 ⟨hm,hl,ht⟩⟩;rw[Wf];exact⟨hz',hs2,hml,hll,htl,hlw,htw⟩
end
end Dt
end Go.Proofs.YtfjmlfbohenmfaaGreat
namespace Go.Proofs.YtfjmlfbohenmfaaGreat
open Go.Joins Go.ChangeShapes Go.WideShapes Go.RowKit Go.Deep
namespace Cd
open Dt
section
variable {H:Type} {enc:TypeId×Value→H} {P:Program} {w:World} {base:Nat} {spare:Nat→Bool} {held:Bool}
end
end Cd
end Go.Proofs.YtfjmlfbohenmfaaGreat
namespace Go.Proofs.YtfjmlfbohenmfaaGreat
open Go.RowKit
attribute [local go_sem] Oper.semAt_some
namespace Cd
open Dt
end Cd
end Go.Proofs.YtfjmlfbohenmfaaGreat
namespace Go.Proofs.YtfjmlfbohenmfaaGreat
namespace Cd
end Cd
end Go.Proofs.YtfjmlfbohenmfaaGreat
namespace Go.Proofs.YtfjmlfbohenmfaaGreat
open Go.RowKit
namespace Cd
open Dt
end Cd
end Go.Proofs.YtfjmlfbohenmfaaGreat
namespace Go.Proofs.YtfjmlfbohenmfaaGreat
open Go.RowKit
attribute [local go_sem] Oper.semAt_some
def Cd.sizeD(x:Dt.D):Nat:=if Dt.check x=0 then(Dt.pre x).length else 0
theorem rSize_any{F:Nat→Prop}(x:Dt.D)(vm vl vt:Value)(w:World)(hW:Dt.Wf x)(hR:Dt.Rep F w x vm vl vt):
  Calls Tryz.prog 33 #[.agg #[.int .i64 x.k,.int .i64 x.n,.string x.s,vm,vl,vt]] w fun e w'=>e= .returned (.int .i64 (Cd.sizeD x:Nat))∧Below w.heap.size w w':=by
 have hb0:Below w.heap.size w (w.alloc (.cells #[.int .i64 x.k,.int .i64 x.n,.string x.s,vm,vl,vt] 25)):=(Below.refl _ _).alloc (Nat.le_refl _) _;have hw:=rAll_any x vm vl vt _ hW (hR.below hb0);have HB:=zh hb0;obtain⟨a1,n1,q1,a2,n2,q2,a3,n3,q3,rfl,rfl,rfl⟩:=hR.forms;clear hR hW hb0;go_enter Tryz.func33,Tryz.ntmps33;go_wp2_with fail
 refine hw.mono ?_;rintro e w1 ⟨vp,ls,rfl,hK,hp,hd,hl,hb1⟩;obtain⟨ap,cp,rfl⟩:=Dt.row_form hK;have HL:Hid ((ls.length:Int)=(Cd.sizeD x:Nat)):=by
  show _=_;unfold Cd.sizeD;rw[←List.length_map (f:=Dt.P.d),hd];split <;> rfl
 have HB1:Hid (Below w.heap.size w w1):=btr HB.out hb1;clear hw hK hp hd hl hb1;go_wp2;go_ret;exact⟨by rw[HL.out];rfl,HB1.out⟩
end Go.Proofs.YtfjmlfbohenmfaaGreat
namespace Go.Proofs.YtfjmlfbohenmfaaGreat
open Go.RowKit
namespace Cd
instance lawfulBytes:LawfulBEq ByteArray where
 eq_of_beq {a b} h:=by
  have h2:(a.data==b.data)=true:=h;cases a;cases b;rw[beq_iff_eq]at h2;cases h2
  rfl
 rfl {a}:=by
  show(a.data==a.data)=true;simp
end Cd
end Go.Proofs.YtfjmlfbohenmfaaGreat
namespace Go.Proofs.YtfjmlfbohenmfaaGreat
open Go.RowKit
attribute [local go_sem] Oper.semAt_some
theorem sEqual_any{F G:Nat→Prop}(va vb:Value)(m m':List ByteArray)(w:World)(ha:Cd.NameRow F w va m)(hb:Cd.NameRow G w vb m')(hl:m.length≤140737488355328)(_hl':m'.length≤140737488355328):
  Calls Tryz.prog 19 #[va,vb] w fun e w'=>e= .returned (.bool (decide (m=m')))∧Below w.heap.size w w':=by
 obtain⟨a,c,rfl,_,hc⟩:=ha;obtain⟨a',c',rfl,_,hc'⟩:=hb;obtain⟨R,hR⟩:∃R,R=decide (m=m'):=⟨_,rfl⟩
 rw[←hR];by_cases hlen:m.length=m'.length
 case neg=>
  have hne:((m.length:Int) !=(m'.length:Int))=true:=by simpa using fun h=>hlen (by omega)
  have HR:Hid (R=false):=by show _=_;rw[hR];exact decide_eq_false (fun e=>hlen (by rw[e]))
  clear hc hc' hR hlen;go_enter Tryz.func19,Tryz.ntmps19;go_wp2;go_ret;exact⟨by rw[HR.out];rfl,Below.refl _ _⟩
 have hne:((m.length:Int) !=(m'.length:Int))=false:=by simp[hlen]
 have H0:Hid (R=decide (m.drop 0=m'.drop 0)):=by show _=_;rw[List.drop_zero,List.drop_zero];exact hR
 have HC:=zh hc;have HC':=zh hc';have HL:=zh hlen;clear hc hc' hR hlen;go_enter Tryz.func19,Tryz.ntmps19;go_wp2
 go_loopw [13] (fun v wr=>∃k:Nat,v= .int .i64 k∧k≤m.length∧Hid (R=decide (m.drop k=m'.drop k))∧∃q,wr=w.drewN q) (fun v _=>m.length - (intOf v).toNat)
 case atStart=>exact⟨0,rfl,by omega,H0,0,rfl⟩
 case round=>
  obtain⟨k,rfl,hk,HR,q,rfl⟩:=hrel;by_cases hlt:k<m.length
  ·have hlti:(k:Int)<(m.length:Int):=by omega
   have hlt':k<m'.length:=by have:=HL.out;omega
   have hlti':(k:Int)<(m'.length:Int):=by omega
   obtain⟨b,o,rfl,_,hb,hcell⟩:=HC.out (by intro h0;rw[h0]at hlt;simp at hlt);obtain⟨b',o',rfl,_,hb',hcell'⟩:=HC'.out (by intro h0;rw[h0]at hlt';simp at hlt');have x0:=hcell k hlt;have y0:=hcell' k hlt';have hr:=HR.out;rw[List.drop_eq_getElem_cons hlt,List.drop_eq_getElem_cons hlt']at hr;obtain⟨x,hx⟩:∃x,m[k]=x:=⟨_,rfl⟩
   obtain⟨y,hy⟩:∃y,m'[k]=y:=⟨_,rfl⟩
   rw[hx]at x0 hr;rw[hy]at y0 hr;clear hx hy hcell hcell';by_cases hxy:x=y
   ·subst hxy;have hxe:(x !=x)=false:=by simp
    have hxt:(!x.toList==x.toList)=false:=by simp
    have HN:Hid (R=decide (m.drop (k+1)=m'.drop (k+1))):=by show _=_;rw[hr];simp
    clear hr;go_wp2
    go_quiet (fail)
    go_wp2;go_roundw
    case rel=>exact⟨k+1,by simp,by omega,HN,_,rfl⟩
    case measure=>simp[intOf];omega
   ·have hxe:(x !=y)=true:=bne_iff_ne.2 hxy;have hxt:(x.toList==y.toList)=false:=by
     rw[ByteArray.toList_eq,ByteArray.toList_eq,beq_eq_false_iff_ne];intro e;apply hxy;cases x;cases y;cases Array.toList_inj.1 e
     rfl
    have HN:Hid (R=false):=by show _=_;rw[hr];simp[hxy]
    clear hr hxy;go_wp2
    go_quiet (fail)
    go_wp2;go_ret;exact⟨by rw[HN.out];rfl,⟨rfl,rfl,rfl,Nat.le_refl _,fun _ _=>rfl⟩⟩
  ·have hge:(m.length:Int)≤(k:Int):=by omega
   have HN:Hid (R=true):=by show _=_;rw[HR.out,List.drop_eq_nil_of_le (by omega),List.drop_eq_nil_of_le (by have:=HL.out;omega)];rfl
   go_wp2;go_ret;exact⟨by rw[HN.out];rfl,⟨rfl,rfl,rfl,Nat.le_refl _,fun _ _=>rfl⟩⟩
end Go.Proofs.YtfjmlfbohenmfaaGreat
namespace Go.Proofs.YtfjmlfbohenmfaaGreat
namespace Co
open Dt (D)
theorem here_bound{c:C}{deep:Nat}{win bd:List Int}{top:Bool}{cnt:Nat}{more:Int}(win' bd':List Int)(hw:∀x∈win,x∈win')(hm:more∈bd')(hp:more∈c.p)(h:here false c deep win top cnt bd=0):here false c deep win' top cnt bd'=70:=by
 obtain⟨h3,h4,h5⟩:=here_ok h;unfold here at h ⊢;split at h
 ·cases h
 rename_i h1;rw[if_neg h1];split at h
 ·cases h
 rename_i h2;rw[if_neg h2];split at h
 ·cases h
 rename_i h6;rw[if_neg h6,if_neg (fun e=>by
  have:=hw _ (h4 e.1 rfl);have h8:win'.contains c.n=true:=by simpa using this
  rw[h8]at e;exact absurd e.2.2 (by decide)),if_pos (List.any_eq_true.2 ⟨more,hp,by simpa using hm⟩)]
theorem inner_more{k:Int}{p win win':List Int}(h:∀x∈win,x∈win'):∀x∈inner k p win,x∈inner k p win':=fun x hx=>by
 unfold inner at hx ⊢;split at hx
 ·rename_i hk;rw[if_pos hk];rcases List.mem_append.1 hx with hx|hx
  ·exact List.mem_append_left _ (h x hx)
  ·exact List.mem_append_right _ hx
 ·rename_i hk;rw[if_neg hk];exact h x hx
def binds(more:Int)(l:List C):Bool:=l.any fun x=>x.p.contains more
theorem binds_app(more:Int)(a b:List C):binds more (a++b)=(binds more a||binds more b):=by unfold binds;rw[List.any_append]
def More(more:Int)(b:Bool)(r:Nat×List Int)(q:Int×Nat×List Int):Prop:=(b=false→q.1=0∧q.2.1=r.1∧∀x,x∈q.2.2↔x∈r.2∨x=more)∧(b=true→q.1=70)
mutual
theorem goes_more(more:Int):∀(c:C) {deep:Nat} {win win':List Int} {top:Bool} {cnt:Nat} {bd bd':List Int} {r:Nat×List Int},goes false c deep win top cnt bd=(0,r)→(∀x∈win,x∈win')→(∀x,x∈bd'↔x∈bd∨x=more)→
  More more (binds more (parts c)) r (goes false c deep win' top cnt bd')
 | .mk k n s d p l,deep,win,win',top,cnt,bd,bd',r,h,hw,hb=>by
  obtain⟨h1,h2⟩:=goes_ok h;have e:binds more (parts (.mk k n s d p l))=(p.contains more||binds more (partsL l)):=by
   rw[parts];unfold binds;rw[List.any_cons]
   rfl
  rw[e];by_cases hp:more∈p
  ·have h3:=here_bound (c:= .mk k n s d p l) win' bd' hw ((hb more).2 (.inr rfl)) hp h1;have h4:p.contains more=true:=by simpa using hp
   rw[h4,goes,if_pos (by rw[h3];decide),h3];exact⟨fun h=>by simp at h,fun _=>rfl⟩
  ·have h3:=here_more (c:= .mk k n s d p l) win' bd' hw (fun x hx=>(hb x).1 hx) hp h1;have h4:p.contains more=false:=by simpa using hp
   rw[h4,Bool.false_or,goes,if_neg (by rw[h3];decide)];refine goesL_more more l h2 (inner_more hw) (fun x=> ?_);rw[List.mem_append,List.mem_append,hb x];constructor
   ·rintro((h|h)|h)
    ·exact .inl (.inl h)
    ·exact .inr h
    ·exact .inl (.inr h)
   ·rintro((h|h)|h)
    ·exact .inl (.inl h)
    ·exact .inr h
    ·exact .inl (.inr h)
theorem goesL_more(more:Int):∀(l:List C) {deep:Nat} {win win':List Int} {top:Bool} {cnt:Nat} {bd bd':List Int} {r:Nat×List Int},goesL false l deep win top cnt bd=(0,r)→(∀x∈win,x∈win')→(∀x,x∈bd'↔x∈bd∨x=more)→
  More more (binds more (partsL l)) r (goesL false l deep win' top cnt bd')
 |[],deep,win,win',top,cnt,bd,bd',r,h,hw,hb=>by
  rw[goesL]at h;cases h;rw[goesL,partsL];exact⟨fun _=>⟨rfl,rfl,hb⟩,fun h=>(by cases h)⟩
 |c :: l,deep,win,win',top,cnt,bd,bd',r,h,hw,hb=>by
  obtain⟨q,h1,h2⟩:=goesL_ok h;obtain⟨i1,i2⟩:=goes_more more c h1 hw hb;rw[partsL,binds_app,goesL]
  cases hc:binds more (parts c)with
  |true=>
   have:=i2 hc;rw[if_pos (by rw[this];decide),Bool.true_or];exact⟨fun h=>(by cases h),fun _=>this⟩
  |false=>
   obtain⟨j1,j2,j3⟩:=i1 hc;rw[if_neg (by rw[j1];decide),Bool.false_or,j2];exact goesL_more more l h2 hw j3
end
theorem within_more{c:C}{win:List Int}(more:Int)(h:check c win=0):check c (win++[more])=if binds more (parts c)then 70 else 0:=by
 have h1:goes false c 1 win true 0 win=(0,(goes false c 1 win true 0 win).2):=Prod.ext h rfl;obtain⟨i1,i2⟩:=goes_more more c (win':=win++[more]) (bd':=win++[more]) h1 (fun x hx=>List.mem_append_left _ hx) (fun x=>by simp);unfold check
 cases hb:binds more (parts c)with
 |true=>rw[i2 hb];rfl
 |false=>rw[(i1 hb).1];rfl
end Co
end Go.Proofs.YtfjmlfbohenmfaaGreat
namespace Go.Proofs.YtfjmlfbohenmfaaGreat
open Go.ChangeShapes Go.WideShapes Go.ChangeAt Go.RowKit
open Go.ChangeMaps (open_string shut_string)
end Go.Proofs.YtfjmlfbohenmfaaGreat
namespace Go.Proofs.YtfjmlfbohenmfaaGreat
open Go.ChangeShapes Go.WideShapes Go.ChangeAt Go.RowKit Go.Deep
namespace Co
open Dt (Fits open_row gather spot_none add_none open_ints)
section
variable {H:Type} {enc:TypeId×Value→H} {P:Program} {w:World} {base:Nat} {spare:Nat→Bool} {held:Bool}
theorem trod_core{t:TypeId}{f0 f1 f2 f3 f4 f5:Field}{fuel:Nat}{cs:List Value}{x:DataW H×List MemPlace}(hs:P.underlying t=some (.struct #[f0,f1,f2,f3,f4,f5]))(hC:P.cellsOf t=11)
  (ho:f0.offset=0∧f1.offset=1∧f2.offset=2∧f3.offset=3∧f4.offset=9∧f5.offset=10) (hk:P.cellsOf f0.type=1∧P.cellsOf f1.type=1∧P.cellsOf f2.type=1∧P.cellsOf f3.type=6∧P.cellsOf f4.type=1∧P.cellsOf f5.type=1)
  (h:DataW.trod enc P w base spare held fuel t cs=some x) (hf:Fits P t x.1):
  ∃(v0 v1 v2 u0 u1 u2 u3 u4 u5 v4 v5:Value) (y0 y1 y2 y3 y4 y5:DataW H×List MemPlace) (n:Nat),fuel=n+1∧cs=[v0,v1,v2,u0,u1,u2,u3,u4,u5,v4,v5]∧(DataW.trod enc P w base spare held n f0.type [v0]=some y0∧Fits P f0.type y0.1)∧(DataW.trod enc P w base spare held n f1.type [v1]=some y1∧Fits P f1.type y1.1)∧(DataW.trod enc P w base spare held n f2.type [v2]=some y2∧Fits P f2.type y2.1)∧(DataW.trod enc P w base spare held n f3.type [u0,u1,u2,u3,u4,u5]=some y3∧Fits P f3.type y3.1)∧(DataW.trod enc P w base spare held n f4.type [v4]=some y4∧Fits P f4.type y4.1)∧(DataW.trod enc P w base spare held n f5.type [v5]=some y5∧Fits P f5.type y5.1):=by
 obtain⟨xs,n,hn,hx,hsz,hlen,hg⟩:=DataW.trod_struct hs h;obtain⟨o0,o1,o2,o3,o4,o5⟩:=ho;obtain⟨k0,k1,k2,k3,k4,k5⟩:=hk
 match cs,hsz.trans hC with
 |[c0,c1,c2,c3,c4,c5,c6,c7,c8,c9,c10],_=>
  match xs,hlen with
  |[y0,y1,y2,y3,y4,y5],_=>
   have hw:∀(i:Nat) (f:Field) (y:DataW H×List MemPlace),#[f0,f1,f2,f3,f4,f5][i]?=some f→[y0,y1,y2,y3,y4,y5][i]?=some y→Fits P f.type y.1:=by
    intro i f y h1 h2 m hm;refine hf m ?_;rw[hx];show m∈(DataW.agg ([y0,y1,y2,y3,y4,y5].map (·.1))).weights P t;simp only[DataW.weights,hs];refine DataW.weights_mem_each (j:=i) (t:=f.type) (d:=y.1) ?_ ?_ m hm
    ·rw[List.getElem?_map,Array.getElem?_toList,h1];rfl
    ·rw[List.getElem?_map,h2];rfl
   exact⟨c0,c1,c2,c3,c4,c5,c6,c7,c8,c9,c10,y0,y1,y2,y3,y4,y5,n,hn,rfl,⟨by simpa[o0,k0]using hg 0 f0 rfl,hw 0 f0 y0 rfl rfl⟩,⟨by simpa[o1,k1]using hg 1 f1 rfl,hw 1 f1 y1 rfl rfl⟩,⟨by simpa[o2,k2]using hg 2 f2 rfl,hw 2 f2 y2 rfl rfl⟩,⟨by simpa[o3,k3]using hg 3 f3 rfl,hw 3 f3 y3 rfl rfl⟩,⟨by simpa[o4,k4]using hg 4 f4 rfl,hw 4 f4 y4 rfl rfl⟩,⟨by simpa[o5,k5]using hg 5 f5 rfl,hw 5 f5 y5 rfl rfl⟩⟩
end
section
variable {H:Type} {enc:TypeId×Value→H} {w:World} {base:Nat} {spare:Nat→Bool} {held:Bool}
theorem wfs_of{l:List C}(h:∀j,(hj:j<l.length)→Wf l[j]):Wfs l:=by
 induction l with
 |nil=>rw[Wfs];trivial
 |cons a l ih=>
  rw[Wfs];exact⟨h 0 (by simp),ih (fun j hj=>h (j+1) (by simpa using hj))⟩
theorem open_cores{fuel:Nat}{v:Value}{x:DataW H×List MemPlace}(h:DataW.trod enc Tryz.prog w base spare held fuel 26 [v]=some x)(hf:Fits Tryz.prog 26 x.1)
  (ih:∀n',n'<fuel→∀cs y,DataW.trod enc Tryz.prog w base spare held n' 28 cs=some y→Fits Tryz.prog 28 y.1→∃(c:C) (vm vl vt vp vk:Value),cs=[.int .i64 c.k,.int .i64 c.n,.string c.s,.int .i64 c.d.k,.int .i64 c.d.n,.string c.d.s,vm,vl,vt,vp,vk]∧Wf c∧Rep (fun _=>True) w c vm vl vt vp vk):
  ∃l:List C,Row (fun _=>True) w v l∧l.length≤140737488355328∧Wfs l:=by
 rcases open_row Tryz.underlying26 h hf with h0|⟨a,len,cap,n,hn,hcs,hl,hb,hel⟩
 ·obtain rfl:v= .slice none 0 0:=by simpa using h0
  exact⟨[],⟨none,0,rfl,Nat.le_refl _,fun h=>absurd rfl h⟩,by simp,by rw[Wfs];trivial⟩
 ·obtain rfl:v= .slice (some a) len cap:=by simpa using hcs
  have hC:Tryz.prog.cellsOf 28=11:=by kernel_rfl
  have hB:Tryz.prog.bytesOf 28=184:=by kernel_rfl
  rw[hB]at hb;rw[hC]at hel;have hr:reachBytes=140737488351232:=by decide
  obtain⟨l,hm,hq⟩:=gather (fun i (c:C)=>Wf c∧∃vm vl vt vp vk,Rep (fun _=>True) w c vm vl vt vp vk∧∀j,j<11→w.cell? ((a.add (i*11)).add j)=[Value.int .i64 c.k,.int .i64 c.n,.string c.s,.int .i64 c.d.k,.int .i64 c.d.n,.string c.d.s,vm,vl,vt,vp,vk][j]?) len (fun i hi=>by
   obtain⟨cs',y,hc,ht,hfy⟩:=hel i hi;obtain⟨c,vm,vl,vt,vp,vk,e0,hw,hr⟩:=ih n (by omega) cs' y ht hfy;subst e0;obtain⟨_,_,hat⟩:=World.cells?_some hc;exact⟨c,hw,vm,vl,vt,vp,vk,hr,hat⟩)
  refine⟨l,⟨some a,cap,by rw[hm],by omega,fun hne=> ?_⟩,by omega,wfs_of (fun j hj=>(hq j hj).1)⟩;have hpos:0<l.length:=List.length_pos_iff.2 hne;obtain⟨b,off,spot⟩:=a;obtain⟨_,vm,vl,vt,vp,vk,_,h6⟩:=hq 0 hpos;have e0:=h6 0 (by omega);rw[Nat.zero_mul]at e0;have hsp:spot=none:=by
   have e9:(((⟨b,off,spot⟩:Addr).add 0).add 0)=(⟨b,off,spot⟩:Addr).add 0:=by unfold Addr.add;simp
   rw[e9]at e0;exact spot_none e0 rfl
  subst hsp;rw[add_none,add_none]at e0;refine⟨b,off,rfl,trivial,block_lt_of_cell e0,Reps.of (fun j hj=> ?_)⟩;obtain⟨_,vm,vl,vt,vp,vk,hrep,h6⟩:=hq j hj;refine⟨vm,vl,vt,vp,vk,⟨?_,?_,?_,?_,?_,?_,?_,?_,?_,?_,?_⟩,hrep⟩
  ·have:=h6 0 (by omega);rw[add_none,add_none]at this;exact this
  ·have:=h6 1 (by omega);rw[add_none,add_none]at this;exact this
  ·have:=h6 2 (by omega);rw[add_none,add_none]at this;exact this
  ·have:=h6 3 (by omega);rw[add_none,add_none]at this;exact this
  ·have:=h6 4 (by omega);rw[add_none,add_none]at this;exact this
  ·have:=h6 5 (by omega);rw[add_none,add_none]at this;exact this
  ·have:=h6 6 (by omega);rw[add_none,add_none]at this;exact this
  ·have:=h6 7 (by omega);rw[add_none,add_none]at this;exact this
  ·have:=h6 8 (by omega);rw[add_none,add_none]at this;exact this
  ·have:=h6 9 (by omega);rw[add_none,add_none]at this;exact this
  ·have:=h6 10 (by omega);rw[add_none,add_none]at this;exact this
theorem open_fuel:∀(fuel:Nat) (cs:List Value) (y:DataW H×List MemPlace),DataW.trod enc Tryz.prog w base spare held fuel 28 cs=some y→Fits Tryz.prog 28 y.1→∃(c:C) (vm vl vt vp vk:Value),cs=[.int .i64 c.k,.int .i64 c.n,.string c.s,.int .i64 c.d.k,.int .i64 c.d.n,.string c.d.s,vm,vl,vt,vp,vk]∧Wf c∧Rep (fun _=>True) w c vm vl vt vp vk:=by
 intro fuel
 induction fuel using Nat.strongRecOn with
 |_ fuel ih=>
  intro cs y h hf;have hC:Tryz.prog.cellsOf 28=11:=by kernel_rfl
  obtain⟨v0,v1,v2,u0,u1,u2,u3,u4,u5,v4,v5,y0,y1,y2,y3,y4,y5,n,rfl,rfl,⟨h0,_⟩,⟨h1,_⟩,⟨h2,f2⟩,⟨h3,f3⟩,⟨h4,f4⟩,⟨h5,f5⟩⟩:=trod_core Tryz.underlying28 hC ⟨rfl,rfl,rfl,rfl,rfl,rfl⟩ ⟨by kernel_rfl,by kernel_rfl,by kernel_rfl,by kernel_rfl,by kernel_rfl,by kernel_rfl⟩ h hf;obtain⟨k,e0,_,_⟩:=DataW.trod_int Tryz.underlying3 h0;obtain⟨z,e1,_,hz⟩:=DataW.trod_int Tryz.underlying2 h1;obtain⟨s,e2,hx2,hs⟩:=DataW.trod_string Tryz.underlying9 h2;obtain⟨d,vm,vl,vt,ed,hdw,hdr⟩:=Dt.open_fuel n _ _ h3 f3;obtain⟨m,hm,hml,hmr⟩:=open_ints h4 f4;have ih':∀n',n'<n→∀cs y,DataW.trod enc Tryz.prog w base spare held n' 28 cs=some y→Fits Tryz.prog 28 y.1→∃(c:C) (vm vl vt vp vk:Value),cs=[.int .i64 c.k,.int .i64 c.n,.string c.s,.int .i64 c.d.k,.int .i64 c.d.n,.string c.d.s,vm,vl,vt,vp,vk]∧Wf c∧Rep (fun _=>True) w c vm vl vt vp vk:=fun n' hn=>ih n' (by omega)
  obtain⟨l,hl,hll,hlw⟩:=open_cores h5 f5 ih';obtain rfl:v0= .int .i64 k:=by simpa using e0
  obtain rfl:v1= .int .i64 z:=by simpa using e1
  obtain rfl:v2= .string s:=by simpa using e2
  obtain⟨rfl,rfl,rfl,rfl,rfl,rfl⟩:u0= .int .i64 d.k∧u1= .int .i64 d.n∧u2= .string d.s∧u3=vm∧u4=vl∧u5=vt:=by simpa using ed
  have hz':(decide (IntKind.i64.min≤z)&&decide (z≤IntKind.i64.max))=true:=hz;rw[show IntKind.i64.min= -9223372036854775808 by decide,show IntKind.i64.max=9223372036854775807 by decide]at hz';simp only[Bool.and_eq_true,decide_eq_true_eq]at hz';have hs2:s.size≤140737488355328:=by
   have hr:reachBytes=140737488351232:=by decide
   have h9:=f2 s.data.toList.length (by rw[hx2];simp[DataW.weights]);have e9:s.data.toList.length=s.size:=by rw[Array.length_toList];rfl
   omega
  refine⟨.mk k z s d m l,u3,u4,u5,v4,v5,rfl,?_,(rep_iff _ _ _ _ _ _ _ _).2 ⟨hdr,hm,hl⟩⟩;rw[Wf];exact⟨hz',hs2,hdw,hml,hmr,hll,hlw⟩
end
theorem open_core{H:Type}{enc:TypeId×Value→H}{w:World}{base:Nat}{spare:Nat→Bool}{held:Bool}{r:Reach}{b0:Nat}{v:Value}{d:DataW H}{p:List MemPlace}
  (hv:Value.okWide Tryz.prog w r b0 28 v) (h:DataW.Trod enc Tryz.prog w base spare held 28 v d p) (hf:Dt.Fits Tryz.prog 28 d):
  ∃(c:C) (vm vl vt vp vk:Value),v=V c vm vl vt vp vk∧Wf c∧Rep (fun _=>True) w c vm vl vt vp vk:=by
 obtain⟨cs,rfl,hsz⟩:=okWide_struct Tryz.underlying28 hv;obtain⟨fuel,hfu⟩:=h;obtain⟨c,vm,vl,vt,vp,vk,e,hw,hr⟩:=open_fuel fuel _ _ hfu hf;obtain⟨l⟩:=cs;have e':l=[.int .i64 c.k,.int .i64 c.n,.string c.s,.int .i64 c.d.k,.int .i64 c.d.n,.string c.d.s,vm,vl,vt,vp,vk]:=by simpa[Value.cells]using e
 subst e';exact⟨c,vm,vl,vt,vp,vk,rfl,hw,hr⟩
theorem open_irow{H:Type}{enc:TypeId×Value→H}{w:World}{base:Nat}{spare:Nat→Bool}{held:Bool}{r:Reach}{b0:Nat}{v:Value}{d:DataW H}{p:List MemPlace}
  (hv:Value.okWide Tryz.prog w r b0 22 v) (h:DataW.Trod enc Tryz.prog w base spare held 22 v d p) (hf:Dt.Fits Tryz.prog 22 d):
  ∃m:List Int,Dt.IRow (fun _=>True) w v m∧m.length≤140737488355328∧∀y∈m,-9223372036854775808≤y∧y≤9223372036854775807:=by
 obtain⟨a0,len0,cap0,rfl⟩:=okWide_slice Tryz.underlying22 hv;obtain⟨fuel,hfu⟩:=h;exact open_ints hfu hf
end Co
end Go.Proofs.YtfjmlfbohenmfaaGreat
