/-
  DtOwnPb, CoAlikeb, DtEqb, DtSamePb, CoSmallb, CdModelb, CoAlikePb, CoSameb, CoFreeb, CoAlikeLb, CoSetsb, CoMarksb, ApNb, CoBesPb, DtOpenb, CdOpenb, CdOperb, CdWaysPb, CdAtb, CdFewb, LexRefHsb, LexRefIsb, CdIndexb, CdEqSb, RdOpenDb, CoOpenb.
-/
import Derived.Test.YtfjmlfbohenmfaaGreatDtSameb
import Derived.Test.YtfjmlfbohenmfaaGreatCoreBBM2
import Derived.Test.YtfjmlfbohenmfaaGreatCoreBBM5
import Derived.Test.YtfjmlfbohenmfaaGreatCoreBBM4
import Derived.Deep.Slices
import Derived.Deep.Fields
import Derived.SizedLaws
import Derived.Lib.SmallJoins
import Derived.Deep.QuietTactic
import Derived.BigQuiet
import Derived.Test.YtfjmlfbohenmfaaGreatCoreBBM6
import Derived.Test.YtfjmlfbohenmfaaGreatLexRefGb
import Derived.Test.YtfjmlfbohenmfaaGreatLexRefBb
import Derived.Test.YtfjmlfbohenmfaaGreatCoreBBM3
set_option maxRecDepth 100000
set_option maxHeartbeats 32000000
namespace Go.Proofs.YtfjmlfbohenmfaaGreat
open Go.RowKit
namespace Dt
mutual
def Fine:D→Prop
 | .mk _ _ _ m l t=>m.length≤16∧l.length≤4096∧t.length≤4096∧Fines l∧Fines t
def Fines:List D→Prop
 |[]=>True
 |d :: r=>Fine d∧Fines r
end
theorem single_m{d:D}(h:single d=true):d.m.length≤16:=by
 cases d with
 |mk k n s m l t=>
  dsimp only[single]at h;show m.length≤16;have he:∀(m:List Int),m.isEmpty=true→m.length≤16:=fun m h=>by
   have:=List.isEmpty_iff.1 h;rw[this];simp
  by_cases h1:k=1
  ·rw[if_pos h1]at h;simp only[Bool.and_eq_true]at h;exact he m h.1.1.2
  rw[if_neg h1]at h;by_cases h2:k=2
  ·rw[if_pos h2]at h;simp only[Bool.and_eq_true]at h;exact he m h.1.1.2
  rw[if_neg h2]at h;by_cases h3:k=3
  ·rw[if_pos h3]at h;simp only[Bool.and_eq_true]at h;exact he m h.1.1.2
  rw[if_neg h3]at h;by_cases h4:k=4
  ·rw[if_pos h4]at h;simp only[Bool.and_eq_true]at h;exact he m h.1.1.2
  rw[if_neg h4]at h;by_cases h5:k=5
  ·rw[if_pos h5]at h;simp only[Bool.and_eq_true,decide_eq_true_eq]at h;exact h.1.1.1.1.2
  rw[if_neg h5]at h;by_cases h6:k=6∨k=8
  ·rw[if_pos h6]at h;simp only[Bool.and_eq_true]at h;exact he m h.1.2
  rw[if_neg h6]at h;by_cases h7:k=7
  ·rw[if_pos h7]at h;simp only[Bool.and_eq_true]at h;exact he m h.1.1.2
  ·rw[if_neg h7]at h;simp at h
mutual
theorem chk_fine:∀(d:D) (deep p:Nat),p≤4096→(chk d deep p).1=0→p+1≤(chk d deep p).2∧Fine d
 | .mk k n s m l t,deep,p,hp,h=>by
  rw[chk]at h ⊢;split at h
  ·simp at h
  rename_i h1;rw[if_neg h1];split at h
  ·simp at h
  rename_i h2;rw[if_neg h2];split at h
  ·rename_i h3;rw[if_pos h3];split at h
   ·rename_i h4;rw[if_pos h4];have a1:=chks_fine l (deep+1) (p+1) (by omega) h4;have a2:=chks_fine t (deep+1) _ (chks_le l (deep+1) (p+1) (by omega)) h;have b1:=chks_le l (deep+1) (p+1) (by omega);have b2:=chks_le t (deep+1) _ b1;refine⟨by omega,?_⟩;rw[Fine];exact⟨single_m h3,by omega,by omega,a1.2,a2.2⟩
   ·rename_i h4;exact absurd h h4
  ·simp at h
theorem chks_fine:∀(l:List D) (deep p:Nat),p≤4096→(chks l deep p).1=0→p+l.length≤(chks l deep p).2∧Fines l
 |[],_,p,_,_=>by rw[chks,Fines];exact⟨by simp,trivial⟩
 |d :: r,deep,p,hp,h=>by
  rw[chks]at h ⊢;split at h
  ·rename_i h1;rw[if_pos h1];have a1:=chk_fine d deep p hp h1;have a2:=chks_fine r deep _ (chk_le d deep p hp) h;rw[Fines];refine⟨by rw[List.length_cons];omega,a1.2,a2.2⟩
  ·rename_i h1;exact absurd h h1
end
theorem fine_of_check{d:D}(h:check d=0):Fine d:=(chk_fine d 1 0 (by omega) h).2
theorem Fines.at:∀ {l:List D},Fines l→∀y∈l,Fine y
 |[],_,y,h=>absurd h (by simp)
 |d :: r,hw,y,h=>by
  rw[Fines]at hw;rcases List.mem_cons.1 h with rfl|h
  ·exact hw.1
  ·exact Fines.at hw.2 y h
theorem fine_parts{d:D}(h:Fine d):d.m.length≤16∧d.l.length≤4096∧d.t.length≤4096∧Fines d.l∧Fines d.t:=by cases d;rw[Fine]at h;exact h
structure Rowing(w:World)(base:Nat)(v:Value)(ls:List P):Prop where
 row:w.ownsRow base 25 6 v ls.length (flatP ls)
 rep:∀p∈ls,Rep (fun k=>base≤k∧v.ownBlock≠some k) w p.d p.vm p.vl p.vt
theorem Rowing.nil(w:World)(base:Nat):Rowing w base (.slice none 0 0) []:=⟨World.ownsRow_nil _ _ _ _,by simp⟩
theorem Rowing.keep{S:Nat→Prop}{w w':World}{base:Nat}{v:Value}{ls:List P}(h:Rowing w base v ls)(hk:Keep S w w')(hS:∀k,base≤k→k<w.heap.size→¬S k):Rowing w' base v ls:=
 ⟨own_keep h.row hk (fun k hk=>hS k (own_lt h.row k hk).1 (own_lt h.row k hk).2),fun p hp=>Rep.keep hk (fun b hb hb'=>hS b hb.1 hb') p.d (h.rep p hp)⟩
theorem Rowing.below{w w':World}{base:Nat}{v:Value}{ls:List P}(h:Rowing w base v ls)(hb:Below w.heap.size w w'):Rowing w' base v ls:=
 h.keep (S:=fun _=>False) ((Keep.refl _ w).below hb) (fun _ _ _ h=>h)
theorem Rowing.push{w w1 wA w5:World}{base:Nat}{v v':Value}{ls:List P}{p:P}(h:Rowing w base v ls)(hbase:base≤w.heap.size)(h1:Below w.heap.size w w1)(hp:Rep (fun k=>w.heap.size≤k) w1 p.d p.vm p.vl p.vt)(hA:Below w1.heap.size w1 wA)
  (hown:w5.ownsRow base 25 6 v' (ls.length+1) (flatP ls++p.cells)) (hg:wA.grownBy w5 v.ownBlock) (hat:v'.ownBlock=v.ownBlock∨v'.ownBlock=some wA.heap.size):
  Rowing w5 base v' (ls++[p])∧Keep (fun k=>v.ownBlock=some k) w w5:=by
 have hwA:Below w.heap.size w wA:=btr h1 hA;have hK:Keep (fun k=>v.ownBlock=some k) w w5:=⟨hg.os.trans hwA.os,hg.tape.trans hwA.tape,hg.output.trans hwA.output,Nat.le_trans hwA.size hg.size,fun k hk hn=>(hg.block k (by have:=hwA.size;omega) (fun e=>hn e.symm)).trans (hwA.block k hk)⟩
 have hK1:Keep (fun k=>v.ownBlock=some k) w1 w5:=⟨hg.os.trans hA.os,hg.tape.trans hA.tape,hg.output.trans hA.output,Nat.le_trans hA.size hg.size,fun k hk hn=>(hg.block k (by have:=hA.size;omega) (fun e=>hn e.symm)).trans (hA.block k hk)⟩
 have hvl:∀k,v.ownBlock=some k→base≤k∧k<w.heap.size:=own_lt h.row;refine⟨⟨by rw[List.length_append,flatP_app];exact hown,fun q hq=> ?_⟩,hK⟩;rcases List.mem_append.1 hq with hq|hq
 ·have hr:=Rep.keep hK (fun b hb _ e=>hb.2 e) q.d (h.rep q hq);have hr0:Rep (fun k=>k<w.heap.size∧base≤k∧v.ownBlock≠some k) w q.d q.vm q.vl q.vt:=Rep.mono (fun b hb hl=>⟨hl,hb⟩) q.d (h.rep q hq);refine Rep.mono (fun b hb _=>⟨hb.2.1,fun e=> ?_⟩) q.d (Rep.keep hK (fun b hb _ e=>hb.2.2 e) q.d hr0);rcases hat with e'|e'
  ·rw[e']at e;exact hb.2.2 e
  ·rw[e']at e;cases e;have:=hwA.size;omega
 ·obtain rfl:q=p:=by simpa using hq
  have hr0:Rep (fun k=>k<w1.heap.size∧w.heap.size≤k) w1 q.d q.vm q.vl q.vt:=Rep.mono (fun b hb hl=>⟨hl,hb⟩) q.d hp;refine Rep.mono (fun b hb _=>⟨Nat.le_trans hbase hb.2,fun e=> ?_⟩) q.d (Rep.keep hK1 (fun b hb _ e=>by have:=(hvl b e).2;omega) q.d hr0);rcases hat with e'|e'
  ·rw[e']at e;have:=(hvl b e).2;omega
  ·rw[e']at e;cases e;have:=hA.size;omega
theorem Rowing.to_row{w:World}{base:Nat}{v:Value}{ls:List P}(h:Rowing w base v ls):Row (fun k=>base≤k) w v (ls.map P.d):=by
 have hreps:∀g,v.ownBlock=some g→Reps (fun k=>base≤k) w (ls.map P.d) g 0:=by
  intro g hg;refine Reps.of fun j hj=> ?_
  have hj':j<ls.length:=by simpa using hj
  obtain⟨g',c,rfl,_,hs⟩:=part_at h.row j hj';cases hg;refine⟨ls[j].vm,ls[j].vl,ls[j].vt,by rw[Nat.zero_add];simpa using hs,?_⟩;have:=Rep.mono (fun b hb _=>hb.1) _ (h.rep ls[j] (List.getElem_mem hj'));simpa using this
 rcases h.row.2 with⟨h1,h0⟩|⟨g,cap,cur,rfl,e2,e3,e4,_⟩
 ·have:ls=[]:=List.length_eq_zero_iff.1 h0;subst this;exact⟨none,0,by rw[h1];rfl,Nat.le_refl _,fun hn=>absurd rfl hn⟩
 ·refine⟨some ⟨g,0,none⟩,cap,by simp,by simpa using e4,fun _=>⟨g,0,rfl,e2,(Array.getElem?_eq_some_iff.1 e3).1,hreps g rfl⟩⟩
theorem IRow.of_own{w:World}{base:Nat}{v:Value}{m:List Int}(h:w.ownsRow base 3 1 v m.length (m.map (Value.int .i64))):IRow (fun k=>base≤k) w v m:=by
 have hc:=fun g hg=>h.cells (g:=g) hg
 rcases h.2 with⟨h1,h0⟩|⟨g,cap,cur,rfl,e2,e3,e4,_⟩
 ·have:m=[]:=List.length_eq_zero_iff.1 h0;subst this;exact⟨none,0,by rw[h1];rfl,Nat.le_refl _,fun hn=>absurd rfl hn⟩
 ·refine⟨some ⟨g,0,none⟩,cap,rfl,e4,fun _=>⟨g,0,rfl,e2,(Array.getElem?_eq_some_iff.1 e3).1,fun j hj=> ?_⟩⟩;have:=hc g rfl j (.int .i64 m[j]) (by simp[hj]);rw[show(⟨g,0,none⟩:Addr).add j=⟨g,0+j,none⟩by unfold Addr.add;split <;> simp_all]at this;exact this
theorem IRow.src{F:Nat→Prop}{w:World}{a:Option Addr}{c:Nat}{m:List Int}(h:IRow F w (.slice a m.length c) m)(ha:a≠none):Ap.Src w (.slice a m.length c) m.length (m.map (Value.int .i64)):=by
 obtain⟨a',c',h1,h2,h3⟩:=h;cases h1;obtain⟨ad,rfl⟩:=Option.ne_none_iff_exists'.1 ha;refine .inr ⟨ad,c,rfl,fun j u hu=> ?_⟩;have hj:j<m.length:=by simpa using(List.getElem?_eq_some_iff.1 hu).1
 obtain⟨b,o,e1,_,_,hc⟩:=h3 (by intro e;rw[e]at hj;simp at hj);cases e1;have:=hc j hj;rw[show(⟨b,o,none⟩:Addr).add j=⟨b,o+j,none⟩by unfold Addr.add;split <;> simp_all,this];simpa[hj]using hu
def Fresh(n:Nat)(w:World)(x:D)(e:Ending):Prop:=∃vm vl vt,e= .returned (.agg #[.int .i64 x.k,.int .i64 x.n,.string x.s,vm,vl,vt])∧Rep (fun k=>n≤k) w x vm vl vt
end Dt
end Go.Proofs.YtfjmlfbohenmfaaGreat
namespace Go.Proofs.YtfjmlfbohenmfaaGreat
namespace Co
open Dt (D)
def sd(a b:D):Bool:=(none_ a&&none_ b)||Dt.sameD a b
def like(a b:C):Bool:=decide (a.k=b.k)&&decide (a.s=b.s)&&decide (a.p.length=b.p.length)&&decide (a.l.length=b.l.length)&&sd a.d b.d
mutual
def pairs:C→C→Nat→Int→Bool×Int
 | .mk k n s d p l,b,deep,left=>
  if left - 1<0∨128<deep then(false,left - 1)
  else if(like (.mk k n s d p l) b&&decide (n=b.n)&&decide (p=b.p))=false then(false,left - 1)
  else pairsL l b.l (deep+1) (left - 1)
def pairsL:List C→List C→Nat→Int→Bool×Int
 |[],_,_,left=>(true,left)
 |a :: r,bs,deep,left=>match bs with
  |[]=>(true,left)
  |b :: q=>if(pairs a b deep left).1=false then pairs a b deep left else pairsL r q deep (pairs a b deep left).2
end
def same(a b:C):Bool:=(pairs a b 1 8192).1
def pos:List Int→Int→Nat
 |[],_=>0
 |x :: r,n=>if pos r n≠0 then pos r n+1 else if x=n then 1 else 0
mutual
def called:C→List Int→C×List Int
 | .mk k n s d p l,xs=>
  (.mk k (if(k=2∨k=4)∧pos (xs++p) n≠0 then(pos (xs++p) n:Int)else n) s d ((List.range p.length).map fun i=>((xs.length+i+1:Nat):Int)) (calledL l (xs++p)).1,(calledL l (xs++p)).2)
def calledL:List C→List Int→List C×List Int
 |[],xs=>([],xs)
 |c :: r,xs=>((called c xs).1 :: (calledL r (called c xs).2).1,(calledL r (called c xs).2).2)
end
def alikeR(a b:C):Bool:=decide (check a []=0)&&decide (check b []=0)&&same (called a []).1 (called b []).1
def step(m:List (Int×Int))(x y:Int):Bool×List (Int×Int):=
 match m.find? (·.1=x),m.find? (·.2=y)with
 |none,none=>(true,m++[(x,y)])
 |some u,some v=>(decide (u.2=y)&&decide (v.1=x),m)
 |_,_=>(false,m)
def steps(m:List (Int×Int)):List Int→List Int→Bool×List (Int×Int)
 |[],_=>(true,m)
 |_,[]=>(true,m)
 |x :: p,y :: q=>if(step m x y).1 then steps (step m x y).2 p q else step m x y
mutual
def beside:C→C→Nat→Int→List (Int×Int)→Bool×Int×List (Int×Int)
 | .mk k n s d p l,b,deep,left,m=>
  if left - 1<0∨128<deep then(false,left - 1,m)
  else if like (.mk k n s d p l) b=false then(false,left - 1,m)
  else if(steps m p b.p).1=false then(false,left - 1,m)
  else if(k=2∨k=4)∧(step (steps m p b.p).2 n b.n).1=false then(false,left - 1,m)
  else if ¬ (k=2∨k=4)∧n≠b.n then(false,left - 1,m)
  else besideL l b.l (deep+1) (left - 1) (if k=2∨k=4 then(step (steps m p b.p).2 n b.n).2 else(steps m p b.p).2)
def besideL:List C→List C→Nat→Int→List (Int×Int)→Bool×Int×List (Int×Int)
 |[],_,_,left,m=>(true,left,m)
 |a :: r,bs,deep,left,m=>match bs with
  |[]=>(true,left,m)
  |b :: q=>if(beside a b deep left m).1=false then beside a b deep left m else besideL r q deep (beside a b deep left m).2.1 (beside a b deep left m).2.2
end
def alike(a b:C):Bool:=decide (check a []=0)&&decide (check b []=0)&&(beside a b 1 8192 []).1
end Co
end Go.Proofs.YtfjmlfbohenmfaaGreat
namespace Go.Proofs.YtfjmlfbohenmfaaGreat
open Go.RowKit
theorem iEqual_any{F G:Nat→Prop}(va vb:Value)(m m':List Int)(w:World)(ha:Dt.IRow F w va m)(hb:Dt.IRow G w vb m')(hl:m.length≤140737488355328)(_hl':m'.length≤140737488355328):
  Calls Tryz.prog 25 #[va,vb] w fun e w'=>e= .returned (.bool (decide (m=m')))∧Below w.heap.size w w':=by
 obtain⟨a,c,rfl,_,hc⟩:=ha;obtain⟨a',c',rfl,_,hc'⟩:=hb;obtain⟨R,hR⟩:∃R,R=decide (m=m'):=⟨_,rfl⟩
 rw[←hR];by_cases hlen:m.length=m'.length
 case neg=>
  have hne:((m.length:Int) !=(m'.length:Int))=true:=by simpa using fun h=>hlen (by omega)
  have HR:Hid (R=false):=by show _=_;rw[hR];exact decide_eq_false (fun e=>hlen (by rw[e]))
  clear hc hc' hR hlen;go_enter Tryz.func25,Tryz.ntmps25;go_wp2;go_ret;exact⟨by rw[HR.out];rfl,Below.refl _ _⟩
 have hne:((m.length:Int) !=(m'.length:Int))=false:=by simp[hlen]
 have H0:Hid (R=decide (m.drop 0=m'.drop 0)):=by show _=_;rw[List.drop_zero,List.drop_zero];exact hR
 have HC:=zh hc;have HC':=zh hc';have HL:=zh hlen;clear hc hc' hR hlen;go_enter Tryz.func25,Tryz.ntmps25;go_wp2
 go_loopw [13] (fun v wr=>∃k:Nat,v= .int .i64 k∧k≤m.length∧Hid (R=decide (m.drop k=m'.drop k))∧∃q,wr=w.drewN q) (fun v _=>m.length - (intOf v).toNat)
 case atStart=>exact⟨0,rfl,by omega,H0,0,rfl⟩
 case round=>
  obtain⟨k,rfl,hk,HR,q,rfl⟩:=hrel;by_cases hlt:k<m.length
  ·have hlti:(k:Int)<(m.length:Int):=by omega
   have hlt':k<m'.length:=by have:=HL.out;omega
   have hlti':(k:Int)<(m'.length:Int):=by omega
   obtain⟨b,o,rfl,_,hb,hcell⟩:=HC.out (by intro h0;rw[h0]at hlt;simp at hlt);obtain⟨b',o',rfl,_,hb',hcell'⟩:=HC'.out (by intro h0;rw[h0]at hlt';simp at hlt');have x0:=hcell k hlt;have y0:=hcell' k hlt';have hr:=HR.out;rw[List.drop_eq_getElem_cons hlt,List.drop_eq_getElem_cons hlt']at hr;obtain⟨x,hx⟩:∃x,m[k]=x:=⟨_,rfl⟩
   obtain⟨y,hy⟩:∃y,m'[k]=y:=⟨_,rfl⟩
   rw[hx]at x0 hr;rw[hy]at y0 hr;clear hx hy hcell hcell';by_cases hxy:x=y
   ·have hxe:(x !=y)=false:=by simp[hxy]
    have HN:Hid (R=decide (m.drop (k+1)=m'.drop (k+1))):=by show _=_;rw[hr];simp[hxy]
    clear hr;go_wp2
    go_quiet (fail)
    go_wp2;go_roundw
    case rel=>exact⟨k+1,by simp,by omega,HN,_,rfl⟩
    case measure=>simp[intOf];omega
   ·have hxe:(x !=y)=true:=by simpa using hxy
    have HN:Hid (R=false):=by show _=_;rw[hr];simp[hxy]
    clear hr hxy;go_wp2
    go_quiet (fail)
    go_wp2;go_ret;exact⟨by rw[HN.out];rfl,⟨rfl,rfl,rfl,Nat.le_refl _,fun _ _=>rfl⟩⟩
  ·have hge:(m.length:Int)≤(k:Int):=by omega
   have HN:Hid (R=true):=by show _=_;rw[HR.out,List.drop_eq_nil_of_le (by omega),List.drop_eq_nil_of_le (by have:=HL.out;omega)];rfl
   go_wp2;go_ret;exact⟨by rw[HN.out];rfl,⟨rfl,rfl,rfl,Nat.le_refl _,fun _ _=>rfl⟩⟩
namespace Dt
def EqC(y:D):Prop:=∀(F G:Nat→Prop) (z:D) (vm vl vt um ul ut:Value) (w:World),Wf y→Wf z→Rep F w y vm vl vt→Rep G w z um ul ut→
 Calls Tryz.prog 97 #[.agg #[.int .i64 y.k,.int .i64 y.n,.string y.s,vm,vl,vt],.agg #[.int .i64 z.k,.int .i64 z.n,.string z.s,um,ul,ut]] w fun e w'=>e= .returned (.bool (eqD y z))∧Below w.heap.size w w'
theorem six_of'(w:World)(x:D)(vm vl vt:Value)(t:TypeId):Six (w.alloc (.cells #[.int .i64 x.k,.int .i64 x.n,.string x.s,vm,vl,vt] t)) w.heap.size 0 x vm vl vt:=by
 have h:=six_new w x.k x.n x.s vm vl vt t;exact⟨h 0 (by omega),h 1 (by omega),h 2 (by omega),h 3 (by omega),h 4 (by omega),h 5 (by omega)⟩
theorem eqDs_len:∀(l r:List D),l.length≠r.length→eqDs l r=false
 |[],[],h=>absurd rfl h
 |[],_ :: _,_=>rfl
 |_ :: _,[],_=>rfl
 |a :: l,b :: r,h=>by rw[eqDs,eqDs_len l r (by simpa using h)];simp
end Dt
theorem eqFunc_any{F G:Nat→Prop}(va vb:Value)(l r:List Dt.D)(w:World)(ha:Dt.Row F w va l)(hb:Dt.Row G w vb r)(hl:l.length≤140737488355328)(_hl':r.length≤140737488355328)(hW:Dt.Wfs l)(hW':Dt.Wfs r)(hE:∀y∈l,Dt.EqC y):
  Calls Tryz.prog 116 #[va,vb,.func (.func 97) #[] #[]] w fun e w'=>e= .returned (.bool (Dt.eqDs l r))∧Below w.heap.size w w':=by
 obtain⟨a,c,rfl,_,hc⟩:=ha;obtain⟨a',c',rfl,_,hc'⟩:=hb;obtain⟨R,hR⟩:∃R,R=Dt.eqDs l r:=⟨_,rfl⟩
 rw[←hR];by_cases hlen:l.length=r.length
 case neg=>
  have hne:((l.length:Int) !=(r.length:Int))=true:=by simpa using fun h=>hlen (by omega)
  have HR:Hid (R=false):=by show _=_;rw[hR];exact Dt.eqDs_len _ _ hlen
  clear hc hc' hR hlen hE;go_enter Tryz.func116,Tryz.ntmps116;go_wp2;go_ret;exact⟨by rw[HR.out];rfl,Below.refl _ _⟩
 have hne:((l.length:Int) !=(r.length:Int))=false:=by simp[hlen]
 have H0:Hid (R=Dt.eqDs (l.drop 0) (r.drop 0)):=by show _=_;rw[List.drop_zero,List.drop_zero];exact hR
 have HC:=zh hc;have HC':=zh hc';have HL:=zh hlen;have HW:=zh hW;have HW':=zh hW';have HE:=zh hE;clear hc hc' hR hlen hE hW hW';go_enter Tryz.func116,Tryz.ntmps116;go_wp2
 go_loopw [17] (fun v wr=>∃k:Nat,v= .int .i64 k∧k≤l.length∧Hid (R=Dt.eqDs (l.drop k) (r.drop k))∧Hid (Below w.heap.size w wr)) (fun v _=>l.length - (intOf v).toNat)
 case atStart=>exact⟨0,rfl,by omega,H0,Below.refl _ _⟩
 case round=>
  obtain⟨k,rfl,hk,HR,HB⟩:=hrel;by_cases hlt:k<l.length
  ·have hlti:(k:Int)<(l.length:Int):=by omega
   have hlt':k<r.length:=by have:=HL.out;omega
   have hlti':(k:Int)<(r.length:Int):=by omega
   obtain⟨b,o,hao,hFb,hbl,hreps⟩:=HC.out (by intro h0;rw[h0]at hlt;simp at hlt);obtain⟨b',o',hao',hFb',hbl',hreps'⟩:=HC'.out (by intro h0;rw[h0]at hlt';simp at hlt');subst hao hao';have hkp:Keep (fun _=>False) w wr:=(Keep.refl _ w).below HB.out;obtain⟨vm,vl,vt,hs,hrp⟩:=(Dt.Reps.keep hkp (fun k hk _ h=>h) _ hFb hbl hreps).at k hlt;obtain⟨um,ul,ut,hs',hrp'⟩:=(Dt.Reps.keep hkp (fun k hk _ h=>h) _ hFb' hbl' hreps').at k hlt';obtain⟨a1,n1,c1,a2,n2,c2,a3,n3,c3,rfl,rfl,rfl⟩:=hrp.forms;obtain⟨d1,p1,q1,d2,p2,q2,d3,p3,q3,rfl,rfl,rfl⟩:=hrp'.forms;have hr:=HR.out;rw[List.drop_eq_getElem_cons hlt,List.drop_eq_getElem_cons hlt',Dt.eqDs]at hr;have hy:=HE.out l[k] (List.getElem_mem hlt);have hwf:=HW.out.at k hlt;have hwf':=HW'.out.at k hlt';obtain⟨y,hyy⟩:∃y,l[k]=y:=⟨_,rfl⟩
   obtain⟨z,hzz⟩:∃z,r[k]=z:=⟨_,rfl⟩
   rw[hyy]at hs hrp hr hy hwf;rw[hzz]at hs' hrp' hr hwf';obtain⟨y0,y1,y2,y3,y4,y5⟩:=hs;obtain⟨wc,hwc⟩:∃wc,wr.alloc (.cells #[.int .i64 y.k,.int .i64 y.n,.string y.s,.slice a1 n1 c1,.slice a2 n2 c2,.slice a3 n3 c3] 25)=wc:=⟨_,rfl⟩
   have hbc:Below wr.heap.size wr wc:=by rw[←hwc];exact(Below.refl _ _).alloc (Nat.le_refl _) _
   obtain⟨z0,z1,z2,z3,z4,z5⟩:=hs'.keep (S:=fun _=>False) ((Keep.refl _ _).below hbc) (Nat.lt_of_lt_of_le hbl' HB.out.size) id;obtain⟨wd,hwd⟩:∃wd,wc.alloc (.cells #[.int .i64 z.k,.int .i64 z.n,.string z.s,.slice d1 p1 q1,.slice d2 p2 q2,.slice d3 p3 q3] 25)=wd:=⟨_,rfl⟩
   have hbd:Below wc.heap.size wc wd:=by rw[←hwd];exact(Below.refl _ _).alloc (Nat.le_refl _) _
   have hcall:=hy F G z _ _ _ _ _ _ wd hwf hwf' ((hrp.below hbc).below hbd) ((hrp'.below hbc).below hbd);obtain⟨V,hV⟩:∃V,Dt.eqD y z=V:=⟨_,rfl⟩
   rw[hV]at hcall hr;have HCALL:=zh hcall;have HBD:Hid (Below w.heap.size w wd):=((btr HB.out hbc)).trans (hbd.mono (Nat.le_trans HB.out.size hbc.size));have HRR:=zh hr;have HBD2:=zh hbd;have hltc:wr.heap.size<wc.heap.size:=by rw[←hwc,World.size_alloc];omega
   clear hcall hr hy hwf hwf' hrp hrp' hreps hreps' hkp hyy hzz hbc hbd hFb hFb' hbl hbl' hV;obtain⟨YB,hYB⟩:∃YB,wr.heap.size=YB:=⟨_,rfl⟩
   obtain⟨ZB,hZB⟩:∃ZB,wc.heap.size=ZB:=⟨_,rfl⟩
   have hsy:Dt.Six wd YB 0 y (.slice a1 n1 c1) (.slice a2 n2 c2) (.slice a3 n3 c3):=by
    have h:=Dt.six_of' wr y (.slice a1 n1 c1) (.slice a2 n2 c2) (.slice a3 n3 c3) 25;rw[hwc,hYB]at h;exact h.keep (S:=fun _=>False) ((Keep.refl _ _).below HBD2.out) (by rw[←hYB];exact hltc) id
   have hsz:Dt.Six wd ZB 0 z (.slice d1 p1 q1) (.slice d2 p2 q2) (.slice d3 p3 q3):=by
    have h:=Dt.six_of' wc z (.slice d1 p1 q1) (.slice d2 p2 q2) (.slice d3 p3 q3) 25;rw[hwd,hZB]at h;exact h
   obtain⟨s0,s1,s2,s3,s4,s5⟩:=hsy;obtain⟨t0,t1,t2,t3,t4,t5⟩:=hsz;simp only[Nat.zero_add]at s0 s1 s2 s3 s4 s5 t0 t1 t2 t3 t4 t5;clear hltc
   cases V with
   |false=>
    have HN:Hid (R=false):=by show _=_;rw[HRR.out];rfl
    clear HRR;go_wp2_with(go_at_call 97;refine HCALL.out.mono ?_;rintro e w9 ⟨rfl,hb9⟩;have HB9:=zh (btr HBD.out hb9);clear hb9 HCALL HBD HBD2 hwc hwd hYB hZB s0 s1 s2 s3 s4 s5 t0 t1 t2 t3 t4 t5 y0 y1 y2 y3 y4 y5 z0 z1 z2 z3 z4 z5)
    go_ret;exact⟨by rw[HN.out];rfl,HB9.out⟩
   |true=>
    have HN:Hid (R=Dt.eqDs (l.drop (k+1)) (r.drop (k+1))):=by show _=_;rw[HRR.out];rfl
    clear HRR;go_wp2_with(go_at_call 97;refine HCALL.out.mono ?_;rintro e w9 ⟨rfl,hb9⟩;have HB9:=zh (btr HBD.out hb9);clear hb9 HCALL HBD HBD2 hwc hwd hYB hZB s0 s1 s2 s3 s4 s5 t0 t1 t2 t3 t4 t5 y0 y1 y2 y3 y4 y5 z0 z1 z2 z3 z4 z5)
    go_roundw
    case rel=>exact⟨k+1,by simp,by omega,HN,HB9⟩
    case measure=>simp[intOf];omega
  ·have hge:(l.length:Int)≤(k:Int):=by omega
   have HN:Hid (R=true):=by show _=_;rw[HR.out,List.drop_eq_nil_of_le (by omega),List.drop_eq_nil_of_le (by have:=HL.out;omega)];rfl
   go_wp2;go_ret;exact⟨by rw[HN.out];rfl,HB.out⟩
theorem equal_step(x:Dt.D)(hl:∀y∈x.l,Dt.EqC y)(ht:∀y∈x.t,Dt.EqC y):Dt.EqC x:=by
 intro F G z vm vl vt um ul ut w hW hW' hR hR';obtain⟨w1,hw1⟩:∃w1,w.alloc (.cells #[.int .i64 x.k,.int .i64 x.n,.string x.s,vm,vl,vt] 25)=w1:=⟨_,rfl⟩
 obtain⟨w2,hw2⟩:∃w2,w1.alloc (.cells #[.int .i64 z.k,.int .i64 z.n,.string z.s,um,ul,ut] 25)=w2:=⟨_,rfl⟩
 have hb1:Below w.heap.size w w1:=by rw[←hw1];exact(Below.refl _ _).alloc (Nat.le_refl _) _
 have hb2:Below w1.heap.size w1 w2:=by rw[←hw2];exact(Below.refl _ _).alloc (Nat.le_refl _) _
 have hz1:w1.heap.size=w.heap.size+1:=by rw[←hw1,World.size_alloc]
 have hz2:w2.heap.size=w.heap.size+2:=by rw[←hw2,World.size_alloc,hz1]
 have hsx:Dt.Six w2 w.heap.size 0 x vm vl vt:=by
  have h:=Dt.six_of' w x vm vl vt 25;rw[hw1]at h;exact h.keep (S:=fun _=>False) ((Keep.refl _ _).below hb2) (by omega) id
 obtain⟨Z,hZ⟩:∃Z,w1.heap.size=Z:=⟨_,rfl⟩
 have hsz:Dt.Six w2 Z 0 z um ul ut:=by
  have h:=Dt.six_of' w1 z um ul ut 25;rw[hw2,hZ]at h;exact h
 have HB:=zh (hb1.trans (hb2.mono (by omega)));have HR:=zh ((hR.below hb1).below hb2);have HR':=zh ((hR'.below hb1).below hb2);have h3:=(Dt.rep_iff F w2 x vm vl vt).1 HR.out;have h3':=(Dt.rep_iff G w2 z um ul ut).1 HR'.out;have hm:=iEqual_any vm um x.m z.m w2 h3.1 h3'.1 (Dt.wf_m hW) (Dt.wf_m hW');have hLc:=fun u (hu:Below w2.heap.size w2 u)=>eqFunc_any vl ul x.l z.l u (((Dt.rep_iff F u x vm vl vt).1 (HR.out.below hu)).2.1) (((Dt.rep_iff G u z um ul ut).1 (HR'.out.below hu)).2.1) (Dt.wf_len hW).1 (Dt.wf_len hW').1 (Dt.wf_l hW) (Dt.wf_l hW') hl
 have hTc:=fun u (hu:Below w2.heap.size w2 u)=>eqFunc_any vt ut x.t z.t u (((Dt.rep_iff F u x vm vl vt).1 (HR.out.below hu)).2.2) (((Dt.rep_iff G u z um ul ut).1 (HR'.out.below hu)).2.2) (Dt.wf_len hW).2 (Dt.wf_len hW').2 (Dt.wf_t hW) (Dt.wf_t hW') ht
 obtain⟨x0,x1,x2,x3,x4,x5⟩:=hsx;obtain⟨z0,z1,z2,z3,z4,z5⟩:=hsz;have HSX:Hid (Dt.Six w2 w.heap.size 0 x vm vl vt):=⟨x0,x1,x2,x3,x4,x5⟩
 have HSZ:Hid (Dt.Six w2 Z 0 z um ul ut):=⟨z0,z1,z2,z3,z4,z5⟩
 simp only[Nat.zero_add]at x0 x1 x2 x3 x4 x5 z0 z1 z2 z3 z4 z5;have hev:Dt.eqD x z=(decide (x.k=z.k)&&decide (x.n=z.n)&&decide (x.s.data.toList=z.s.data.toList)&&decide (x.m=z.m)&&Dt.eqDs x.l z.l&&Dt.eqDs x.t z.t):=by
  cases x;cases z;rw[Dt.eqD];rfl
 obtain⟨a1,n1,c1,a2,n2,c2,a3,n3,c3,rfl,rfl,rfl⟩:=hR.forms;obtain⟨d1,p1,q1,d2,p2,q2,d3,p3,q3,rfl,rfl,rfl⟩:=hR'.forms;have HM:=zh hm;have HLC:=zh hLc;have HTC:=zh hTc;have HEV:=zh hev;have HZ2:Hid (w.heap.size<w2.heap.size∧Z<w2.heap.size):=⟨by omega,by omega⟩
 clear hm hLc hTc hev h3 h3' hR hR' hW hW' hb1 hb2 hl ht hz1 hz2;by_cases k1:x.k=z.k
 case neg=>
  have b1:(x.k==z.k)=false:=by simpa using k1
  have HN:Hid (Dt.eqD x z=false):=by show _=_;rw[HEV.out];simp[k1]
  clear k1;go_enter Tryz.func97,Tryz.ntmps97;go_wp2_with(fail)
  go_ret;exact⟨by rw[HN.out];rfl,HB.out⟩
 have b1:(x.k==z.k)=true:=by simpa using k1
 have K1:=zh k1;clear k1;by_cases k2:x.n=z.n
 case neg=>
  have b2:(x.n==z.n)=false:=by simpa using k2
  have HN:Hid (Dt.eqD x z=false):=by show _=_;rw[HEV.out];simp[K1.out,k2]
  clear k2;go_enter Tryz.func97,Tryz.ntmps97;go_wp2_with(fail)
  go_ret;exact⟨by rw[HN.out];rfl,HB.out⟩
 have b2:(x.n==z.n)=true:=by simpa using k2
 have K2:=zh k2;clear k2;by_cases k3:x.s.data.toList=z.s.data.toList
 case neg=>
  have b3:(x.s.data==z.s.data)=false:=by rw[beq_eq_false_iff_ne];intro e;exact k3 (by rw[e])
  have b3b:decide (x.s=z.s)=false:=by simpa using fun e=>k3 (by rw[e])
  have b3c:(x.s.toList==z.s.toList)=false:=by rw[ByteArray.toList_eq,ByteArray.toList_eq];simpa using k3
  have b3d:(x.s==z.s)=false:=b3;have HN:Hid (Dt.eqD x z=false):=by show _=_;rw[HEV.out];simp[K1.out,K2.out,k3]
  clear k3;go_enter Tryz.func97,Tryz.ntmps97;go_wp2_with(fail)
  go_ret;exact⟨by rw[HN.out];rfl,HB.out⟩
 have b3:(x.s.data==z.s.data)=true:=by rw[Dt.bytes_ext k3];simp
 have b3b:decide (x.s=z.s)=true:=decide_eq_true (Dt.bytes_ext k3);have b3c:(x.s.toList==z.s.toList)=true:=by rw[Dt.bytes_ext k3];simp
 have b3d:(x.s==z.s)=true:=b3;have K3:=zh k3;clear k3;by_cases k4:x.m=z.m
 case neg=>
  have b4:decide (x.m=z.m)=false:=decide_eq_false k4;have HN:Hid (Dt.eqD x z=false):=by show _=_;rw[HEV.out];simp[K1.out,K2.out,K3.out,k4]
  clear k4;go_enter Tryz.func97,Tryz.ntmps97;go_wp2_with(first|(go_at_call 25;refine HM.out.mono ?_;clear x0 x1 x2 x3 x4 x5 z0 z1 z2 z3 z4 z5;rintro e w3 ⟨rfl,hb3⟩;have HB3:=zh hb3;clear hb3 hw1 hw2;obtain⟨x0,x1,x2,x3,x4,x5⟩:=HSX.out.keep (S:=fun _=>False) ((Keep.refl _ _).below HB3.out) HZ2.out.1 id;obtain⟨z0,z1,z2,z3,z4,z5⟩:=HSZ.out.keep (S:=fun _=>False) ((Keep.refl _ _).below HB3.out) HZ2.out.2 id;simp only[Nat.zero_add]at x0 x1 x2 x3 x4 x5 z0 z1 z2 z3 z4 z5))
  go_ret;exact⟨by rw[HN.out];rfl,(btr HB.out HB3.out)⟩
 have b4:decide (x.m=z.m)=true:=decide_eq_true k4;have K4:=zh k4;clear k4;by_cases k5:Dt.eqDs x.l z.l=true
 case neg=>
  have b5:Dt.eqDs x.l z.l=false:=by simpa using k5
  have HN:Hid (Dt.eqD x z=false):=by show _=_;rw[HEV.out];simp[K1.out,K2.out,K3.out,K4.out,k5]
  clear k5;go_enter Tryz.func97,Tryz.ntmps97;go_wp2_with(first|(go_at_call 25;refine HM.out.mono ?_;clear x0 x1 x2 x3 x4 x5 z0 z1 z2 z3 z4 z5;rintro e w3 ⟨rfl,hb3⟩;have HB3:=zh hb3;clear hb3 hw1 hw2;obtain⟨x0,x1,x2,x3,x4,x5⟩:=HSX.out.keep (S:=fun _=>False) ((Keep.refl _ _).below HB3.out) HZ2.out.1 id;obtain⟨z0,z1,z2,z3,z4,z5⟩:=HSZ.out.keep (S:=fun _=>False) ((Keep.refl _ _).below HB3.out) HZ2.out.2 id;simp only[Nat.zero_add]at x0 x1 x2 x3 x4 x5 z0 z1 z2 z3 z4 z5)|(go_at_call 116;with_reducible refine(HLC.out _ HB3.out).mono ?_;clear x0 x1 x2 x3 x4 x5 z0 z1 z2 z3 z4 z5;rintro e w4 ⟨rfl,hb4⟩;have HB4:=zh ((btr HB3.out hb4));clear hb4;obtain⟨x0,x1,x2,x3,x4,x5⟩:=HSX.out.keep (S:=fun _=>False) ((Keep.refl _ _).below HB4.out) HZ2.out.1 id;obtain⟨z0,z1,z2,z3,z4,z5⟩:=HSZ.out.keep (S:=fun _=>False) ((Keep.refl _ _).below HB4.out) HZ2.out.2 id;simp only[Nat.zero_add]at x0 x1 x2 x3 x4 x5 z0 z1 z2 z3 z4 z5))
  go_ret;exact⟨by rw[HN.out];rfl,(btr HB.out HB4.out)⟩
 have b5:Dt.eqDs x.l z.l=true:=k5;have K5:=zh k5;clear k5;by_cases k6:Dt.eqDs x.t z.t=true
 case neg=>
  have b6:Dt.eqDs x.t z.t=false:=by simpa using k6
  have HN:Hid (Dt.eqD x z=false):=by show _=_;rw[HEV.out];simp[K1.out,K2.out,K3.out,K4.out,K5.out,k6]
  clear k6;go_enter Tryz.func97,Tryz.ntmps97;go_wp2_with(first|(go_at_call 25;refine HM.out.mono ?_;clear x0 x1 x2 x3 x4 x5 z0 z1 z2 z3 z4 z5;rintro e w3 ⟨rfl,hb3⟩;have HB3:=zh hb3;clear hb3 hw1 hw2;obtain⟨x0,x1,x2,x3,x4,x5⟩:=HSX.out.keep (S:=fun _=>False) ((Keep.refl _ _).below HB3.out) HZ2.out.1 id;obtain⟨z0,z1,z2,z3,z4,z5⟩:=HSZ.out.keep (S:=fun _=>False) ((Keep.refl _ _).below HB3.out) HZ2.out.2 id;simp only[Nat.zero_add]at x0 x1 x2 x3 x4 x5 z0 z1 z2 z3 z4 z5)|(go_at_call 116;with_reducible refine(HLC.out _ HB3.out).mono ?_;clear x0 x1 x2 x3 x4 x5 z0 z1 z2 z3 z4 z5;rintro e w4 ⟨rfl,hb4⟩;have HB4:=zh ((btr HB3.out hb4));clear hb4;obtain⟨x0,x1,x2,x3,x4,x5⟩:=HSX.out.keep (S:=fun _=>False) ((Keep.refl _ _).below HB4.out) HZ2.out.1 id;obtain⟨z0,z1,z2,z3,z4,z5⟩:=HSZ.out.keep (S:=fun _=>False) ((Keep.refl _ _).below HB4.out) HZ2.out.2 id;simp only[Nat.zero_add]at x0 x1 x2 x3 x4 x5 z0 z1 z2 z3 z4 z5)|(go_at_call 116;with_reducible refine(HTC.out _ HB4.out).mono ?_;clear x0 x1 x2 x3 x4 x5 z0 z1 z2 z3 z4 z5;rintro e w5 ⟨rfl,hb5⟩;have HB5:=zh ((btr HB4.out hb5));clear hb5))
  go_ret;exact⟨by rw[HN.out];rfl,(btr HB.out HB5.out)⟩
 have b6:Dt.eqDs x.t z.t=true:=k6;have K6:=zh k6;clear k6;have HN:Hid (Dt.eqD x z=true):=by show _=_;rw[HEV.out];simp[K1.out,K2.out,K3.out,K4.out,K5.out,K6.out]
 go_enter Tryz.func97,Tryz.ntmps97;go_wp2_with(first|(go_at_call 25;refine HM.out.mono ?_;clear x0 x1 x2 x3 x4 x5 z0 z1 z2 z3 z4 z5;rintro e w3 ⟨rfl,hb3⟩;have HB3:=zh hb3;clear hb3 hw1 hw2;obtain⟨x0,x1,x2,x3,x4,x5⟩:=HSX.out.keep (S:=fun _=>False) ((Keep.refl _ _).below HB3.out) HZ2.out.1 id;obtain⟨z0,z1,z2,z3,z4,z5⟩:=HSZ.out.keep (S:=fun _=>False) ((Keep.refl _ _).below HB3.out) HZ2.out.2 id;simp only[Nat.zero_add]at x0 x1 x2 x3 x4 x5 z0 z1 z2 z3 z4 z5)|(go_at_call 116;with_reducible refine(HLC.out _ HB3.out).mono ?_;clear x0 x1 x2 x3 x4 x5 z0 z1 z2 z3 z4 z5;rintro e w4 ⟨rfl,hb4⟩;have HB4:=zh ((btr HB3.out hb4));clear hb4;obtain⟨x0,x1,x2,x3,x4,x5⟩:=HSX.out.keep (S:=fun _=>False) ((Keep.refl _ _).below HB4.out) HZ2.out.1 id;obtain⟨z0,z1,z2,z3,z4,z5⟩:=HSZ.out.keep (S:=fun _=>False) ((Keep.refl _ _).below HB4.out) HZ2.out.2 id;simp only[Nat.zero_add]at x0 x1 x2 x3 x4 x5 z0 z1 z2 z3 z4 z5)|(go_at_call 116;with_reducible refine(HTC.out _ HB4.out).mono ?_;clear x0 x1 x2 x3 x4 x5 z0 z1 z2 z3 z4 z5;rintro e w5 ⟨rfl,hb5⟩;have HB5:=zh ((btr HB4.out hb5));clear hb5))
 go_ret;exact⟨by rw[HN.out];rfl,(btr HB.out HB5.out)⟩
mutual
theorem Dt.equal_any:∀x:Dt.D,Dt.EqC x
 | .mk k n s m l t=>equal_step (.mk k n s m l t) (Dt.equals_any l) (Dt.equals_any t)
theorem Dt.equals_any:∀(l:List Dt.D) (y:Dt.D),y∈l→Dt.EqC y
 |[],_,h=>absurd h (by simp)
 |x :: r,y,h=>(List.mem_cons.1 h).elim (fun e=>by rw[e];exact Dt.equal_any x) (fun h'=>Dt.equals_any r y h')
end
theorem dSame_any{F G:Nat→Prop}(x z:Dt.D)(vm vl vt um ul ut:Value)(w:World)(hW:Dt.Wf x)(hW':Dt.Wf z)(hR:Dt.Rep F w x vm vl vt)(hR':Dt.Rep G w z um ul ut):
  Calls Tryz.prog 69 #[.agg #[.int .i64 x.k,.int .i64 x.n,.string x.s,vm,vl,vt],.agg #[.int .i64 z.k,.int .i64 z.n,.string z.s,um,ul,ut]] w fun e w'=>e= .returned (.bool (Dt.sameD x z))∧Below w.heap.size w w':=by
 obtain⟨w1,hw1⟩:∃w1,w.alloc (.cells #[.int .i64 x.k,.int .i64 x.n,.string x.s,vm,vl,vt] 25)=w1:=⟨_,rfl⟩
 obtain⟨w2,hw2⟩:∃w2,w1.alloc (.cells #[.int .i64 z.k,.int .i64 z.n,.string z.s,um,ul,ut] 25)=w2:=⟨_,rfl⟩
 have hb1:Below w.heap.size w w1:=by rw[←hw1];exact(Below.refl _ _).alloc (Nat.le_refl _) _
 have hb2:Below w1.heap.size w1 w2:=by rw[←hw2];exact(Below.refl _ _).alloc (Nat.le_refl _) _
 have hz1:w1.heap.size=w.heap.size+1:=by rw[←hw1,World.size_alloc]
 have hz2:w2.heap.size=w.heap.size+2:=by rw[←hw2,World.size_alloc,hz1]
 have hsx:Dt.Six w2 w.heap.size 0 x vm vl vt:=by
  have h:=Dt.six_of' w x vm vl vt 25;rw[hw1]at h;exact h.keep (S:=fun _=>False) ((Keep.refl _ _).below hb2) (by omega) id
 obtain⟨Z,hZ⟩:∃Z,w1.heap.size=Z:=⟨_,rfl⟩
 have hsz:Dt.Six w2 Z 0 z um ul ut:=by
  have h:=Dt.six_of' w1 z um ul ut 25;rw[hw2,hZ]at h;exact h
 have HB:=zh (hb1.trans (hb2.mono (by omega)));have HR:=zh ((hR.below hb1).below hb2);have HR':=zh ((hR'.below hb1).below hb2);have hc:=fun u (hu:Below w2.heap.size w2 u)=>dCheck_any x vm vl vt u hW (HR.out.below hu)
 have hc':=fun u (hu:Below w2.heap.size w2 u)=>dCheck_any z um ul ut u hW' (HR'.out.below hu)
 have he:=fun u (hu:Below w2.heap.size w2 u)=>Dt.equal_any x F G z vm vl vt um ul ut u hW hW' (HR.out.below hu) (HR'.out.below hu)
 obtain⟨x0,x1,x2,x3,x4,x5⟩:=hsx;obtain⟨z0,z1,z2,z3,z4,z5⟩:=hsz;have HSX:Hid (Dt.Six w2 w.heap.size 0 x vm vl vt):=⟨x0,x1,x2,x3,x4,x5⟩
 have HSZ:Hid (Dt.Six w2 Z 0 z um ul ut):=⟨z0,z1,z2,z3,z4,z5⟩
 simp only[Nat.zero_add]at x0 x1 x2 x3 x4 x5 z0 z1 z2 z3 z4 z5;obtain⟨a1,n1,c1,a2,n2,c2,a3,n3,c3,rfl,rfl,rfl⟩:=hR.forms;obtain⟨d1,p1,q1,d2,p2,q2,d3,p3,q3,rfl,rfl,rfl⟩:=hR'.forms;obtain⟨S,hS⟩:∃S,S=Dt.sameD x z:=⟨_,rfl⟩
 rw[←hS];unfold Dt.sameD at hS;obtain⟨C,hC⟩:∃C,C=Dt.check x:=⟨_,rfl⟩
 obtain⟨C',hC'⟩:∃C',C'=Dt.check z:=⟨_,rfl⟩
 obtain⟨E,hE⟩:∃E,E=Dt.eqD x z:=⟨_,rfl⟩
 rw[←hC]at hc;rw[←hC']at hc';rw[←hE]at he;rw[←hC,←hC',←hE]at hS;have HC:=zh hc;have HC':=zh hc';have HE:=zh he;have HZ2:Hid (w.heap.size<w2.heap.size∧Z<w2.heap.size):=⟨by omega,by omega⟩
 clear hc hc' he hR hR' hW hW' hb1 hb2 hz1 hz2 hC hC' hE;by_cases k1:C=0
 case neg=>
  have b1:(C==0)=false:=by simpa using k1
  have HN:Hid (S=false):=by show _=_;rw[hS];simp[k1]
  clear k1 hS;go_enter Tryz.func69,Tryz.ntmps69;go_wp2_with(first|(go_at_call 58;with_reducible refine(HC.out _ (Below.refl _ _)).mono ?_;clear x0 x1 x2 x3 x4 x5 z0 z1 z2 z3 z4 z5;rintro e w3 ⟨rfl,hb3⟩;have HB3:=zh hb3;clear hb3 hw1 hw2;obtain⟨x0,x1,x2,x3,x4,x5⟩:=HSX.out.keep (S:=fun _=>False) ((Keep.refl _ _).below HB3.out) HZ2.out.1 id;obtain⟨z0,z1,z2,z3,z4,z5⟩:=HSZ.out.keep (S:=fun _=>False) ((Keep.refl _ _).below HB3.out) HZ2.out.2 id;simp only[Nat.zero_add]at x0 x1 x2 x3 x4 x5 z0 z1 z2 z3 z4 z5)|fail)
  go_ret;exact⟨by rw[HN.out];rfl,(btr HB.out HB3.out)⟩
 have b1:(C==0)=true:=by simpa using k1
 have K1:=zh k1;clear k1;by_cases k2:C'=0
 case neg=>
  have b2:(C'==0)=false:=by simpa using k2
  have HN:Hid (S=false):=by show _=_;rw[hS];simp[k2]
  clear k2 hS;go_enter Tryz.func69,Tryz.ntmps69;go_wp2_with(first|(go_at_call 58;with_reducible refine(HC.out _ (Below.refl _ _)).mono ?_;clear x0 x1 x2 x3 x4 x5 z0 z1 z2 z3 z4 z5;rintro e w3 ⟨rfl,hb3⟩;have HB3:=zh hb3;clear hb3 hw1 hw2;obtain⟨x0,x1,x2,x3,x4,x5⟩:=HSX.out.keep (S:=fun _=>False) ((Keep.refl _ _).below HB3.out) HZ2.out.1 id;obtain⟨z0,z1,z2,z3,z4,z5⟩:=HSZ.out.keep (S:=fun _=>False) ((Keep.refl _ _).below HB3.out) HZ2.out.2 id;simp only[Nat.zero_add]at x0 x1 x2 x3 x4 x5 z0 z1 z2 z3 z4 z5)|(go_at_call 58;with_reducible refine(HC'.out _ HB3.out).mono ?_;clear x0 x1 x2 x3 x4 x5 z0 z1 z2 z3 z4 z5;rintro e w4 ⟨rfl,hb4⟩;have HB4:=zh ((btr HB3.out hb4));clear hb4;obtain⟨x0,x1,x2,x3,x4,x5⟩:=HSX.out.keep (S:=fun _=>False) ((Keep.refl _ _).below HB4.out) HZ2.out.1 id;obtain⟨z0,z1,z2,z3,z4,z5⟩:=HSZ.out.keep (S:=fun _=>False) ((Keep.refl _ _).below HB4.out) HZ2.out.2 id;simp only[Nat.zero_add]at x0 x1 x2 x3 x4 x5 z0 z1 z2 z3 z4 z5)|fail)
  go_ret;exact⟨by rw[HN.out];rfl,(btr HB.out HB4.out)⟩
 have b2:(C'==0)=true:=by simpa using k2
 have HN:Hid (S=E):=by show _=_;rw[hS];simp[K1.out,k2]
 clear k2 hS;go_enter Tryz.func69,Tryz.ntmps69;go_wp2_with(first|(go_at_call 58;with_reducible refine(HC.out _ (Below.refl _ _)).mono ?_;clear x0 x1 x2 x3 x4 x5 z0 z1 z2 z3 z4 z5;rintro e w3 ⟨rfl,hb3⟩;have HB3:=zh hb3;clear hb3 hw1 hw2;obtain⟨x0,x1,x2,x3,x4,x5⟩:=HSX.out.keep (S:=fun _=>False) ((Keep.refl _ _).below HB3.out) HZ2.out.1 id;obtain⟨z0,z1,z2,z3,z4,z5⟩:=HSZ.out.keep (S:=fun _=>False) ((Keep.refl _ _).below HB3.out) HZ2.out.2 id;simp only[Nat.zero_add]at x0 x1 x2 x3 x4 x5 z0 z1 z2 z3 z4 z5)|(go_at_call 58;with_reducible refine(HC'.out _ HB3.out).mono ?_;clear x0 x1 x2 x3 x4 x5 z0 z1 z2 z3 z4 z5;rintro e w4 ⟨rfl,hb4⟩;have HB4:=zh ((btr HB3.out hb4));clear hb4;obtain⟨x0,x1,x2,x3,x4,x5⟩:=HSX.out.keep (S:=fun _=>False) ((Keep.refl _ _).below HB4.out) HZ2.out.1 id;obtain⟨z0,z1,z2,z3,z4,z5⟩:=HSZ.out.keep (S:=fun _=>False) ((Keep.refl _ _).below HB4.out) HZ2.out.2 id;simp only[Nat.zero_add]at x0 x1 x2 x3 x4 x5 z0 z1 z2 z3 z4 z5)|(go_at_call 97;with_reducible refine(HE.out _ HB4.out).mono ?_;clear x0 x1 x2 x3 x4 x5 z0 z1 z2 z3 z4 z5;rintro e w5 ⟨rfl,hb5⟩;have HB5:=zh ((btr HB4.out hb5));clear hb5)|fail)
 go_ret;exact⟨by rw[HN.out];rfl,(btr HB.out HB5.out)⟩
end Go.Proofs.YtfjmlfbohenmfaaGreat
namespace Go.Proofs.YtfjmlfbohenmfaaGreat
open Go.RowKit
attribute [local go_sem] Oper.semAt_some
namespace Co
open Dt
theorem none_B(d:D):((d.k==0)&&((d.n==0)&&(d.s.toList.isEmpty&&(d.m.length+d.l.length+d.t.length==0))))=none_ d:=by
 cases d with
 |mk k n s m l t=>
  show((k==0)&&((n==0)&&(s.toList.isEmpty&&(m.length+l.length+t.length==0))))=(decide (k=0)&&decide (n=0)&&s.data.toList.isEmpty&&m.isEmpty&&l.isEmpty&&t.isEmpty)
  rw[ByteArray.toList_eq];cases m <;> cases l <;> cases t <;> simp[Bool.beq_eq_decide_eq,Bool.and_assoc] <;> rfl
theorem wf_lens{d:D}(h:Dt.Wf d):d.m.length≤140737488355328∧d.l.length≤140737488355328∧d.t.length≤140737488355328∧d.s.size≤140737488355328:=by
 cases d with
 |mk k n s m l t=>
  rw[Dt.Wf]at h;exact⟨h.2.2.1,h.2.2.2.1,h.2.2.2.2.1,h.2.1⟩
end Co
theorem zeroC_any{F:Nat→Prop}(d:Dt.D)(vm vl vt:Value)(w:World)(hW:Dt.Wf d)(h:Dt.Rep F w d vm vl vt):
  Calls Tryz.prog 68 #[.agg #[.int .i64 d.k,.int .i64 d.n,.string d.s,vm,vl,vt]] w fun e w'=>e= .returned (.bool (Co.none_ d))∧Below w.heap.size w w':=by
 obtain⟨⟨am,cm,rfl,_⟩,⟨al,cl,rfl,_⟩,⟨at_,ct,rfl,_⟩⟩:=(Dt.rep_iff _ _ _ _ _ _).1 h;obtain⟨h1,h2,h3,-⟩:=Co.wf_lens hW;have hB:=Co.none_B d;obtain⟨R,hR⟩:∃R,R=Co.none_ d:=⟨_,rfl⟩
 rw[←hR]at hB ⊢;obtain⟨dk,e0⟩:∃x,d.k=x:=⟨_,rfl⟩
 obtain⟨dn,e1⟩:∃x,d.n=x:=⟨_,rfl⟩
 obtain⟨ds,e2⟩:∃x,d.s=x:=⟨_,rfl⟩
 obtain⟨lm,e3⟩:∃x,d.m.length=x:=⟨_,rfl⟩
 obtain⟨ll,e4⟩:∃x,d.l.length=x:=⟨_,rfl⟩
 obtain⟨lt,e5⟩:∃x,d.t.length=x:=⟨_,rfl⟩
 rw[e0,e1,e2,e3,e4,e5]at hB;rw[e3]at h1;rw[e4]at h2;rw[e5]at h3;rw[e0,e1,e2,e3,e4,e5];have hs3:(((lm:Int)+(ll:Int)+(lt:Int))==0)=(lm+ll+lt==0):=by
  rw[Bool.eq_iff_iff];simp;omega
 obtain⟨E,hE⟩:∃E,E=(lm+ll+lt==0):=⟨_,rfl⟩
 rw[←hE]at hs3 hB;have HB:=zh hB;clear hE hR hB e0 e1 e2 e3 e4 e5 h;go_enter Tryz.func68,Tryz.ntmps68;go_wp2;all_goals
  go_ret;exact⟨by rw[←HB.out];simp_all,(Below.refl _ _).alloc (Nat.le_refl _) _⟩
theorem noneC_any{F:Nat→Prop}(d:Dt.D)(vm vl vt:Value)(w:World)(hW:Dt.Wf d)(h:Dt.Rep F w d vm vl vt):
  Calls Tryz.prog 93 #[.agg #[.int .i64 d.k,.int .i64 d.n,.string d.s,vm,vl,vt]] w fun e w'=>e= .returned (.bool (Co.none_ d))∧Below w.heap.size w w':=by
 obtain⟨⟨am,cm,rfl,_⟩,⟨al,cl,rfl,_⟩,⟨at_,ct,rfl,_⟩⟩:=(Dt.rep_iff _ _ _ _ _ _).1 h;obtain⟨h1,h2,h3,-⟩:=Co.wf_lens hW;have hB:=Co.none_B d;obtain⟨R,hR⟩:∃R,R=Co.none_ d:=⟨_,rfl⟩
 rw[←hR]at hB ⊢;obtain⟨dk,e0⟩:∃x,d.k=x:=⟨_,rfl⟩
 obtain⟨dn,e1⟩:∃x,d.n=x:=⟨_,rfl⟩
 obtain⟨ds,e2⟩:∃x,d.s=x:=⟨_,rfl⟩
 obtain⟨lm,e3⟩:∃x,d.m.length=x:=⟨_,rfl⟩
 obtain⟨ll,e4⟩:∃x,d.l.length=x:=⟨_,rfl⟩
 obtain⟨lt,e5⟩:∃x,d.t.length=x:=⟨_,rfl⟩
 rw[e0,e1,e2,e3,e4,e5]at hB;rw[e3]at h1;rw[e4]at h2;rw[e5]at h3;rw[e0,e1,e2,e3,e4,e5];have hs3:(((lm:Int)+(ll:Int)+(lt:Int))==0)=(lm+ll+lt==0):=by
  rw[Bool.eq_iff_iff];simp;omega
 obtain⟨E,hE⟩:∃E,E=(lm+ll+lt==0):=⟨_,rfl⟩
 rw[←hE]at hs3 hB;have HB:=zh hB;clear hE hR hB e0 e1 e2 e3 e4 e5 h;go_enter Tryz.func93,Tryz.ntmps93;go_wp2;all_goals
  go_ret;exact⟨by rw[←HB.out];simp_all,(Below.refl _ _).alloc (Nat.le_refl _) _⟩
theorem varC_any(n:Int)(w:World):
  Calls Tryz.prog 83 #[.int .i64 n] w fun e w'=>e= .returned (.bool (Co.var n))∧w=w':=by
 obtain⟨R,hR⟩:∃R,R=Co.var n:=⟨_,rfl⟩
 have HR:Hid (R=(decide (1≤n)&&decide (n≤1048576))):=hR;rw[←hR];clear hR;go_enter Tryz.func83,Tryz.ntmps83;go_wp2;all_goals
  go_ret;exact⟨by rw[HR.out];first|(simp_all;done)|(simp_all;omega),rfl⟩
theorem numC_any(n:Int)(w:World):
  Calls Tryz.prog 96 #[.int .i64 n] w fun e w'=>e= .returned (.bool (Co.var n))∧w=w':=by
 obtain⟨R,hR⟩:∃R,R=Co.var n:=⟨_,rfl⟩
 have HR:Hid (R=(decide (1≤n)&&decide (n≤1048576))):=hR;rw[←hR];clear hR;go_enter Tryz.func96,Tryz.ntmps96;go_wp2;all_goals
  go_ret;exact⟨by rw[HR.out];first|(simp_all;done)|(simp_all;omega),rfl⟩
namespace Co
def IdxIs(l:List Int)(s:Int)(x:Int):Prop:=(x= -1∧s∉l)∨∃k:Nat,x=k∧∃h:k<l.length,l[k]=s∧s∉l.take k
theorem IdxIs.at{l:List Int}{x:Int}{i:Nat}(hi:i<l.length)(h:IdxIs l l[i] x):(x !=(i:Int))=(l.take i).contains l[i]:=by
 rcases h with⟨_,h⟩|⟨k,rfl,hk,h1,h2⟩
 ·exact absurd (List.getElem_mem hi) h
 ·by_cases hki:k<i
  ·have e1:((k:Int) !=(i:Int))=true:=by simp;omega
   have e2:l[i]∈l.take i:=by
    rw[←h1];exact List.mem_take_iff_getElem.2 ⟨k,by omega,rfl⟩
   rw[e1];exact(List.contains_iff_mem.2 e2).symm
  ·by_cases hik:i<k
   ·exact absurd (List.mem_take_iff_getElem.2 ⟨i,by omega,rfl⟩) h2
   ·obtain rfl:k=i:=by omega
    rw[show((k:Int) !=(k:Int))=false by simp];simpa using h2
theorem not_take{l:List Int}{n y:Int}{k:Nat}(hk:k<l.length)(hy:l[k]=y)(h:n∉l.take k)(hne:¬y=n):n∉l.take (k+1):=by
 rw[List.take_succ_eq_append_getElem hk,hy];intro hm;rcases List.mem_append.1 hm with hm|hm
 ·exact h hm
 ·exact hne (List.mem_singleton.1 hm).symm
theorem contains_no{l:List Int}{n:Int}(h:n∉l):l.contains n=false:=by simpa using h
end Co
theorem indexI_any{F:Nat→Prop}(v:Value)(l:List Int)(s:Int)(w:World)(h:Dt.IRow F w v l)(hl:l.length≤140737488355328):
  Calls Tryz.prog 52 #[v,.int .i64 s] w fun e w'=>(∃x:Int,e= .returned (.int .i64 x)∧Co.IdxIs l s x)∧w=w':=by
 obtain⟨a,c,rfl,_,hc⟩:=h;have HC:=zh hc;clear hc;go_enter Tryz.func52,Tryz.ntmps52;go_wp2
 go_loop [8] (fun v=>∃k:Nat,v= .int .i64 k∧k≤l.length∧Hid (s∉l.take k)) (fun v=>l.length - (intOf v).toNat)
 case atStart=>exact⟨0,rfl,by omega,by show s∉_;simp⟩
 case round=>
  obtain⟨k,rfl,hk,HR⟩:=hrel;by_cases hlt:k<l.length
  ·have hlti:(k:Int)<(l.length:Int):=by omega
   obtain⟨b,o,rfl,_,_,hcell⟩:=HC.out (by intro h0;rw[h0]at hlt;simp at hlt);have x0:=hcell k hlt;obtain⟨y,hy⟩:∃y,l[k]=y:=⟨_,rfl⟩
   rw[hy]at x0;have HY:=zh hy;clear hy hcell;by_cases hxy:s=y
   ·subst hxy;have HN:Hid (Co.IdxIs l s (k:Int)):= .inr ⟨k,rfl,hlt,HY.out,HR.out⟩;go_wp2;go_ret;exact⟨⟨_,rfl,HN.out⟩,rfl⟩
   ·have HN:Hid (s∉l.take (k+1)):=Co.not_take hlt HY.out HR.out (fun e=>hxy e.symm);have hyx:(s==y)=false:=by simpa using hxy
    have hyx2:(y==s)=false:=by simpa using fun e=>hxy (Eq.symm e)
    clear hxy;go_wp2
    go_round
    case rel=>exact⟨k+1,by simp,by omega,HN⟩
    case measure=>simp[intOf];omega
  ·have hge:(l.length:Int)≤(k:Int):=by omega
   have HN:Hid (s∉l):=by have h:=HR.out;rw[List.take_of_length_le (by omega)]at h;exact h
   go_wp2;go_ret;exact⟨⟨-1,rfl,.inl ⟨rfl,HN.out⟩⟩,rfl⟩
theorem inI_any{F:Nat→Prop}(v:Value)(l:List Int)(s:Int)(w:World)(h:Dt.IRow F w v l)(hl:l.length≤140737488355328):
  Calls Tryz.prog 67 #[v,.int .i64 s] w fun e w'=>e= .returned (.bool (l.contains s))∧w=w':=by
 obtain⟨a,c,rfl,_,hc⟩:=h;have HC:=zh hc;obtain⟨R,hR⟩:∃R,R=l.contains s:=⟨_,rfl⟩
 rw[←hR];have HR0:=zh hR;clear hc hR;go_enter Tryz.func67,Tryz.ntmps67;go_wp2
 go_loop [5] (fun v=>∃k:Nat,v= .int .i64 k∧k≤l.length∧Hid (s∉l.take k)) (fun v=>l.length - (intOf v).toNat)
 case atStart=>exact⟨0,rfl,by omega,by show s∉_;simp⟩
 case round=>
  obtain⟨k,rfl,hk,HR⟩:=hrel;by_cases hlt:k<l.length
  ·have hlti:(k:Int)<(l.length:Int):=by omega
   obtain⟨b,o,rfl,_,_,hcell⟩:=HC.out (by intro h0;rw[h0]at hlt;simp at hlt);have x0:=hcell k hlt;obtain⟨y,hy⟩:∃y,l[k]=y:=⟨_,rfl⟩
   rw[hy]at x0;have HY:=zh hy;clear hy hcell;by_cases hxy:y=s
   ·subst hxy;have HN:Hid (R=true):=by show R=true;rw[HR0.out,←HY.out];exact List.contains_iff_mem.2 (List.getElem_mem hlt)
    go_wp2;go_ret;exact⟨by rw[HN.out];rfl,rfl⟩
   ·have HN:Hid (s∉l.take (k+1)):=Co.not_take hlt HY.out HR.out hxy;have hyx:(y==s)=false:=by simpa using hxy
    clear hxy;go_wp2
    go_round
    case rel=>exact⟨k+1,by simp,by omega,HN⟩
    case measure=>simp[intOf];omega
  ·have hge:(l.length:Int)≤(k:Int):=by omega
   have HN:Hid (R=false):=by
    have h:=HR.out;rw[List.take_of_length_le (by omega)]at h;show R=false;rw[HR0.out];exact Co.contains_no h
   go_wp2;go_ret;exact⟨by rw[HN.out];rfl,rfl⟩
end Go.Proofs.YtfjmlfbohenmfaaGreat
namespace Go.Proofs.YtfjmlfbohenmfaaGreat
open Go.RowKit
namespace Cd
open Dt
def NameRow(F:Nat→Prop)(w:World)(v:Value)(l:List ByteArray):Prop:=
 ∃(a:Option Addr) (c:Nat),v= .slice a l.length c∧l.length≤c∧(l≠[]→∃b o,a=some ⟨b,o,none⟩∧F b∧b<w.heap.size∧∀j,(h:j<l.length)→w.cell? ⟨b,o+j,none⟩=some (.string l[j]))
theorem NameRow.keep{F S:Nat→Prop}{w w':World}{v:Value}{l:List ByteArray}(h:NameRow F w v l)(hk:Keep S w w')(hS:∀b,F b→b<w.heap.size→¬S b):NameRow F w' v l:=by
 obtain⟨a,c,h1,h2,h3⟩:=h;refine⟨a,c,h1,h2,fun hn=> ?_⟩;obtain⟨b,o,h4,h5,h6,h7⟩:=h3 hn;exact⟨b,o,h4,h5,Nat.lt_of_lt_of_le h6 hk.size,fun j hj=>(hk.cell _ h6 (hS b h5 h6)).trans (h7 j hj)⟩
theorem NameRow.below{F:Nat→Prop}{w w':World}{v:Value}{l:List ByteArray}(h:NameRow F w v l)(hb:Below w.heap.size w w'):NameRow F w' v l:=
 h.keep (S:=fun _=>False) ((Keep.refl _ w).below hb) (fun _ _ _ h=>h)
def plainD(d:D):Bool:=decide (check d=0)&&(pre d).all fun x=>x.m.isEmpty
end Cd
end Go.Proofs.YtfjmlfbohenmfaaGreat
namespace Go.Proofs.YtfjmlfbohenmfaaGreat
namespace Co
open Dt (D)
theorem pos_none:∀ {l:List Int} {n:Int},n∉l→pos l n=0
 |[],_,_=>rfl
 |x :: r,n,h=>by
  have h1:n∉r:=fun hm=>h (List.mem_cons_of_mem _ hm)
  have h2:x≠n:=fun e=>h (by rw[e];exact List.mem_cons_self)
  rw[pos,pos_none h1,if_neg (by simp),if_neg h2]
theorem pos_at:∀ {l:List Int} {n:Int},l.Nodup→n∈l→∃i,∃h:i<l.length,l[i]=n∧pos l n=i+1
 |[],_,_,h=>by cases h
 |x :: r,n,hd,h=>by
  rw[List.nodup_cons]at hd;by_cases hx:x=n
  ·subst hx;refine⟨0,by simp,rfl,?_⟩;rw[pos,pos_none hd.1,if_neg (by simp),if_pos rfl]
  ·obtain⟨i,hi,h1,h2⟩:=pos_at hd.2 ((List.mem_cons.1 h).resolve_left (fun e=>hx e.symm));refine⟨i+1,by simpa using hi,by simpa using h1,?_⟩;rw[pos,h2,if_pos (by omega)]
theorem find_l:∀ {xs ys:List Int} {i:Nat} (hx:i<xs.length) (hy:i<ys.length),xs.Nodup→(xs.zip ys).find? (fun u=>decide (u.1=xs[i]))=some (xs[i],ys[i])
 |x :: xs,y :: ys,0,_,_,_=>by simp
 |x :: xs,y :: ys,i+1,hx,hy,hd=>by
  rw[List.nodup_cons]at hd;have hi:i<xs.length:=by simpa using hx
  have hne:x≠xs[i]:=fun e=>hd.1 (by rw[e];exact List.getElem_mem _)
  have:=find_l (xs:=xs) (ys:=ys) (i:=i) hi (by simpa using hy) hd.2;simp only[List.getElem_cons_succ,List.zip_cons_cons,List.find?_cons];rw[decide_eq_false hne];exact this
theorem find_r:∀ {xs ys:List Int} {i:Nat} (hx:i<xs.length) (hy:i<ys.length),ys.Nodup→(xs.zip ys).find? (fun u=>decide (u.2=ys[i]))=some (xs[i],ys[i])
 |x :: xs,y :: ys,0,_,_,_=>by simp
 |x :: xs,y :: ys,i+1,hx,hy,hd=>by
  rw[List.nodup_cons]at hd;have hi:i<ys.length:=by simpa using hy
  have hne:y≠ys[i]:=fun e=>hd.1 (by rw[e];exact List.getElem_mem _)
  have:=find_r (xs:=xs) (ys:=ys) (i:=i) (by simpa using hx) hi hd.2;simp only[List.getElem_cons_succ,List.zip_cons_cons,List.find?_cons];rw[decide_eq_false hne];exact this
theorem find_lno{xs ys:List Int}{x:Int}(h:x∉xs):(xs.zip ys).find? (fun u=>decide (u.1=x))=none:=by
 rw[List.find?_eq_none];intro u hu;have:=(List.of_mem_zip hu).1;simp;intro e;exact h (e▸this)
theorem find_rno{xs ys:List Int}{y:Int}(h:y∉ys):(xs.zip ys).find? (fun u=>decide (u.2=y))=none:=by
 rw[List.find?_eq_none];intro u hu;have:=(List.of_mem_zip hu).2;simp;intro e;exact h (e▸this)
theorem step_in{xs ys:List Int}{x y:Int}(hl:xs.length=ys.length)(hx:xs.Nodup)(hy:ys.Nodup)(h1:x∈xs)(h2:y∈ys):
  step (xs.zip ys) x y=(decide (pos xs x=pos ys y),xs.zip ys):=by
 obtain⟨i,hi,rfl,e1⟩:=pos_at hx h1;obtain⟨j,hj,rfl,e2⟩:=pos_at hy h2;unfold step;rw[find_l hi (by omega) hx,find_r (by omega) hj hy,e1,e2];simp only[Prod.mk.injEq,and_true];by_cases e:i=j
 ·subst e;simp
 ·have h3:ys[i]'(by omega)≠ys[j]:=fun h=>e ((List.getElem_inj hy).1 h)
  rw[decide_eq_false h3,Bool.false_and,decide_eq_false (by omega)]
theorem steps_new:∀ {p q xs ys:List Int},xs.length=ys.length→p.length=q.length→(xs++p).Nodup→(ys++q).Nodup→steps (xs.zip ys) p q=(true,(xs++p).zip (ys++q))
 |[],[],xs,ys,_,_,_,_=>by rw[steps,List.append_nil,List.append_nil]
 |[],_ :: _,_,_,_,h,_,_=>by simp at h
 |_ :: _,[],_,_,_,h,_,_=>by simp at h
 |x :: p,y :: q,xs,ys,hl,h,hx,hy=>by
  have e:step (xs.zip ys) x y=(true,(xs++[x]).zip (ys++[y])):=by
   have h1:x∉xs:=fun hm=>by
    have:=List.nodup_append.1 hx;exact this.2.2 x hm x List.mem_cons_self rfl
   have h2:y∉ys:=fun hm=>by
    have:=List.nodup_append.1 hy;exact this.2.2 y hm y List.mem_cons_self rfl
   unfold step;rw[find_lno h1,find_rno h2,List.zip_append hl]
   rfl
  rw[steps,e];simp only[if_true];have:=steps_new (p:=p) (q:=q) (xs:=xs++[x]) (ys:=ys++[y]) (by simp[hl]) (by simpa using h) (by simpa using hx) (by simpa using hy);rw[this];simp
theorem once_nodup:∀ {p:List Int},once p=true→p.Nodup
 |[],_=>List.nodup_nil
 |x :: r,h=>by
  rw[once,Bool.and_eq_true]at h;rw[List.nodup_cons];exact⟨by simpa using h.1,once_nodup h.2⟩
theorem alone_p{c:C}(h:alone c=true):c.p=[]∨(c.k=8∧c.p.Nodup):=by
 cases c with
 |mk k n s d p l=>
  show p=[]∨(k=8∧p.Nodup);unfold alone at h;dsimp only at h;split at h
  ·simp only[Bool.and_eq_true,List.isEmpty_iff]at h;exact .inl h.1.1.2
  split at h
  ·cases h
  split at h
  ·rename_i hk;simp only[Bool.and_eq_true,params]at h;exact .inr ⟨hk,once_nodup h.2.2⟩
  split at h
  ·cases h
  ·rename_i hp;left;simpa using hp
theorem here_ok{opn:Bool}{c:C}{deep:Nat}{win:List Int}{top:Bool}{cnt:Nat}{bd:List Int}(h:here opn c deep win top cnt bd=0):
  alone c=true∧((c.k=2∨c.k=4)→opn=false→c.n∈win)∧(∀x∈c.p,x∉bd):=by
 unfold here at h;split at h
 ·cases h
 split at h
 ·cases h
 split at h
 ·cases h
 rename_i h1;split at h
 ·cases h
 rename_i h2;split at h
 ·cases h
 rename_i h3;refine⟨?_,fun hk ho=> ?_,fun x hx hb=> ?_⟩
 ·cases ha:alone c with
  |true=>rfl
  |false=>exact absurd (.inl ha) h1
 ·cases hc:win.contains c.n with
  |true=>simpa using hc
  |false=>exact absurd ⟨hk,ho,hc⟩ h2
 ·exact h3 (List.any_eq_true.2 ⟨x,hx,by simpa using hb⟩)
theorem goes_ok{opn:Bool}{k n:Int}{s:ByteArray}{d:D}{p:List Int}{l:List C}{deep:Nat}{win:List Int}{top:Bool}{cnt:Nat}{bd:List Int}{r:Nat×List Int}
  (h:goes opn (.mk k n s d p l) deep win top cnt bd=(0,r)):here opn (.mk k n s d p l) deep win top cnt bd=0∧goesL opn l (deep+1) (inner k p win) (top&&decide (k=9)) (cnt+1) (bd++p)=(0,r):=by
 rw[goes]at h;split at h
 ·rename_i h1;exact absurd (Prod.mk.inj h).1 h1
 ·rename_i h1;exact⟨Classical.byContradiction h1,h⟩
theorem goesL_ok{opn:Bool}{c:C}{l:List C}{deep:Nat}{win:List Int}{top:Bool}{cnt:Nat}{bd:List Int}{r:Nat×List Int}
  (h:goesL opn (c :: l) deep win top cnt bd=(0,r)):∃q:Nat×List Int,goes opn c deep win top cnt bd=(0,q)∧goesL opn l deep win top q.1 q.2=(0,r):=by
 rw[goesL]at h;split at h
 ·rename_i h1;exact absurd (by rw[h]) h1
 ·rename_i h1;exact⟨(goes opn c deep win top cnt bd).2,Prod.ext (Classical.byContradiction h1) rfl,h⟩
theorem nodup_new{c:C}(h:alone c=true){bd:List Int}(hb:bd.Nodup)(hn:∀x∈c.p,x∉bd):(bd++c.p).Nodup:=by
 have hp:c.p.Nodup:=by
  rcases alone_p h with e|e
  ·rw[e];exact List.nodup_nil
  ·exact e.2
 exact List.nodup_append.2 ⟨hb,hp,fun x hx y hy e=>hn y hy (e▸hx)⟩
mutual
theorem goes_names{opn:Bool}:∀(c:C) {deep:Nat} {win:List Int} {top:Bool} {cnt:Nat} {bd:List Int} {r:Nat×List Int},bd.Nodup→goes opn c deep win top cnt bd=(0,r)→r.2=(called c bd).2∧r.2.Nodup∧∀x∈bd,x∈r.2
 | .mk k n s d p l,deep,win,top,cnt,bd,r,hb,h=>by
  obtain⟨h1,h2⟩:=goes_ok h;obtain⟨h3,h4,h5⟩:=here_ok h1;obtain⟨h6,h7,h8⟩:=goesL_names l (nodup_new h3 hb h5) h2;rw[called];exact⟨h6,h7,fun x hx=>h8 x (List.mem_append_left _ hx)⟩
theorem goesL_names{opn:Bool}:∀(l:List C) {deep:Nat} {win:List Int} {top:Bool} {cnt:Nat} {bd:List Int} {r:Nat×List Int},bd.Nodup→goesL opn l deep win top cnt bd=(0,r)→r.2=(calledL l bd).2∧r.2.Nodup∧∀x∈bd,x∈r.2
 |[],_,_,_,_,bd,r,hb,h=>by
  rw[goesL]at h;cases h;rw[calledL];exact⟨rfl,hb,fun x hx=>hx⟩
 |c :: l,deep,win,top,cnt,bd,r,hb,h=>by
  obtain⟨q,h1,h2⟩:=goesL_ok h;obtain⟨h3,h4,h5⟩:=goes_names c hb h1;obtain⟨h6,h7,h8⟩:=goesL_names l h4 h2;rw[calledL];simp only;rw[←h3];exact⟨h6,h7,fun x hx=>h8 x (h5 x hx)⟩
end
theorem calledL_len:∀(l:List C) (xs:List Int),(calledL l xs).1.length=l.length
 |[],_=>by rw[calledL]
 |c :: r,xs=>by rw[calledL,List.length_cons,List.length_cons,calledL_len r]
theorem called_parts(c:C)(xs:List Int):(called c xs).1.k=c.k∧(called c xs).1.s=c.s∧(called c xs).1.d=c.d∧(called c xs).1.p.length=c.p.length∧(called c xs).1.l.length=c.l.length:=by
 cases c with
 |mk k n s d p l=>
  rw[called];exact⟨rfl,rfl,rfl,by show((List.range p.length).map _).length=p.length;simp,calledL_len l _⟩
theorem like_called(a b:C)(xs ys:List Int):like (called a xs).1 (called b ys).1=like a b:=by
 obtain⟨a1,a2,a3,a4,a5⟩:=called_parts a xs;obtain⟨b1,b2,b3,b4,b5⟩:=called_parts b ys;unfold like;rw[a1,a2,a3,a4,a5,b1,b2,b3,b4,b5]
theorem inner_sub{k:Int}{p win bd:List Int}(h:∀x∈win,x∈bd):∀x∈inner k p win,x∈bd++p:=fun x hx=>by
 unfold inner at hx;split at hx
 ·rcases List.mem_append.1 hx with hx|hx
  ·exact List.mem_append_left _ (h x hx)
  ·exact List.mem_append_right _ hx
 ·exact List.mem_append_left _ (h x hx)
def Eq2(r:Bool×Int×List (Int×Int))(q:Bool×Int)(xs ys:List Int):Prop:=r.1=q.1∧(r.1=true→r.2.1=q.2∧r.2.2=xs.zip ys∧xs.length=ys.length)
mutual
theorem beside_eq:∀(a b:C) (deep:Nat) (left:Int) {dA dB:Nat} {wA wB:List Int} {tA tB:Bool} {cA cB:Nat} {xs ys:List Int} {rA rB:Nat×List Int},
  goes false a dA wA tA cA xs=(0,rA)→goes false b dB wB tB cB ys=(0,rB)→xs.length=ys.length→xs.Nodup→ys.Nodup→(∀x∈wA,x∈xs)→(∀y∈wB,y∈ys)→
  Eq2 (beside a b deep left (xs.zip ys)) (pairs (called a xs).1 (called b ys).1 deep left) rA.2 rB.2
 | .mk k n s d p l,.mk k' n' s' d' p' l',deep,left,dA,dB,wA,wB,tA,tB,cA,cB,xs,ys,rA,rB,hA,hB,hl,hx,hy,sA,sB=>by
  obtain⟨a1,a2⟩:=goes_ok hA;obtain⟨b1,b2⟩:=goes_ok hB;obtain⟨a3,a4,a5⟩:=here_ok a1;obtain⟨b3,b4,b5⟩:=here_ok b1;have a6:=nodup_new a3 hx a5;have b6:=nodup_new b3 hy b5;have hlk:=like_called (.mk k n s d p l) (.mk k' n' s' d' p' l') xs ys;rw[beside];by_cases h1:left - 1<0∨128<deep
  ·rw[if_pos h1,called,called,pairs,if_pos h1];exact⟨rfl,fun h=>by cases h⟩
  rw[if_neg h1];by_cases h2:like (.mk k n s d p l) (.mk k' n' s' d' p' l')=false
  ·rw[if_pos h2];rw[h2,called,called]at hlk;rw[called,called,pairs,if_neg h1,hlk];exact⟨rfl,fun h=>by cases h⟩
  rw[if_neg h2];have h2':like (.mk k n s d p l) (.mk k' n' s' d' p' l')=true:=by simpa using h2
  rw[h2',called,called]at hlk;unfold like at h2';simp only[Bool.and_eq_true,decide_eq_true_eq]at h2';obtain⟨⟨⟨⟨e1,e2⟩,e3⟩,e4⟩,e5⟩:=h2';have e1':k=k':=e1;have e3':p.length=p'.length:=e3;have e4':l.length=l'.length:=e4;subst e1';have hst:=steps_new hl e3' a6 b6;have hpp:((List.range p.length).map fun i=>((xs.length+i+1:Nat):Int))=(List.range p'.length).map fun i=>((ys.length+i+1:Nat):Int):=by rw[hl,e3']
  rw[show(C.mk k n' s' d' p' l').p=p' from rfl,show(C.mk k n' s' d' p' l').n=n' from rfl,show(C.mk k n' s' d' p' l').l=l' from rfl,hst];simp only[Bool.true_eq_false,if_false];have ih:=fun left'=>besideL_eq l l' (deep+1) left' a2 b2 (by rw[List.length_append,List.length_append,hl,e3']) a6 b6 (inner_sub sA) (inner_sub sB) e4'
  by_cases hk:k=2∨k=4
  ·have hp:p=[]:=by
    rcases alone_p a3 with e|e
    ·exact e
    ·have:k=8:=e.1;omega
   have hp':p'=[]:=by
    rw[hp]at e3';exact List.eq_nil_of_length_eq_zero e3'.symm
   subst hp hp';have hn:n∈xs:=sA n (a4 hk rfl);have hn':n'∈ys:=sB n' (b4 hk rfl);simp only[List.append_nil]at ih ⊢;have hs:=step_in hl hx hy hn hn';obtain⟨i,-,-,p1⟩:=pos_at hx hn;obtain⟨j,-,-,p2⟩:=pos_at hy hn';rw[hs];simp only[hk,true_and,not_true,false_and,if_false,if_true];rw[called,called,pairs,if_neg h1,hlk];simp only[List.append_nil,hk,true_and];by_cases hpos:pos xs n=pos ys n'
   ·rw[decide_eq_true hpos];simp only[Bool.true_eq_false,if_false];rw[if_neg (by
     rw[if_pos (by omega),if_pos (by omega)];simp[C.n,C.p,hpos])]
    exact ih (left - 1)
   ·rw[decide_eq_false hpos,if_pos rfl];rw[if_pos (by
     rw[if_pos (by omega),if_pos (by omega)];have hz:¬ ((pos xs n:Int)=(pos ys n':Int)):=fun e=>hpos (by exact_mod_cast e)
     simp[C.n,C.p,hz])]
    exact⟨rfl,fun h=>by cases h⟩
  ·simp only[hk,false_and,if_false,not_false_eq_true,true_and];rw[called,called,pairs,if_neg h1,hlk];simp only[hk,false_and,if_false];by_cases hn:n=n'
   ·subst hn;rw[if_neg (by simp),if_neg (by simp[C.n,C.p,hl,e3'])];exact ih (left - 1)
   ·rw[if_pos hn,if_pos (by simp[C.n,C.p,hn])];exact⟨rfl,fun h=>by cases h⟩
theorem besideL_eq:∀(l r:List C) (deep:Nat) (left:Int) {dA dB:Nat} {wA wB:List Int} {tA tB:Bool} {cA cB:Nat} {xs ys:List Int} {rA rB:Nat×List Int},
  goesL false l dA wA tA cA xs=(0,rA)→goesL false r dB wB tB cB ys=(0,rB)→xs.length=ys.length→xs.Nodup→ys.Nodup→(∀x∈wA,x∈xs)→(∀y∈wB,y∈ys)→l.length=r.length→
  Eq2 (besideL l r deep left (xs.zip ys)) (pairsL (calledL l xs).1 (calledL r ys).1 deep left) rA.2 rB.2
 |[],[],deep,left,_,_,_,_,_,_,_,_,xs,ys,rA,rB,hA,hB,hl,_,_,_,_,_=>by
  rw[goesL]at hA hB;cases hA;cases hB;rw[besideL,calledL,pairsL];exact⟨rfl,fun _=>⟨rfl,rfl,hl⟩⟩
 |[],_ :: _,_,_,_,_,_,_,_,_,_,_,_,_,_,_,_,_,_,_,_,_,_,h=>by simp at h
 |_ :: _,[],_,_,_,_,_,_,_,_,_,_,_,_,_,_,_,_,_,_,_,_,_,h=>by simp at h
 |a :: l,b :: r,deep,left,dA,dB,wA,wB,tA,tB,cA,cB,xs,ys,rA,rB,hA,hB,hl,hx,hy,sA,sB,hlen=>by
  obtain⟨qA,a1,a2⟩:=goesL_ok hA;obtain⟨qB,b1,b2⟩:=goesL_ok hB;obtain⟨h1,h2⟩:=beside_eq a b deep left a1 b1 hl hx hy sA sB;obtain⟨a3,a4,a5⟩:=goes_names a hx a1;obtain⟨b3,b4,b5⟩:=goes_names b hy b1;rw[besideL,calledL,calledL,pairsL];rw[←a3,←b3];by_cases hf:(beside a b deep left (xs.zip ys)).1=false
  ·rw[if_pos hf,if_pos (by rw[←h1];exact hf)];exact⟨h1,fun h=>by rw[hf]at h;cases h⟩
  ·have ht:(beside a b deep left (xs.zip ys)).1=true:=by simpa using hf
   obtain⟨h3,h4,h5⟩:=h2 ht;rw[if_neg hf,if_neg (by rw[←h1];exact hf),h3,h4];exact besideL_eq l r deep _ a2 b2 h5 a4 b4 (fun x hx=>a5 x (sA x hx)) (fun y hy=>b5 y (sB y hy)) (by simpa using hlen)
end
theorem alike_eq(a b:C):alike a b=alikeR a b:=by
 unfold alike alikeR;by_cases ha:check a []=0
 ·by_cases hb:check b []=0
  ·rw[decide_eq_true ha,decide_eq_true hb];unfold same;have:=beside_eq a b 1 8192 (xs:=[]) (ys:=[]) (rA:=(goes false a 1 [] true 0 []).2) (rB:=(goes false b 1 [] true 0 []).2) (Prod.ext ha rfl) (Prod.ext hb rfl) rfl List.nodup_nil List.nodup_nil (fun x hx=>by cases hx) (fun x hx=>by cases hx);rw[←this.1]
   rfl
  ·rw[decide_eq_false hb];simp
 ·rw[decide_eq_false ha];simp
end Co
namespace Co
open Dt (D)
theorem none_eq{d:D}(h:none_ d=true):d= .mk 0 0 ⟨#[]⟩ [] [] []:=by
 cases d with
 |mk k n s m l t=>
  have h':(decide (k=0)&&decide (n=0)&&s.data.toList.isEmpty&&m.isEmpty&&l.isEmpty&&t.isEmpty)=true:=h;simp only[Bool.and_eq_true,decide_eq_true_eq,List.isEmpty_iff]at h';obtain⟨⟨⟨⟨⟨rfl,rfl⟩,h3⟩,rfl⟩,rfl⟩,rfl⟩:=h';have:s=⟨#[]⟩:=by
   apply ByteArray.ext
   apply Array.toList_inj.1
   rw[h3]
  rw[this]
theorem sd_eq{a b:D}(h:sd a b=true):a=b:=by
 unfold sd at h;rw[Bool.or_eq_true,Bool.and_eq_true]at h;rcases h with⟨h1,h2⟩|h
 ·rw[none_eq h1,none_eq h2]
 ·unfold Dt.sameD at h;simp only[Bool.and_eq_true]at h;exact(Dt.eqD_iff a b).1 h.2
mutual
theorem pairs_eq:∀(a b:C) (deep:Nat) (left:Int),(pairs a b deep left).1=true→a=b
 | .mk k n s d p l,.mk k' n' s' d' p' l',deep,left,h=>by
  rw[pairs]at h;split at h
  ·cases h
  split at h
  ·cases h
  rename_i h2;have h3:(like (.mk k n s d p l) (.mk k' n' s' d' p' l')&&decide (n=n')&&decide (p=p'))=true:=Bool.not_eq_false _▸h2;simp only[Bool.and_eq_true,decide_eq_true_eq,like]at h3;obtain⟨⟨⟨⟨⟨⟨e1,e2⟩,e3⟩,e4⟩,e5⟩,e6⟩,e7⟩:=h3;have e8:=pairsL_eq l l' (deep+1) (left - 1) h e4;have e9:d=d':=sd_eq e5;have e1':k=k':=e1;have e2':s=s':=e2;rw[e1',e2',e6,e7,e8,e9]
theorem pairsL_eq:∀(a b:List C) (deep:Nat) (left:Int),(pairsL a b deep left).1=true→a.length=b.length→a=b
 |[],[],_,_,_,_=>rfl
 |[],_ :: _,_,_,_,h=>by simp at h
 |_ :: _,[],_,_,_,h=>by simp at h
 |a :: r,b :: q,deep,left,h,hl=>by
  rw[pairsL]at h;split at h
  ·rename_i h1;rw[h1]at h;cases h
  ·rename_i h1;have h2:(pairs a b deep left).1=true:=by simpa using h1
   rw[pairs_eq a b deep left h2,pairsL_eq r q deep _ h (by simpa using hl)]
end
theorem like_self{c:C}(h:alone c=true):like c c=true:=by
 have hd:sd c.d c.d=true:=by
  cases c with
  |mk k n s d p l=>
   show sd d d=true;unfold alone at h;dsimp only at h;unfold sd;split at h
   ·simp only[Bool.and_eq_true,const]at h;have hc:Dt.check d=0:=by simpa using h.2.1
    have:Dt.sameD d d=true:=by
     unfold Dt.sameD;rw[hc,(Dt.eqD_iff d d).2 rfl]
     rfl
    rw[this,Bool.or_true]
   split at h
   ·cases h
   ·rename_i hn;have:none_ d=true:=by simpa using hn
    rw[this]
    rfl
 unfold like;rw[hd];simp
theorem here_room{opn:Bool}{c:C}{deep:Nat}{win:List Int}{top:Bool}{cnt:Nat}{bd:List Int}(h:here opn c deep win top cnt bd=0):deep≤128∧cnt<8192:=by
 unfold here at h;split at h
 ·cases h
 rename_i h1;split at h
 ·cases h
 rename_i h2;omega
mutual
theorem goes_self{opn:Bool}:∀(c:C) {deep:Nat} {win:List Int} {top:Bool} {cnt:Nat} {bd:List Int} {r:Nat×List Int} (left:Int) (xs:List Int),goes opn c deep win top cnt bd=(0,r)→8192 - (cnt:Int)≤left→
  pairs c c deep left=(true,left - ((r.1:Int) - cnt))∧pairs (called c xs).1 (called c xs).1 deep left=(true,left - ((r.1:Int) - cnt))∧cnt<r.1
 | .mk k n s d p l,deep,win,top,cnt,bd,r,left,xs,h,hl=>by
  obtain⟨h1,h2⟩:=goes_ok h;obtain⟨h3,h4⟩:=here_room h1;have h5:=like_self (here_ok h1).1;have h6:=like_called (.mk k n s d p l) (.mk k n s d p l) xs xs;obtain⟨i1,i2,i3⟩:=goesL_self l (left - 1) (xs++p) h2 (by omega);have e:left - 1 - ((r.1:Int) - ((cnt+1:Nat):Int))=left - ((r.1:Int) - cnt):=by omega
  rw[e]at i1 i2;refine⟨?_,?_,by omega⟩
  ·rw[pairs,if_neg (by omega),h5,if_neg (by simp[C.n,C.p])];exact i1
  ·rw[h5,called]at h6;rw[called,pairs,if_neg (by omega),h6,if_neg (by simp[C.n,C.p])];exact i2
theorem goesL_self{opn:Bool}:∀(l:List C) {deep:Nat} {win:List Int} {top:Bool} {cnt:Nat} {bd:List Int} {r:Nat×List Int} (left:Int) (xs:List Int),goesL opn l deep win top cnt bd=(0,r)→8192 - (cnt:Int)≤left→
  pairsL l l deep left=(true,left - ((r.1:Int) - cnt))∧pairsL (calledL l xs).1 (calledL l xs).1 deep left=(true,left - ((r.1:Int) - cnt))∧cnt≤r.1
 |[],_,_,_,cnt,_,r,left,xs,h,_=>by
  rw[goesL]at h;cases h;rw[pairsL,calledL,pairsL];simp
 |c :: l,deep,win,top,cnt,bd,r,left,xs,h,hl=>by
  obtain⟨q,h1,h2⟩:=goesL_ok h;obtain⟨i1,i2,i3⟩:=goes_self c left xs h1 hl;obtain⟨j1,j2,j3⟩:=goesL_self l (left - ((q.1:Int) - cnt)) (called c xs).2 h2 (by omega);have e:left - ((q.1:Int) - cnt) - ((r.1:Int) - q.1)=left - ((r.1:Int) - cnt):=by omega
  rw[e]at j1 j2;refine⟨?_,?_,by omega⟩
  ·rw[pairsL,i1,if_neg (by simp)];exact j1
  ·rw[calledL,pairsL,i2,if_neg (by simp)];exact j2
end
def May(c:C):Prop:=∃opn deep win top bd r,deep≤1∧goes opn c deep win top 0 bd=(0,r)∧1≤deep
theorem may_of_check{c:C}{win:List Int}(h:check c win=0):May c:=⟨false,1,win,true,win,(goes false c 1 win true 0 win).2,by omega,Prod.ext h rfl,by omega⟩
theorem same_iff{a b:C}(h:May a):same a b=true↔a=b:=by
 refine⟨fun h=>pairs_eq a b 1 8192 h,?_⟩;rintro rfl;obtain⟨opn,deep,win,top,bd,r,h1,h2,h3⟩:=h;obtain rfl:deep=1:=by omega
 have:=(goes_self a 8192 [] h2 (by simp)).1;unfold same;rw[this]
theorem same_called{a b:C}{xs ys:List Int}(h:May a):same (called a xs).1 (called b ys).1=true↔(called a xs).1=(called b ys).1:=by
 refine⟨fun h=>pairs_eq _ _ 1 8192 h,fun e=> ?_⟩;rw[←e];obtain⟨opn,deep,win,top,bd,r,h1,h2,h3⟩:=h;obtain rfl:deep=1:=by omega
 have:=(goes_self a 8192 xs h2 (by simp)).2.1;unfold same;rw[this]
theorem alike_iff(a b:C):alike a b=true↔check a []=0∧check b []=0∧(called a []).1=(called b []).1:=by
 rw[alike_eq];unfold alikeR;simp only[Bool.and_eq_true,decide_eq_true_eq];constructor
 ·rintro⟨⟨h1,h2⟩,h3⟩;exact⟨h1,h2,(same_called (may_of_check h1)).1 h3⟩
 ·rintro⟨h1,h2,h3⟩;exact⟨⟨h1,h2⟩,(same_called (may_of_check h1)).2 h3⟩
end Co
namespace Co
open Dt (D)
theorem here_open{c:C}{deep:Nat}{win win':List Int}{top:Bool}{cnt:Nat}{bd:List Int}(h:here false c deep win top cnt bd=0):here true c deep win' top cnt bd=0:=by
 unfold here at h ⊢;split at h
 ·cases h
 rename_i h1;rw[if_neg h1];split at h
 ·cases h
 rename_i h2;rw[if_neg h2];split at h
 ·cases h
 rename_i h3;rw[if_neg h3];split at h
 ·cases h
 rw[if_neg (by simp)];exact h
mutual
theorem goes_open:∀(c:C) {deep:Nat} {win win':List Int} {top:Bool} {cnt:Nat} {bd:List Int} {r:Nat×List Int},goes false c deep win top cnt bd=(0,r)→goes true c deep win' top cnt bd=(0,r)
 | .mk k n s d p l,deep,win,win',top,cnt,bd,r,h=>by
  obtain⟨h1,h2⟩:=goes_ok h;rw[goes,if_neg (by rw[here_open h1];simp)];exact goesL_open l h2
theorem goesL_open:∀(l:List C) {deep:Nat} {win win':List Int} {top:Bool} {cnt:Nat} {bd:List Int} {r:Nat×List Int},goesL false l deep win top cnt bd=(0,r)→goesL true l deep win' top cnt bd=(0,r)
 |[],_,_,_,_,_,_,_,h=>by rw[goesL]at h ⊢;exact h
 |c :: l,deep,win,win',top,cnt,bd,r,h=>by
  obtain⟨q,h1,h2⟩:=goesL_ok h;have h3:=goes_open (win':=win') c h1;rw[goesL,h3,if_neg (by simp)];exact goesL_open l h2
end
mutual
theorem free_none:∀(c:C) {deep:Nat} {win:List Int} {top:Bool} {cnt:Nat} {bd:List Int} {r:Nat×List Int} (out:List Int),goes false c deep win top cnt bd=(0,r)→free c win out=out
 | .mk k n s d p l,deep,win,top,cnt,bd,r,out,h=>by
  obtain⟨h1,h2⟩:=goes_ok h;obtain⟨h3,h4,h5⟩:=here_ok h1;rw[free];have e:(if(k=2∨k=4)∧win.contains n=false then put out n else out)=out:=by
   split
   ·rename_i h6;have h7:n∈win:=h4 h6.1 rfl;have h8:win.contains n=true:=by simpa using h7
    rw[h8]at h6;exact absurd h6.2 (by decide)
   ·rfl
  rw[e];exact freeL_none l out h2
theorem freeL_none:∀(l:List C) {deep:Nat} {win:List Int} {top:Bool} {cnt:Nat} {bd:List Int} {r:Nat×List Int} (out:List Int),goesL false l deep win top cnt bd=(0,r)→freeL l win out=out
 |[],_,_,_,_,_,_,_,_=>by rw[freeL]
 |c :: l,deep,win,top,cnt,bd,r,out,h=>by
  obtain⟨q,h1,h2⟩:=goesL_ok h;rw[freeL,free_none c out h1];exact freeL_none l out h2
end
theorem check_closed{c:C}(h:check c []=0):openE c=0∧free c [] []=[]∧ok c=true:=by
 have h1:goes false c 1 [] true 0 []=(0,(goes false c 1 [] true 0 []).2):=Prod.ext h rfl;have h2:openE c=0:=by unfold openE;rw[goes_open (win':=[]) c h1]
 have h3:=free_none c [] h1;refine⟨h2,h3,?_⟩;unfold ok;rw[h2,h3,h]
 rfl
end Co
namespace Co
theorem alike_symm(a b:C):alike a b=alike b a:=by
 rw[Bool.eq_iff_iff,alike_iff,alike_iff];exact⟨fun⟨h1,h2,h3⟩=>⟨h2,h1,h3.symm⟩,fun⟨h1,h2,h3⟩=>⟨h2,h1,h3.symm⟩⟩
theorem alike_self(a:C):alike a a=decide (check a []=0):=by
 rw[Bool.eq_iff_iff,alike_iff,decide_eq_true_eq];exact⟨fun h=>h.1,fun h=>⟨h,h,rfl⟩⟩
theorem alike_trans{a b c:C}(h1:alike a b=true)(h2:alike b c=true):alike a c=true:=by
 rw[alike_iff]at h1 h2 ⊢;exact⟨h1.1,h2.2.1,h1.2.2.trans h2.2.2⟩
theorem same_alike{a b:C}(h1:same a b=true)(h2:check a []=0):alike a b=true:=by
 have e:=(same_iff (may_of_check h2)).1 h1;rw[←e,alike_iff];exact⟨h2,h2,rfl⟩
mutual
theorem parts_called:∀(c:C) (xs:List Int),(parts (called c xs).1).map (fun x=>(x.k,x.s,x.d))=(parts c).map (fun x=>(x.k,x.s,x.d))
 | .mk k n s d p l,xs=>by
  rw[called,parts,parts,List.map_cons,List.map_cons,partsL_called l (xs++p)]
  rfl
theorem partsL_called:∀(l:List C) (xs:List Int),(partsL (calledL l xs).1).map (fun x=>(x.k,x.s,x.d))=(partsL l).map (fun x=>(x.k,x.s,x.d))
 |[],xs=>by rw[calledL]
 |c :: r,xs=>by rw[calledL,partsL,partsL,List.map_append,List.map_append,parts_called c xs,partsL_called r _]
end
theorem alike_parts{a b:C}(h:alike a b=true):(parts a).map (fun x=>(x.k,x.s,x.d))=(parts b).map (fun x=>(x.k,x.s,x.d)):=by
 rw[alike_iff]at h;rw[←parts_called a [],←parts_called b [],h.2.2]
end Co
namespace Co
def puts(l:List Int):List Int:=l.foldl put []
theorem put_mem:∀(l:List Int) (n x:Int),x∈put l n↔x∈l∨x=n
 |[],n,x=>by rw[put];simp
 |y :: r,n,x=>by
  rw[put];split
  ·simp only[List.mem_cons];constructor
   ·rintro(h|h|h)
    ·exact .inr h
    ·exact .inl (.inl h)
    ·exact .inl (.inr h)
   ·rintro((h|h)|h)
    ·exact .inr (.inl h)
    ·exact .inr (.inr h)
    ·exact .inl h
  split
  ·rename_i h1 h2;subst h2;simp only[List.mem_cons];constructor
   ·rintro(h|h)
    ·exact .inl (.inl h)
    ·exact .inl (.inr h)
   ·rintro((h|h)|h)
    ·exact .inl h
    ·exact .inr h
    ·exact .inl h
  ·simp only[List.mem_cons,put_mem r n x];constructor
   ·rintro(h|h|h)
    ·exact .inl (.inl h)
    ·exact .inl (.inr h)
    ·exact .inr h
   ·rintro((h|h)|h)
    ·exact .inl h
    ·exact .inr (.inl h)
    ·exact .inr (.inr h)
theorem put_sorted:∀ {l:List Int} (n:Int),l.Pairwise (· < ·)→(put l n).Pairwise (· < ·)
 |[],n,_=>by rw[put];simp
 |y :: r,n,h=>by
  rw[List.pairwise_cons]at h;rw[put];split
  ·rename_i h1;rw[List.pairwise_cons];refine⟨fun x hx=> ?_,List.pairwise_cons.2 h⟩;rcases List.mem_cons.1 hx with rfl|hx
   ·exact h1
   ·have:=h.1 x hx;omega
  split
  ·exact List.pairwise_cons.2 h
  ·rename_i h1 h2;rw[List.pairwise_cons];refine⟨fun x hx=> ?_,put_sorted n h.2⟩;rcases(put_mem r n x).1 hx with hx|rfl
   ·exact h.1 x hx
   ·omega
theorem foldl_put:∀(l acc:List Int),acc.Pairwise (· < ·)→(l.foldl put acc).Pairwise (· < ·)∧∀x,x∈l.foldl put acc↔x∈acc∨x∈l
 |[],acc,h=>⟨h,fun x=>by simp⟩
 |n :: r,acc,h=>by
  obtain⟨h1,h2⟩:=foldl_put r (put acc n) (put_sorted n h);refine⟨h1,fun x=> ?_⟩;rw[List.foldl_cons,h2,put_mem,List.mem_cons];constructor
  ·rintro((h|h)|h)
   ·exact .inl h
   ·exact .inr (.inl h)
   ·exact .inr (.inr h)
  ·rintro(h|h|h)
   ·exact .inl (.inl h)
   ·exact .inl (.inr h)
   ·exact .inr h
theorem puts_mem(l:List Int)(x:Int):x∈puts l↔x∈l:=by
 unfold puts;rw[(foldl_put l [] List.Pairwise.nil).2];simp
theorem puts_sorted(l:List Int):(puts l).Pairwise (· < ·):=(foldl_put l [] List.Pairwise.nil).1
mutual
def frees:C→List Int→List Int
 | .mk k n _ _ p l,win=>(if(k=2∨k=4)∧win.contains n=false then [n]else [])++freesL l (inner k p win)
def freesL:List C→List Int→List Int
 |[],_=>[]
 |c :: r,win=>frees c win++freesL r win
end
mutual
theorem free_fold:∀(c:C) (win out:List Int),free c win out=(frees c win).foldl put out
 | .mk k n s d p l,win,out=>by
  rw[free,frees,List.foldl_append,freeL_fold l];congr 1;split <;> rfl
theorem freeL_fold:∀(l:List C) (win out:List Int),freeL l win out=(freesL l win).foldl put out
 |[],_,_=>by rw[freeL,freesL];rfl
 |c :: r,win,out=>by rw[freeL,freesL,List.foldl_append,free_fold c,freeL_fold r]
end
theorem free_puts(c:C):free c [] []=puts (frees c []):=free_fold c [] []
end Co
end Go.Proofs.YtfjmlfbohenmfaaGreat
namespace Go.Proofs.YtfjmlfbohenmfaaGreat
open Go.RowKit
attribute [local go_sem] Oper.semAt_some
namespace Co
def marked(d:Dt.D):Bool:= !((if Dt.check d=0 then Dt.pre d else []).all fun x=>x.m.isEmpty)
theorem const_marked(d:Dt.D):const d=(decide (Dt.check d=0)&& !(marked d)):=by
 unfold const marked;by_cases h:Dt.check d=0
 ·rw[decide_eq_true h,if_pos h,Bool.not_not]
 ·rw[decide_eq_false h];rfl
theorem all_take{l:List Dt.D}{j:Nat}(hj:j<l.length)(h:(l.take j).all (fun x=>x.m.isEmpty)=true)(h2:l[j].m.isEmpty=true):(l.take (j+1)).all (fun x=>x.m.isEmpty)=true:=by
 rw[List.take_succ_eq_append_getElem hj,List.all_append,h,List.all_cons,h2]
 rfl
end Co
theorem coMarks_any{F:Nat→Prop}(d:Dt.D)(vm vl vt:Value)(w:World)(hW:Dt.Wf d)(hR:Dt.Rep F w d vm vl vt):
  Calls Tryz.prog 92 #[.agg #[.int .i64 d.k,.int .i64 d.n,.string d.s,vm,vl,vt]] w fun e w'=>e= .returned (.bool (Co.marked d))∧Below w.heap.size w w':=by
 obtain⟨a1,n1,q1,a2,n2,q2,a3,n3,q3,rfl,rfl,rfl⟩:=hR.forms;obtain⟨w1,hw1⟩:∃w1,w.alloc (.cells #[.int .i64 d.k,.int .i64 d.n,.string d.s,.slice a1 n1 q1,.slice a2 n2 q2,.slice a3 n3 q3] 25)=w1:=⟨_,rfl⟩
 obtain⟨hb1,hs1⟩:=new_below hw1;have hall:=rAll_any d _ _ _ w1 hW (hR.below hb1);unfold Dt.AllPost at hall;have H1:=zh (Hp.new hw1);have HB1:=zh hb1;obtain⟨c0,c1,c2,c3,c4,c5⟩:=H1.out.c6;obtain⟨M,hM⟩:∃M,Co.marked d=M:=⟨_,rfl⟩
 unfold Co.marked at hM;obtain⟨L,hL⟩:∃L,(if Dt.check d=0 then Dt.pre d else [])=L:=⟨_,rfl⟩
 rw[hL]at hM hall;have HM:=zh hM;rw[show Co.marked d=M by unfold Co.marked;rw[hL];exact hM];clear hb1 hs1 hM hL hW hR;go_enter Tryz.func92,Tryz.ntmps92;go_wp2_with fail
 refine hall.mono ?_;rintro e w2 ⟨vp,ls,rfl,hown,hrep,hmap,hlen,hb2⟩;obtain⟨ap,cp,rfl⟩:=Dt.row_form hown;have HOWN:=zh hown;have HREP:=zh hrep;have HMAP:=zh hmap;have HB2:Hid (Below w.heap.size w w2):=btr HB1.out hb2;clear c0 c1 c2 c3 c4 c5;clear hall hown hrep hmap hb2 hw1 H1;have HQ0:Hid ((L.take 0).all (fun x=>x.m.isEmpty)=true):=zh (by rw[List.take_zero];rfl);go_wp2
 go_loopw [4] (fun v wr=>∃j:Nat,v= .int .i64 j∧j≤ls.length∧wr=w2∧Hid ((L.take j).all (fun x=>x.m.isEmpty)=true)) (fun v _=>ls.length - (intOf v).toNat)
 case atStart=>exact⟨0,rfl,by omega,rfl,HQ0⟩
 case round=>
  clear HQ0;obtain⟨j,rfl,hj,rfl,HQ⟩:=hrel;by_cases hlt:j<ls.length
  case neg=>
   have hge:(ls.length:Int)≤(j:Int):=by omega
   have hM:M=false:=by
    have h:=HQ.out;rw[show j=ls.length by omega,show ls.length=L.length by rw[←HMAP.out,List.length_map],List.take_length]at h;rw[←HM.out,h]
    rfl
   subst hM;clear hlt hj;go_wp2;go_ret;exact⟨rfl,HB2.out⟩
  have hlti:(j:Int)<(ls.length:Int):=by omega
  obtain⟨g,c,he,hgl,hsix⟩:=Dt.part_at HOWN.out j hlt;cases he;have hr:=HREP.out ls[j] (List.getElem_mem hlt);have hjL:j<L.length:=by rw[←HMAP.out,List.length_map];exact hlt
  have hLj:L[j]=ls[j].d:=by simp[←HMAP.out]
  obtain⟨⟨b1,r1,hm1,hmc,-⟩,-,-⟩:=(Dt.rep_iff _ _ _ _ _ _).1 hr;have s3:=hsix.c3;rw[hm1]at s3;obtain⟨N,hN⟩:∃N,ls[j].d.m.length=N:=⟨_,rfl⟩
  rw[hN]at s3;have HN:=zh hN;have HLJ:=zh hLj;clear hr hsix hm1 hmc hN hLj hgl;by_cases h0:0<N
  ·have hb:decide ((0:Int)<(N:Int))=true:=decide_eq_true (by omega);have hbn:decide (0<N)=true:=decide_eq_true h0;have hM:M=true:=by
    rw[←HM.out,Bool.not_eq_true',Bool.eq_false_iff];intro h;have h1:=List.all_eq_true.1 h L[j] (List.getElem_mem hjL);rw[HLJ.out]at h1;have h2:ls[j].d.m=[]:=by simpa using h1
    have h3:=HN.out;rw[h2]at h3;simp at h3;omega
   subst hM;clear h0;go_wp2;go_ret;exact⟨rfl,HB2.out⟩
  ·have hb:decide ((0:Int)<(N:Int))=false:=decide_eq_false (by omega);have hbn:decide (0<N)=false:=decide_eq_false h0;have HN2:Hid ((L.take (j+1)).all (fun x=>x.m.isEmpty)=true):=Co.all_take hjL HQ.out (by
    rw[HLJ.out];have h3:=HN.out;have:ls[j].d.m=[]:=List.length_eq_zero_iff.1 (by omega);rw[this]
    rfl)
   clear h0;go_wp2;go_roundw
   case rel=>exact⟨j+1,by simp,by omega,trivial,HN2⟩
   case measure=>simp[intOf];omega
end Go.Proofs.YtfjmlfbohenmfaaGreat
namespace Go.Proofs.YtfjmlfbohenmfaaGreat
open Go.RowKit
namespace Ap
def Src2(w:World)(src:Value)(m:Nat)(news:List Value):Prop:=Src w src m news∨∃c,src= .slice none 0 c∧m=0∧news=[]
section
variable {P:Program} {w:World}
theorem run_none(base:Nat)(t ty e:TypeId)(i:TypeInfo)(size:Nat)(ht:P.underlying t=some (.slice e))(hi:P.info? e=some i)
  (v:Value) (n c:Nat) (xs:List Value) (hown:w.ownsRow base e size v n xs):
  (Builtin.append_ #[t,t] ty #[v,.slice none 0 c]).run P w= .ok v w:=by
 rcases hown.2 with⟨rfl,rfl⟩|⟨g,cap,cur,rfl,_,_,hnc,_⟩
 ·simp[Builtin.append_,run_underlying ht,sizeOf,typeInfo,hi,Builtin.lenOf,Builtin.firstCells]
 ·simp[Builtin.append_,run_underlying ht,sizeOf,typeInfo,hi,Builtin.lenOf,Builtin.firstCells,hnc,storeCells]
theorem step2{ops:Array Oper}{o:Oper}{a:Act}{K:Act→World→Prop}{Q:Exit→Act→World→Prop}{E:Prop}(hgd:o.guard=none)(s x:Operand)(t:TypeId)
  (ho:o.op= .call {callee:= .builtin .append,args:=#[s,x],argTypes:=#[t,t]})
  (base:Nat) (e:TypeId) (i:TypeInfo) (z:Value) (size bytes:Nat) (ht:P.underlying t=some (.slice e)) (hi:P.info? e=some i) (hz:i.zero=some z)
  (hsize:i.size=size) (hby:i.bytes=bytes) (hzs:z.cells.size=size) (hsz:0<size)
  (v:Value) (n:Nat) (xs:List Value) (hs:a.eval s=v) (hown:w.ownsRow base e size v n xs)
  (src:Value) (m:Nat) (news:List Value) (hx:a.eval x=src) (hsrc:Src2 w src m news) (hl:news.length=m*size) (h1:∀u∈news,u.oneCell'=true)
  (h63:n+m≤maxLen) (hbytes:(n+m)*bytes≤140737488355328) (hbase:base≤w.heap.size)
  (h:∀v' w',w'.ownsRow base e size v' (n+m) (xs++news)→w.grownBy w' v.ownBlock→(v'.ownBlock=v.ownBlock∨v'.ownBlock=some w.heap.size)→K (a.put o.dst v') w'):
  if Region.wanted o (yielded ops a.tmps)=true then Oper.wp P o a w K Q else E:=by
 rcases hsrc with hsrc|⟨c,rfl,rfl,rfl⟩
 ·exact step hgd s x t ho base e i z size bytes ht hi hz hsize hby hzs hsz v n xs hs hown src m news hx hsrc hl h1 h63 hbytes hbase h
 ·have hw:Region.wanted o (yielded ops a.tmps)=true:=by simp[Region.wanted,hgd]
  rw[if_pos hw];unfold Oper.wp execOp;simp only[ho,resolve,invoke,builtin,Sem.run_bind,Sem.run_pure,Result.andThen_ok,List.map_toArray,List.map_cons,List.map_nil,hs,hx,run_none base t o.type e i size ht hi v n c xs hown];exact h v w (by simpa using hown) ⟨rfl,rfl,rfl,Nat.le_refl _,fun _ _ _=>rfl⟩ (.inl rfl)
theorem list2{ops:Array Oper}{rest:List Oper}{o:Oper}{a:Act}{Q:Exit→Act→World→Prop}(hgd:o.guard=none)(s x:Operand)(t:TypeId)
  (ho:o.op= .call {callee:= .builtin .append,args:=#[s,x],argTypes:=#[t,t]})
  (base:Nat) (e:TypeId) (i:TypeInfo) (z:Value) (size bytes:Nat) (ht:P.underlying t=some (.slice e)) (hi:P.info? e=some i) (hz:i.zero=some z)
  (hsize:i.size=size) (hby:i.bytes=bytes) (hzs:z.cells.size=size) (hsz:0<size)
  (v:Value) (n:Nat) (xs:List Value) (hs:a.eval s=v) (hown:w.ownsRow base e size v n xs)
  (src:Value) (m:Nat) (news:List Value) (hx:a.eval x=src) (hsrc:Src2 w src m news) (hl:news.length=m*size) (h1:∀u∈news,u.oneCell'=true)
  (h63:n+m≤maxLen) (hbytes:(n+m)*bytes≤140737488355328) (hbase:base≤w.heap.size)
  (h:∀v' w',w'.ownsRow base e size v' (n+m) (xs++news)→w.grownBy w' v.ownBlock→(v'.ownBlock=v.ownBlock∨v'.ownBlock=some w.heap.size)→wpList P ops Q rest (a.put o.dst v') w'):wpList P ops Q (o :: rest) a w:=by
 rcases hsrc with hsrc|⟨c,rfl,rfl,rfl⟩
 ·exact list hgd s x t ho base e i z size bytes ht hi hz hsize hby hzs hsz v n xs hs hown src m news hx hsrc hl h1 h63 hbytes hbase h
 ·refine wpList_plain hgd fun _ hK=> ?_
  unfold Oper.wp execOp;simp only[ho,resolve,invoke,builtin,Sem.run_bind,Sem.run_pure,Result.andThen_ok,List.map_toArray,List.map_cons,List.map_nil,hs,hx,run_none base t o.type e i size ht hi v n c xs hown];exact hK _ _ (h v w (by simpa using hown) ⟨rfl,rfl,rfl,Nat.le_refl _,fun _ _ _=>rfl⟩ (.inl rfl))
end
end Ap
theorem Dt.IRow.src2{F:Nat→Prop}{w:World}{v:Value}{m:List Int}(h:Dt.IRow F w v m):Ap.Src2 w v m.length (m.map (Value.int .i64)):=by
 have h0:=h;obtain⟨a,c,rfl,-,h3⟩:=h;by_cases ha:a=none
 ·right;have hm:m=[]:=by
   cases m with
   |nil=>rfl
   |cons x r=>obtain⟨b,o,e,-⟩:=h3 (by simp);rw[ha]at e;cases e
  subst hm ha;exact⟨c,rfl,rfl,rfl⟩
 ·exact .inl (Dt.IRow.src h0 ha)
end Go.Proofs.YtfjmlfbohenmfaaGreat
namespace Go.Proofs.YtfjmlfbohenmfaaGreat
namespace Co
open Dt (D)
abbrev Asks:=List (Int×Int)→Int→Int→Bool×List (Int×Int)
def stepsG(st:Asks)(m:List (Int×Int)):List Int→List Int→Bool×List (Int×Int)
 |[],_=>(true,m)
 |_,[]=>(true,m)
 |x :: p,y :: q=>if(st m x y).1 then stepsG st (st m x y).2 p q else st m x y
mutual
def besideG(st:Asks):C→C→Nat→Int→List (Int×Int)→Bool×Int×List (Int×Int)
 | .mk k n s d p l,b,deep,left,m=>
  if left - 1<0∨128<deep then(false,left - 1,m)
  else if like (.mk k n s d p l) b=false then(false,left - 1,m)
  else if(stepsG st m p b.p).1=false then(false,left - 1,m)
  else if(k=2∨k=4)∧(st (stepsG st m p b.p).2 n b.n).1=false then(false,left - 1,m)
  else if ¬ (k=2∨k=4)∧n≠b.n then(false,left - 1,m)
  else besideGL st l b.l (deep+1) (left - 1) (if k=2∨k=4 then(st (stepsG st m p b.p).2 n b.n).2 else(stepsG st m p b.p).2)
def besideGL(st:Asks):List C→List C→Nat→Int→List (Int×Int)→Bool×Int×List (Int×Int)
 |[],_,_,left,m=>(true,left,m)
 |a :: r,bs,deep,left,m=>match bs with
  |[]=>(true,left,m)
  |b :: q=>if(besideG st a b deep left m).1=false then besideG st a b deep left m else besideGL st r q deep (besideG st a b deep left m).2.1 (besideG st a b deep left m).2.2
end
theorem stepsG_step:∀(p q:List Int) (m:List (Int×Int)),stepsG step m p q=steps m p q
 |[],_,m=>by rw[stepsG,steps]
 |_ :: _,[],m=>by rw[stepsG,steps];all_goals (intro h;cases h)
 |x :: p,y :: q,m=>by rw[stepsG,steps,stepsG_step p q]
mutual
theorem besideG_step:∀(a b:C) (deep:Nat) (left:Int) (m:List (Int×Int)),besideG step a b deep left m=beside a b deep left m
 | .mk k n s d p l,b,deep,left,m=>by rw[besideG,beside,stepsG_step,besideGL_step]
theorem besideGL_step:∀(a b:List C) (deep:Nat) (left:Int) (m:List (Int×Int)),besideGL step a b deep left m=besideL a b deep left m
 |[],b,deep,left,m=>by rw[besideGL,besideL]
 |c :: r,[],deep,left,m=>by rw[besideGL,besideL]
 |c :: r,b :: q,deep,left,m=>by rw[besideGL,besideL];simp only[besideG_step c b,besideGL_step r q]
end
def eqs:Asks:=fun m x y=>(decide (x=y),m)
theorem stepsG_eqs:∀(p q:List Int),p.length=q.length→stepsG eqs [] p q=(decide (p=q),[])
 |[],[],_=>rfl
 |[],_ :: _,h=>by simp at h
 |_ :: _,[],h=>by simp at h
 |x :: p,y :: q,h=>by
  rw[stepsG];show(if decide (x=y)=true then stepsG eqs [] p q else(decide (x=y),[]))=_;rw[stepsG_eqs p q (by simpa using h)];by_cases e:x=y
  ·rw[if_pos (decide_eq_true e)];simp[e]
  ·rw[decide_eq_false e,if_neg (by simp)];simp[e]
theorem like_len{a b:C}(h:like a b=true):a.k=b.k∧a.s=b.s∧a.p.length=b.p.length∧a.l.length=b.l.length∧sd a.d b.d=true:=by
 unfold like at h;simpa[and_assoc]using h
mutual
theorem besideG_eqs:∀(a b:C) (deep:Nat) (left:Int),besideG eqs a b deep left []=((pairs a b deep left).1,(pairs a b deep left).2,[])
 | .mk k n s d p l,b,deep,left=>by
  rw[besideG,pairs];by_cases h1:left - 1<0∨128<deep
  ·rw[if_pos h1,if_pos h1]
  rw[if_neg h1,if_neg h1];cases h2:like (.mk k n s d p l) b
  ·rw[if_pos rfl];simp
  have hl:=(like_len h2).2.2.1;rw[if_neg (by simp),stepsG_eqs p b.p hl];by_cases h3:p=b.p
  ·rw[if_neg (by simp[h3])];by_cases h4:n=b.n
   ·rw[if_neg (show ¬ ((k=2∨k=4)∧(eqs (decide (p=b.p),([]:List (Int×Int))).2 n b.n).1=false)from fun h=>(by simp[eqs,h4]at h)),if_neg (show ¬ (¬ (k=2∨k=4)∧n≠b.n)from fun h=>h.2 h4),if_neg (show ¬ ((true&&decide (n=b.n)&&decide (p=b.p))=false)by simp[h3,h4])];have e:(if k=2∨k=4 then(eqs (decide (p=b.p),([]:List (Int×Int))).2 n b.n).2 else(decide (p=b.p),([]:List (Int×Int))).2)=[]:=by split <;> rfl
    rw[e,besideGL_eqs l b.l]
   ·rw[if_pos (by simp[h4]:(true&&decide (n=b.n)&&decide (p=b.p))=false)];by_cases hk:k=2∨k=4
    ·rw[if_pos ⟨hk,by simp[eqs,h4]⟩]
    ·rw[if_neg (fun h=>hk h.1),if_pos ⟨hk,h4⟩]
  ·rw[if_pos (by simp[h3]),if_pos (by simp[h3])]
theorem besideGL_eqs:∀(a b:List C) (deep:Nat) (left:Int),besideGL eqs a b deep left []=((pairsL a b deep left).1,(pairsL a b deep left).2,[])
 |[],b,deep,left=>by rw[besideGL,pairsL]
 |c :: r,[],deep,left=>by rw[besideGL,pairsL]
 |c :: r,b :: q,deep,left=>by
  rw[besideGL,pairsL];simp only[besideG_eqs c b];split
  ·rfl
  ·exact besideGL_eqs r q _ _
end
end Co
end Go.Proofs.YtfjmlfbohenmfaaGreat
namespace Go.Proofs.YtfjmlfbohenmfaaGreat
open Go.ChangeShapes Go.WideShapes Go.RowKit Go.Deep
namespace Dt
section
variable {H:Type} {enc:TypeId×Value→H} {P:Program} {w:World} {base:Nat} {spare:Nat→Bool} {held:Bool}
theorem weights_all{e:TypeId}:∀ {l:List (DataW H)} {d:DataW H},d∈l→∀n∈d.weights P e,n∈DataW.weightsAll P e l
 |a :: l,d,hd,n,hn=>by
  simp only[DataW.weightsAll,List.mem_append];rcases List.mem_cons.1 hd with rfl|hd
  ·exact .inl hn
  ·exact .inr (weights_all hd n hn)
def Fits(P:Program)(t:TypeId)(d:DataW H):Prop:=∀n∈d.weights P t,n≤reachBytes
theorem trod_six{t:TypeId}{f0 f1 f2 f3 f4 f5:Field}{fuel:Nat}{cs:List Value}{x:DataW H×List MemPlace}(hs:P.underlying t=some (.struct #[f0,f1,f2,f3,f4,f5]))(hone:oneCellFields P #[f0,f1,f2,f3,f4,f5]=true)(hC:P.cellsOf t=6)
  (h:DataW.trod enc P w base spare held fuel t cs=some x) (hf:Fits P t x.1):
  ∃(v0 v1 v2 v3 v4 v5:Value) (y0 y1 y2 y3 y4 y5:DataW H×List MemPlace) (n:Nat),fuel=n+1∧cs=[v0,v1,v2,v3,v4,v5]∧
   (DataW.trod enc P w base spare held n f0.type [v0]=some y0∧Fits P f0.type y0.1)∧(DataW.trod enc P w base spare held n f1.type [v1]=some y1∧Fits P f1.type y1.1)∧(DataW.trod enc P w base spare held n f2.type [v2]=some y2∧Fits P f2.type y2.1)∧(DataW.trod enc P w base spare held n f3.type [v3]=some y3∧Fits P f3.type y3.1)∧(DataW.trod enc P w base spare held n f4.type [v4]=some y4∧Fits P f4.type y4.1)∧(DataW.trod enc P w base spare held n f5.type [v5]=some y5∧Fits P f5.type y5.1):=by
 obtain⟨xs,n,hn,hx,hsz,hlen,hg⟩:=DataW.trod_struct hs h
 match cs,hsz.trans hC with
 |[c0,c1,c2,c3,c4,c5],_=>
  obtain⟨o0,k0⟩:=hone_of hone 0 f0 rfl;obtain⟨o1,k1⟩:=hone_of hone 1 f1 rfl;obtain⟨o2,k2⟩:=hone_of hone 2 f2 rfl;obtain⟨o3,k3⟩:=hone_of hone 3 f3 rfl;obtain⟨o4,k4⟩:=hone_of hone 4 f4 rfl;obtain⟨o5,k5⟩:=hone_of hone 5 f5 rfl
  match xs,hlen with
  |[y0,y1,y2,y3,y4,y5],_=>
   have hw:∀(i:Nat) (f:Field) (y:DataW H×List MemPlace),#[f0,f1,f2,f3,f4,f5][i]?=some f→[y0,y1,y2,y3,y4,y5][i]?=some y→Fits P f.type y.1:=by
    intro i f y h1 h2 m hm;refine hf m ?_;rw[hx];show m∈(DataW.agg ([y0,y1,y2,y3,y4,y5].map (·.1))).weights P t;simp only[DataW.weights,hs];refine DataW.weights_mem_each (j:=i) (t:=f.type) (d:=y.1) ?_ ?_ m hm
    ·rw[List.getElem?_map,Array.getElem?_toList,h1];rfl
    ·rw[List.getElem?_map,h2];rfl
   exact⟨c0,c1,c2,c3,c4,c5,y0,y1,y2,y3,y4,y5,n,hn,rfl,⟨by simpa[o0,k0]using hg 0 f0 rfl,hw 0 f0 y0 rfl rfl⟩,⟨by simpa[o1,k1]using hg 1 f1 rfl,hw 1 f1 y1 rfl rfl⟩,⟨by simpa[o2,k2]using hg 2 f2 rfl,hw 2 f2 y2 rfl rfl⟩,⟨by simpa[o3,k3]using hg 3 f3 rfl,hw 3 f3 y3 rfl rfl⟩,⟨by simpa[o4,k4]using hg 4 f4 rfl,hw 4 f4 y4 rfl rfl⟩,⟨by simpa[o5,k5]using hg 5 f5 rfl,hw 5 f5 y5 rfl rfl⟩⟩
theorem open_row{t e:TypeId}{fuel:Nat}{cs:List Value}{x:DataW H×List MemPlace}(ht:P.underlying t=some (.slice e))(h:DataW.trod enc P w base spare held fuel t cs=some x)(hf:Fits P t x.1):
  (cs = [.slice none 0 0]) ∨ ∃ (a : Addr) (len cap n : Nat), fuel = n + 1 ∧ cs = [.slice (some a) len cap] ∧ len ≤ cap ∧ len * P.bytesOf e ≤ reachBytes ∧
   ∀i,i<len→∃cs' y,w.cells? base (a.add (i*P.cellsOf e)) (P.cellsOf e)=some cs'∧DataW.trod enc P w base spare held n e cs'=some y∧Fits P e y.1:=by
 rcases DataW.trod_slice ht h with⟨h0,_⟩|⟨a,len,cap,elems,rest,n,hn,hcs,hx,hb,hl,hm,hlen,hel,_,_⟩
 ·exact .inl h0
 refine .inr ⟨a,len,cap,n,hn,hcs,hl,?_,fun i hi=> ?_⟩
 ·have h9:=hf ((elems.length+rest.length)*P.bytesOf e) (by rw[hx];simp[DataW.weights,ht]);rw[hlen]at h9;exact Nat.le_trans (Nat.mul_le_mul_right _ (Nat.le_add_right _ _)) h9
 ·have h1:=hel i hi;rw[List.getElem?_eq_getElem (by omega)]at h1;obtain⟨cs',h2,h3⟩:=Option.bind_eq_some_iff.1 h1;refine⟨cs',elems[i],h2,h3,fun m hm'=>hf m ?_⟩;rw[hx];simp only[DataW.weights,ht,List.mem_cons,List.mem_append];exact .inr (.inl (weights_all (List.mem_map_of_mem (List.getElem_mem _)) m hm'))
end
theorem gather{α:Type}(Q:Nat→α→Prop):∀n,(∀i,i<n→∃t,Q i t)→∃l:List α,l.length=n∧∀j,(h:j<l.length)→Q j l[j]
 |0,_=>⟨[],rfl,fun j h=>absurd h (by simp)⟩
 |n+1,h=>by
  obtain⟨l,hl,hq⟩:=gather Q n (fun i hi=>h i (by omega));obtain⟨t,ht⟩:=h n (by omega);refine⟨l++[t],by simp[hl],fun j hj=> ?_⟩;by_cases e:j<l.length
  ·rw[List.getElem_append_left e];exact hq j e
  ·have:j=l.length:=by simp at hj;omega
   subst this;rw[List.getElem_append_right (by omega)];simpa[hl]using ht
theorem add_none{b o i:Nat}:(⟨b,o,none⟩:Addr).add i=⟨b,o+i,none⟩:=by unfold Addr.add;split <;> simp_all
theorem spot_none{w:World}{b o:Nat}{spot:Option Nat}{i:Nat}{v:Value}(h:w.cell? ((⟨b,o,spot⟩:Addr).add i)=some v)(hi:i=0):spot=none:=by
 subst hi;have:=World.cell?_spot h;simpa[Addr.add]using this
section
variable {H:Type} {enc:TypeId×Value→H} {w:World} {base:Nat} {spare:Nat→Bool} {held:Bool}
theorem open_ints{fuel:Nat}{v:Value}{x:DataW H×List MemPlace}(h:DataW.trod enc Tryz.prog w base spare held fuel 22 [v]=some x)(hf:Fits Tryz.prog 22 x.1):
  ∃m:List Int,IRow (fun _=>True) w v m∧m.length≤140737488355328∧∀y∈m,-9223372036854775808≤y∧y≤9223372036854775807:=by
 rcases open_row Tryz.underlying22 h hf with h0|⟨a,len,cap,n,-,hcs,hl,hb,hel⟩
 ·obtain rfl:v= .slice none 0 0:=by simpa using h0
  exact⟨[],⟨none,0,rfl,Nat.le_refl _,fun h=>absurd rfl h⟩,by simp,by simp⟩
 ·obtain rfl:v= .slice (some a) len cap:=by simpa using hcs
  have hC:Tryz.prog.cellsOf 3=1:=by kernel_rfl
  have hB:Tryz.prog.bytesOf 3=8:=by kernel_rfl
  rw[hB]at hb;rw[hC]at hel;have hr:reachBytes=140737488351232:=by decide
  obtain⟨m,hm,hq⟩:=gather (fun i (y:Int)=>w.cell? (a.add i)=some (.int .i64 y)∧ -9223372036854775808≤y∧y≤9223372036854775807) len (fun i hi=>by
   obtain⟨cs',y,hc,ht,_⟩:=hel i hi;obtain⟨z,e0,_,hz⟩:=DataW.trod_int Tryz.underlying3 ht;subst e0;obtain⟨_,_,hat⟩:=World.cells?_some hc;have g0:=hat 0 (by omega);rw[Nat.mul_one]at g0;have hz':(decide (IntKind.i64.min≤z)&&decide (z≤IntKind.i64.max))=true:=hz;rw[show IntKind.i64.min= -9223372036854775808 by decide,show IntKind.i64.max=9223372036854775807 by decide]at hz';simp only[Bool.and_eq_true,decide_eq_true_eq]at hz';refine⟨z,?_,hz'⟩;have e9:(a.add i).add 0=a.add i:=by unfold Addr.add;rw[if_pos rfl]
   rw[e9]at g0;exact g0)
  refine⟨m,⟨some a,cap,by rw[hm],by omega,fun hn=> ?_⟩,by omega,fun y hy=> ?_⟩
  ·have hpos:0<m.length:=List.length_pos_iff.2 hn;obtain⟨b,off,spot⟩:=a;obtain rfl:=spot_none (hq 0 hpos).1 rfl;refine⟨b,off,rfl,trivial,?_,fun j hj=> ?_⟩
   ·have:=(hq 0 hpos).1;rw[add_none]at this;exact block_lt_of_cell this
   ·have:=(hq j hj).1;rw[add_none]at this;exact this
  ·obtain⟨j,hj,rfl⟩:=List.getElem_of_mem hy;exact(hq j hj).2
theorem wfs_of{l:List D}(h:∀j,(hj:j<l.length)→Wf l[j]):Wfs l:=by
 induction l with
 |nil=>rw[Wfs];trivial
 |cons a l ih=>
  rw[Wfs];exact⟨h 0 (by simp),ih (fun j hj=>h (j+1) (by simpa using hj))⟩
theorem open_data{fuel:Nat}{v:Value}{x:DataW H×List MemPlace}(h:DataW.trod enc Tryz.prog w base spare held fuel 23 [v]=some x)(hf:Fits Tryz.prog 23 x.1)
  (ih:∀n,n<fuel→∀cs y,DataW.trod enc Tryz.prog w base spare held n 25 cs=some y→Fits Tryz.prog 25 y.1→∃(d:D) (vm vl vt:Value),cs=[.int .i64 d.k,.int .i64 d.n,.string d.s,vm,vl,vt]∧Wf d∧Rep (fun _=>True) w d vm vl vt):
  ∃l:List D,Row (fun _=>True) w v l∧l.length≤140737488355328∧Wfs l:=by
 rcases open_row Tryz.underlying23 h hf with h0|⟨a,len,cap,n,hn,hcs,hl,hb,hel⟩
 ·obtain rfl:v= .slice none 0 0:=by simpa using h0
  exact⟨[],⟨none,0,rfl,Nat.le_refl _,fun h=>absurd rfl h⟩,by simp,by rw[Wfs];trivial⟩
 ·obtain rfl:v= .slice (some a) len cap:=by simpa using hcs
  have hC:Tryz.prog.cellsOf 25=6:=by kernel_rfl
  have hB:Tryz.prog.bytesOf 25=104:=by kernel_rfl
  rw[hB]at hb;rw[hC]at hel;have hr:reachBytes=140737488351232:=by decide
  obtain⟨l,hm,hq⟩:=gather (fun i (d:D)=>Wf d∧∃vm vl vt,Rep (fun _=>True) w d vm vl vt∧∀j,j<6→w.cell? ((a.add (i*6)).add j)=[Value.int .i64 d.k,.int .i64 d.n,.string d.s,vm,vl,vt][j]?) len (fun i hi=>by
   obtain⟨cs',y,hc,ht,hfy⟩:=hel i hi;obtain⟨d,vm,vl,vt,e0,hw,hr⟩:=ih n (by omega) cs' y ht hfy;subst e0;obtain⟨_,_,hat⟩:=World.cells?_some hc;exact⟨d,hw,vm,vl,vt,hr,hat⟩)
  refine⟨l,⟨some a,cap,by rw[hm],by omega,fun hne=> ?_⟩,by omega,wfs_of (fun j hj=>(hq j hj).1)⟩;have hpos:0<l.length:=List.length_pos_iff.2 hne;obtain⟨b,off,spot⟩:=a;obtain⟨_,vm,vl,vt,_,h6⟩:=hq 0 hpos;have e0:=h6 0 (by omega);rw[Nat.zero_mul]at e0;have hsp:spot=none:=by
   have e9:(((⟨b,off,spot⟩:Addr).add 0).add 0)=(⟨b,off,spot⟩:Addr).add 0:=by unfold Addr.add;simp
   rw[e9]at e0;exact spot_none e0 rfl
  subst hsp;rw[add_none,add_none]at e0;refine⟨b,off,rfl,trivial,block_lt_of_cell e0,Reps.of (fun j hj=> ?_)⟩;obtain⟨_,vm,vl,vt,hrep,h6⟩:=hq j hj;refine⟨vm,vl,vt,⟨?_,?_,?_,?_,?_,?_⟩,hrep⟩
  ·have:=h6 0 (by omega);rw[add_none,add_none]at this;exact this
  ·have:=h6 1 (by omega);rw[add_none,add_none]at this;exact this
  ·have:=h6 2 (by omega);rw[add_none,add_none]at this;exact this
  ·have:=h6 3 (by omega);rw[add_none,add_none]at this;exact this
  ·have:=h6 4 (by omega);rw[add_none,add_none]at this;exact this
  ·have:=h6 5 (by omega);rw[add_none,add_none]at this;exact this
theorem open_fuel:∀(fuel:Nat) (cs:List Value) (y:DataW H×List MemPlace),DataW.trod enc Tryz.prog w base spare held fuel 25 cs=some y→Fits Tryz.prog 25 y.1→∃(d:D) (vm vl vt:Value),cs=[.int .i64 d.k,.int .i64 d.n,.string d.s,vm,vl,vt]∧Wf d∧Rep (fun _=>True) w d vm vl vt:=by
 intro fuel
 induction fuel using Nat.strongRecOn with
 |_ fuel ih=>
  intro cs y h hf;have hC:Tryz.prog.cellsOf 25=6:=by kernel_rfl
  obtain⟨v0,v1,v2,v3,v4,v5,y0,y1,y2,y3,y4,y5,n,rfl,rfl,⟨h0,_⟩,⟨h1,_⟩,⟨h2,f2⟩,⟨h3,f3⟩,⟨h4,f4⟩,⟨h5,f5⟩⟩:=trod_six Tryz.underlying25 (by kernel_rfl) hC h hf;obtain⟨k,e0,_,_⟩:=DataW.trod_int Tryz.underlying3 h0;obtain⟨z,e1,_,hz⟩:=DataW.trod_int Tryz.underlying2 h1;obtain⟨s,e2,hx2,hs⟩:=DataW.trod_string Tryz.underlying9 h2;obtain⟨m,hm,hml,_⟩:=open_ints h3 f3;have ih':∀n',n'<n→∀cs y,DataW.trod enc Tryz.prog w base spare held n' 25 cs=some y→Fits Tryz.prog 25 y.1→∃(d:D) (vm vl vt:Value),cs=[.int .i64 d.k,.int .i64 d.n,.string d.s,vm,vl,vt]∧Wf d∧Rep (fun _=>True) w d vm vl vt:=fun n' hn=>ih n' (by omega)
  obtain⟨l,hl,hll,hlw⟩:=open_data h4 f4 ih';obtain⟨t,ht,htl,htw⟩:=open_data h5 f5 ih';obtain rfl:v0= .int .i64 k:=by simpa using e0
  obtain rfl:v1= .int .i64 z:=by simpa using e1
  obtain rfl:v2= .string s:=by simpa using e2
  have hz':(decide (IntKind.i64.min≤z)&&decide (z≤IntKind.i64.max))=true:=hz;rw[show IntKind.i64.min= -9223372036854775808 by decide,show IntKind.i64.max=9223372036854775807 by decide]at hz';simp only[Bool.and_eq_true,decide_eq_true_eq]at hz';have hs2:s.size≤140737488355328:=by
   have hr:reachBytes=140737488351232:=by decide
   have h9:=f2 s.data.toList.length (by rw[hx2];simp[DataW.weights]);have e9:s.data.toList.length=s.size:=by rw[Array.length_toList];rfl
   omega
  refine⟨.mk k z s m l t,v3,v4,v5,rfl,?_,(rep_iff _ _ _ _ _ _).2 ⟨hm,hl,ht⟩⟩;rw[Wf];exact⟨hz',hs2,hml,hll,htl,hlw,htw⟩
end
end Dt
end Go.Proofs.YtfjmlfbohenmfaaGreat
namespace Go.Proofs.YtfjmlfbohenmfaaGreat
open Go.Joins Go.ChangeShapes Go.WideShapes Go.RowKit Go.Deep
namespace Cd
open Dt
section
variable {H:Type} {enc:TypeId×Value→H} {P:Program} {w:World} {base:Nat} {spare:Nat→Bool} {held:Bool}
end
end Cd
end Go.Proofs.YtfjmlfbohenmfaaGreat
namespace Go.Proofs.YtfjmlfbohenmfaaGreat
open Go.RowKit
attribute [local go_sem] Oper.semAt_some
namespace Cd
open Dt
end Cd
end Go.Proofs.YtfjmlfbohenmfaaGreat
namespace Go.Proofs.YtfjmlfbohenmfaaGreat
namespace Cd
end Cd
end Go.Proofs.YtfjmlfbohenmfaaGreat
namespace Go.Proofs.YtfjmlfbohenmfaaGreat
open Go.RowKit
namespace Cd
open Dt
end Cd
end Go.Proofs.YtfjmlfbohenmfaaGreat
namespace Go.Proofs.YtfjmlfbohenmfaaGreat
open Go.RowKit
attribute [local go_sem] Oper.semAt_some
def Cd.sizeD(x:Dt.D):Nat:=if Dt.check x=0 then(Dt.pre x).length else 0
theorem rSize_any{F:Nat→Prop}(x:Dt.D)(vm vl vt:Value)(w:World)(hW:Dt.Wf x)(hR:Dt.Rep F w x vm vl vt):
  Calls Tryz.prog 33 #[.agg #[.int .i64 x.k,.int .i64 x.n,.string x.s,vm,vl,vt]] w fun e w'=>e= .returned (.int .i64 (Cd.sizeD x:Nat))∧Below w.heap.size w w':=by
 have hb0:Below w.heap.size w (w.alloc (.cells #[.int .i64 x.k,.int .i64 x.n,.string x.s,vm,vl,vt] 25)):=(Below.refl _ _).alloc (Nat.le_refl _) _;have hw:=rAll_any x vm vl vt _ hW (hR.below hb0);have HB:=zh hb0;obtain⟨a1,n1,q1,a2,n2,q2,a3,n3,q3,rfl,rfl,rfl⟩:=hR.forms;clear hR hW hb0;go_enter Tryz.func33,Tryz.ntmps33;go_wp2_with fail
 refine hw.mono ?_;rintro e w1 ⟨vp,ls,rfl,hK,hp,hd,hl,hb1⟩;obtain⟨ap,cp,rfl⟩:=Dt.row_form hK;have HL:Hid ((ls.length:Int)=(Cd.sizeD x:Nat)):=by
  show _=_;unfold Cd.sizeD;rw[←List.length_map (f:=Dt.P.d),hd];split <;> rfl
 have HB1:Hid (Below w.heap.size w w1):=btr HB.out hb1;clear hw hK hp hd hl hb1;go_wp2;go_ret;exact⟨by rw[HL.out];rfl,HB1.out⟩
end Go.Proofs.YtfjmlfbohenmfaaGreat
namespace Go.Proofs.YtfjmlfbohenmfaaGreat
open Go.RowKit Go.Sort
namespace Lx
def simB(c:UInt8):Bool:=c !=34&&c !=35&&c !=39&&c !=96&&c !=44
theorem sim_int(c:UInt8)(h:simB c=true):((c.toNat:Int)==34)=false∧((c.toNat:Int)==35)=false∧((c.toNat:Int)==39)=false∧((c.toNat:Int)==96)=false∧((c.toNat:Int)==44)=false:=by
 have hc:=Lx.b8 c;unfold simB at h;simp only[Bool.and_eq_true,bne_iff_ne,ne_eq]at h;obtain⟨⟨⟨⟨h1,h2⟩,h3⟩,h4⟩,h5⟩:=h;have k34:(c==34)=((c.toNat:Int)==34):=Lx.beq_nat c 34 (by omega);have k35:(c==35)=((c.toNat:Int)==35):=Lx.beq_nat c 35 (by omega);have k39:(c==39)=((c.toNat:Int)==39):=Lx.beq_nat c 39 (by omega);have k96:(c==96)=((c.toNat:Int)==96):=Lx.beq_nat c 96 (by omega);have k44:(c==44)=((c.toNat:Int)==44):=Lx.beq_nat c 44 (by omega);exact⟨by rw[←k34];simpa using h1,by rw[←k35];simpa using h2,by rw[←k39];simpa using h3,by rw[←k96];simpa using h4,by rw[←k44];simpa using h5⟩
theorem word_signS(t:List UInt8)(k q:Nat)(h:sign t=(k,q))(hk:k≠0):word t= .tok ⟨k,0,[]⟩ (t.drop q):=by
 rw[word_eq t _ h,if_pos hk]
theorem word_noS(t:List UInt8)(h:sign t=(0,0)):word t=if pk t 0==34 then str t else if pk t 0==35&&pk t 1==92 then char t else run t:=by
 rw[word_eq t _ h,if_neg (by simp)]
end Lx
theorem wordRs_any(s:ByteArray)(n:Nat)(w:World)(hs:s.size≤1000000)(hn:n<s.size)(hz:∀j,(hj:j<s.size)→s[j]≠0)(hw0:Lx.white s[n]=false)(h59:s[n]≠59)(hsim:Lx.simB s[n]=true):
  Calls Tryz.prog 145 #[.string s,.int .i64 n] w (Lx.TokR s n (Lx.word (Lx.tl s n)) w):=by
 obtain⟨RES,hRES⟩:∃RES,Lx.word (Lx.tl s n)=RES:=⟨_,rfl⟩
 rw[hRES];obtain⟨c,hc⟩:∃c,s[n]=c:=⟨_,rfl⟩
 have hpk0:Lx.pk (Lx.tl s n) 0=c:=by rw[Lx.pk_in s n 0 hn];exact hc
 obtain⟨x,hx⟩:∃x,Lx.pk (Lx.tl s n) 1=x:=⟨_,rfl⟩
 have hsm:=Lx.sim_int s[n] hsim;rw[hc]at hsm;have Ha34:Hid (((c.toNat:Int)==34)=false):=hsm.1;have Ha35:Hid (((c.toNat:Int)==35)=false):=hsm.2.1;have Ha39:Hid (((c.toNat:Int)==39)=false):=hsm.2.2.1;have Ha96:Hid (((c.toNat:Int)==96)=false):=hsm.2.2.2.1;have Ha44:Hid (((c.toNat:Int)==44)=false):=hsm.2.2.2.2;clear hsm hsim;have hcb:=Lx.b8 c;have hxb:=Lx.b8 x;have hsg:=Lx.sign_int (Lx.tl s n);rw[hpk0,hx]at hsg;have hwn:=Lx.word_noS (Lx.tl s n);rw[hpk0,hx]at hwn;have b34:(c==34)=((c.toNat:Int)==34):=Lx.beq_nat c 34 (by omega);have b35:(c==35)=((c.toNat:Int)==35):=Lx.beq_nat c 35 (by omega);have x92:(x==92)=((x.toNat:Int)==92):=Lx.beq_nat x 92 (by omega);have hrun:((c.toNat:Int)==40)=false→((c.toNat:Int)==41)=false→((c.toNat:Int)==34)=false→Lx.stops s[n]=false:=by
  intro a1 a2 a3;rw[Lx.stops_int,hw0,hc,a1,a2,a3];have:((c.toNat:Int)==59)=false:=by
   rw[beq_eq_false_iff_ne];exact fun h=>h59 (by rw[hc];exact UInt8.toNat_inj.1 (by show c.toNat=59;omega))
  rw[this];rfl
 -- the two blocks of the call's own
 obtain⟨R,hR⟩:∃R,w.heap.size=R:=⟨_,rfl⟩
 obtain⟨w2,hw2⟩:∃w2,(w.alloc (.cells #[.int .i64 0,.int .i64 0,.int .i64 0,.int .i64 0,.string ⟨#[]⟩] 144)).alloc (.cells #[.int .i64 0,.int .i64 (n:Int),.int .i64 ((n:Int)+1),.int .i64 0,.string ⟨#[]⟩] 144)=w2:=⟨_,rfl⟩
 have hb2:Below w.heap.size w w2:=by rw[←hw2];exact Lx.bel2 _ _ _
 have hT:=Lx.TkAt.alloc (w.alloc (.cells #[.int .i64 0,.int .i64 0,.int .i64 0,.int .i64 0,.string ⟨#[]⟩] 144)) 0 n ((n:Int)+1) 0 ⟨#[]⟩ 144;have hRR:=(Lx.TkAt.alloc w 0 0 0 0 ⟨#[]⟩ 144).below ((Below.refl _ (w.alloc (.cells #[.int .i64 0,.int .i64 0,.int .i64 0,.int .i64 0,.string ⟨#[]⟩] 144))).alloc (Nat.le_refl _) (.cells #[.int .i64 0,.int .i64 (n:Int),.int .i64 ((n:Int)+1),.int .i64 0,.string ⟨#[]⟩] 144));rw[hw2]at hT hRR;rw[World.size_alloc,hR]at hT;rw[hR]at hRR hb2;have hsz2:w2.heap.size=R+2:=by rw[←hw2];simp;omega
 have HRR:=zh hRR;have HB2:=zh hb2;have HSZ2:=zh hsz2;have HRW:=zh hR;have HZ:=zh hz;have HSG:=zh hsg;have HWN:=zh hwn;have HRES:=zh hRES;have HRUN:=zh hrun;have HX:=zh hx;have nx:n+1<s.size∨s.size≤n+1:=by omega
 have X0:s.size≤n+1→x=0:=fun h=>by rw[←hx];exact Lx.pk_out s n 1 h
 have X1:(h:n+1<s.size)→s[n+1]=x:=fun h=>by rw[←hx];exact(Lx.pk_in s n 1 h).symm
 have HX0:=zh X0;have HX1:=zh X1;clear hT hRR hb2 hsz2 hsg hwn hRES hrun hx hpk0 hw0 h59 hz X0 X1;rcases nx with hin|hout
 ·have hini:(n:Int)+1<(s.size:Int):=by omega
  have hx1:=HX1.out hin;cases a40:((c.toNat:Int)==40)
  case true=>
   have HN:Hid (RES= .tok ⟨1,0,[]⟩ (Lx.tl s (n+1))):=by
    show _=_;rw[←HRES.out,Lx.word_signS (Lx.tl s n) 1 1 (by rw[HSG.out];simp only[a40,if_true]) (by decide),Lx.tl_drop]
    rfl
   clear hw2 hR;go_enter Tryz.func145,Tryz.ntmps145;go_wp2;refine bodyPost_ret (v:= .tuple #[.agg #[.int .i64 1,.int .i64 (n:Int),.int .i64 ((n:Int)+1),.int .i64 0,.string ⟨#[]⟩],.int .i64 0]) (by simp[results,Tryz.results145,go_sem]) rfl (.tok HN.out rfl (by omega) (by omega) (Lx.bel2 _ _ _))
  cases a41:((c.toNat:Int)==41)
  case true=>
   have HN:Hid (RES= .tok ⟨2,0,[]⟩ (Lx.tl s (n+1))):=by
    show _=_;rw[←HRES.out,Lx.word_signS (Lx.tl s n) 2 1 (by rw[HSG.out];simp only[a40,a41,if_true,Bool.false_eq_true,if_false]) (by decide),Lx.tl_drop]
    rfl
   clear hw2 hR;go_enter Tryz.func145,Tryz.ntmps145;go_wp2;refine bodyPost_ret (v:= .tuple #[.agg #[.int .i64 2,.int .i64 (n:Int),.int .i64 ((n:Int)+1),.int .i64 0,.string ⟨#[]⟩],.int .i64 0]) (by simp[results,Tryz.results145,go_sem]) rfl (.tok HN.out rfl (by omega) (by omega) (Lx.bel2 _ _ _))
  have a39:((c.toNat:Int)==39)=false:=Ha39.out;have a96:((c.toNat:Int)==96)=false:=Ha96.out;have a44:((c.toNat:Int)==44)=false:=Ha44.out;have a35:((c.toNat:Int)==35)=false:=Ha35.out;have a34:((c.toNat:Int)==34)=false:=Ha34.out;have hno:Lx.sign (Lx.tl s n)=(0,0):=by rw[HSG.out];simp only[a40,a41,a39,a96,a44,a35,Bool.false_eq_true,if_false,Bool.false_and]
  have hcc:=fun wq=>runR_any s n wq hs hn (HRUN.out a40 a41 a34) HZ.out
  have hre:Lx.run (Lx.tl s n)=RES:=by rw[←HRES.out,HWN.out hno,b34,b35,x92,a34,a35];rfl
  rw[hre]at hcc;clear hno hre b34 b35 x92;have HCC:=zh hcc;have HW2:=zh hw2;clear hcc hw2;go_enter Tryz.func145,Tryz.ntmps145;go_wp2_with fail
  rw[HW2.out];refine(HCC.out _).mono ?_;rintro e w3 ⟨k,z,m,y,cc,rfl,hbx,hfit⟩;have HFIT:=zh hfit;have hR3:=HRR.out.below hbx;have HB3:=zh (HB2.out.trans (hbx.mono (by rw[HSZ2.out];omega)));have r0:=hR3.c0;have r1:=hR3.c1;have r2:=hR3.c2;have r3:=hR3.c3;have r4:=hR3.c4;have rz:=hR3.fz;have HR3:=zh hR3;clear hbx hR3 hfit;go_wp2;have HF:=Lx.put5_at HR3.out k (n:Int) z m y;have HFB:=Lx.put5_bel HB3.out (Nat.le_refl R) k (n:Int) z m y;obtain⟨F,hF⟩:∃F,Lx.put5 w3 R k (n:Int) z m y=F:=⟨_,rfl⟩
  rw[hF]at HF HFB;unfold Lx.put5 at hF;rw[hF];have f0:=HF.c0;have f1:=HF.c1;have f2:=HF.c2;have f3:=HF.c3;have f4:=HF.c4;exact bodyPost_ret (v:= .tuple #[.agg #[.int .i64 k,.int .i64 (n:Int),.int .i64 z,.int .i64 m,.string y],.int .i64 cc]) (by simp[results,Tryz.results145,go_sem,f0,f1,f2,f3,f4]) rfl ⟨k,z,m,y,cc,rfl,by rw[HRW.out];exact HFB,HFIT.out⟩
 ·have hini:¬ (n:Int)+1<(s.size:Int):=by omega
  have hx0:=HX0.out hout;cases a40:((c.toNat:Int)==40)
  case true=>
   have HN:Hid (RES= .tok ⟨1,0,[]⟩ (Lx.tl s (n+1))):=by
    show _=_;rw[←HRES.out,Lx.word_signS (Lx.tl s n) 1 1 (by rw[HSG.out];simp only[a40,if_true]) (by decide),Lx.tl_drop]
    rfl
   clear hw2 hR;go_enter Tryz.func145,Tryz.ntmps145;go_wp2;refine bodyPost_ret (v:= .tuple #[.agg #[.int .i64 1,.int .i64 (n:Int),.int .i64 ((n:Int)+1),.int .i64 0,.string ⟨#[]⟩],.int .i64 0]) (by simp[results,Tryz.results145,go_sem]) rfl (.tok HN.out rfl (by omega) (by omega) (Lx.bel2 _ _ _))
  cases a41:((c.toNat:Int)==41)
  case true=>
   have HN:Hid (RES= .tok ⟨2,0,[]⟩ (Lx.tl s (n+1))):=by
    show _=_;rw[←HRES.out,Lx.word_signS (Lx.tl s n) 2 1 (by rw[HSG.out];simp only[a40,a41,if_true,Bool.false_eq_true,if_false]) (by decide),Lx.tl_drop]
    rfl
   clear hw2 hR;go_enter Tryz.func145,Tryz.ntmps145;go_wp2;refine bodyPost_ret (v:= .tuple #[.agg #[.int .i64 2,.int .i64 (n:Int),.int .i64 ((n:Int)+1),.int .i64 0,.string ⟨#[]⟩],.int .i64 0]) (by simp[results,Tryz.results145,go_sem]) rfl (.tok HN.out rfl (by omega) (by omega) (Lx.bel2 _ _ _))
  have a39:((c.toNat:Int)==39)=false:=Ha39.out;have a96:((c.toNat:Int)==96)=false:=Ha96.out;have a44:((c.toNat:Int)==44)=false:=Ha44.out;have a35:((c.toNat:Int)==35)=false:=Ha35.out;have a34:((c.toNat:Int)==34)=false:=Ha34.out;have hno:Lx.sign (Lx.tl s n)=(0,0):=by rw[HSG.out];simp only[a40,a41,a39,a96,a44,a35,Bool.false_eq_true,if_false,Bool.false_and]
  have hcc:=fun wq=>runR_any s n wq hs hn (HRUN.out a40 a41 a34) HZ.out
  have hre:Lx.run (Lx.tl s n)=RES:=by rw[←HRES.out,HWN.out hno,b34,b35,x92,a34,a35];rfl
  rw[hre]at hcc;clear hno hre b34 b35 x92;have HCC:=zh hcc;have HW2:=zh hw2;clear hcc hw2;go_enter Tryz.func145,Tryz.ntmps145;go_wp2_with fail
  rw[HW2.out];refine(HCC.out _).mono ?_;rintro e w3 ⟨k,z,m,y,cc,rfl,hbx,hfit⟩;have HFIT:=zh hfit;have hR3:=HRR.out.below hbx;have HB3:=zh (HB2.out.trans (hbx.mono (by rw[HSZ2.out];omega)));have r0:=hR3.c0;have r1:=hR3.c1;have r2:=hR3.c2;have r3:=hR3.c3;have r4:=hR3.c4;have rz:=hR3.fz;have HR3:=zh hR3;clear hbx hR3 hfit;go_wp2;have HF:=Lx.put5_at HR3.out k (n:Int) z m y;have HFB:=Lx.put5_bel HB3.out (Nat.le_refl R) k (n:Int) z m y;obtain⟨F,hF⟩:∃F,Lx.put5 w3 R k (n:Int) z m y=F:=⟨_,rfl⟩
  rw[hF]at HF HFB;unfold Lx.put5 at hF;rw[hF];have f0:=HF.c0;have f1:=HF.c1;have f2:=HF.c2;have f3:=HF.c3;have f4:=HF.c4;exact bodyPost_ret (v:= .tuple #[.agg #[.int .i64 k,.int .i64 (n:Int),.int .i64 z,.int .i64 m,.string y],.int .i64 cc]) (by simp[results,Tryz.results145,go_sem,f0,f1,f2,f3,f4]) rfl ⟨k,z,m,y,cc,rfl,by rw[HRW.out];exact HFB,HFIT.out⟩
namespace Lx
theorem gap_tlS(s:ByteArray)(n:Nat)(hn:n≤s.size):∃n' ok,gap (s.size - n) (tl s n)=(tl s n',ok)∧n≤n'∧n'≤s.size:=by
 have h1:(gap (s.size - n) (tl s n)).1<:+s.data.toList:=(gap_suf _ _).trans (List.drop_suffix _ _);have h2:=suf_drop _ _ h1;have h3:=gap_len (s.size - n) (tl s n);rw[tl_len]at h3;have h4:=Fx.size_toList s;refine⟨s.data.toList.length - (gap (s.size - n) (tl s n)).1.length,(gap (s.size - n) (tl s n)).2,?_,by omega,by omega⟩;exact Prod.ext h2 rfl
theorem own_belS{w w':World}{b size n:Nat}{e:TypeId}{v:Value}{xs:List Value}(h:w.ownsRow b e size v n xs)(hb:Below w.heap.size w w'):w'.ownsRow b e size v n xs:=by
 obtain⟨h0,h1⟩:=h;refine⟨h0,?_⟩;rcases h1 with h1|⟨g,cap,cur,e1,e2,e3,e4⟩
 ·exact .inl h1
 ·refine .inr ⟨g,cap,cur,e1,e2,?_,e4⟩;have hg:g<w.heap.size:=by
   apply Classical.byContradiction
   intro hh;rw[Array.getElem?_eq_none (by omega)]at e3;exact absurd e3 (by simp)
  rw[hb.block g hg];exact e3
theorem own_neS{w:World}{b size n:Nat}{T:TypeId}{v:Value}{xs:List Value}(h:w.ownsRow b T size v n xs):some w.heap.size≠v.ownBlock:=by
 intro he;have:=(h.lt _ he.symm).2;omega
theorem row_formS{w:World}{b size n:Nat}{T:TypeId}{pv:Value}{xs:List Value}(ho:w.ownsRow b T size pv n xs):∃a c,pv= .slice a n c:=by
 rcases Joins.ownsRow_forms ho with⟨rfl,hz⟩|⟨g,cap,rfl,_⟩
 ·exact⟨none,0,by rw[hz]⟩
 ·exact⟨_,_,rfl⟩
end Lx
theorem WordsRs_any(s:ByteArray)(w:World)(hs:s.size≤9223372036854775807)(hsim:∀j,(hj:j<s.size)→Lx.simB s[j]=true):
  Calls Tryz.prog 108 #[.string s] w (Lx.WordsPost (Lx.lex s.data.toList) w):=by
 have HSIM:=zh hsim;clear hsim;by_cases hl:16384<s.size
 ·have HR:Hid (Lx.lex s.data.toList=([],0,3)):=by show _=_;unfold Lx.lex;rw[if_pos (by rw[Fx.size_toList];exact hl)]
  have hli:16384<(s.size:Int):=by omega
  go_enter Tryz.func108,Tryz.ntmps108;go_wp2
  go_ret3
  exact .err 0 3 HR.out (by decide) (Below.refl _ _) rfl
 have hli:¬16384<(s.size:Int):=by omega
 have HL:Hid (Lx.lex s.data.toList=if !s.data.toList.all Lx.okByte then([],(s.data.toList.takeWhile Lx.okByte).length,32)else Lx.words s.size (s.size+1) 0 s.data.toList):=by
  show _=_;unfold Lx.lex;rw[if_neg (by rw[Fx.size_toList];exact hl),Fx.size_toList]
 go_enter Tryz.func108,Tryz.ntmps108;go_wp2_with fail
 go_loopw [5] (fun v wr=>∃k:Nat,v= .int .i64 k∧k≤s.size∧Hid (∀j,j<k→(hj:j<s.size)→Lx.okByte s[j]=true)∧w=wr) (fun v _=>s.size - (intOf v).toNat)
 case atStart=>exact⟨0,rfl,by omega,(fun j hj=>absurd hj (by omega)),rfl⟩
 case round=>
  obtain⟨k,rfl,hk,HI,rfl⟩:=hrel;by_cases hlt:k<s.size
  case pos=>
   have hlt':(k:Int)<(s.size:Int):=by omega
   have hcb:=Lx.b8 s[k];cases hok:Lx.okByte s[k]
   ·have HR:Hid (Lx.lex s.data.toList=([],k,32)):=by
     show _=_;rw[HL.out,if_pos]
     ·have e0:s.data.toList=Lx.tl s 0:=by unfold Lx.tl;simp
      rw[e0,Lx.run_len Lx.okByte s 0 k (by omega) hk (fun j _ h2=>HI.out j h2 (by omega)) (fun _=>hok)]
      rfl
     ·have:s.data.toList.all Lx.okByte=false:=by
       rw[List.all_eq_false];exact⟨s[k],by have h:=List.getElem_mem (l:=s.data.toList) (n:=k) (by rw[Fx.size_toList];exact hlt);exact h,by rw[hok];simp⟩
      rw[this];rfl
    rw[Lx.ok_int]at hok;clear HL HI;by_cases l1:(s[k].toNat:Int)≤126
    ·have l1n:s[k].toNat≤126:=by omega
     by_cases l2:32≤(s[k].toNat:Int)
     ·simp[l1,l2]at hok
     ·have hw:Lx.white s[k]=false:=by simpa[l1,l2]using hok
      go_wp2_with fail
      refine(blankR_any _ _).mono ?_;rintro e w1 ⟨rfl,rfl⟩;rw[hw];go_wp2
      go_ret3
      exact .err k 32 HR.out (by decide) (Below.refl _ _) rfl
    ·go_wp2
     go_ret3
     exact .err k 32 HR.out (by decide) (Below.refl _ _) rfl
   ·have HI2:Hid (∀j,j<k+1→(hj:j<s.size)→Lx.okByte s[j]=true):=fun j hj h'=>by
     by_cases e:j=k
     ·subst e;exact hok
     ·exact HI.out j (by omega) h'
    rw[Lx.ok_int]at hok;have l1:(s[k].toNat:Int)≤126:=by
     apply Classical.byContradiction
     intro h;simp[h]at hok
    by_cases l2:32≤(s[k].toNat:Int)
    ·go_wp2;go_roundw
     case rel=>exact⟨k+1,by simp,by omega,HI2,trivial⟩
     case measure=>simp[intOf];omega
    ·have hw:Lx.white s[k]=true:=by simpa[l1,l2]using hok
     go_wp2_with fail
     refine(blankR_any _ _).mono ?_;rintro e w1 ⟨rfl,rfl⟩;rw[hw];go_wp2;go_roundw
     case rel=>exact⟨k+1,by simp,by omega,HI2,trivial⟩
     case measure=>simp[intOf];omega
  have hge:(s.size:Int)≤(k:Int):=by omega
  have hall:=Lx.all_ok s (fun j hj=>HI.out j (by omega) hj);have HL2:Hid (Lx.lex s.data.toList=Lx.words s.size (s.size+1) 0 (Lx.tl s 0)):=by
   show _=_;rw[HL.out,hall];rw[show s.data.toList=Lx.tl s 0 by unfold Lx.tl;simp]
   rfl
  have HOK:Hid (∀j,(hj:j<s.size)→Lx.okByte s[j]=true):=fun j hj=>HI.out j (by omega) hj
  clear HL HI hall;obtain⟨i0,hi,hz0,hz1,hz2⟩:=info_parts Lx.infoTok;go_wp2_with fail
  go_loopw [6,7] (fun v v2 wr=>∃(n f:Nat) (acc:List Lx.PTok) (vv:Value),v=vv∧v2= .int .i64 n∧n≤s.size∧s.size+1≤n+f∧acc.length≤4096∧Hid (Lx.lex s.data.toList=Lx.app acc (Lx.words s.size f acc.length (Lx.tl s n)))∧Hid (wr.ownsRow w.heap.size 144 5 vv acc.length (Lx.flatT acc))∧Below w.heap.size w wr) (fun _ v2 _=>s.size - (intOf v2).toNat)
  case atStart=>
   refine⟨0,s.size+1,[],_,rfl,rfl,by omega,by omega,by simp,?_,World.ownsRow_nil _ _ _ _,Below.refl _ _⟩;show _=_;rw[HL2.out];exact(Lx.words_norm _ _ _ _).symm
  case round=>
   obtain⟨n,f,acc,vv,rfl,rfl,hn,hf,hacc,HM,HO,hbl⟩:=hrel;obtain⟨a,c,rfl⟩:=Lx.row_formS HO.out;obtain⟨f,rfl⟩:∃g,f=g+1:=⟨f - 1,by omega⟩
   obtain⟨n',ok,hg,hnn1,hn'⟩:=Lx.gap_tlS s n hn;have hM:=HM.out;have hend:=Lx.gap_end (s.size - n) (Lx.tl s n) (by rw[Lx.tl_len];exact Nat.le_refl _);rw[Lx.words_step,Lx.tl_len,hg]at hM;rw[hg]at hend;simp only[]at hM hend;rw[Lx.tl_len,show s.size - (s.size - n')=n' by omega]at hM;have hSK:=fun wq=>skipR_any s n (s.size - n) wq (by omega) hn (Nat.le_refl _)
   rw[hg]at hSK;have HBL:=zh hbl;clear HM hbl;cases ok
   case false=>
    rw[Lx.skip_no s n' hn']at hSK;have HR:Hid (Lx.lex s.data.toList=([],n',31)):=hM;clear hM hend hg;go_wp2_with fail
    refine(hSK _).mono ?_;rintro e w2 ⟨rfl,rfl⟩;go_wp2
    go_ret3
    exact .err n' 31 HR.out (by decide) HBL.out rfl
   case true=>
    rw[Lx.skip_ok s n' hn']at hSK;simp only[Bool.true_eq_false,if_false]at hM;by_cases hge2:s.size≤n'
    ·have hgei:(s.size:Int)≤(n':Int):=by omega
     have HR:Hid (Lx.lex s.data.toList=(acc,0,0)):=by
      show _=_;rw[hM,if_pos (Lx.tl_nil s n' hge2)];unfold Lx.app;simp
     clear hM hend hg;go_wp2_with fail
     refine(hSK _).mono ?_;rintro e w2 ⟨rfl,rfl⟩;go_wp2
     go_ret3
     refine⟨HBL.out,.inl ⟨by rw[HR.out],_,rfl,?_⟩⟩;rw[HR.out];exact HO.out
    ·have hlt2:n'<s.size:=by omega
     have hlti:¬ (s.size:Int)≤(n':Int):=by omega
     have hnn:Lx.tl s n'≠[]:=by intro hh;have:=congrArg List.length hh;rw[Lx.tl_len]at this;simp at this;omega
     rw[if_neg hnn]at hM;obtain⟨hwh,h59⟩:=(hend rfl).resolve_left hnn;have h00:(Lx.pk (Lx.tl s n') 0==0)=false:=by
      have hk:=HOK.out n' hlt2;rw[Lx.pk_in s n' 0 hlt2];show(s[n']==0)=false;cases h:(s[n']==0)
      ·rfl
      ·have h':s[n']=0:=by simpa using h
       rw[h']at hk;exact absurd hk (by decide)
     by_cases h4:acc.length=4096
     ·have h4i:4096≤(acc.length:Int):=by omega
      rw[if_pos h4]at hM;have HR:Hid (Lx.lex s.data.toList=([],n',3)):=hM;clear hM h4 hend hg hwh h59 h00;go_wp2_with fail
      refine(hSK _).mono ?_;rintro e w2 ⟨rfl,rfl⟩;go_wp2
      go_ret3
      exact .err n' 3 HR.out (by decide) HBL.out rfl
     ·have h4i:¬4096≤(acc.length:Int):=by omega
      rw[if_neg h4]at hM;have hWD:=fun wq=>wordRs_any s n' wq (by omega) hlt2 (fun j hj h0=>by have hk:=HOK.out j hj;rw[h0]at hk;exact absurd hk (by decide)) (by have h:=hwh;rw[Lx.pk_in s n' 0 hlt2]at h;exact h) (by have h:=h59;rw[Lx.pk_in s n' 0 hlt2]at h;intro h0;rw[show s[n'+0]=s[n']from rfl,h0]at h;exact absurd h (by decide)) (HSIM.out n' hlt2)
      have HSK:=zh hSK;have HWD:=zh hWD;clear hSK hWD
      cases hword:Lx.word (Lx.tl s n')with
      |err cc0=>
       rw[hword]at hM;have hc0:=Lx.word_err _ _ hword;have HR:Hid (Lx.lex s.data.toList=([],n',cc0)):=hM.trans (Lx.app_err _ _ _ hc0);have HWO:=zh hword;clear hM hword hwh h59 h00 hend hg hnn;go_wp2_with fail
       refine(HSK.out _).mono ?_;rintro e w2 ⟨rfl,rfl⟩;go_wp2_with fail
       refine(HWD.out _).mono ?_;intro e w3 hpost;rw[HWO.out]at hpost;obtain⟨kk,z,m,x,cc,rfl,hbw,rfl⟩:=hpost;have hbl3:=zh ((btr HBL.out hbw));have hcb:(cc !=0)=true:=by simp[hc0]
       clear hbw;go_wp2
       go_ret3
       exact .err n' cc HR.out hc0 (hbl3.out.alloc hbl3.out.size _) rfl
      |tok tk rest=>
       rw[hword]at hM;have hlen:=Lx.word_len _ hnn hwh h59 h00 _ _ hword;rw[Lx.tl_len]at hlen;have HWO:=zh hword;clear hword hwh h59 h00 hend hg hnn;have hMM:=zh hM;clear hM;go_wp2_with fail
       refine(HSK.out _).mono ?_;rintro e w2 ⟨rfl,rfl⟩;go_wp2_with fail
       refine(HWD.out _).mono ?_;intro e w3 hpost;rw[HWO.out]at hpost;obtain⟨kk,z,m,x,cc,rfl,hbw,rfl,rfl,rfl,rfl,n2,rfl,hn2,rfl⟩:=hpost;have hM:=hMM.out;rw[Lx.tl_len,show s.size - (s.size - n2)=n2 by omega,Lx.app_cons]at hM;rw[Lx.tl_len]at hlen;have HM2:=zh hM;have hO3:=zh (Lx.own_belS HO.out hbw);have hb3:=hbw.size;have hb2s:=HBL.out.size;have hbl3:=zh ((btr HBL.out hbw));clear hbw hM hMM;have htk:=Lx.TkAt.alloc w3 tk.k (n':Int) (n2:Int) tk.n ⟨tk.s.toArray⟩ 144;have a0:=htk.c0;have a1:=htk.c1;have a2:=htk.c2;have a3:=htk.c3;have a4:=htk.c4;have hfive:=Lx.five_new (w3.alloc (.cells #[.int .i64 tk.k,.int .i64 (n':Int),.int .i64 (n2:Int),.int .i64 tk.n,.string ⟨tk.s.toArray⟩] 144)) tk.k (n':Int) (n2:Int) tk.n ⟨tk.s.toArray⟩ 144;rw[show(w3.alloc (.cells #[.int .i64 tk.k,.int .i64 (n':Int),.int .i64 (n2:Int),.int .i64 tk.n,.string ⟨tk.s.toArray⟩] 144)).heap.size=w3.heap.size+1 by simp]at hfive;have hO4:=(hO3.out.alloc (.cells #[.int .i64 tk.k,.int .i64 (n':Int),.int .i64 (n2:Int),.int .i64 tk.n,.string ⟨tk.s.toArray⟩] 144)).alloc (.cells #[.int .i64 tk.k,.int .i64 (n':Int),.int .i64 (n2:Int),.int .i64 tk.n,.string ⟨tk.s.toArray⟩] 144);have HTK:=zh htk;clear htk;go_wp2_with(at_builtin;refine wpList_append_own _ rfl _ _ 137 rfl w.heap.size 144 i0 (.agg #[.int .i64 0,.int .i64 0,.int .i64 0,.int .i64 0,.string ⟨#[]⟩]) 5 48 Tryz.underlying137 hi hz0 hz1 hz2 rfl (by decide) _ _ _ rfl hO4 ⟨w3.heap.size+1,0,none⟩ 1 1 [.int .i64 tk.k,.int .i64 (n':Int),.int .i64 (n2:Int),.int .i64 tk.n,.string ⟨tk.s.toArray⟩] rfl rfl hfive (fun x hx=>by simp at hx;rcases hx with rfl|rfl|rfl|rfl|rfl <;> rfl) (by unfold maxLen;omega) (by omega) (by simp;omega) ?_;intro v' w5 hown' hgrow3 hnil3;have c5:=World.grownBy.cell hgrow3 (a:=⟨w3.heap.size,2,none⟩) (v:= .int .i64 (n2:Int)) (by rw[World.cell?_alloc_lt _ _ _ (by simp)];exact a2) (Lx.own_neS hO3.out))
       have hb5:Below w.heap.size w3 w5:=Below.grown (((Below.refl w.heap.size w3).alloc (by omega) _).alloc (by simp;omega) _) hgrow3 (by simp;omega) (fun j hj=>(hO4.lt _ hj).1);go_roundw
       case rel=>exact⟨n2,f,acc++[⟨n',n2,tk⟩],_,rfl,rfl,hn2,by omega,by simp;try omega,(by show _=_;rw[HM2.out];simp),zh (by rw[List.length_append,Lx.flat_app];exact hown'),hbl3.out.trans (hb5.mono (by omega))⟩
       case measure=>simp[intOf];omega
end Go.Proofs.YtfjmlfbohenmfaaGreat
namespace Go.Proofs.YtfjmlfbohenmfaaGreat
open Go.RowKit
namespace Cd
instance lawfulBytes:LawfulBEq ByteArray where
 eq_of_beq {a b} h:=by
  have h2:(a.data==b.data)=true:=h;cases a;cases b;rw[beq_iff_eq]at h2;cases h2
  rfl
 rfl {a}:=by
  show(a.data==a.data)=true;simp
end Cd
end Go.Proofs.YtfjmlfbohenmfaaGreat
namespace Go.Proofs.YtfjmlfbohenmfaaGreat
open Go.RowKit
attribute [local go_sem] Oper.semAt_some
theorem sEqual_any{F G:Nat→Prop}(va vb:Value)(m m':List ByteArray)(w:World)(ha:Cd.NameRow F w va m)(hb:Cd.NameRow G w vb m')(hl:m.length≤140737488355328)(_hl':m'.length≤140737488355328):
  Calls Tryz.prog 19 #[va,vb] w fun e w'=>e= .returned (.bool (decide (m=m')))∧Below w.heap.size w w':=by
 obtain⟨a,c,rfl,_,hc⟩:=ha;obtain⟨a',c',rfl,_,hc'⟩:=hb;obtain⟨R,hR⟩:∃R,R=decide (m=m'):=⟨_,rfl⟩
 rw[←hR];by_cases hlen:m.length=m'.length
 case neg=>
  have hne:((m.length:Int) !=(m'.length:Int))=true:=by simpa using fun h=>hlen (by omega)
  have HR:Hid (R=false):=by show _=_;rw[hR];exact decide_eq_false (fun e=>hlen (by rw[e]))
  clear hc hc' hR hlen;go_enter Tryz.func19,Tryz.ntmps19;go_wp2;go_ret;exact⟨by rw[HR.out];rfl,Below.refl _ _⟩
 have hne:((m.length:Int) !=(m'.length:Int))=false:=by simp[hlen]
 have H0:Hid (R=decide (m.drop 0=m'.drop 0)):=by show _=_;rw[List.drop_zero,List.drop_zero];exact hR
 have HC:=zh hc;have HC':=zh hc';have HL:=zh hlen;clear hc hc' hR hlen;go_enter Tryz.func19,Tryz.ntmps19;go_wp2
 go_loopw [13] (fun v wr=>∃k:Nat,v= .int .i64 k∧k≤m.length∧Hid (R=decide (m.drop k=m'.drop k))∧∃q,wr=w.drewN q) (fun v _=>m.length - (intOf v).toNat)
 case atStart=>exact⟨0,rfl,by omega,H0,0,rfl⟩
 case round=>
  obtain⟨k,rfl,hk,HR,q,rfl⟩:=hrel;by_cases hlt:k<m.length
  ·have hlti:(k:Int)<(m.length:Int):=by omega
   have hlt':k<m'.length:=by have:=HL.out;omega
   have hlti':(k:Int)<(m'.length:Int):=by omega
   obtain⟨b,o,rfl,_,hb,hcell⟩:=HC.out (by intro h0;rw[h0]at hlt;simp at hlt);obtain⟨b',o',rfl,_,hb',hcell'⟩:=HC'.out (by intro h0;rw[h0]at hlt';simp at hlt');have x0:=hcell k hlt;have y0:=hcell' k hlt';have hr:=HR.out;rw[List.drop_eq_getElem_cons hlt,List.drop_eq_getElem_cons hlt']at hr;obtain⟨x,hx⟩:∃x,m[k]=x:=⟨_,rfl⟩
   obtain⟨y,hy⟩:∃y,m'[k]=y:=⟨_,rfl⟩
   rw[hx]at x0 hr;rw[hy]at y0 hr;clear hx hy hcell hcell';by_cases hxy:x=y
   ·subst hxy;have hxe:(x !=x)=false:=by simp
    have hxt:(!x.toList==x.toList)=false:=by simp
    have HN:Hid (R=decide (m.drop (k+1)=m'.drop (k+1))):=by show _=_;rw[hr];simp
    clear hr;go_wp2
    go_quiet (fail)
    go_wp2;go_roundw
    case rel=>exact⟨k+1,by simp,by omega,HN,_,rfl⟩
    case measure=>simp[intOf];omega
   ·have hxe:(x !=y)=true:=bne_iff_ne.2 hxy;have hxt:(x.toList==y.toList)=false:=by
     rw[ByteArray.toList_eq,ByteArray.toList_eq,beq_eq_false_iff_ne];intro e;apply hxy;cases x;cases y;cases Array.toList_inj.1 e
     rfl
    have HN:Hid (R=false):=by show _=_;rw[hr];simp[hxy]
    clear hr hxy;go_wp2
    go_quiet (fail)
    go_wp2;go_ret;exact⟨by rw[HN.out];rfl,⟨rfl,rfl,rfl,Nat.le_refl _,fun _ _=>rfl⟩⟩
  ·have hge:(m.length:Int)≤(k:Int):=by omega
   have HN:Hid (R=true):=by show _=_;rw[HR.out,List.drop_eq_nil_of_le (by omega),List.drop_eq_nil_of_le (by have:=HL.out;omega)];rfl
   go_wp2;go_ret;exact⟨by rw[HN.out];rfl,⟨rfl,rfl,rfl,Nat.le_refl _,fun _ _=>rfl⟩⟩
end Go.Proofs.YtfjmlfbohenmfaaGreat
namespace Go.Proofs.YtfjmlfbohenmfaaGreat
open Go.ChangeShapes Go.WideShapes Go.ChangeAt Go.RowKit
open Go.ChangeMaps (open_string shut_string)
end Go.Proofs.YtfjmlfbohenmfaaGreat
namespace Go.Proofs.YtfjmlfbohenmfaaGreat
open Go.ChangeShapes Go.WideShapes Go.ChangeAt Go.RowKit Go.Deep
namespace Co
open Dt (Fits open_row gather spot_none add_none open_ints)
section
variable {H:Type} {enc:TypeId×Value→H} {P:Program} {w:World} {base:Nat} {spare:Nat→Bool} {held:Bool}
theorem trod_core{t:TypeId}{f0 f1 f2 f3 f4 f5:Field}{fuel:Nat}{cs:List Value}{x:DataW H×List MemPlace}(hs:P.underlying t=some (.struct #[f0,f1,f2,f3,f4,f5]))(hC:P.cellsOf t=11)
  (ho:f0.offset=0∧f1.offset=1∧f2.offset=2∧f3.offset=3∧f4.offset=9∧f5.offset=10) (hk:P.cellsOf f0.type=1∧P.cellsOf f1.type=1∧P.cellsOf f2.type=1∧P.cellsOf f3.type=6∧P.cellsOf f4.type=1∧P.cellsOf f5.type=1)
  (h:DataW.trod enc P w base spare held fuel t cs=some x) (hf:Fits P t x.1):
  ∃(v0 v1 v2 u0 u1 u2 u3 u4 u5 v4 v5:Value) (y0 y1 y2 y3 y4 y5:DataW H×List MemPlace) (n:Nat),fuel=n+1∧cs=[v0,v1,v2,u0,u1,u2,u3,u4,u5,v4,v5]∧(DataW.trod enc P w base spare held n f0.type [v0]=some y0∧Fits P f0.type y0.1)∧(DataW.trod enc P w base spare held n f1.type [v1]=some y1∧Fits P f1.type y1.1)∧(DataW.trod enc P w base spare held n f2.type [v2]=some y2∧Fits P f2.type y2.1)∧(DataW.trod enc P w base spare held n f3.type [u0,u1,u2,u3,u4,u5]=some y3∧Fits P f3.type y3.1)∧(DataW.trod enc P w base spare held n f4.type [v4]=some y4∧Fits P f4.type y4.1)∧(DataW.trod enc P w base spare held n f5.type [v5]=some y5∧Fits P f5.type y5.1):=by
 obtain⟨xs,n,hn,hx,hsz,hlen,hg⟩:=DataW.trod_struct hs h;obtain⟨o0,o1,o2,o3,o4,o5⟩:=ho;obtain⟨k0,k1,k2,k3,k4,k5⟩:=hk
 match cs,hsz.trans hC with
 |[c0,c1,c2,c3,c4,c5,c6,c7,c8,c9,c10],_=>
  match xs,hlen with
  |[y0,y1,y2,y3,y4,y5],_=>
   have hw:∀(i:Nat) (f:Field) (y:DataW H×List MemPlace),#[f0,f1,f2,f3,f4,f5][i]?=some f→[y0,y1,y2,y3,y4,y5][i]?=some y→Fits P f.type y.1:=by
    intro i f y h1 h2 m hm;refine hf m ?_;rw[hx];show m∈(DataW.agg ([y0,y1,y2,y3,y4,y5].map (·.1))).weights P t;simp only[DataW.weights,hs];refine DataW.weights_mem_each (j:=i) (t:=f.type) (d:=y.1) ?_ ?_ m hm
    ·rw[List.getElem?_map,Array.getElem?_toList,h1];rfl
    ·rw[List.getElem?_map,h2];rfl
   exact⟨c0,c1,c2,c3,c4,c5,c6,c7,c8,c9,c10,y0,y1,y2,y3,y4,y5,n,hn,rfl,⟨by simpa[o0,k0]using hg 0 f0 rfl,hw 0 f0 y0 rfl rfl⟩,⟨by simpa[o1,k1]using hg 1 f1 rfl,hw 1 f1 y1 rfl rfl⟩,⟨by simpa[o2,k2]using hg 2 f2 rfl,hw 2 f2 y2 rfl rfl⟩,⟨by simpa[o3,k3]using hg 3 f3 rfl,hw 3 f3 y3 rfl rfl⟩,⟨by simpa[o4,k4]using hg 4 f4 rfl,hw 4 f4 y4 rfl rfl⟩,⟨by simpa[o5,k5]using hg 5 f5 rfl,hw 5 f5 y5 rfl rfl⟩⟩
end
section
variable {H:Type} {enc:TypeId×Value→H} {w:World} {base:Nat} {spare:Nat→Bool} {held:Bool}
theorem wfs_of{l:List C}(h:∀j,(hj:j<l.length)→Wf l[j]):Wfs l:=by
 induction l with
 |nil=>rw[Wfs];trivial
 |cons a l ih=>
  rw[Wfs];exact⟨h 0 (by simp),ih (fun j hj=>h (j+1) (by simpa using hj))⟩
theorem open_cores{fuel:Nat}{v:Value}{x:DataW H×List MemPlace}(h:DataW.trod enc Tryz.prog w base spare held fuel 26 [v]=some x)(hf:Fits Tryz.prog 26 x.1)
  (ih:∀n',n'<fuel→∀cs y,DataW.trod enc Tryz.prog w base spare held n' 28 cs=some y→Fits Tryz.prog 28 y.1→∃(c:C) (vm vl vt vp vk:Value),cs=[.int .i64 c.k,.int .i64 c.n,.string c.s,.int .i64 c.d.k,.int .i64 c.d.n,.string c.d.s,vm,vl,vt,vp,vk]∧Wf c∧Rep (fun _=>True) w c vm vl vt vp vk):
  ∃l:List C,Row (fun _=>True) w v l∧l.length≤140737488355328∧Wfs l:=by
 rcases open_row Tryz.underlying26 h hf with h0|⟨a,len,cap,n,hn,hcs,hl,hb,hel⟩
 ·obtain rfl:v= .slice none 0 0:=by simpa using h0
  exact⟨[],⟨none,0,rfl,Nat.le_refl _,fun h=>absurd rfl h⟩,by simp,by rw[Wfs];trivial⟩
 ·obtain rfl:v= .slice (some a) len cap:=by simpa using hcs
  have hC:Tryz.prog.cellsOf 28=11:=by kernel_rfl
  have hB:Tryz.prog.bytesOf 28=184:=by kernel_rfl
  rw[hB]at hb;rw[hC]at hel;have hr:reachBytes=140737488351232:=by decide
  obtain⟨l,hm,hq⟩:=gather (fun i (c:C)=>Wf c∧∃vm vl vt vp vk,Rep (fun _=>True) w c vm vl vt vp vk∧∀j,j<11→w.cell? ((a.add (i*11)).add j)=[Value.int .i64 c.k,.int .i64 c.n,.string c.s,.int .i64 c.d.k,.int .i64 c.d.n,.string c.d.s,vm,vl,vt,vp,vk][j]?) len (fun i hi=>by
   obtain⟨cs',y,hc,ht,hfy⟩:=hel i hi;obtain⟨c,vm,vl,vt,vp,vk,e0,hw,hr⟩:=ih n (by omega) cs' y ht hfy;subst e0;obtain⟨_,_,hat⟩:=World.cells?_some hc;exact⟨c,hw,vm,vl,vt,vp,vk,hr,hat⟩)
  refine⟨l,⟨some a,cap,by rw[hm],by omega,fun hne=> ?_⟩,by omega,wfs_of (fun j hj=>(hq j hj).1)⟩;have hpos:0<l.length:=List.length_pos_iff.2 hne;obtain⟨b,off,spot⟩:=a;obtain⟨_,vm,vl,vt,vp,vk,_,h6⟩:=hq 0 hpos;have e0:=h6 0 (by omega);rw[Nat.zero_mul]at e0;have hsp:spot=none:=by
   have e9:(((⟨b,off,spot⟩:Addr).add 0).add 0)=(⟨b,off,spot⟩:Addr).add 0:=by unfold Addr.add;simp
   rw[e9]at e0;exact spot_none e0 rfl
  subst hsp;rw[add_none,add_none]at e0;refine⟨b,off,rfl,trivial,block_lt_of_cell e0,Reps.of (fun j hj=> ?_)⟩;obtain⟨_,vm,vl,vt,vp,vk,hrep,h6⟩:=hq j hj;refine⟨vm,vl,vt,vp,vk,⟨?_,?_,?_,?_,?_,?_,?_,?_,?_,?_,?_⟩,hrep⟩
  ·have:=h6 0 (by omega);rw[add_none,add_none]at this;exact this
  ·have:=h6 1 (by omega);rw[add_none,add_none]at this;exact this
  ·have:=h6 2 (by omega);rw[add_none,add_none]at this;exact this
  ·have:=h6 3 (by omega);rw[add_none,add_none]at this;exact this
  ·have:=h6 4 (by omega);rw[add_none,add_none]at this;exact this
  ·have:=h6 5 (by omega);rw[add_none,add_none]at this;exact this
  ·have:=h6 6 (by omega);rw[add_none,add_none]at this;exact this
  ·have:=h6 7 (by omega);rw[add_none,add_none]at this;exact this
  ·have:=h6 8 (by omega);rw[add_none,add_none]at this;exact this
  ·have:=h6 9 (by omega);rw[add_none,add_none]at this;exact this
  ·have:=h6 10 (by omega);rw[add_none,add_none]at this;exact this
theorem open_fuel:∀(fuel:Nat) (cs:List Value) (y:DataW H×List MemPlace),DataW.trod enc Tryz.prog w base spare held fuel 28 cs=some y→Fits Tryz.prog 28 y.1→∃(c:C) (vm vl vt vp vk:Value),cs=[.int .i64 c.k,.int .i64 c.n,.string c.s,.int .i64 c.d.k,.int .i64 c.d.n,.string c.d.s,vm,vl,vt,vp,vk]∧Wf c∧Rep (fun _=>True) w c vm vl vt vp vk:=by
 intro fuel
 induction fuel using Nat.strongRecOn with
 |_ fuel ih=>
  intro cs y h hf;have hC:Tryz.prog.cellsOf 28=11:=by kernel_rfl
  obtain⟨v0,v1,v2,u0,u1,u2,u3,u4,u5,v4,v5,y0,y1,y2,y3,y4,y5,n,rfl,rfl,⟨h0,_⟩,⟨h1,_⟩,⟨h2,f2⟩,⟨h3,f3⟩,⟨h4,f4⟩,⟨h5,f5⟩⟩:=trod_core Tryz.underlying28 hC ⟨rfl,rfl,rfl,rfl,rfl,rfl⟩ ⟨by kernel_rfl,by kernel_rfl,by kernel_rfl,by kernel_rfl,by kernel_rfl,by kernel_rfl⟩ h hf;obtain⟨k,e0,_,_⟩:=DataW.trod_int Tryz.underlying3 h0;obtain⟨z,e1,_,hz⟩:=DataW.trod_int Tryz.underlying2 h1;obtain⟨s,e2,hx2,hs⟩:=DataW.trod_string Tryz.underlying9 h2;obtain⟨d,vm,vl,vt,ed,hdw,hdr⟩:=Dt.open_fuel n _ _ h3 f3;obtain⟨m,hm,hml,hmr⟩:=open_ints h4 f4;have ih':∀n',n'<n→∀cs y,DataW.trod enc Tryz.prog w base spare held n' 28 cs=some y→Fits Tryz.prog 28 y.1→∃(c:C) (vm vl vt vp vk:Value),cs=[.int .i64 c.k,.int .i64 c.n,.string c.s,.int .i64 c.d.k,.int .i64 c.d.n,.string c.d.s,vm,vl,vt,vp,vk]∧Wf c∧Rep (fun _=>True) w c vm vl vt vp vk:=fun n' hn=>ih n' (by omega)
  obtain⟨l,hl,hll,hlw⟩:=open_cores h5 f5 ih';obtain rfl:v0= .int .i64 k:=by simpa using e0
  obtain rfl:v1= .int .i64 z:=by simpa using e1
  obtain rfl:v2= .string s:=by simpa using e2
  obtain⟨rfl,rfl,rfl,rfl,rfl,rfl⟩:u0= .int .i64 d.k∧u1= .int .i64 d.n∧u2= .string d.s∧u3=vm∧u4=vl∧u5=vt:=by simpa using ed
  have hz':(decide (IntKind.i64.min≤z)&&decide (z≤IntKind.i64.max))=true:=hz;rw[show IntKind.i64.min= -9223372036854775808 by decide,show IntKind.i64.max=9223372036854775807 by decide]at hz';simp only[Bool.and_eq_true,decide_eq_true_eq]at hz';have hs2:s.size≤140737488355328:=by
   have hr:reachBytes=140737488351232:=by decide
   have h9:=f2 s.data.toList.length (by rw[hx2];simp[DataW.weights]);have e9:s.data.toList.length=s.size:=by rw[Array.length_toList];rfl
   omega
  refine⟨.mk k z s d m l,u3,u4,u5,v4,v5,rfl,?_,(rep_iff _ _ _ _ _ _ _ _).2 ⟨hdr,hm,hl⟩⟩;rw[Wf];exact⟨hz',hs2,hdw,hml,hmr,hll,hlw⟩
end
theorem open_core{H:Type}{enc:TypeId×Value→H}{w:World}{base:Nat}{spare:Nat→Bool}{held:Bool}{r:Reach}{b0:Nat}{v:Value}{d:DataW H}{p:List MemPlace}
  (hv:Value.okWide Tryz.prog w r b0 28 v) (h:DataW.Trod enc Tryz.prog w base spare held 28 v d p) (hf:Dt.Fits Tryz.prog 28 d):
  ∃(c:C) (vm vl vt vp vk:Value),v=V c vm vl vt vp vk∧Wf c∧Rep (fun _=>True) w c vm vl vt vp vk:=by
 obtain⟨cs,rfl,hsz⟩:=okWide_struct Tryz.underlying28 hv;obtain⟨fuel,hfu⟩:=h;obtain⟨c,vm,vl,vt,vp,vk,e,hw,hr⟩:=open_fuel fuel _ _ hfu hf;obtain⟨l⟩:=cs;have e':l=[.int .i64 c.k,.int .i64 c.n,.string c.s,.int .i64 c.d.k,.int .i64 c.d.n,.string c.d.s,vm,vl,vt,vp,vk]:=by simpa[Value.cells]using e
 subst e';exact⟨c,vm,vl,vt,vp,vk,rfl,hw,hr⟩
end Co
end Go.Proofs.YtfjmlfbohenmfaaGreat
