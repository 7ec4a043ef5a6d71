/-
 Data in memory of their own: what is so great at most, rows of data that are made.
-/
import Derived.Test.YtfjmlfbohenmfaaGreatDtSameq
import Derived.Test.YtfjmlfbohenmfaaGreatMinq
namespace Go.Proofs.YtfjmlfbohenmfaaGreat
open Go.RowKit
namespace Dt
mutual
def Fine:D→Prop
 | .mk _ _ _ m l t=>m.length≤16∧l.length≤4096∧t.length≤4096∧Fines l∧Fines t
def Fines:List D→Prop
 |[]=>True
 |d :: r=>Fine d∧Fines r
end
theorem single_m{d:D}(h:single d=true):d.m.length≤16:=by
 cases d with
 |mk k n s m l t=>
  dsimp only[single]at h;show m.length≤16;have he:∀(m:List Int),m.isEmpty=true→m.length≤16:=fun m h=>by
   have:=List.isEmpty_iff.1 h;rw[this];simp
  by_cases h1:k=1
  ·rw[if_pos h1]at h;simp only[Bool.and_eq_true]at h;exact he m h.1.1.2
  rw[if_neg h1]at h;by_cases h2:k=2
  ·rw[if_pos h2]at h;simp only[Bool.and_eq_true]at h;exact he m h.1.1.2
  rw[if_neg h2]at h;by_cases h3:k=3
  ·rw[if_pos h3]at h;simp only[Bool.and_eq_true]at h;exact he m h.1.1.2
  rw[if_neg h3]at h;by_cases h4:k=4
  ·rw[if_pos h4]at h;simp only[Bool.and_eq_true]at h;exact he m h.1.1.2
  rw[if_neg h4]at h;by_cases h5:k=5
  ·rw[if_pos h5]at h;simp only[Bool.and_eq_true,decide_eq_true_eq]at h;exact h.1.1.1.1.2
  rw[if_neg h5]at h;by_cases h6:k=6∨k=8
  ·rw[if_pos h6]at h;simp only[Bool.and_eq_true]at h;exact he m h.1.2
  rw[if_neg h6]at h;by_cases h7:k=7
  ·rw[if_pos h7]at h;simp only[Bool.and_eq_true]at h;exact he m h.1.1.2
  ·rw[if_neg h7]at h;simp at h
mutual
theorem chk_fine:∀(d:D) (deep p:Nat),p≤4096→(chk d deep p).1=0→p+1≤(chk d deep p).2∧Fine d
 | .mk k n s m l t,deep,p,hp,h=>by
  rw[chk]at h ⊢;split at h
  ·simp at h
  rename_i h1;rw[if_neg h1];split at h
  ·simp at h
  rename_i h2;rw[if_neg h2];split at h
  ·rename_i h3;rw[if_pos h3];split at h
   ·rename_i h4;rw[if_pos h4];have a1:=chks_fine l (deep+1) (p+1) (by omega) h4;have a2:=chks_fine t (deep+1) _ (chks_le l (deep+1) (p+1) (by omega)) h;have b1:=chks_le l (deep+1) (p+1) (by omega);have b2:=chks_le t (deep+1) _ b1;refine⟨by omega,?_⟩;rw[Fine];exact⟨single_m h3,by omega,by omega,a1.2,a2.2⟩
   ·rename_i h4;exact absurd h h4
  ·simp at h
theorem chks_fine:∀(l:List D) (deep p:Nat),p≤4096→(chks l deep p).1=0→p+l.length≤(chks l deep p).2∧Fines l
 |[],_,p,_,_=>by rw[chks,Fines];exact⟨by simp,trivial⟩
 |d :: r,deep,p,hp,h=>by
  rw[chks]at h ⊢;split at h
  ·rename_i h1;rw[if_pos h1];have a1:=chk_fine d deep p hp h1;have a2:=chks_fine r deep _ (chk_le d deep p hp) h;rw[Fines];refine⟨by rw[List.length_cons];omega,a1.2,a2.2⟩
  ·rename_i h1;exact absurd h h1
end
theorem fine_of_check{d:D}(h:check d=0):Fine d:=(chk_fine d 1 0 (by omega) h).2
theorem Fines.at:∀ {l:List D},Fines l→∀y∈l,Fine y
 |[],_,y,h=>absurd h (by simp)
 |d :: r,hw,y,h=>by
  rw[Fines]at hw;rcases List.mem_cons.1 h with rfl|h
  ·exact hw.1
  ·exact Fines.at hw.2 y h
theorem fine_parts{d:D}(h:Fine d):d.m.length≤16∧d.l.length≤4096∧d.t.length≤4096∧Fines d.l∧Fines d.t:=by cases d;rw[Fine]at h;exact h
structure Rowing(w:World)(base:Nat)(v:Value)(ls:List P):Prop where
 row:w.ownsRow base 25 6 v ls.length (flatP ls)
 rep:∀p∈ls,Rep (fun k=>base≤k∧v.ownBlock≠some k) w p.d p.vm p.vl p.vt
theorem Rowing.nil(w:World)(base:Nat):Rowing w base (.slice none 0 0) []:=⟨World.ownsRow_nil _ _ _ _,by simp⟩
theorem Rowing.keep{S:Nat→Prop}{w w':World}{base:Nat}{v:Value}{ls:List P}(h:Rowing w base v ls)(hk:Keep S w w')(hS:∀k,base≤k→k<w.heap.size→¬S k):Rowing w' base v ls:=
 ⟨own_keep h.row hk (fun k hk=>hS k (own_lt h.row k hk).1 (own_lt h.row k hk).2),fun p hp=>Rep.keep hk (fun b hb hb'=>hS b hb.1 hb') p.d (h.rep p hp)⟩
theorem Rowing.below{w w':World}{base:Nat}{v:Value}{ls:List P}(h:Rowing w base v ls)(hb:Below w.heap.size w w'):Rowing w' base v ls:=
 h.keep (S:=fun _=>False) ((Keep.refl _ w).below hb) (fun _ _ _ h=>h)
theorem Rowing.push{w w1 wA w5:World}{base:Nat}{v v':Value}{ls:List P}{p:P}(h:Rowing w base v ls)(hbase:base≤w.heap.size)(h1:Below w.heap.size w w1)(hp:Rep (fun k=>w.heap.size≤k) w1 p.d p.vm p.vl p.vt)(hA:Below w1.heap.size w1 wA)
  (hown:w5.ownsRow base 25 6 v' (ls.length+1) (flatP ls++p.cells)) (hg:wA.grownBy w5 v.ownBlock) (hat:v'.ownBlock=v.ownBlock∨v'.ownBlock=some wA.heap.size):
  Rowing w5 base v' (ls++[p])∧Keep (fun k=>v.ownBlock=some k) w w5:=by
 have hwA:Below w.heap.size w wA:=btr h1 hA;have hK:Keep (fun k=>v.ownBlock=some k) w w5:=⟨hg.os.trans hwA.os,hg.tape.trans hwA.tape,hg.output.trans hwA.output,Nat.le_trans hwA.size hg.size,fun k hk hn=>(hg.block k (by have:=hwA.size;omega) (fun e=>hn e.symm)).trans (hwA.block k hk)⟩
 have hK1:Keep (fun k=>v.ownBlock=some k) w1 w5:=⟨hg.os.trans hA.os,hg.tape.trans hA.tape,hg.output.trans hA.output,Nat.le_trans hA.size hg.size,fun k hk hn=>(hg.block k (by have:=hA.size;omega) (fun e=>hn e.symm)).trans (hA.block k hk)⟩
 have hvl:∀k,v.ownBlock=some k→base≤k∧k<w.heap.size:=own_lt h.row;refine⟨⟨by rw[List.length_append,flatP_app];exact hown,fun q hq=> ?_⟩,hK⟩;rcases List.mem_append.1 hq with hq|hq
 ·have hr:=Rep.keep hK (fun b hb _ e=>hb.2 e) q.d (h.rep q hq);have hr0:Rep (fun k=>k<w.heap.size∧base≤k∧v.ownBlock≠some k) w q.d q.vm q.vl q.vt:=Rep.mono (fun b hb hl=>⟨hl,hb⟩) q.d (h.rep q hq);refine Rep.mono (fun b hb _=>⟨hb.2.1,fun e=> ?_⟩) q.d (Rep.keep hK (fun b hb _ e=>hb.2.2 e) q.d hr0);rcases hat with e'|e'
  ·rw[e']at e;exact hb.2.2 e
  ·rw[e']at e;cases e;have:=hwA.size;omega
 ·obtain rfl:q=p:=by simpa using hq
  have hr0:Rep (fun k=>k<w1.heap.size∧w.heap.size≤k) w1 q.d q.vm q.vl q.vt:=Rep.mono (fun b hb hl=>⟨hl,hb⟩) q.d hp;refine Rep.mono (fun b hb _=>⟨Nat.le_trans hbase hb.2,fun e=> ?_⟩) q.d (Rep.keep hK1 (fun b hb _ e=>by have:=(hvl b e).2;omega) q.d hr0);rcases hat with e'|e'
  ·rw[e']at e;have:=(hvl b e).2;omega
  ·rw[e']at e;cases e;have:=hA.size;omega
theorem Rowing.to_row{w:World}{base:Nat}{v:Value}{ls:List P}(h:Rowing w base v ls):Row (fun k=>base≤k) w v (ls.map P.d):=by
 have hreps:∀g,v.ownBlock=some g→Reps (fun k=>base≤k) w (ls.map P.d) g 0:=by
  intro g hg;refine Reps.of fun j hj=> ?_
  have hj':j<ls.length:=by simpa using hj
  obtain⟨g',c,rfl,_,hs⟩:=part_at h.row j hj';cases hg;refine⟨ls[j].vm,ls[j].vl,ls[j].vt,by rw[Nat.zero_add];simpa using hs,?_⟩;have:=Rep.mono (fun b hb _=>hb.1) _ (h.rep ls[j] (List.getElem_mem hj'));simpa using this
 rcases h.row.2 with⟨h1,h0⟩|⟨g,cap,cur,rfl,e2,e3,e4,_⟩
 ·have:ls=[]:=List.length_eq_zero_iff.1 h0;subst this;exact⟨none,0,by rw[h1];rfl,Nat.le_refl _,fun hn=>absurd rfl hn⟩
 ·refine⟨some ⟨g,0,none⟩,cap,by simp,by simpa using e4,fun _=>⟨g,0,rfl,e2,(Array.getElem?_eq_some_iff.1 e3).1,hreps g rfl⟩⟩
theorem IRow.of_own{w:World}{base:Nat}{v:Value}{m:List Int}(h:w.ownsRow base 3 1 v m.length (m.map (Value.int .i64))):IRow (fun k=>base≤k) w v m:=by
 have hc:=fun g hg=>h.cells (g:=g) hg
 rcases h.2 with⟨h1,h0⟩|⟨g,cap,cur,rfl,e2,e3,e4,_⟩
 ·have:m=[]:=List.length_eq_zero_iff.1 h0;subst this;exact⟨none,0,by rw[h1];rfl,Nat.le_refl _,fun hn=>absurd rfl hn⟩
 ·refine⟨some ⟨g,0,none⟩,cap,rfl,e4,fun _=>⟨g,0,rfl,e2,(Array.getElem?_eq_some_iff.1 e3).1,fun j hj=> ?_⟩⟩;have:=hc g rfl j (.int .i64 m[j]) (by simp[hj]);rw[show(⟨g,0,none⟩:Addr).add j=⟨g,0+j,none⟩by unfold Addr.add;split <;> simp_all]at this;exact this
theorem IRow.src{F:Nat→Prop}{w:World}{a:Option Addr}{c:Nat}{m:List Int}(h:IRow F w (.slice a m.length c) m)(ha:a≠none):Ap.Src w (.slice a m.length c) m.length (m.map (Value.int .i64)):=by
 obtain⟨a',c',h1,h2,h3⟩:=h;cases h1;obtain⟨ad,rfl⟩:=Option.ne_none_iff_exists'.1 ha;refine .inr ⟨ad,c,rfl,fun j u hu=> ?_⟩;have hj:j<m.length:=by simpa using(List.getElem?_eq_some_iff.1 hu).1
 obtain⟨b,o,e1,_,_,hc⟩:=h3 (by intro e;rw[e]at hj;simp at hj);cases e1;have:=hc j hj;rw[show(⟨b,o,none⟩:Addr).add j=⟨b,o+j,none⟩by unfold Addr.add;split <;> simp_all,this];simpa[hj]using hu
def Fresh(n:Nat)(w:World)(x:D)(e:Ending):Prop:=∃vm vl vt,e= .returned (.agg #[.int .i64 x.k,.int .i64 x.n,.string x.s,vm,vl,vt])∧Rep (fun k=>n≤k) w x vm vl vt
end Dt
end Go.Proofs.YtfjmlfbohenmfaaGreat
