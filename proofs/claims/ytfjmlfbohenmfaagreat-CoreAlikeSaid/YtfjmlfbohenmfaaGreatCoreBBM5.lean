/-
  DtGoesPb, CoModelb, CoPlainb, CoFormsb.
-/
import Derived.Test.YtfjmlfbohenmfaaGreatDtAloneb
import Derived.Test.YtfjmlfbohenmfaaGreatCoreBBM2
set_option maxRecDepth 100000
set_option maxHeartbeats 32000000
namespace Go.Proofs.YtfjmlfbohenmfaaGreat
open Go.RowKit
namespace Dt
mutual
def pre:D→List D
 | .mk k n s m l t=> .mk k n s m l t :: (pres l++pres t)
def pres:List D→List D
 |[]=>[]
 |d :: r=>pre d++pres r
end
structure P where
 d:D
 vm:Value
 vl:Value
 vt:Value
def P.cells(p:P):List Value:=[.int .i64 p.d.k,.int .i64 p.d.n,.string p.d.s,p.vm,p.vl,p.vt]
def flatP(ls:List P):List Value:=ls.flatMap P.cells
theorem flatP_app(ls:List P)(p:P):flatP (ls++[p])=flatP ls++p.cells:=by unfold flatP;simp
theorem flatP_length(ls:List P):(flatP ls).length=ls.length*6:=by
 induction ls with
 |nil=>rfl
 |cons a l ih=>
  have e:flatP (a :: l)=a.cells++flatP l:=rfl;rw[e,List.length_append,ih];have:a.cells.length=6:=rfl;simp;omega
structure Wk(w:World)(base B:Nat)(e:Int)(vp vd:Value)(ls:List P)(ds:List Int):Prop where
 c0:w.cell? ⟨B,0,none⟩=some vp
 c1:w.cell? ⟨B,1,none⟩=some vd
 c2:w.cell? ⟨B,2,none⟩=some (.int .i64 e)
 fz:∀j,w.frozen? ⟨B,j,none⟩=false
 rp:w.ownsRow base 25 6 vp ls.length (flatP ls)
 rd:w.ownsRow base 3 1 vd ds.length (ds.map (Value.int .i64))
 np:vp.ownBlock≠some B
 nd:vd.ownBlock≠some B
 pd:∀k,vp.ownBlock=some k→vd.ownBlock≠some k
 rep:∀p∈ls,Rep (fun k=>k<base) w p.d p.vm p.vl p.vt
 len:ls.length≤4096
 eq:ds.length≤ls.length
 le:base≤B
def WS(B:Nat)(vp vd:Value)(k:Nat):Prop:=k=B∨vp.ownBlock=some k∨vd.ownBlock=some k
def RV(w:World)(v v':Value):Prop:=∀k,v'.ownBlock=some k→v.ownBlock=some k∨w.heap.size≤k
theorem own_keep{S:Nat→Prop}{w w':World}{b size n:Nat}{e:TypeId}{v:Value}{xs:List Value}(h:w.ownsRow b e size v n xs)(hc:Keep S w w')(hS:∀k,v.ownBlock=some k→¬S k):w'.ownsRow b e size v n xs:=by
 obtain⟨h0,h1⟩:=h;refine⟨h0,?_⟩;rcases h1 with h1|⟨g,cap,cur,e1,e2,e3,e4⟩
 ·exact .inl h1
 ·refine .inr ⟨g,cap,cur,e1,e2,?_,e4⟩;rw[hc.block g (Array.getElem?_eq_some_iff.1 e3).1 (hS g (by rw[e1];rfl))];exact e3
theorem row_form{w:World}{base size n:Nat}{e:TypeId}{v:Value}{xs:List Value}(h:w.ownsRow base e size v n xs):∃a c,v= .slice a n c:=by
 rcases h.2 with⟨rfl,rfl⟩|⟨g,cap,cur,rfl,_⟩
 ·exact⟨none,0,rfl⟩
 ·exact⟨_,_,rfl⟩
theorem own_lt{w:World}{base size n:Nat}{e:TypeId}{v:Value}{xs:List Value}(h:w.ownsRow base e size v n xs):∀k,v.ownBlock=some k→base≤k∧k<w.heap.size:=by
 intro k hk;rcases h.2 with⟨rfl,_⟩|⟨g,cap,cur,rfl,e2,e3,_⟩
 ·cases hk
 ·have:g=k:=by cases hk;rfl
  subst this;exact⟨e2,(Array.getElem?_eq_some_iff.1 e3).1⟩
theorem Wk.below{w w':World}{base B:Nat}{e:Int}{vp vd:Value}{ls:List P}{ds:List Int}(h:Wk w base B e vp vd ls ds)(hb:Below w.heap.size w w'):Wk w' base B e vp vd ls ds:=by
 have hk:=(Keep.refl (fun _=>False) w).below hb;have hl:B<w.heap.size:=block_lt_of_cell h.c0;exact⟨(hk.cell 0 hl (fun h=>h)).trans h.c0,(hk.cell 1 hl (fun h=>h)).trans h.c1,(hk.cell 2 hl (fun h=>h)).trans h.c2,fun j=>(hk.frozen j hl (fun h=>h)).trans (h.fz j),own_keep h.rp hk (fun _ _ h=>h),own_keep h.rd hk (fun _ _ h=>h),h.np,h.nd,h.pd,fun p hp=>(h.rep p hp).below hb,h.len,h.eq,h.le⟩
theorem Wk.fail{w:World}{base B:Nat}{e:Int}{vp vd:Value}{ls:List P}{ds:List Int}(h:Wk w base B e vp vd ls ds)(e':Int):Wk (w.setCell ⟨B,2,none⟩ (.int .i64 e')) base B e' vp vd ls ds:=by
 have hk:Keep (fun k=>k=B) w (w.setCell ⟨B,2,none⟩ (.int .i64 e')):=(Keep.refl (fun k=>k=B) w).setCell rfl 2 _;have n:∀j,j≠2→(⟨B,2,none⟩:Addr)≠⟨B,j,none⟩:=fun j hj e=>by cases e;exact hj rfl
 refine⟨(World.cell?_setCell_other _ _ _ _ (n 0 (by omega))).trans h.c0,(World.cell?_setCell_other _ _ _ _ (n 1 (by omega))).trans h.c1,World.cell?_setCell_same' _ _ _ (by rw[h.c2];rfl),fun j=>(World.frozen?_setCell _ _ _ _).trans (h.fz j),own_keep h.rp hk (fun k hk e=>h.np (by rw[hk,e])),own_keep h.rd hk (fun k hk e=>h.nd (by rw[hk,e])),h.np,h.nd,h.pd,fun p hp=>Rep.keep hk (fun b hb _ e=> ?_) p.d (h.rep p hp),h.len,h.eq,h.le⟩;have:=h.le;omega
def chkE(x:D)(deep:Nat)(r:Int×Nat):Int×Nat:=if r.1=0 then chk x deep r.2 else r
def chksE(l:List D)(deep:Nat)(r:Int×Nat):Int×Nat:=if r.1=0 then chks l deep r.2 else r
theorem chksE_cons(d:D)(l:List D)(deep:Nat)(r:Int×Nat):chksE (d :: l) deep r=chksE l deep (chkE d deep r):=by
 unfold chksE chkE;by_cases h:r.1=0
 ·rw[if_pos h,if_pos h,chks]
 ·rw[if_neg h,if_neg h,if_neg h]
theorem chksE_nil(deep:Nat)(r:Int×Nat):chksE [] deep r=r:=by
 unfold chksE;obtain⟨a,b⟩:=r;by_cases h:a=0
 ·subst h;rw[if_pos rfl,chks]
 ·rw[if_neg h]
theorem chksE_drop{L:List D}{deep j:Nat}{r:Int×Nat}(hj:j<L.length):chksE (L.drop j) deep r=chksE (L.drop (j+1)) deep (chkE L[j] deep r):=by
 rw[List.drop_eq_getElem_cons hj,chksE_cons]
theorem chk_goodE{d:D}{deep p:Nat}(h:¬64<deep)(h':¬4096≤p)(hs:single d=true):chk d deep p=chksE d.t (deep+1) (chksE d.l (deep+1) (0,p+1)):=by
 rw[chk_good h h' hs];unfold chksE;rw[if_pos rfl]
theorem pres_snoc:∀(l:List D) (j:Nat) (h:j<l.length),pres (l.take (j+1))=pres (l.take j)++pre l[j]
 |[],j,h=>absurd h (by simp)
 |d :: r,0,h=>by simp[pres]
 |d :: r,j+1,h=>by
  have:=pres_snoc r j (by simpa using h);simp only[List.take_succ_cons,pres,List.getElem_cons_succ,this,List.append_assoc]
theorem pre_eq(d:D):pre d=d :: (pres d.l++pres d.t):=by cases d;rw[pre];rfl
theorem grown_below{n:Nat}{w wA w':World}{row:Option Nat}(hb:Below n w wA)(hg:wA.grownBy w' row)(hn:n≤w.heap.size)(hrow:∀k,row=some k→n≤k):Below n w w':=
 ⟨hg.os.trans hb.os,hg.tape.trans hb.tape,hg.output.trans hb.output,Nat.le_trans hb.size hg.size,fun k hk=>(hg.block k (by have:=hb.size;omega) (fun e=>by have:=hrow k e.symm;omega)).trans (hb.block k hk)⟩
theorem Rep.keep2{F:Nat→Prop}{w w':World}{d:D}{vm vl vt:Value}(h:Rep F w d vm vl vt)(hb:Below w.heap.size w w'):Rep F w' d vm vl vt:=h.below hb
theorem grown_keep{w wA w':World}{row:Option Nat}{B:Nat}(hb:Below w.heap.size w wA)(hg:wA.grownBy w' row):Keep (fun k=>k=B∨row=some k) w w':=
 ⟨hg.os.trans hb.os,hg.tape.trans hb.tape,hg.output.trans hb.output,Nat.le_trans hb.size hg.size,fun k hk hn=>(hg.block k (by have:=hb.size;omega) (fun e=>hn (.inr e.symm))).trans (hb.block k hk)⟩
theorem Wk.push{w wA w5:World}{base B g cap:Nat}{vp vd:Value}{ls:List P}{ds:List Int}(h:Wk w base B 0 vp vd ls ds)(hl:ls.length<4096)(p:P)(hp:Rep (fun k=>k<base) w p.d p.vm p.vl p.vt)(hA:Below w.heap.size w wA)
  {zs:List Value} (hz:zs.length=6) (hown:w5.ownsRow base 25 6 (.slice (some ⟨g,0,none⟩) (ls.length+1) cap) (ls.length+1) (flatP ls++zs)) (hg:wA.grownBy w5 vp.ownBlock) (hat:vp.ownBlock=some g∨w.heap.size≤g):
  Wk ((w5.setCells g (ls.length*6) p.cells).setCell ⟨B,0,none⟩ (.slice (some ⟨g,0,none⟩) (ls.length+1) cap)) base B 0 (.slice (some ⟨g,0,none⟩) (ls.length+1) cap) vd (ls++[p]) ds∧
  Keep (WS B vp vd) w ((w5.setCells g (ls.length*6) p.cells).setCell ⟨B,0,none⟩ (.slice (some ⟨g,0,none⟩) (ls.length+1) cap))∧RV w vp (.slice (some ⟨g,0,none⟩) (ls.length+1) cap):=by
 have hB:B<w.heap.size:=block_lt_of_cell h.c0;have hgB:g≠B:=by
  rcases hat with e|e
  ·intro e';exact h.np (by rw[e,e'])
  ·omega
 have hK5:Keep (fun k=>vp.ownBlock=some k) w w5:=⟨hg.os.trans hA.os,hg.tape.trans hA.tape,hg.output.trans hA.output,Nat.le_trans hA.size hg.size,fun k hk hn=>(hg.block k (by have:=hA.size;omega) (fun e=>hn e.symm)).trans (hA.block k hk)⟩
 have hKS:Keep (WS B vp vd) w w5:=hK5.mono (fun k _ e=> .inr (.inl e));have hrow:=Pt.own_put p.cells hown (by rw[hz];rfl) (flatP_length ls);have hbase:=h.le;have hgb:=(Pt.own_block hown).1
 -- the parts behind the two stores
 have hKg:Keep (fun k=>k=g∨vp.ownBlock=some k) w (w5.setCells g (ls.length*6) p.cells):=Pt.keep_setCells (.inl rfl) _ _ (hK5.mono (fun k _ e=> .inr e));have hKf:Keep (fun k=>k=B∨k=g∨vp.ownBlock=some k) w ((w5.setCells g (ls.length*6) p.cells).setCell ⟨B,0,none⟩ (.slice (some ⟨g,0,none⟩) (ls.length+1) cap)):=(hKg.mono (fun k _ e=> .inr e)).setCell (.inl rfl) 0 _;have hSvd:∀k,vd.ownBlock=some k→¬ (k=g∨vp.ownBlock=some k):=by
  intro k hk e;rcases e with e|e
  ·subst e;rcases hat with e'|e'
   ·exact h.pd k e' hk
   ·have:=(own_lt h.rd k hk).2;omega
  ·exact h.pd k e hk
 have hSB:¬ (B=g∨vp.ownBlock=some B):=by
  intro e;rcases e with e|e
  ·exact hgB e.symm
  ·exact h.np e
 have c0:((w5.setCells g (ls.length*6) p.cells).cell? ⟨B,0,none⟩).isSome=true:=by rw[hKg.cell 0 hB hSB,h.c0];rfl
 have ne:∀j,j≠0→(⟨B,0,none⟩:Addr)≠⟨B,j,none⟩:=fun j hj e=>by cases e;exact hj rfl
 refine⟨⟨World.cell?_setCell_same' _ _ _ c0,?_,?_,fun j=> ?_,?_,?_,?_,h.nd,?_,?_,?_,?_,hbase⟩,?_,?_⟩
 ·rw[World.cell?_setCell_other _ _ _ _ (ne 1 (by omega)),hKg.cell 1 hB hSB];exact h.c1
 ·rw[World.cell?_setCell_other _ _ _ _ (ne 2 (by omega)),hKg.cell 2 hB hSB];exact h.c2
 ·rw[World.frozen?_setCell,hKg.frozen j hB hSB];exact h.fz j
 ·rw[List.length_append,flatP_app];exact own_keep (S:=fun k=>k=B) hrow ((Keep.refl (fun k=>k=B) _).setCell rfl 0 _) (fun k hk e=>by cases hk;exact hgB e)
 ·exact own_keep h.rd hKf (fun k hk e=>by
   rcases e with e|e
   ·exact h.nd (by rw[hk,e])
   ·exact hSvd k hk e)
 ·intro e;cases e;exact hgB rfl
 ·intro k hk hk';cases hk;exact hSvd _ hk' (.inl rfl)
 ·intro q hq;have hqr:Rep (fun k=>k<base) w q.d q.vm q.vl q.vt:=by
   rcases List.mem_append.1 hq with hq|hq
   ·exact h.rep q hq
   ·obtain rfl:q=p:=by simpa using hq
    exact hp
  refine Rep.keep hKf (fun b hb hb' e=> ?_) q.d hqr;rcases e with e|e|e
  ·omega
  ·omega
  ·have:=(own_lt h.rp b e).1;omega
 ·rw[List.length_append];show ls.length+1≤4096;omega
 ·rw[List.length_append];have:=h.eq;show ds.length≤ls.length+1;omega
 ·refine hKf.mono (fun k hk e=> ?_);rcases e with e|e|e
  ·exact .inl e
  ·subst e;rcases hat with e'|e'
   ·exact .inr (.inl e')
   ·omega
  ·exact .inr (.inl e)
 ·intro k hk;cases hk;exact hat
theorem Wk.pushD{w wA w5:World}{base B:Nat}{vp vd vd':Value}{ls:List P}{ds:List Int}(h:Wk w base B 0 vp vd ls ds)(hl:ds.length+1≤ls.length)(x:Int)(hA:Below w.heap.size w wA)
  (hown:w5.ownsRow base 3 1 vd' (ds.length+1) (ds.map (Value.int .i64)++[.int .i64 x])) (hg:wA.grownBy w5 vd.ownBlock) (hat:vd'.ownBlock=vd.ownBlock∨vd'.ownBlock=some wA.heap.size):
  Wk (w5.setCell ⟨B,1,none⟩ vd') base B 0 vp vd' ls (ds++[x])∧Keep (WS B vp vd) w (w5.setCell ⟨B,1,none⟩ vd')∧RV w vd vd':=by
 have hB:B<w.heap.size:=block_lt_of_cell h.c0;have hK5:Keep (fun k=>vd.ownBlock=some k) w w5:=⟨hg.os.trans hA.os,hg.tape.trans hA.tape,hg.output.trans hA.output,Nat.le_trans hA.size hg.size,fun k hk hn=>(hg.block k (by have:=hA.size;omega) (fun e=>hn e.symm)).trans (hA.block k hk)⟩
 have hKf:Keep (fun k=>k=B∨vd.ownBlock=some k) w (w5.setCell ⟨B,1,none⟩ vd'):=(hK5.mono (fun k _ e=> .inr e)).setCell (.inl rfl) 1 _;have hSB:¬ (vd.ownBlock=some B):=h.nd;have hnB:vd'.ownBlock≠some B:=by
  rcases hat with e|e
  ·rw[e];exact h.nd
  ·rw[e];intro e';cases e';have:=hA.size;omega
 have c1:(w5.cell? ⟨B,1,none⟩).isSome=true:=by rw[hK5.cell 1 hB hSB,h.c1];rfl
 have ne:∀j,j≠1→(⟨B,1,none⟩:Addr)≠⟨B,j,none⟩:=fun j hj e=>by cases e;exact hj rfl
 have hbase:=h.le;have hrv:RV w vd vd':=by
  intro k hk;rcases hat with e|e
  ·rw[e]at hk;exact .inl hk
  ·rw[e]at hk;cases hk;have:=hA.size;exact .inr this
 refine⟨⟨?_,World.cell?_setCell_same' _ _ _ c1,?_,fun j=> ?_,?_,?_,h.np,hnB,?_,?_,h.len,by simpa using hl,hbase⟩,?_,hrv⟩
 ·rw[World.cell?_setCell_other _ _ _ _ (ne 0 (by omega)),hK5.cell 0 hB hSB];exact h.c0
 ·rw[World.cell?_setCell_other _ _ _ _ (ne 2 (by omega)),hK5.cell 2 hB hSB];exact h.c2
 ·rw[World.frozen?_setCell,hK5.frozen j hB hSB];exact h.fz j
 ·exact own_keep h.rp hKf (fun k hk e=>by
   rcases e with e|e
   ·exact h.np (by rw[hk,e])
   ·exact h.pd k hk e)
 ·rw[List.length_append,List.map_append];exact own_keep (S:=fun k=>k=B) hown ((Keep.refl (fun k=>k=B) _).setCell rfl 1 _) (fun k hk e=>hnB (by rw[hk,e]))
 ·intro k hk hk';rcases hrv k hk' with e|e
  ·exact h.pd k hk e
  ·have:=(own_lt h.rp k hk).2;omega
 ·intro q hq;refine Rep.keep hKf (fun b hb hb' e=> ?_) q.d (h.rep q hq);rcases e with e|e
  ·omega
  ·have:=(own_lt h.rd b e).1;omega
 ·refine hKf.mono (fun k hk e=> ?_);rcases e with e|e
  ·exact .inl e
  ·exact .inr (.inr e)
def GoPost(w:World)(base B:Nat)(vp vd:Value)(r:Int×Nat)(L:List D)(w':World):Prop:=
 ∃vp' vd' ls' ds',Wk w' base B r.1 vp' vd' ls' ds'∧ls'.length=r.2∧(r.1=0→ls'.map P.d=L)∧Keep (WS B vp vd) w w'∧RV w vp vp'∧RV w vd vd'
theorem WS.step{w w1 w2:World}{B:Nat}{vp vd vp1 vd1 vp2 vd2:Value}(h1:Keep (WS B vp vd) w w1)(r1:RV w vp vp1)(s1:RV w vd vd1)(h2:Keep (WS B vp1 vd1) w1 w2)(r2:RV w1 vp1 vp2)(s2:RV w1 vd1 vd2):Keep (WS B vp vd) w w2∧RV w vp vp2∧RV w vd vd2:=by
 refine⟨?_,?_,?_⟩
 ·have h2':Keep (fun k=>WS B vp vd k∨w.heap.size≤k) w1 w2:=h2.mono (fun k _ e=>by
   rcases e with e|e|e
   ·exact .inl (.inl e)
   ·rcases r1 k e with e|e
    ·exact .inl (.inr (.inl e))
    ·exact .inr e
   ·rcases s1 k e with e|e
    ·exact .inl (.inr (.inr e))
    ·exact .inr e)
  refine((h1.mono (T:=fun k=>WS B vp vd k∨w.heap.size≤k) (fun k _ e=> .inl e)).trans h2').mono (fun k hk e=> ?_);rcases e with e|e
  ·exact e
  ·omega
 ·intro k hk;rcases r2 k hk with e|e
  ·exact r1 k e
  ·have:=h1.size;exact .inr (by omega)
 ·intro k hk;rcases s2 k hk with e|e
  ·exact s1 k e
  ·have:=h1.size;exact .inr (by omega)
end Dt
theorem goes_done{w:World}{base B:Nat}{e:Int}{vp vd:Value}{ls:List Dt.P}{ds:List Int}(h:Dt.Wk w base B e vp vd ls ds)(he:e≠0)(x:Dt.D)(vm vl vt:Value)(deep:Int):
  Calls Tryz.prog 107 #[.pointer (some ⟨B,0,none⟩),.agg #[.int .i64 x.k,.int .i64 x.n,.string x.s,vm,vl,vt],.int .i64 deep] w fun r w'=>r= .returned (.tuple #[])∧Below w.heap.size w w':=by
 have hb:Below w.heap.size w (w.alloc (.cells #[.int .i64 x.k,.int .i64 x.n,.string x.s,vm,vl,vt] 25)):=(Below.refl _ _).alloc (Nat.le_refl _) _;have c2:=(h.below hb).c2;have he0:(e==0)=false:=by simpa using he
 go_enter Tryz.func107,Tryz.ntmps107;go_wp2;refine bodyPost_ret (v:= .tuple #[]) (by simp[results,Tryz.results107,go_sem]) rfl ?_;exact⟨rfl,hb⟩
namespace Co
open Dt (D IRow)
inductive C where
 |mk (k n:Int) (s:ByteArray) (d:D) (p:List Int) (l:List C)
def C.k:C→Int
 | .mk k _ _ _ _ _=>k
def C.n:C→Int
 | .mk _ n _ _ _ _=>n
def C.s:C→ByteArray
 | .mk _ _ s _ _ _=>s
def C.d:C→D
 | .mk _ _ _ d _ _=>d
def C.p:C→List Int
 | .mk _ _ _ _ p _=>p
def C.l:C→List C
 | .mk _ _ _ _ _ l=>l
mutual
def Wf:C→Prop
 | .mk _k n s d p l=>(-9223372036854775808≤n∧n≤9223372036854775807)∧s.size≤140737488355328∧Dt.Wf d∧p.length≤140737488355328∧(∀x∈p,-9223372036854775808≤x∧x≤9223372036854775807)∧l.length≤140737488355328∧Wfs l
def Wfs:List C→Prop
 |[]=>True
 |c :: r=>Wf c∧Wfs r
end
theorem Wfs.at:∀ {l:List C},Wfs l→∀j,(h:j<l.length)→Wf l[j]
 |[],_,j,h=>absurd h (by simp)
 |d :: r,hw,0,_=>by rw[Wfs]at hw;exact hw.1
 |d :: r,hw,j+1,h=>by
  rw[Wfs]at hw;exact Wfs.at hw.2 j (by simpa using h)
structure El(w:World)(b o:Nat)(c:C)(vm vl vt vp vk:Value):Prop where
 c0:w.cell? ⟨b,o,none⟩=some (.int .i64 c.k)
 c1:w.cell? ⟨b,o+1,none⟩=some (.int .i64 c.n)
 c2:w.cell? ⟨b,o+2,none⟩=some (.string c.s)
 c3:w.cell? ⟨b,o+3,none⟩=some (.int .i64 c.d.k)
 c4:w.cell? ⟨b,o+4,none⟩=some (.int .i64 c.d.n)
 c5:w.cell? ⟨b,o+5,none⟩=some (.string c.d.s)
 c6:w.cell? ⟨b,o+6,none⟩=some vm
 c7:w.cell? ⟨b,o+7,none⟩=some vl
 c8:w.cell? ⟨b,o+8,none⟩=some vt
 c9:w.cell? ⟨b,o+9,none⟩=some vp
 c10:w.cell? ⟨b,o+10,none⟩=some vk
mutual
def Rep(F:Nat→Prop)(w:World):C→Value→Value→Value→Value→Value→Prop
 | .mk _ _ _ d p l, vm, vl, vt, vp, vk => Dt.Rep F w d vm vl vt ∧ IRow F w vp p ∧
   (∃(a:Option Addr) (c:Nat),vk= .slice a l.length c∧l.length≤c∧(l≠[]→∃b o,a=some ⟨b,o,none⟩∧F b∧b<w.heap.size∧Reps F w l b o))
def Reps(F:Nat→Prop)(w:World):List C→Nat→Nat→Prop
 |[],_,_=>True
 |c :: r,b,o=>(∃vm vl vt vp vk,El w b o c vm vl vt vp vk∧Rep F w c vm vl vt vp vk)∧Reps F w r b (o+11)
end
def Row(F:Nat→Prop)(w:World)(v:Value)(l:List C):Prop:=
 ∃(a:Option Addr) (c:Nat),v= .slice a l.length c∧l.length≤c∧(l≠[]→∃b o,a=some ⟨b,o,none⟩∧F b∧b<w.heap.size∧Reps F w l b o)
theorem rep_iff(F:Nat→Prop)(w:World)(c:C)(vm vl vt vp vk:Value):Rep F w c vm vl vt vp vk↔Dt.Rep F w c.d vm vl vt∧IRow F w vp c.p∧Row F w vk c.l:=by
 cases c;rw[Rep];exact Iff.rfl
def V(c:C)(vm vl vt vp vk:Value):Value:= .agg #[.int .i64 c.k,.int .i64 c.n,.string c.s,.int .i64 c.d.k,.int .i64 c.d.n,.string c.d.s,vm,vl,vt,vp,vk]
theorem Reps.at{F:Nat→Prop}{w:World}:∀ {l:List C} {b o:Nat},Reps F w l b o→∀j,(h:j<l.length)→∃vm vl vt vp vk,El w b (o+j*11) l[j] vm vl vt vp vk∧Rep F w l[j] vm vl vt vp vk
 |[],_,_,_,j,h=>absurd h (by simp)
 |d :: r,b,o,hr,0,_=>by
  rw[Reps]at hr;simpa using hr.1
 |d :: r,b,o,hr,j+1,h=>by
  rw[Reps]at hr;have h2:=Reps.at hr.2 j (by simpa using h);rw[show o+(j+1)*11=o+11+j*11 by omega];simpa using h2
theorem Reps.of{F:Nat→Prop}{w:World}:∀ {l:List C} {b o:Nat},(∀j,(h:j<l.length)→∃vm vl vt vp vk,El w b (o+j*11) l[j] vm vl vt vp vk∧Rep F w l[j] vm vl vt vp vk)→Reps F w l b o
 |[],_,_,_=>by rw[Reps];trivial
 |d :: r,b,o,h=>by
  rw[Reps];have h0:=h 0 (by simp);rw[Nat.zero_mul,Nat.add_zero]at h0;refine⟨h0,Reps.of fun j hj=> ?_⟩;have:=h (j+1) (by simpa using hj);rw[show o+(j+1)*11=o+11+j*11 by omega]at this;simpa using this
theorem El.keep{S:Nat→Prop}{w w':World}{b o:Nat}{c:C}{vm vl vt vp vk:Value}(h:El w b o c vm vl vt vp vk)(hk:Keep S w w')(hb:b<w.heap.size)(hS:¬S b):El w' b o c vm vl vt vp vk:=
 ⟨(hk.cell _ hb hS).trans h.c0,(hk.cell _ hb hS).trans h.c1,(hk.cell _ hb hS).trans h.c2,(hk.cell _ hb hS).trans h.c3,(hk.cell _ hb hS).trans h.c4,(hk.cell _ hb hS).trans h.c5,(hk.cell _ hb hS).trans h.c6,(hk.cell _ hb hS).trans h.c7,(hk.cell _ hb hS).trans h.c8,(hk.cell _ hb hS).trans h.c9,(hk.cell _ hb hS).trans h.c10⟩
mutual
theorem Rep.keep{F S:Nat→Prop}{w w':World}(hk:Keep S w w')(hS:∀b,F b→b<w.heap.size→¬S b):∀(c:C) {vm vl vt vp vk:Value},Rep F w c vm vl vt vp vk→Rep F w' c vm vl vt vp vk
 | .mk k n s d p l,vm,vl,vt,vp,vk,h=>by
  rw[Rep]at h ⊢;obtain⟨h1,h2,⟨a,c,e1,e2,e3⟩⟩:=h;refine⟨Dt.Rep.keep hk hS d h1,h2.keep hk hS,⟨a,c,e1,e2,fun hn=> ?_⟩⟩;obtain⟨b,o,g1,g2,g3,g4⟩:=e3 hn;exact⟨b,o,g1,g2,Nat.lt_of_lt_of_le g3 hk.size,Reps.keep hk hS l g2 g3 g4⟩
theorem Reps.keep{F S:Nat→Prop}{w w':World}(hk:Keep S w w')(hS:∀b,F b→b<w.heap.size→¬S b):∀(l:List C) {b o:Nat},F b→b<w.heap.size→Reps F w l b o→Reps F w' l b o
 |[],_,_,_,_,_=>by rw[Reps];trivial
 |d :: r,b,o,hF,hb,h=>by
  rw[Reps]at h ⊢;obtain⟨⟨vm,vl,vt,vp,vk,h1,h2⟩,h3⟩:=h;exact⟨⟨vm,vl,vt,vp,vk,h1.keep hk hb (hS b hF hb),Rep.keep hk hS d h2⟩,Reps.keep hk hS r hF hb h3⟩
end
theorem irow_mono{F G:Nat→Prop}{w:World}{v:Value}{m:List Int}(hFG:∀b,F b→b<w.heap.size→G b)(h:IRow F w v m):IRow G w v m:=by
 obtain⟨a0,c0,i1,i2,i3⟩:=h;refine⟨a0,c0,i1,i2,fun hn=> ?_⟩;obtain⟨b,o,g1,g2,g3,g4⟩:=i3 hn;exact⟨b,o,g1,hFG b g2 g3,g3,g4⟩
mutual
theorem Rep.mono{F G:Nat→Prop}{w:World}(hFG:∀b,F b→b<w.heap.size→G b):∀(c:C) {vm vl vt vp vk:Value},Rep F w c vm vl vt vp vk→Rep G w c vm vl vt vp vk
 | .mk k n s d p l,vm,vl,vt,vp,vk,h=>by
  rw[Rep]at h ⊢;obtain⟨h1,h2,⟨a,c,e1,e2,e3⟩⟩:=h;refine⟨Dt.Rep.mono hFG d h1,irow_mono hFG h2,⟨a,c,e1,e2,fun hn=> ?_⟩⟩;obtain⟨b,o,g1,g2,g3,g4⟩:=e3 hn;exact⟨b,o,g1,hFG b g2 g3,g3,Reps.mono hFG l g4⟩
theorem Reps.mono{F G:Nat→Prop}{w:World}(hFG:∀b,F b→b<w.heap.size→G b):∀(l:List C) {b o:Nat},Reps F w l b o→Reps G w l b o
 |[],_,_,_=>by rw[Reps];trivial
 |d :: r,b,o,h=>by
  rw[Reps]at h ⊢;obtain⟨⟨vm,vl,vt,vp,vk,h1,h2⟩,h3⟩:=h;exact⟨⟨vm,vl,vt,vp,vk,h1,Rep.mono hFG d h2⟩,Reps.mono hFG r h3⟩
end
theorem Rep.below{F:Nat→Prop}{w w':World}(hb:Below w.heap.size w w'){c:C}{vm vl vt vp vk:Value}(h:Rep F w c vm vl vt vp vk):Rep F w' c vm vl vt vp vk:=
 Rep.keep (S:=fun _=>False) ((Keep.refl _ w).below hb) (fun _ _ _ h=>h) c h
theorem Row.keep{F S:Nat→Prop}{w w':World}{v:Value}{l:List C}(h:Row F w v l)(hk:Keep S w w')(hS:∀b,F b→b<w.heap.size→¬S b):Row F w' v l:=by
 obtain⟨a,c,e1,e2,e3⟩:=h;refine⟨a,c,e1,e2,fun hn=> ?_⟩;obtain⟨b,o,g1,g2,g3,g4⟩:=e3 hn;exact⟨b,o,g1,g2,Nat.lt_of_lt_of_le g3 hk.size,Reps.keep hk hS l g2 g3 g4⟩
theorem Row.below{F:Nat→Prop}{w w':World}{v:Value}{l:List C}(h:Row F w v l)(hb:Below w.heap.size w w'):Row F w' v l:=
 h.keep (S:=fun _=>False) ((Keep.refl _ w).below hb) (fun _ _ _ h=>h)
def none_(d:D):Bool:=decide (d.k=0)&&decide (d.n=0)&&d.s.data.toList.isEmpty&&d.m.isEmpty&&d.l.isEmpty&&d.t.isEmpty
def var(n:Int):Bool:=decide (1≤n)&&decide (n≤1048576)
def once:List Int→Bool
 |[]=>true
 |x :: r=> !r.contains x&&once r
def const(d:D):Bool:=decide (Dt.check d=0)&&(Dt.pre d).all fun x=>x.m.isEmpty
end Co
end Go.Proofs.YtfjmlfbohenmfaaGreat
namespace Go.Proofs.YtfjmlfbohenmfaaGreat
namespace Co
open Dt (D)
def empty(s:ByteArray):Bool:=s.data.toList.isEmpty
def params(n:Int)(p:List Int):Bool:=decide (p.length≤32)&&(decide (n=0)||(decide (n=1)&& !p.isEmpty))&&p.all var&&once p
def alone:C→Bool
 | .mk k n s d p l=>
  if k=1 then decide (n=0)&&empty s&&p.isEmpty&&l.isEmpty&&const d
  else if none_ d=false then false
  else if k=8 then empty s&&decide (l.length=1)&&params n p
  else if p.isEmpty=false then false
  else if k=2 then empty s&&var n&&l.isEmpty
  else if k=3 then decide (n=0)&&Lx.symbol s.data.toList&&l.isEmpty
  else if k=4 then empty s&&var n&&decide (l.length=1)
  else if k=5∨k=6 then decide (n=0)&&Lx.symbol s.data.toList&&decide (l.length=1)
  else if k=7 then decide (n=0)&&empty s&&decide (l.length=3)
  else if k=9∨k=10 then decide (n=0)&&empty s&&decide (0<l.length)
  else false
def inner(k:Int)(p win:List Int):List Int:=if k=8 then win++p else win
def here(opn:Bool)(c:C)(deep:Nat)(win:List Int)(top:Bool)(cnt:Nat)(bd:List Int):Int:=
 if 128<deep then 4
 else if 8192≤cnt then 3
 else if alone c=false∨(c.k=6∧top=false)then 70
 else if(c.k=2∨c.k=4)∧opn=false∧win.contains c.n=false then 70
 else if c.p.any bd.contains then 70
 else 0
mutual
def goes(opn:Bool):C→Nat→List Int→Bool→Nat→List Int→Int×Nat×List Int
 | .mk k n s d p l,deep,win,top,cnt,bd=>
  if here opn (.mk k n s d p l) deep win top cnt bd≠0 then(here opn (.mk k n s d p l) deep win top cnt bd,cnt,bd)
  else goesL opn l (deep+1) (inner k p win) (top&&decide (k=9)) (cnt+1) (bd++p)
def goesL(opn:Bool):List C→Nat→List Int→Bool→Nat→List Int→Int×Nat×List Int
 |[],_,_,_,cnt,bd=>(0,cnt,bd)
 |c :: r,deep,win,top,cnt,bd=>
  if(goes opn c deep win top cnt bd).1≠0 then goes opn c deep win top cnt bd
  else goesL opn r deep win top (goes opn c deep win top cnt bd).2.1 (goes opn c deep win top cnt bd).2.2
end
def check(c:C)(win:List Int):Int:=(goes false c 1 win true 0 win).1
def openE(c:C):Int:=(goes true c 1 [] true 0 []).1
mutual
def parts:C→List C
 | .mk k n s d p l=> .mk k n s d p l :: partsL l
def partsL:List C→List C
 |[]=>[]
 |c :: r=>parts c++partsL r
end
def put:List Int→Int→List Int
 |[],n=>[n]
 |x :: r,n=>if n<x then n :: x :: r else if n=x then x :: r else x :: put r n
mutual
def free:C→List Int→List Int→List Int
 | .mk k n _ _ p l,win,out=>freeL l (inner k p win) (if(k=2∨k=4)∧win.contains n=false then put out n else out)
def freeL:List C→List Int→List Int→List Int
 |[],_,out=>out
 |c :: r,win,out=>freeL r win (free c win out)
end
def all(c:C):List C:=if openE c=0∧check c (free c [] [])=0 then parts c else []
def ok(c:C):Bool:=decide (openE c=0)&&decide (check c (free c [] [])=0)
mutual
theorem parts_pos:∀c:C,parts c≠[]
 | .mk k n s d p l=>by rw[parts];simp
end
end Co
end Go.Proofs.YtfjmlfbohenmfaaGreat
namespace Go.Proofs.YtfjmlfbohenmfaaGreat
open Go.RowKit
attribute [local go_sem] Oper.semAt_some
namespace Co
def fmRows:List (List UInt8×Int×Int×Int):=[
 ([],0,0,0),
 ([99,111,110,115,116],4,0,0),
 ([108,111,99,97,108],1,0,0),
 ([103,108,111,98,97,108],2,0,0),
 ([115,101,116],1,1,1),
 ([97,115,115,105,103,110],2,1,1),
 ([100,101,102,105,110,101],2,1,1),
 ([105,102],0,3,3),
 ([108,97,109,98,100,97],8,1,1),
 ([115,101,113],0,1,(-1)),
 ([99,97,108,108],0,1,(-1))]
def rowCells(r:List UInt8×Int×Int×Int):List Value:=[.string ⟨r.1.toArray⟩,.int .i64 r.2.1,.int .i64 r.2.2.1,.int .i64 r.2.2.2]
def zeroRow:List UInt8×Int×Int×Int:=([],0,0,0)
def flatRows(l:List (List UInt8×Int×Int×Int)):List Value:=l.flatMap rowCells
def fm(k:Int):List UInt8×Int×Int×Int:=if 1≤k∧k≤10 then fmRows.getD k.toNat zeroRow else zeroRow
def fmV(k:Int):Value:= .agg #[.string ⟨(fm k).1.toArray⟩,.int .i64 (fm k).2.1,.int .i64 (fm k).2.2.1,.int .i64 (fm k).2.2.2]
def isKind(k:Int):Bool:=decide (1≤k)&&decide (k≤10)
theorem kf_cases{k:Nat}(h1:1≤k)(h2:k≤10):k=1∨k=2∨k=3∨k=4∨k=5∨k=6∨k=7∨k=8∨k=9∨k=10:=by omega
theorem fm_at{k:Nat}(h1:1≤k)(h2:k≤10):∀i,i<4→(flatRows fmRows)[k*4+i]?=[Value.string ⟨(fm (k:Int)).1.toArray⟩,.int .i64 (fm (k:Int)).2.1,.int .i64 (fm (k:Int)).2.2.1,.int .i64 (fm (k:Int)).2.2.2][i]?:=by
 intro i hi;obtain rfl|rfl|rfl|rfl:i=0∨i=1∨i=2∨i=3:=by omega
 all_goals
  rcases kf_cases h1 h2 with rfl|rfl|rfl|rfl|rfl|rfl|rfl|rfl|rfl|rfl
  all_goals rfl
theorem four_below{w w2:World}(h:Below w.heap.size w w2)(a b c d:Value):Below w.heap.size w ((((w2.setCell ⟨w.heap.size,0,none⟩ a).setCell ⟨w.heap.size,1,none⟩ b).setCell ⟨w.heap.size,2,none⟩ c).setCell ⟨w.heap.size,3,none⟩ d):=
 (((h.setCell (p:=⟨w.heap.size,0,none⟩) (Nat.le_refl _) a).setCell (p:=⟨w.heap.size,1,none⟩) (Nat.le_refl _) b).setCell (p:=⟨w.heap.size,2,none⟩) (Nat.le_refl _) c).setCell (p:=⟨w.heap.size,3,none⟩) (Nat.le_refl _) d
end Co
theorem forms_yes(k:Nat)(hk1:1≤k)(hk2:k≤10)(w:World):Calls Tryz.prog 49 #[.int .i64 (k:Int)] w fun e w'=>e= .returned (.tuple #[Co.fmV (k:Int),.bool true])∧Below w.heap.size w w':=by
 have HR:=zh (Co.fm_at hk1 hk2);obtain⟨w1,hw1⟩:∃w1,w.alloc (.cells #[.string ⟨#[]⟩,.int .i64 0,.int .i64 0,.int .i64 0] 88)=w1:=⟨_,rfl⟩
 obtain⟨hb1,hs1⟩:=new_below hw1;have hh1:=Hp.new hw1;have HB1:=zh hb1;have HS1:=zh hs1;have HH1:=zh hh1;clear hb1 hs1 hh1;go_enter Tryz.func49,Tryz.ntmps49;go_upto_region 1 with(fail)
 clear hw1;refine wp_region_list ?_;refine Cd.wpList_buildsTo 11 15 (.agg (Co.flatRows Co.fmRows).toArray) (fun a=>(a.eval (.tmp 0),a.eval (.tmp 2),a.eval (.tmp 3),a.tmps.size,a.defers)) (.int .i64 (k:Int),.pointer (some ⟨w.heap.size,0,none⟩),.bool false,26,[]) (by kernel_rfl) ?_;intro a' h21 hg;simp only[Prod.mk.injEq]at hg;obtain⟨h0,h2,h3,hsz,hdf⟩:=hg;have hheap:(w1.alloc (.cells (Co.flatRows (List.replicate 11 Co.zeroRow)).toArray 108)).heap[w1.heap.size]?=some (.cells (Co.flatRows (List.replicate 11 Co.zeroRow)).toArray 108 (0,0)):=heap_alloc_new w1 _;change wpList _ _ _ (_ :: _ :: []) a' _;refine Great.wpList_runTo rfl _ rfl (.pointer (some ⟨w1.heap.size,0,none⟩)) (w1.alloc (.cells (Co.flatRows (List.replicate 11 Co.zeroRow)).toArray 108)) (by kernel_rfl) ?_;have h4:(a'.put (some 4) (.pointer (some ⟨w1.heap.size,0,none⟩))).eval (.tmp 4)= .pointer (some ⟨w1.heap.size,0,none⟩):=by
  show(a'.tmps.setIfInBounds 4 _).getD 4 undef=_;simp[hsz]
 have h21':(a'.put (some 4) (.pointer (some ⟨w1.heap.size,0,none⟩))).eval (.tmp 15)= .agg (Co.flatRows Co.fmRows).toArray:=by
  rw[←h21];show(a'.tmps.setIfInBounds 4 _).getD 15 undef=a'.tmps.getD 15 undef;simp[Array.getD_eq_getD_getElem?]
 refine wpList_store_row rfl 108 (.tmp 4) (.tmp 15) rfl w1.heap.size (Co.flatRows Co.fmRows).toArray h4 h21' _ _ hheap (by kernel_rfl) (by kernel_rfl) (by kernel_rfl) ?_;have hset:=setRow_heap (w1.alloc (.cells (Co.flatRows (List.replicate 11 Co.zeroRow)).toArray 108)) w1.heap.size _ (Co.flatRows Co.fmRows).toArray _ _ hheap;obtain⟨w2,hw2⟩:∃w2,(w1.alloc (.cells (Co.flatRows (List.replicate 11 Co.zeroRow)).toArray 108)).setRow w1.heap.size (Co.flatRows Co.fmRows).toArray=w2:=⟨_,rfl⟩
 have hb2:Below w1.heap.size w1 w2:=by rw[←hw2];exact below_setRow ((Below.refl _ w1).alloc (Nat.le_refl _) _) (Nat.le_refl _) _
 rw[hw2]at hset ⊢;refine wpList_nil ?_;clear hheap hw2;obtain⟨⟨l⟩,df⟩:=a';simp only at hdf;subst hdf
 match l,hsz with
 |[x0,x1,x2,x3,x4,x5,x6,x7,x8,x9,x10,x11,x12,x13,x14,x15,x16,x17,x18,x19,x20,x21,x22,x23,x24,x25],_=>
  have e0:x0= .int .i64 (k:Int):=h0;have e2:x2= .pointer (some ⟨w.heap.size,0,none⟩):=h2;have e3:x3= .bool false:=h3;subst e0 e2 e3;clear h0 h2 h3 h4 h21 h21';simp only[Act.put,za,zb,zc];rw[HS1.out]at hset ⊢;have hh2:=HH1.out.keep (S:=fun _=>False) (keep_of_below hb2) id;obtain⟨r0,r1,r2,r3⟩:=hh2.c4;have f0:=hh2.frz 0;have f1:=hh2.frz 1;have f2:=hh2.frz 2;have f3:=hh2.frz 3;have HB2:=zh ((btr HB1.out hb2));have hc:∀i v,[Value.string ⟨(Co.fm (k:Int)).1.toArray⟩,.int .i64 (Co.fm (k:Int)).2.1,.int .i64 (Co.fm (k:Int)).2.2.1,.int .i64 (Co.fm (k:Int)).2.2.2][i]?=some v→i<4→w2.cell? ⟨w.heap.size+1,k*4+i,none⟩=some v:=fun i v hv hi=>by
   unfold World.cell?;rw[hset];show(Co.flatRows Co.fmRows).toArray[k*4+i]?=some v;rw[List.getElem?_toArray,HR.out i hi,hv]
  have c0:w2.cell? ⟨w.heap.size+1,k*4,none⟩=some (.string ⟨(Co.fm (k:Int)).1.toArray⟩):=hc 0 _ rfl (by omega);have c1:=hc 1 _ rfl (by omega);have c2:=hc 2 _ rfl (by omega);have c3:=hc 3 _ rfl (by omega);have hk1i:¬ ((k:Int)<1):=by omega
  have hk2i:¬ (11≤(k:Int)):=by omega
  have hk3i:(k:Int)<11:=by omega
  have hk0i:(0:Int)≤(k:Int):=by omega
  obtain⟨o,ho⟩:∃o,o=Co.fm (k:Int):=⟨_,rfl⟩
  have HO:Hid (Co.fmV (k:Int)= .agg #[.string ⟨o.1.toArray⟩,.int .i64 o.2.1,.int .i64 o.2.2.1,.int .i64 o.2.2.2]):=by show _=_;rw[ho];rfl
  rw[←ho]at c0 c1 c2 c3;obtain⟨o0,o1,o2,o3⟩:=o;simp only at c0 c1 c2 c3 HO;obtain⟨z0,hz0⟩:∃z0:ByteArray,⟨o0.toArray⟩=z0:=⟨_,rfl⟩
  rw[hz0]at c0 HO;clear hc hset hb2 hh2 ho hk1 hk2 hz0;go_wp2;refine bodyPost_ret (v:= .tuple #[Co.fmV (k:Int),.bool true]) ?_ rfl ?_
  ·rw[HO.out];simp[results,Tryz.results49,go_sem,r0,r1,r2,r3]
  exact⟨rfl,Co.four_below HB2.out _ _ _ _⟩
theorem forms_no(n:Int)(hn:n<1∨10<n)(w:World):Calls Tryz.prog 49 #[.int .i64 n] w fun e w'=>e= .returned (.tuple #[Co.fmV n,.bool false])∧Below w.heap.size w w':=by
 have HV:Hid (Co.fmV n= .agg #[.string ⟨#[]⟩,.int .i64 0,.int .i64 0,.int .i64 0]):=by
  show _=_;have e:Co.fm n=Co.zeroRow:=by unfold Co.fm;rw[if_neg (by omega)]
  unfold Co.fmV;rw[e]
  rfl
 have HN:=zh hn;clear hn;obtain⟨w1,hw1⟩:∃w1,w.alloc (.cells #[.string ⟨#[]⟩,.int .i64 0,.int .i64 0,.int .i64 0] 88)=w1:=⟨_,rfl⟩
 obtain⟨hb1,hs1⟩:=new_below hw1;have hh1:=Hp.new hw1;have HB1:=zh hb1;have HS1:=zh hs1;have HH1:=zh hh1;clear hb1 hs1 hh1;go_enter Tryz.func49,Tryz.ntmps49;go_upto_region 1 with(fail)
 clear hw1;refine wp_region_list ?_;refine Cd.wpList_buildsTo 11 15 (.agg (Co.flatRows Co.fmRows).toArray) (fun a=>(a.eval (.tmp 0),a.eval (.tmp 2),a.eval (.tmp 3),a.tmps.size,a.defers)) (.int .i64 n,.pointer (some ⟨w.heap.size,0,none⟩),.bool false,26,[]) (by kernel_rfl) ?_;intro a' h21 hg;simp only[Prod.mk.injEq]at hg;obtain⟨h0,h2,h3,hsz,hdf⟩:=hg;have hheap:(w1.alloc (.cells (Co.flatRows (List.replicate 11 Co.zeroRow)).toArray 108)).heap[w1.heap.size]?=some (.cells (Co.flatRows (List.replicate 11 Co.zeroRow)).toArray 108 (0,0)):=heap_alloc_new w1 _;change wpList _ _ _ (_ :: _ :: []) a' _;refine Great.wpList_runTo rfl _ rfl (.pointer (some ⟨w1.heap.size,0,none⟩)) (w1.alloc (.cells (Co.flatRows (List.replicate 11 Co.zeroRow)).toArray 108)) (by kernel_rfl) ?_;have h4:(a'.put (some 4) (.pointer (some ⟨w1.heap.size,0,none⟩))).eval (.tmp 4)= .pointer (some ⟨w1.heap.size,0,none⟩):=by
  show(a'.tmps.setIfInBounds 4 _).getD 4 undef=_;simp[hsz]
 have h21':(a'.put (some 4) (.pointer (some ⟨w1.heap.size,0,none⟩))).eval (.tmp 15)= .agg (Co.flatRows Co.fmRows).toArray:=by
  rw[←h21];show(a'.tmps.setIfInBounds 4 _).getD 15 undef=a'.tmps.getD 15 undef;simp[Array.getD_eq_getD_getElem?]
 refine wpList_store_row rfl 108 (.tmp 4) (.tmp 15) rfl w1.heap.size (Co.flatRows Co.fmRows).toArray h4 h21' _ _ hheap (by kernel_rfl) (by kernel_rfl) (by kernel_rfl) ?_;have hset:=setRow_heap (w1.alloc (.cells (Co.flatRows (List.replicate 11 Co.zeroRow)).toArray 108)) w1.heap.size _ (Co.flatRows Co.fmRows).toArray _ _ hheap;obtain⟨w2,hw2⟩:∃w2,(w1.alloc (.cells (Co.flatRows (List.replicate 11 Co.zeroRow)).toArray 108)).setRow w1.heap.size (Co.flatRows Co.fmRows).toArray=w2:=⟨_,rfl⟩
 have hb2:Below w1.heap.size w1 w2:=by rw[←hw2];exact below_setRow ((Below.refl _ w1).alloc (Nat.le_refl _) _) (Nat.le_refl _) _
 rw[hw2]at hset ⊢;refine wpList_nil ?_;clear hheap hw2;obtain⟨⟨l⟩,df⟩:=a';simp only at hdf;subst hdf
 match l,hsz with
 |[x0,x1,x2,x3,x4,x5,x6,x7,x8,x9,x10,x11,x12,x13,x14,x15,x16,x17,x18,x19,x20,x21,x22,x23,x24,x25],_=>
  have e0:x0= .int .i64 n:=h0;have e2:x2= .pointer (some ⟨w.heap.size,0,none⟩):=h2;have e3:x3= .bool false:=h3;subst e0 e2 e3;clear h0 h2 h3 h4 h21 h21';simp only[Act.put,za,zb,zc];rw[HS1.out]at hset ⊢;have hh2:=HH1.out.keep (S:=fun _=>False) (keep_of_below hb2) id;obtain⟨r0,r1,r2,r3⟩:=hh2.c4;have f0:=hh2.frz 0;have f1:=hh2.frz 1;have f2:=hh2.frz 2;have f3:=hh2.frz 3;have HB2:=zh ((btr HB1.out hb2));clear hset hb2 hh2;by_cases hn1:n<1
  ·have hn1':decide (n<1)=true:=decide_eq_true hn1;go_wp2;refine bodyPost_ret (v:= .tuple #[Co.fmV n,.bool false]) ?_ rfl ?_
   ·rw[HV.out];simp[results,Tryz.results49,go_sem,r0,r1,r2,r3]
   exact⟨rfl,Co.four_below HB2.out _ _ _ _⟩
  ·have hn2:11≤n:=by have:=HN.out;omega
   have hn1':decide (n<1)=false:=decide_eq_false hn1;clear hn1;go_wp2;refine bodyPost_ret (v:= .tuple #[Co.fmV n,.bool false]) ?_ rfl ?_
   ·rw[HV.out];simp[results,Tryz.results49,go_sem,r0,r1,r2,r3]
   exact⟨rfl,Co.four_below HB2.out _ _ _ _⟩
theorem forms_any(n:Int)(w:World):Calls Tryz.prog 49 #[.int .i64 n] w fun e w'=>e= .returned (.tuple #[Co.fmV n,.bool (Co.isKind n)])∧Below w.heap.size w w':=by
 by_cases h:n<1∨10<n
 ·rw[show Co.isKind n=false by unfold Co.isKind;rw[←Bool.decide_and];exact decide_eq_false (by omega)];exact forms_no n h w
 ·obtain⟨k,rfl⟩:∃k:Nat,n=(k:Int):=⟨n.toNat,by omega⟩
  rw[show Co.isKind (k:Int)=true by unfold Co.isKind;rw[←Bool.decide_and];exact decide_eq_true (by omega)];exact forms_yes k (by omega) (by omega) w
end Go.Proofs.YtfjmlfbohenmfaaGreat
