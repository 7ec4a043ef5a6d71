/-
 The reference's walk: what it holds between two parts.
-/
import Derived.Test.YtfjmlfbohenmfaaGreatDtAloneq
import Derived.Test.YtfjmlfbohenmfaaGreatPutq
namespace Go.Proofs.YtfjmlfbohenmfaaGreat
open Go.RowKit
namespace Dt
mutual
def pre:D→List D
 | .mk k n s m l t=> .mk k n s m l t :: (pres l++pres t)
def pres:List D→List D
 |[]=>[]
 |d :: r=>pre d++pres r
end
structure P where
 d:D
 vm:Value
 vl:Value
 vt:Value
def P.cells(p:P):List Value:=[.int .i64 p.d.k,.int .i64 p.d.n,.string p.d.s,p.vm,p.vl,p.vt]
def flatP(ls:List P):List Value:=ls.flatMap P.cells
theorem flatP_app(ls:List P)(p:P):flatP (ls++[p])=flatP ls++p.cells:=by unfold flatP;simp
theorem flatP_length(ls:List P):(flatP ls).length=ls.length*6:=by
 induction ls with
 |nil=>rfl
 |cons a l ih=>
  have e:flatP (a :: l)=a.cells++flatP l:=rfl;rw[e,List.length_append,ih];have:a.cells.length=6:=rfl;simp;omega
structure Wk(w:World)(base B:Nat)(e:Int)(vp vd:Value)(ls:List P)(ds:List Int):Prop where
 c0:w.cell? ⟨B,0,none⟩=some vp
 c1:w.cell? ⟨B,1,none⟩=some vd
 c2:w.cell? ⟨B,2,none⟩=some (.int .i64 e)
 fz:∀j,w.frozen? ⟨B,j,none⟩=false
 rp:w.ownsRow base 25 6 vp ls.length (flatP ls)
 rd:w.ownsRow base 3 1 vd ds.length (ds.map (Value.int .i64))
 np:vp.ownBlock≠some B
 nd:vd.ownBlock≠some B
 pd:∀k,vp.ownBlock=some k→vd.ownBlock≠some k
 rep:∀p∈ls,Rep (fun k=>k<base) w p.d p.vm p.vl p.vt
 len:ls.length≤4096
 eq:ds.length≤ls.length
 le:base≤B
def WS(B:Nat)(vp vd:Value)(k:Nat):Prop:=k=B∨vp.ownBlock=some k∨vd.ownBlock=some k
def RV(w:World)(v v':Value):Prop:=∀k,v'.ownBlock=some k→v.ownBlock=some k∨w.heap.size≤k
theorem own_keep{S:Nat→Prop}{w w':World}{b size n:Nat}{e:TypeId}{v:Value}{xs:List Value}(h:w.ownsRow b e size v n xs)(hc:Keep S w w')(hS:∀k,v.ownBlock=some k→¬S k):w'.ownsRow b e size v n xs:=by
 obtain⟨h0,h1⟩:=h;refine⟨h0,?_⟩;rcases h1 with h1|⟨g,cap,cur,e1,e2,e3,e4⟩
 ·exact .inl h1
 ·refine .inr ⟨g,cap,cur,e1,e2,?_,e4⟩;rw[hc.block g (Array.getElem?_eq_some_iff.1 e3).1 (hS g (by rw[e1];rfl))];exact e3
theorem row_form{w:World}{base size n:Nat}{e:TypeId}{v:Value}{xs:List Value}(h:w.ownsRow base e size v n xs):∃a c,v= .slice a n c:=by
 rcases h.2 with⟨rfl,rfl⟩|⟨g,cap,cur,rfl,_⟩
 ·exact⟨none,0,rfl⟩
 ·exact⟨_,_,rfl⟩
theorem own_lt{w:World}{base size n:Nat}{e:TypeId}{v:Value}{xs:List Value}(h:w.ownsRow base e size v n xs):∀k,v.ownBlock=some k→base≤k∧k<w.heap.size:=by
 intro k hk;rcases h.2 with⟨rfl,_⟩|⟨g,cap,cur,rfl,e2,e3,_⟩
 ·cases hk
 ·have:g=k:=by cases hk;rfl
  subst this;exact⟨e2,(Array.getElem?_eq_some_iff.1 e3).1⟩
theorem Wk.below{w w':World}{base B:Nat}{e:Int}{vp vd:Value}{ls:List P}{ds:List Int}(h:Wk w base B e vp vd ls ds)(hb:Below w.heap.size w w'):Wk w' base B e vp vd ls ds:=by
 have hk:=(Keep.refl (fun _=>False) w).below hb;have hl:B<w.heap.size:=block_lt_of_cell h.c0;exact⟨(hk.cell 0 hl (fun h=>h)).trans h.c0,(hk.cell 1 hl (fun h=>h)).trans h.c1,(hk.cell 2 hl (fun h=>h)).trans h.c2,fun j=>(hk.frozen j hl (fun h=>h)).trans (h.fz j),own_keep h.rp hk (fun _ _ h=>h),own_keep h.rd hk (fun _ _ h=>h),h.np,h.nd,h.pd,fun p hp=>(h.rep p hp).below hb,h.len,h.eq,h.le⟩
theorem Wk.fail{w:World}{base B:Nat}{e:Int}{vp vd:Value}{ls:List P}{ds:List Int}(h:Wk w base B e vp vd ls ds)(e':Int):Wk (w.setCell ⟨B,2,none⟩ (.int .i64 e')) base B e' vp vd ls ds:=by
 have hk:Keep (fun k=>k=B) w (w.setCell ⟨B,2,none⟩ (.int .i64 e')):=(Keep.refl (fun k=>k=B) w).setCell rfl 2 _;have n:∀j,j≠2→(⟨B,2,none⟩:Addr)≠⟨B,j,none⟩:=fun j hj e=>by cases e;exact hj rfl
 refine⟨(World.cell?_setCell_other _ _ _ _ (n 0 (by omega))).trans h.c0,(World.cell?_setCell_other _ _ _ _ (n 1 (by omega))).trans h.c1,World.cell?_setCell_same' _ _ _ (by rw[h.c2];rfl),fun j=>(World.frozen?_setCell _ _ _ _).trans (h.fz j),own_keep h.rp hk (fun k hk e=>h.np (by rw[hk,e])),own_keep h.rd hk (fun k hk e=>h.nd (by rw[hk,e])),h.np,h.nd,h.pd,fun p hp=>Rep.keep hk (fun b hb _ e=> ?_) p.d (h.rep p hp),h.len,h.eq,h.le⟩;have:=h.le;omega
def chkE(x:D)(deep:Nat)(r:Int×Nat):Int×Nat:=if r.1=0 then chk x deep r.2 else r
def chksE(l:List D)(deep:Nat)(r:Int×Nat):Int×Nat:=if r.1=0 then chks l deep r.2 else r
theorem chksE_cons(d:D)(l:List D)(deep:Nat)(r:Int×Nat):chksE (d :: l) deep r=chksE l deep (chkE d deep r):=by
 unfold chksE chkE;by_cases h:r.1=0
 ·rw[if_pos h,if_pos h,chks]
 ·rw[if_neg h,if_neg h,if_neg h]
theorem chksE_nil(deep:Nat)(r:Int×Nat):chksE [] deep r=r:=by
 unfold chksE;obtain⟨a,b⟩:=r;by_cases h:a=0
 ·subst h;rw[if_pos rfl,chks]
 ·rw[if_neg h]
theorem chksE_drop{L:List D}{deep j:Nat}{r:Int×Nat}(hj:j<L.length):chksE (L.drop j) deep r=chksE (L.drop (j+1)) deep (chkE L[j] deep r):=by
 rw[List.drop_eq_getElem_cons hj,chksE_cons]
theorem chk_goodE{d:D}{deep p:Nat}(h:¬64<deep)(h':¬4096≤p)(hs:single d=true):chk d deep p=chksE d.t (deep+1) (chksE d.l (deep+1) (0,p+1)):=by
 rw[chk_good h h' hs];unfold chksE;rw[if_pos rfl]
theorem pres_snoc:∀(l:List D) (j:Nat) (h:j<l.length),pres (l.take (j+1))=pres (l.take j)++pre l[j]
 |[],j,h=>absurd h (by simp)
 |d :: r,0,h=>by simp[pres]
 |d :: r,j+1,h=>by
  have:=pres_snoc r j (by simpa using h);simp only[List.take_succ_cons,pres,List.getElem_cons_succ,this,List.append_assoc]
theorem pre_eq(d:D):pre d=d :: (pres d.l++pres d.t):=by cases d;rw[pre];rfl
theorem grown_below{n:Nat}{w wA w':World}{row:Option Nat}(hb:Below n w wA)(hg:wA.grownBy w' row)(hn:n≤w.heap.size)(hrow:∀k,row=some k→n≤k):Below n w w':=
 ⟨hg.os.trans hb.os,hg.tape.trans hb.tape,hg.output.trans hb.output,Nat.le_trans hb.size hg.size,fun k hk=>(hg.block k (by have:=hb.size;omega) (fun e=>by have:=hrow k e.symm;omega)).trans (hb.block k hk)⟩
theorem Rep.keep2{F:Nat→Prop}{w w':World}{d:D}{vm vl vt:Value}(h:Rep F w d vm vl vt)(hb:Below w.heap.size w w'):Rep F w' d vm vl vt:=h.below hb
theorem grown_keep{w wA w':World}{row:Option Nat}{B:Nat}(hb:Below w.heap.size w wA)(hg:wA.grownBy w' row):Keep (fun k=>k=B∨row=some k) w w':=
 ⟨hg.os.trans hb.os,hg.tape.trans hb.tape,hg.output.trans hb.output,Nat.le_trans hb.size hg.size,fun k hk hn=>(hg.block k (by have:=hb.size;omega) (fun e=>hn (.inr e.symm))).trans (hb.block k hk)⟩
theorem Wk.push{w wA w5:World}{base B g cap:Nat}{vp vd:Value}{ls:List P}{ds:List Int}(h:Wk w base B 0 vp vd ls ds)(hl:ls.length<4096)(p:P)(hp:Rep (fun k=>k<base) w p.d p.vm p.vl p.vt)(hA:Below w.heap.size w wA)
  {zs:List Value} (hz:zs.length=6) (hown:w5.ownsRow base 25 6 (.slice (some ⟨g,0,none⟩) (ls.length+1) cap) (ls.length+1) (flatP ls++zs)) (hg:wA.grownBy w5 vp.ownBlock) (hat:vp.ownBlock=some g∨w.heap.size≤g):
  Wk ((w5.setCells g (ls.length*6) p.cells).setCell ⟨B,0,none⟩ (.slice (some ⟨g,0,none⟩) (ls.length+1) cap)) base B 0 (.slice (some ⟨g,0,none⟩) (ls.length+1) cap) vd (ls++[p]) ds∧
  Keep (WS B vp vd) w ((w5.setCells g (ls.length*6) p.cells).setCell ⟨B,0,none⟩ (.slice (some ⟨g,0,none⟩) (ls.length+1) cap))∧RV w vp (.slice (some ⟨g,0,none⟩) (ls.length+1) cap):=by
 have hB:B<w.heap.size:=block_lt_of_cell h.c0;have hgB:g≠B:=by
  rcases hat with e|e
  ·intro e';exact h.np (by rw[e,e'])
  ·omega
 have hK5:Keep (fun k=>vp.ownBlock=some k) w w5:=⟨hg.os.trans hA.os,hg.tape.trans hA.tape,hg.output.trans hA.output,Nat.le_trans hA.size hg.size,fun k hk hn=>(hg.block k (by have:=hA.size;omega) (fun e=>hn e.symm)).trans (hA.block k hk)⟩
 have hKS:Keep (WS B vp vd) w w5:=hK5.mono (fun k _ e=> .inr (.inl e));have hrow:=Pt.own_put p.cells hown (by rw[hz];rfl) (flatP_length ls);have hbase:=h.le;have hgb:=(Pt.own_block hown).1
 -- the parts behind the two stores
 have hKg:Keep (fun k=>k=g∨vp.ownBlock=some k) w (w5.setCells g (ls.length*6) p.cells):=Pt.keep_setCells (.inl rfl) _ _ (hK5.mono (fun k _ e=> .inr e));have hKf:Keep (fun k=>k=B∨k=g∨vp.ownBlock=some k) w ((w5.setCells g (ls.length*6) p.cells).setCell ⟨B,0,none⟩ (.slice (some ⟨g,0,none⟩) (ls.length+1) cap)):=(hKg.mono (fun k _ e=> .inr e)).setCell (.inl rfl) 0 _;have hSvd:∀k,vd.ownBlock=some k→¬ (k=g∨vp.ownBlock=some k):=by
  intro k hk e;rcases e with e|e
  ·subst e;rcases hat with e'|e'
   ·exact h.pd k e' hk
   ·have:=(own_lt h.rd k hk).2;omega
  ·exact h.pd k e hk
 have hSB:¬ (B=g∨vp.ownBlock=some B):=by
  intro e;rcases e with e|e
  ·exact hgB e.symm
  ·exact h.np e
 have c0:((w5.setCells g (ls.length*6) p.cells).cell? ⟨B,0,none⟩).isSome=true:=by rw[hKg.cell 0 hB hSB,h.c0];rfl
 have ne:∀j,j≠0→(⟨B,0,none⟩:Addr)≠⟨B,j,none⟩:=fun j hj e=>by cases e;exact hj rfl
 refine⟨⟨World.cell?_setCell_same' _ _ _ c0,?_,?_,fun j=> ?_,?_,?_,?_,h.nd,?_,?_,?_,?_,hbase⟩,?_,?_⟩
 ·rw[World.cell?_setCell_other _ _ _ _ (ne 1 (by omega)),hKg.cell 1 hB hSB];exact h.c1
 ·rw[World.cell?_setCell_other _ _ _ _ (ne 2 (by omega)),hKg.cell 2 hB hSB];exact h.c2
 ·rw[World.frozen?_setCell,hKg.frozen j hB hSB];exact h.fz j
 ·rw[List.length_append,flatP_app];exact own_keep (S:=fun k=>k=B) hrow ((Keep.refl (fun k=>k=B) _).setCell rfl 0 _) (fun k hk e=>by cases hk;exact hgB e)
 ·exact own_keep h.rd hKf (fun k hk e=>by
   rcases e with e|e
   ·exact h.nd (by rw[hk,e])
   ·exact hSvd k hk e)
 ·intro e;cases e;exact hgB rfl
 ·intro k hk hk';cases hk;exact hSvd _ hk' (.inl rfl)
 ·intro q hq;have hqr:Rep (fun k=>k<base) w q.d q.vm q.vl q.vt:=by
   rcases List.mem_append.1 hq with hq|hq
   ·exact h.rep q hq
   ·obtain rfl:q=p:=by simpa using hq
    exact hp
  refine Rep.keep hKf (fun b hb hb' e=> ?_) q.d hqr;rcases e with e|e|e
  ·omega
  ·omega
  ·have:=(own_lt h.rp b e).1;omega
 ·rw[List.length_append];show ls.length+1≤4096;omega
 ·rw[List.length_append];have:=h.eq;show ds.length≤ls.length+1;omega
 ·refine hKf.mono (fun k hk e=> ?_);rcases e with e|e|e
  ·exact .inl e
  ·subst e;rcases hat with e'|e'
   ·exact .inr (.inl e')
   ·omega
  ·exact .inr (.inl e)
 ·intro k hk;cases hk;exact hat
theorem Wk.pushD{w wA w5:World}{base B:Nat}{vp vd vd':Value}{ls:List P}{ds:List Int}(h:Wk w base B 0 vp vd ls ds)(hl:ds.length+1≤ls.length)(x:Int)(hA:Below w.heap.size w wA)
  (hown:w5.ownsRow base 3 1 vd' (ds.length+1) (ds.map (Value.int .i64)++[.int .i64 x])) (hg:wA.grownBy w5 vd.ownBlock) (hat:vd'.ownBlock=vd.ownBlock∨vd'.ownBlock=some wA.heap.size):
  Wk (w5.setCell ⟨B,1,none⟩ vd') base B 0 vp vd' ls (ds++[x])∧Keep (WS B vp vd) w (w5.setCell ⟨B,1,none⟩ vd')∧RV w vd vd':=by
 have hB:B<w.heap.size:=block_lt_of_cell h.c0;have hK5:Keep (fun k=>vd.ownBlock=some k) w w5:=⟨hg.os.trans hA.os,hg.tape.trans hA.tape,hg.output.trans hA.output,Nat.le_trans hA.size hg.size,fun k hk hn=>(hg.block k (by have:=hA.size;omega) (fun e=>hn e.symm)).trans (hA.block k hk)⟩
 have hKf:Keep (fun k=>k=B∨vd.ownBlock=some k) w (w5.setCell ⟨B,1,none⟩ vd'):=(hK5.mono (fun k _ e=> .inr e)).setCell (.inl rfl) 1 _;have hSB:¬ (vd.ownBlock=some B):=h.nd;have hnB:vd'.ownBlock≠some B:=by
  rcases hat with e|e
  ·rw[e];exact h.nd
  ·rw[e];intro e';cases e';have:=hA.size;omega
 have c1:(w5.cell? ⟨B,1,none⟩).isSome=true:=by rw[hK5.cell 1 hB hSB,h.c1];rfl
 have ne:∀j,j≠1→(⟨B,1,none⟩:Addr)≠⟨B,j,none⟩:=fun j hj e=>by cases e;exact hj rfl
 have hbase:=h.le;have hrv:RV w vd vd':=by
  intro k hk;rcases hat with e|e
  ·rw[e]at hk;exact .inl hk
  ·rw[e]at hk;cases hk;have:=hA.size;exact .inr this
 refine⟨⟨?_,World.cell?_setCell_same' _ _ _ c1,?_,fun j=> ?_,?_,?_,h.np,hnB,?_,?_,h.len,by simpa using hl,hbase⟩,?_,hrv⟩
 ·rw[World.cell?_setCell_other _ _ _ _ (ne 0 (by omega)),hK5.cell 0 hB hSB];exact h.c0
 ·rw[World.cell?_setCell_other _ _ _ _ (ne 2 (by omega)),hK5.cell 2 hB hSB];exact h.c2
 ·rw[World.frozen?_setCell,hK5.frozen j hB hSB];exact h.fz j
 ·exact own_keep h.rp hKf (fun k hk e=>by
   rcases e with e|e
   ·exact h.np (by rw[hk,e])
   ·exact h.pd k hk e)
 ·rw[List.length_append,List.map_append];exact own_keep (S:=fun k=>k=B) hown ((Keep.refl (fun k=>k=B) _).setCell rfl 1 _) (fun k hk e=>hnB (by rw[hk,e]))
 ·intro k hk hk';rcases hrv k hk' with e|e
  ·exact h.pd k hk e
  ·have:=(own_lt h.rp k hk).2;omega
 ·intro q hq;refine Rep.keep hKf (fun b hb hb' e=> ?_) q.d (h.rep q hq);rcases e with e|e
  ·omega
  ·have:=(own_lt h.rd b e).1;omega
 ·refine hKf.mono (fun k hk e=> ?_);rcases e with e|e
  ·exact .inl e
  ·exact .inr (.inr e)
def GoPost(w:World)(base B:Nat)(vp vd:Value)(r:Int×Nat)(L:List D)(w':World):Prop:=
 ∃vp' vd' ls' ds',Wk w' base B r.1 vp' vd' ls' ds'∧ls'.length=r.2∧(r.1=0→ls'.map P.d=L)∧Keep (WS B vp vd) w w'∧RV w vp vp'∧RV w vd vd'
theorem WS.step{w w1 w2:World}{B:Nat}{vp vd vp1 vd1 vp2 vd2:Value}(h1:Keep (WS B vp vd) w w1)(r1:RV w vp vp1)(s1:RV w vd vd1)(h2:Keep (WS B vp1 vd1) w1 w2)(r2:RV w1 vp1 vp2)(s2:RV w1 vd1 vd2):Keep (WS B vp vd) w w2∧RV w vp vp2∧RV w vd vd2:=by
 refine⟨?_,?_,?_⟩
 ·have h2':Keep (fun k=>WS B vp vd k∨w.heap.size≤k) w1 w2:=h2.mono (fun k _ e=>by
   rcases e with e|e|e
   ·exact .inl (.inl e)
   ·rcases r1 k e with e|e
    ·exact .inl (.inr (.inl e))
    ·exact .inr e
   ·rcases s1 k e with e|e
    ·exact .inl (.inr (.inr e))
    ·exact .inr e)
  refine((h1.mono (T:=fun k=>WS B vp vd k∨w.heap.size≤k) (fun k _ e=> .inl e)).trans h2').mono (fun k hk e=> ?_);rcases e with e|e
  ·exact e
  ·omega
 ·intro k hk;rcases r2 k hk with e|e
  ·exact r1 k e
  ·have:=h1.size;exact .inr (by omega)
 ·intro k hk;rcases s2 k hk with e|e
  ·exact s1 k e
  ·have:=h1.size;exact .inr (by omega)
end Dt
set_option maxRecDepth 100000 in
theorem goes_done{w:World}{base B:Nat}{e:Int}{vp vd:Value}{ls:List Dt.P}{ds:List Int}(h:Dt.Wk w base B e vp vd ls ds)(he:e≠0)(x:Dt.D)(vm vl vt:Value)(deep:Int):
  Calls Tryz.prog 107 #[.pointer (some ⟨B,0,none⟩),.agg #[.int .i64 x.k,.int .i64 x.n,.string x.s,vm,vl,vt],.int .i64 deep] w fun r w'=>r= .returned (.tuple #[])∧Below w.heap.size w w':=by
 have hb:Below w.heap.size w (w.alloc (.cells #[.int .i64 x.k,.int .i64 x.n,.string x.s,vm,vl,vt] 25)):=(Below.refl _ _).alloc (Nat.le_refl _) _;have c2:=(h.below hb).c2;have he0:(e==0)=false:=by simpa using he
 go_enter Tryz.func107,Tryz.ntmps107;go_wp2;refine bodyPost_ret (v:= .tuple #[]) (by simp[results,Tryz.results107,go_sem]) rfl ?_;exact⟨rfl,hb⟩
end Go.Proofs.YtfjmlfbohenmfaaGreat
