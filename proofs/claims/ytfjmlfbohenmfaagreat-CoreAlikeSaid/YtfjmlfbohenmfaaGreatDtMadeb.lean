/-
 shuttleref02.made, Clone: a datum in memory of its own, with its marks or without.
-/
import Derived.Test.YtfjmlfbohenmfaaGreatDtOwnb
import Derived.Deep.CutBlock
import Derived.Test.YtfjmlfbohenmfaaGreatCoreBBM2
namespace Go.Proofs.YtfjmlfbohenmfaaGreat
open Go.RowKit
namespace Dt
mutual
def strip(b:Bool):D→D
 | .mk k n s m l t=> .mk k n s (if b then m else []) (strips b l) (strips b t)
def strips(b:Bool):List D→List D
 |[]=>[]
 |d :: r=>strip b d :: strips b r
end
theorem strips_length(b:Bool):∀l:List D,(strips b l).length=l.length
 |[]=>by rw[strips]
 |d :: r=>by rw[strips,List.length_cons,List.length_cons,strips_length b r]
theorem strips_snoc(b:Bool):∀(l:List D) (j:Nat) (h:j<l.length),strips b (l.take (j+1))=strips b (l.take j)++[strip b l[j]]
 |[],j,h=>absurd h (by simp)
 |d :: r,0,h=>by simp[strips]
 |d :: r,j+1,h=>by
  have:=strips_snoc b r j (by simpa using h);simp only[List.take_succ_cons,strips,List.getElem_cons_succ,this,List.cons_append]
mutual
theorem strip_true:∀x:D,strip true x=x
 | .mk k n s m l t=>by rw[strip,strips_true l,strips_true t];rfl
theorem strips_true:∀x:List D,strips true x=x
 |[]=>by rw[strips]
 |d :: r=>by rw[strips,strip_true d,strips_true r]
end
theorem strip_k(b:Bool)(x:D):(strip b x).k=x.k:=by cases x;rw[strip];rfl
theorem strip_n(b:Bool)(x:D):(strip b x).n=x.n:=by cases x;rw[strip];rfl
theorem strip_s(b:Bool)(x:D):(strip b x).s=x.s:=by cases x;rw[strip];rfl
def mrk(b:Bool)(x:D):List Int:=if b then x.m else []
theorem strip_m(b:Bool)(x:D):(strip b x).m=mrk b x:=by cases x;rw[strip];rfl
theorem strip_l(b:Bool)(x:D):(strip b x).l=strips b x.l:=by cases x;rw[strip];rfl
theorem strip_t(b:Bool)(x:D):(strip b x).t=strips b x.t:=by cases x;rw[strip];rfl
def Made(b:Bool)(x:D):Prop:=∀(F:Nat→Prop) (vm vl vt:Value) (w:World),Wf x→Fine x→Rep F w x vm vl vt→
 Calls Tryz.prog 111 #[.agg #[.int .i64 x.k,.int .i64 x.n,.string x.s,vm,vl,vt],.bool b] w fun e w'=>Fresh w.heap.size w' (strip b x) e∧Below w.heap.size w w'
def ElS(w:World)(X f:Nat)(v:Value)(g o:Nat)(y:D)(a b c:Value):Prop:=w.cell? ⟨X,f,none⟩=some v∧Six w g o y a b c
theorem ElS.keep{S:Nat→Prop}{w w':World}{X f:Nat}{v:Value}{g o:Nat}{y:D}{a b c:Value}(h:ElS w X f v g o y a b c)(hk:Keep S w w')(hX:¬S X)(hg:¬S g):ElS w' X f v g o y a b c:=
 ⟨(hk.cell f (block_lt_of_cell h.1) hX).trans h.1,h.2.keep hk (block_lt_of_cell h.2.c0) hg⟩
def InvL(b:Bool)(w4:World)(O:Nat)(x:D)(vm vt:Value)(L:List D)(ps:List P)(v:Value)(wr:World):Prop:=
 Rowing wr w4.heap.size v ps∧ps.map P.d=strips b (L.take ps.length)∧Keep (fun k=>k=O) w4 wr∧Box wr O x vm v vt∧(∀j,wr.frozen? ⟨O,j,none⟩=false)
theorem InvL.step{b:Bool}{w4 wr w1 wA w5:World}{O:Nat}{x:D}{vm vt:Value}{L:List D}{ps:List P}{v v':Value}(h:InvL b w4 O x vm vt L ps v wr)(hO:O<w4.heap.size)(hj:ps.length<L.length){p:P}(hpd:p.d=strip b L[ps.length])
  (h1:Below wr.heap.size wr w1) (hp:Rep (fun k=>wr.heap.size≤k) w1 p.d p.vm p.vl p.vt) (hA:Below w1.heap.size w1 wA)
  (hown:w5.ownsRow w4.heap.size 25 6 v' (ps.length+1) (flatP ps++p.cells)) (hg:wA.grownBy w5 v.ownBlock) (hat:v'.ownBlock=v.ownBlock∨v'.ownBlock=some wA.heap.size):
  w5.cell? ⟨O,4,none⟩=some v∧w5.frozen? ⟨O,4,none⟩=false∧InvL b w4 O x vm vt L (ps++[p]) v' (w5.setCell ⟨O,4,none⟩ v'):=by
 obtain⟨hR,hm,hk,hb,hf⟩:=h;have hsz:=hk.size;obtain⟨k1,k2⟩:=hR.push hsz h1 hp hA hown hg hat;have hvO:¬v.ownBlock=some O:=fun e=>by have:=(own_lt hR.row O e).1;omega
 have hb5:=hb.keep k2 hvO;have hf5:=frz_keep hf k2 (by omega) hvO;have hk5:Keep (fun k=>k=O) w4 w5:=((hk.mono (T:=fun k=>k=O∨w4.heap.size≤k) (fun k _ e=> .inl e)).trans (k2.mono (fun k _ e=> .inr (own_lt hR.row k e).1))).mono (fun k hk e=>e.elim id (fun e=>by omega));have hl:ps.length<(L.take (ps.length+1)).length:=by rw[List.length_take];omega
 refine⟨hb5.2.2.2.2.1,hf5 4,k1.keep (keep1 w5 O 4 v') (fun k hk _ e=>by omega),?_,hk5.setCell rfl 4 v',hb5.set4 v',fun j=>(frz_set w5 O 4 v' O j).trans (hf5 j)⟩;rw[List.map_append,hm,List.length_append,List.map_cons,List.map_nil,hpd];exact(strips_snoc b L ps.length hj).symm
theorem InvL.el{b:Bool}{_w w4 wr:World}{O X:Nat}{x:D}{vm vt:Value}{L:List D}{ps:List P}{v:Value}(h:InvL b w4 O x vm vt L ps v wr){a:Option Addr}{c:Nat}{n:Nat}(hRow:Row (fun k=>k<n) w4 (.slice a L.length c) L)(hn:n≤O)(hX:w4.cell? ⟨X,4,none⟩=some (.slice a L.length c))(hXO:X≠O)(hj:ps.length<L.length):
  ∃g o y a1 b1 c1,a=some ⟨g,o,none⟩∧y=L[ps.length]∧ElS wr X 4 (.slice a L.length c) g (o+ps.length*6) y a1 b1 c1∧Rep (fun k=>k<n) wr y a1 b1 c1∧
   (∀w',Keep (fun k=>k=O∨w4.heap.size≤k) wr w'→ElS w' X 4 (.slice a L.length c) g (o+ps.length*6) y a1 b1 c1):=by
 obtain⟨hR,hm,hk,hb,hf⟩:=h;have hr:=hRow.keep hk (fun b hb _ e=>by omega);obtain⟨a',c',h1,h2,h3⟩:=hr;cases h1;obtain⟨g,o,e1,e2,e3,e4⟩:=h3 (by intro e;rw[e]at hj;simp at hj);obtain⟨vm',vl',vt',hs,hrep⟩:=e4.at ps.length hj;have hXl:X<w4.heap.size:=block_lt_of_cell hX;have hgl:g<w4.heap.size:=by
  obtain⟨a2,c2,q1,q2,q3⟩:=hRow;cases q1;obtain⟨g2,o2,r1,r2,r3,r4⟩:=q3 (by intro e;rw[e]at hj;simp at hj);rw[e1]at r1;cases r1;exact r3
 have hel:ElS wr X 4 (.slice a L.length c) g (o+ps.length*6) L[ps.length] vm' vl' vt':=⟨(hk.cell 4 hXl hXO).trans hX,hs⟩
 exact⟨g,o,_,vm',vl',vt',e1,rfl,hel,hrep,fun w' hk'=>hel.keep hk' (fun e=>by omega) (fun e=>by omega)⟩
def InvT(b:Bool)(w4:World)(O:Nat)(x:D)(vm vl:Value)(L:List D)(ps:List P)(v:Value)(wr:World):Prop:=
 Rowing wr w4.heap.size v ps∧ps.map P.d=strips b (L.take ps.length)∧Keep (fun k=>k=O) w4 wr∧Box wr O x vm vl v∧(∀j,wr.frozen? ⟨O,j,none⟩=false)
theorem InvT.step{b:Bool}{w4 wr w1 wA w5:World}{O:Nat}{x:D}{vm vl:Value}{L:List D}{ps:List P}{v v':Value}(h:InvT b w4 O x vm vl L ps v wr)(hO:O<w4.heap.size)(hj:ps.length<L.length){p:P}(hpd:p.d=strip b L[ps.length])
  (h1:Below wr.heap.size wr w1) (hp:Rep (fun k=>wr.heap.size≤k) w1 p.d p.vm p.vl p.vt) (hA:Below w1.heap.size w1 wA)
  (hown:w5.ownsRow w4.heap.size 25 6 v' (ps.length+1) (flatP ps++p.cells)) (hg:wA.grownBy w5 v.ownBlock) (hat:v'.ownBlock=v.ownBlock∨v'.ownBlock=some wA.heap.size):
  w5.cell? ⟨O,5,none⟩=some v∧w5.frozen? ⟨O,5,none⟩=false∧InvT b w4 O x vm vl L (ps++[p]) v' (w5.setCell ⟨O,5,none⟩ v'):=by
 obtain⟨hR,hm,hk,hb,hf⟩:=h;have hsz:=hk.size;obtain⟨k1,k2⟩:=hR.push hsz h1 hp hA hown hg hat;have hvO:¬v.ownBlock=some O:=fun e=>by have:=(own_lt hR.row O e).1;omega
 have hb5:=hb.keep k2 hvO;have hf5:=frz_keep hf k2 (by omega) hvO;have hk5:Keep (fun k=>k=O) w4 w5:=((hk.mono (T:=fun k=>k=O∨w4.heap.size≤k) (fun k _ e=> .inl e)).trans (k2.mono (fun k _ e=> .inr (own_lt hR.row k e).1))).mono (fun k hk e=>e.elim id (fun e=>by omega));have hl:ps.length<(L.take (ps.length+1)).length:=by rw[List.length_take];omega
 refine⟨hb5.2.2.2.2.2,hf5 5,k1.keep (keep1 w5 O 5 v') (fun k hk _ e=>by omega),?_,hk5.setCell rfl 5 v',hb5.set5 v',fun j=>(frz_set w5 O 5 v' O j).trans (hf5 j)⟩;rw[List.map_append,hm,List.length_append,List.map_cons,List.map_nil,hpd];exact(strips_snoc b L ps.length hj).symm
theorem InvT.el{b:Bool}{_w w4 wr:World}{O X:Nat}{x:D}{vm vl:Value}{L:List D}{ps:List P}{v:Value}(h:InvT b w4 O x vm vl L ps v wr){a:Option Addr}{c:Nat}{n:Nat}(hRow:Row (fun k=>k<n) w4 (.slice a L.length c) L)(hn:n≤O)(hX:w4.cell? ⟨X,5,none⟩=some (.slice a L.length c))(hXO:X≠O)(hj:ps.length<L.length):
  ∃g o y a1 b1 c1,a=some ⟨g,o,none⟩∧y=L[ps.length]∧ElS wr X 5 (.slice a L.length c) g (o+ps.length*6) y a1 b1 c1∧Rep (fun k=>k<n) wr y a1 b1 c1∧
   (∀w',Keep (fun k=>k=O∨w4.heap.size≤k) wr w'→ElS w' X 5 (.slice a L.length c) g (o+ps.length*6) y a1 b1 c1):=by
 obtain⟨hR,hm,hk,hb,hf⟩:=h;have hr:=hRow.keep hk (fun b hb _ e=>by omega);obtain⟨a',c',h1,h2,h3⟩:=hr;cases h1;obtain⟨g,o,e1,e2,e3,e4⟩:=h3 (by intro e;rw[e]at hj;simp at hj);obtain⟨vm',vl',vt',hs,hrep⟩:=e4.at ps.length hj;have hXl:X<w4.heap.size:=block_lt_of_cell hX;have hgl:g<w4.heap.size:=by
  obtain⟨a2,c2,q1,q2,q3⟩:=hRow;cases q1;obtain⟨g2,o2,r1,r2,r3,r4⟩:=q3 (by intro e;rw[e]at hj;simp at hj);rw[e1]at r1;cases r1;exact r3
 have hel:ElS wr X 5 (.slice a L.length c) g (o+ps.length*6) L[ps.length] vm' vl' vt':=⟨(hk.cell 5 hXl hXO).trans hX,hs⟩
 exact⟨g,o,_,vm',vl',vt',e1,rfl,hel,hrep,fun w' hk'=>hel.keep hk' (fun e=>by omega) (fun e=>by omega)⟩
def Mid4(b:Bool)(w:World)(x:D)(vm vl vt:Value)(wx:World):Prop:=∃a c,Box wx (w.heap.size+1+1) x (.slice a (mrk b x).length c) (.slice none 0 0) (.slice none 0 0)∧IRow (fun k=>w.heap.size+1+1<k) wx (.slice a (mrk b x).length c) (mrk b x)∧Box wx w.heap.size x vm vl vt∧Box wx (w.heap.size+1) (.mk 0 0 ⟨#[]⟩ [] [] []) (.slice none 0 0) (.slice none 0 0) (.slice none 0 0)∧(∀j,wx.frozen? ⟨w.heap.size+1,j,none⟩=false)∧(∀j,wx.frozen? ⟨w.heap.size+1+1,j,none⟩=false)∧Below w.heap.size w wx∧w.heap.size+1+1<wx.heap.size
theorem Mid4.start{w w1 w2 w3:World}{x:D}{vm vl vt:Value}(h1:w.alloc (.cells #[.int .i64 x.k,.int .i64 x.n,.string x.s,vm,vl,vt] 25)=w1)(h2:w1.alloc (.cells #[.int .i64 0,.int .i64 0,.string ⟨#[]⟩,.slice none 0 0,.slice none 0 0,.slice none 0 0] 25)=w2)(h3:w2.alloc (.cells #[.int .i64 x.k,.int .i64 x.n,.string x.s,.slice none 0 0,.slice none 0 0,.slice none 0 0] 25)=w3):
  Box w3 (w.heap.size+1+1) x (.slice none 0 0) (.slice none 0 0) (.slice none 0 0)∧Box w3 w.heap.size x vm vl vt∧Box w3 (w.heap.size+1) (.mk 0 0 ⟨#[]⟩ [] [] []) (.slice none 0 0) (.slice none 0 0) (.slice none 0 0)∧(∀j,w3.frozen? ⟨w.heap.size+1,j,none⟩=false)∧(∀j,w3.frozen? ⟨w.heap.size+1+1,j,none⟩=false)∧Below w.heap.size w w3∧w3.heap.size=w.heap.size+1+1+1∧w1.heap.size=w.heap.size+1∧w2.heap.size=w.heap.size+1+1∧Box w1 w.heap.size x vm vl vt∧Box w2 w.heap.size x vm vl vt:=by
 have s1:w1.heap.size=w.heap.size+1:=by rw[←h1];simp
 have s2:w2.heap.size=w.heap.size+1+1:=by rw[←h2,World.size_alloc,s1]
 have s3:w3.heap.size=w.heap.size+1+1+1:=by rw[←h3,World.size_alloc,s2]
 have hb1:Below w.heap.size w w1:=by rw[←h1];exact(Below.refl _ _).alloc (Nat.le_refl _) _
 have hb2:Below w1.heap.size w1 w2:=by rw[←h2];exact(Below.refl _ _).alloc (Nat.le_refl _) _
 have hb3:Below w2.heap.size w2 w3:=by rw[←h3];exact(Below.refl _ _).alloc (Nat.le_refl _) _
 have a1:=six_new w x.k x.n x.s vm vl vt 25;rw[h1]at a1;have B1:Box w1 w.heap.size x vm vl vt:=⟨a1 0 (by omega),a1 1 (by omega),a1 2 (by omega),a1 3 (by omega),a1 4 (by omega),a1 5 (by omega)⟩
 have a2:=six_new w1 0 0 ⟨#[]⟩ (.slice none 0 0) (.slice none 0 0) (.slice none 0 0) 25;rw[h2,s1]at a2;have B2:Box w2 (w.heap.size+1) (.mk 0 0 ⟨#[]⟩ [] [] []) (.slice none 0 0) (.slice none 0 0) (.slice none 0 0):=⟨a2 0 (by omega),a2 1 (by omega),a2 2 (by omega),a2 3 (by omega),a2 4 (by omega),a2 5 (by omega)⟩
 have a3:=six_new w2 x.k x.n x.s (.slice none 0 0) (.slice none 0 0) (.slice none 0 0) 25;rw[h3,s2]at a3;have B3:Box w3 (w.heap.size+1+1) x (.slice none 0 0) (.slice none 0 0) (.slice none 0 0):=⟨a3 0 (by omega),a3 1 (by omega),a3 2 (by omega),a3 3 (by omega),a3 4 (by omega),a3 5 (by omega)⟩
 have f2:∀j,w2.frozen? ⟨w.heap.size+1,j,none⟩=false:=fun j=>by
  have:=frz_new w1 #[.int .i64 0,.int .i64 0,.string ⟨#[]⟩,.slice none 0 0,.slice none 0 0,.slice none 0 0] 25 j;rw[h2,s1]at this;exact this
 have f3:∀j,w3.frozen? ⟨w.heap.size+1+1,j,none⟩=false:=fun j=>by
  have:=frz_new w2 #[.int .i64 x.k,.int .i64 x.n,.string x.s,.slice none 0 0,.slice none 0 0,.slice none 0 0] 25 j;rw[h3,s2]at this;exact this
 exact⟨B3,(B1.below hb2).below hb3,B2.below hb3,fun j=>(hb3.frozen (p:=⟨w.heap.size+1,j,none⟩) (by show w.heap.size+1<_;omega)).trans (f2 j),f3,(hb1.trans (hb2.mono (by omega))).trans (hb3.mono (by omega)),s3,s1,s2,B1,B1.below hb2⟩
theorem IRow.src'{F:Nat→Prop}{w:World}{a:Option Addr}{c:Nat}{m:List Int}(h:IRow F w (.slice a m.length c) m):Ap.Src w (.slice a m.length c) m.length (m.map (Value.int .i64))∨(a=none∧m=[]):=by
 by_cases ha:a=none
 ·right;refine⟨ha,?_⟩;obtain⟨a',c',h1,h2,h3⟩:=h;cases h1
  cases m with
  |nil=>rfl
  |cons x r=>obtain⟨b,o,e,_⟩:=h3 (by simp);rw[ha]at e;cases e
 ·exact .inl (h.src ha)
theorem Mid4.marks{b:Bool}{w w3 w5:World}{x:D}{vm vl vt:Value}(q1:Box w3 (w.heap.size+1+1) x (.slice none 0 0) (.slice none 0 0) (.slice none 0 0))(q2:Box w3 w.heap.size x vm vl vt)(q3:Box w3 (w.heap.size+1) (.mk 0 0 ⟨#[]⟩ [] [] []) (.slice none 0 0) (.slice none 0 0) (.slice none 0 0))(q4:∀j,w3.frozen? ⟨w.heap.size+1,j,none⟩=false)(q5:∀j,w3.frozen? ⟨w.heap.size+1+1,j,none⟩=false)(q6:Below w.heap.size w w3)(s3:w3.heap.size=w.heap.size+1+1+1)
  (hb:Below w3.heap.size w3 w5) {a:Option Addr} {c:Nat} (hi:IRow (fun k=>w3.heap.size≤k) w5 (.slice a (mrk b x).length c) (mrk b x)):
  w5.cell? ⟨w.heap.size+1+1,3,none⟩=some (.slice none 0 0)∧w5.frozen? ⟨w.heap.size+1+1,3,none⟩=false∧Mid4 b w x vm vl vt (w5.setCell ⟨w.heap.size+1+1,3,none⟩ (.slice a (mrk b x).length c)):=by
 have hf5:∀j,w5.frozen? ⟨w.heap.size+1+1,j,none⟩=false:=fun j=>(hb.frozen (p:=⟨w.heap.size+1+1,j,none⟩) (by show w.heap.size+1+1<_;omega)).trans (q5 j)
 have hf4:∀j,w5.frozen? ⟨w.heap.size+1,j,none⟩=false:=fun j=>(hb.frozen (p:=⟨w.heap.size+1,j,none⟩) (by show w.heap.size+1<_;omega)).trans (q4 j)
 have hbx:=q1.below hb;have hk:=keep1 w5 (w.heap.size+1+1) 3 (.slice a (mrk b x).length c);have hs:=hb.size;refine⟨hbx.2.2.2.1,hf5 3,a,c,hbx.set3 _,IRow.mono (IRow.keep hi hk (fun b hb _ e=>by omega)) (fun _ hb _=>by omega),(q2.below hb).keep hk (by omega),(q3.below hb).keep hk (by omega),fun j=>(frz_set _ _ _ _ _ _).trans (hf4 j),fun j=>(frz_set _ _ _ _ _ _).trans (hf5 j),((btr q6 hb)).trans (hk.to_below (fun k e=>by omega) (by omega)),?_⟩;have:=hk.size;omega
theorem Mid4.none'{b:Bool}{w w3:World}{x:D}{vm vl vt:Value}(q1:Box w3 (w.heap.size+1+1) x (.slice none 0 0) (.slice none 0 0) (.slice none 0 0))(q2:Box w3 w.heap.size x vm vl vt)(q3:Box w3 (w.heap.size+1) (.mk 0 0 ⟨#[]⟩ [] [] []) (.slice none 0 0) (.slice none 0 0) (.slice none 0 0))(q4:∀j,w3.frozen? ⟨w.heap.size+1,j,none⟩=false)(q5:∀j,w3.frozen? ⟨w.heap.size+1+1,j,none⟩=false)(q6:Below w.heap.size w w3)(s3:w3.heap.size=w.heap.size+1+1+1)(hb:b=false):
  Mid4 b w x vm vl vt w3:=by
 subst hb;exact⟨none,0,q1,⟨none,0,rfl,Nat.le_refl _,fun h=>absurd rfl h⟩,q2,q3,q4,q5,q6,by omega⟩
theorem made_end{b:Bool}{w wc wo wr:World}{x:D}{vx vy vz vm vL v:Value}{ps:List P}(hi:IRow (fun k=>w.heap.size+1+1<k) wc vm (mrk b x))(hZ:Box wc (w.heap.size+1) (.mk 0 0 ⟨#[]⟩ [] [] []) vx vy vz)(hf:∀j,wc.frozen? ⟨w.heap.size+1,j,none⟩=false)(hbl:Below w.heap.size w wc)(hs:w.heap.size+1+1<wc.heap.size)
  (hL:Row (fun k=>wc.heap.size≤k) wo vL (strips b x.l)) (kL:Keep (fun k=>k=w.heap.size+1+1) wc wo) (hI:InvT b wo (w.heap.size+1+1) x vm vL x.t ps v wr) (hlen:ps.length=x.t.length):
  Box wr (w.heap.size+1+1) x vm vL v∧Box wr (w.heap.size+1) (.mk 0 0 ⟨#[]⟩ [] [] []) vx vy vz∧(∀j,wr.frozen? ⟨w.heap.size+1,j,none⟩=false)∧Fresh w.heap.size (six6 wr (w.heap.size+1) x vm vL v) (strip b x) (.returned (.agg #[.int .i64 x.k,.int .i64 x.n,.string x.s,vm,vL,v]))∧Below w.heap.size w (six6 wr (w.heap.size+1) x vm vL v):=by
 obtain⟨h1,h2,h3,h4,h5⟩:=hI;have kk:Keep (fun k=>k=w.heap.size+1+1) wc wr:=kL.trans h3;have k6:=six6_keep wr (w.heap.size+1) x vm vL v;have s1:=kL.size;have s2:=h3.size;have s3:=k6.size;have hT:=h1.to_row;rw[h2,hlen,List.take_length]at hT;have gI:IRow (fun k=>w.heap.size≤k) (six6 wr (w.heap.size+1) x vm vL v) vm (mrk b x):=IRow.mono (IRow.keep (IRow.keep hi kk (fun b hb _ e=>by omega)) k6 (fun b hb _ e=>by omega)) (fun _ hb _=>by omega);have gL:Row (fun k=>w.heap.size≤k) (six6 wr (w.heap.size+1) x vm vL v) vL (strips b x.l):=Row.mono (Row.keep (Row.keep hL h3 (fun b hb _ e=>by omega)) k6 (fun b hb _ e=>by omega)) (fun _ hb _=>by omega);have gT:Row (fun k=>w.heap.size≤k) (six6 wr (w.heap.size+1) x vm vL v) v (strips b x.t):=Row.mono (Row.keep hT k6 (fun b hb _ e=>by omega)) (fun _ hb _=>by omega);refine⟨h4,hZ.keep kk (by omega),fun j=>(kk.frozen j (by omega) (by omega)).trans (hf j),⟨vm,vL,v,by rw[strip_k,strip_n,strip_s],(rep_iff _ _ _ _ _ _).2 ⟨by rw[strip_m];exact gI,by rw[strip_l];exact gL,by rw[strip_t];exact gT⟩⟩,(hbl.trans (kk.to_below (fun k e=>by omega) (by omega))).trans (k6.to_below (fun k e=>by omega) (by omega))⟩
end Dt
set_option maxRecDepth 100000 in
set_option maxHeartbeats 8000000 in
theorem made_step(b:Bool)(x:Dt.D)(hl:∀y∈x.l,Dt.Made b y)(ht:∀y∈x.t,Dt.Made b y):Dt.Made b x:=by
 intro F vm vl vt w hW hF hR;obtain⟨hm,⟨al,cal,rfl,hcl⟩,⟨at_,cat_,rfl,hct⟩⟩:=(Dt.rep_iff _ _ _ _ _ _).1 hR;have hrl:=((Dt.rep_iff _ _ _ _ _ _).1 hR).2.1;have hrt:=((Dt.rep_iff _ _ _ _ _ _).1 hR).2.2;have hm0:=hm;obtain⟨am,cm,rfl,hcm⟩:=hm;obtain⟨f1,f2,f3,f4,f5⟩:=Dt.fine_parts hF;obtain⟨w1,hw1⟩:∃w1,w.alloc (.cells #[.int .i64 x.k,.int .i64 x.n,.string x.s,.slice am x.m.length cm,.slice al x.l.length cal,.slice at_ x.t.length cat_] 25)=w1:=⟨_,rfl⟩
 obtain⟨w2,hw2⟩:∃w2,w1.alloc (.cells #[.int .i64 0,.int .i64 0,.string ⟨#[]⟩,.slice none 0 0,.slice none 0 0,.slice none 0 0] 25)=w2:=⟨_,rfl⟩
 obtain⟨w3,hw3⟩:∃w3,w2.alloc (.cells #[.int .i64 x.k,.int .i64 x.n,.string x.s,.slice none 0 0,.slice none 0 0,.slice none 0 0] 25)=w3:=⟨_,rfl⟩
 obtain⟨q1,q2,q3,q4,q5,q6,s3,s1,s2,q7,q8⟩:=Dt.Mid4.start hw1 hw2 hw3;have HRL:=zh hrl;have HRT:=zh hrt;have HM0:=zh hm0;have HL:=zh hl;have HT:=zh ht;have HW:=zh hW;have HF4:=zh f4;have HF5:=zh f5;have HB3:=zh q6;have HQ4:=zh q4;have HQ5:=zh q5;have HQ3:=zh q3;have HS3:=zh s3;obtain⟨b0,b1,b2,b3,b4,b5⟩:=q8;obtain⟨c0,c1,c2,c3,c4,c5⟩:=id q1;obtain⟨d0,d1,d2,d3,d4,d5⟩:=id q2;have HQ1:=zh q1;have HQ2:=zh q2;obtain⟨i0,hi,hz0,hz1,hz2⟩:=info_parts Dt.infoD;clear hl ht hW hF hR hrl hrt hm0 hcm hcl hct f4 f5 q1 q2 q3 q4 q5 q6 q7 s3;have HW3:=zh hw3;clear hw3;go_enter Tryz.func111,Tryz.ntmps111
 go_upto_if 15 with fail
 rw[HW3.out];clear hw1 hw2 s1 s2 b0 b1 b2 b3 b4 b5
 go_cut [] (fun wx=>Dt.Mid4 b w x (.slice am x.m.length cm) (.slice al x.l.length cal) (.slice at_ x.t.length cat_) wx)
 case first=>
  have HX3:=zh ((HM0.out).below HB3.out);have HRUN:Hid (∀w5 a c,Below w3.heap.size w3 w5→Dt.IRow (fun k=>w3.heap.size≤k) w5 (.slice a (Dt.mrk b x).length c) (Dt.mrk b x)→w5.cell? ⟨w.heap.size+1+1,3,none⟩=some (.slice none 0 0)∧w5.frozen? ⟨w.heap.size+1+1,3,none⟩=false∧Dt.Mid4 b w x (.slice am x.m.length cm) (.slice al x.l.length cal) (.slice at_ x.t.length cat_) (w5.setCell ⟨w.heap.size+1+1,3,none⟩ (.slice a (Dt.mrk b x).length c))):=
   fun w5 a c h1 h2=>Dt.Mid4.marks HQ1.out HQ2.out HQ3.out HQ4.out HQ5.out HB3.out HS3.out h1 h2
  have HNO:Hid (b=false→Dt.Mid4 b w x (.slice am x.m.length cm) (.slice al x.l.length cal) (.slice at_ x.t.length cat_) w3):=fun h=>Dt.Mid4.none' HQ1.out HQ2.out HQ3.out HQ4.out HQ5.out HB3.out HS3.out h
  clear HQ1 HQ2 HQ3 HQ4 HQ5 HL HT HF4 HF5 HRL HRT
  cases b with
  |false=>
   go_wp2;go_meet;exact HNO.out (by simp)
  |true=>
   obtain⟨i1,hi1,hy0,hy1,hy2⟩:=info_parts Dt.infoI;have hm1:0+x.m.length≤maxLen:=by unfold maxLen;omega
   have hm2:(0+x.m.length)*8≤140737488355328:=by omega
   have HO:Hid (w3.ownsRow w3.heap.size 3 1 (.slice none 0 0) 0 []):=World.ownsRow_nil _ _ _ _;rcases HX3.out.src' with hsrc|⟨rfl,hmn⟩
   ·have HS:=zh hsrc;clear hsrc;go_wp2_with(at_builtin;refine Ap.list rfl _ _ 22 rfl w3.heap.size 3 i1 (.int .i64 0) 1 8 Tryz.underlying22 hi1 hy0 hy1 hy2 rfl (by decide) (.slice none 0 0) 0 [] rfl HO.out (.slice am x.m.length cm) x.m.length (x.m.map (Value.int .i64)) rfl HS.out (by simp) (by intro u hu;obtain⟨x,_,rfl⟩:=List.mem_map.1 hu;rfl) hm1 hm2 (Nat.le_refl _) ?_;intro v' w5 hown hg hat;obtain⟨a5,c5,rfl⟩:=Dt.row_form hown;obtain⟨z1,z2,HM⟩:=HRUN.out w5 a5 c5 ⟨hg.os,hg.tape,hg.output,hg.size,fun k hk=>hg.block k hk (by intro e;cases e)⟩ (show Dt.IRow _ w5 (.slice a5 x.m.length c5) x.m from Dt.IRow.of_own (by simpa using hown));have HMM:=zh HM;clear HM hown hg hat;rw[Nat.zero_add])
    go_meet;exact HMM.out
   ·have HMN:=zh hmn;obtain⟨z1,z2,HM⟩:=HRUN.out w3 none 0 (Below.refl _ _) (show Dt.IRow _ w3 (.slice none x.m.length 0) x.m from by rw[HMN.out];exact⟨none,0,rfl,Nat.le_refl _,fun h=>absurd rfl h⟩);rw[show(Dt.mrk true x).length=0 from by show x.m.length=0;rw[HMN.out];rfl]at HM;have HMM:=zh HM;clear HM hmn;go_wp2_with(at_builtin;refine Pt.list_none rfl _ _ 22 rfl w3.heap.size 3 i1 1 cm Tryz.underlying22 hi1 (.slice none 0 0) 0 [] rfl HO.out (by rw[show Act.eval _ _=(Value.slice none x.m.length cm)from rfl,HMN.out];rfl) ?_)
    go_meet;exact HMM.out
 case rest=>
  obtain⟨a5,cq5,hb5,hi5,hx5,hr5,hf5,hfo5,hbl5,hs5⟩:=hcut;clear c0 c1 c2 c3 c4 c5 d0 d1 d2 d3 d4 d5 HQ1 HQ2 HQ3 HQ4 HQ5 HB3 HS3;have HO4:Hid (w.heap.size+1+1<wc.heap.size):=hs5;have HROW:Hid (Dt.Row (fun k=>k<w.heap.size) wc (.slice al x.l.length cal) x.l):=(HRL.out.mono (fun _ _ h=>h)).below hbl5;have HX:=zh hx5.2.2.2.2.1;have HI0:Hid (Dt.InvL b wc (w.heap.size+1+1) x (.slice a5 (Dt.mrk b x).length cq5) (.slice none 0 0) x.l [] (.slice none 0 0) wc):=⟨Dt.Rowing.nil _ _,by simp[Dt.strips],Keep.refl _ _,hb5,hfo5⟩
  obtain⟨c0,c1,c2,c3,c4,c5⟩:=id hb5;obtain⟨d0,d1,d2,d3,d4,d5⟩:=id hx5;have HBX:=zh hx5;have HBR:=zh hr5;have HFR:=zh hf5;have HBL:=zh hbl5;have HI5:=zh hi5;clear hb5 hi5 hx5 hr5 hf5 hfo5 hbl5 hs5;go_wp2
  go_loopw [6] (fun v wr=>∃(ps:List Dt.P) (av:Option Addr) (cv:Nat),v= .int .i64 ps.length∧ps.length≤x.l.length∧Hid (Dt.InvL b wc (w.heap.size+1+1) x (.slice a5 (Dt.mrk b x).length cq5) (.slice none 0 0) x.l ps (.slice av ps.length cv) wr)) (fun v _=>x.l.length - (intOf v).toNat)
  case atStart=>exact⟨[],none,0,rfl,Nat.zero_le _,HI0⟩
  case round=>
   clear c0 c1 c2 c3 c4 c5 d0 d1 d2 d3 d4 d5;obtain⟨ps,av,cv,rfl,hj,HI⟩:=hrel;by_cases hltn:ps.length<x.l.length
   ·have hlti:(ps.length:Int)<(x.l.length:Int):=by omega
    obtain⟨g,o,y,vb1,vb2,vb3,hag,hy,hel,hrp,hS⟩:=HI.out.el (_w:=w) HROW.out (by omega) HX.out (by omega) hltn;obtain⟨b1,m1,p1,b2,m2,p2,b3,m3,p3,rfl,rfl,rfl⟩:=hrp.forms;have HY:=zh hy;have HC:Hid (∀u,Below wr.heap.size wr u→Calls Tryz.prog 111 #[.agg #[.int .i64 y.k,.int .i64 y.n,.string y.s,.slice b1 m1 p1,.slice b2 m2 p2,.slice b3 m3 p3],.bool b] u fun e w'=>Dt.Fresh u.heap.size w' (Dt.strip b y) e∧Below u.heap.size u w'):=fun u hu=>HL.out y (by rw[hy];exact List.getElem_mem _) _ _ _ _ u (by rw[hy];exact(Dt.wf_l HW.out).at _ hltn) (by rw[hy];exact Dt.Fines.at HF4.out _ (List.getElem_mem _)) (hrp.below hu)
    have HBD:Hid (Below wr.heap.size wr wr.drew):=(Below.refl _ wr).drew;have HS:=zh hS;obtain⟨xc,xr⟩:=id hel;obtain⟨oc0,oc1,oc2,oc3,oc4,oc5⟩:=HI.out.2.2.2.1;have of:=HI.out.2.2.2.2 4;subst hag;clear hy hel hrp hS;go_upto_block 1 with fail
    go_cut [] (fun wx=>∃p av' cv',Dt.InvL b wc (w.heap.size+1+1) x (.slice a5 (Dt.mrk b x).length cq5) (.slice none 0 0) x.l (ps++[p]) (.slice av' (ps.length+1) cv') wx)
    case first=>
     go_wp2_with fail
     have hmx:ps.length+1≤maxLen:=by unfold maxLen;omega
     have hby:(ps.length+1)*104≤140737488355328:=by omega
     have HBD0:Hid (Below wr.heap.size wr wr.drew):=(Below.refl _ wr).drew;have oF:wr.drew.cell? ⟨w.heap.size+1+1,4,none⟩=some (.slice av ps.length cv):=HI.out.2.2.2.1.2.2.2.2.1;have hOl:w.heap.size+1+1<wr.drew.heap.size:=block_lt_of_cell oF;have hSd:Dt.ElS wr.drew w.heap.size 4 (.slice (some ⟨g,o,none⟩) x.l.length cal) g (o+ps.length*6) y (.slice b1 m1 p1) (.slice b2 m2 p2) (.slice b3 m3 p3):=HS.out _ ((Keep.refl _ _).below HBD0.out);have hpj0:(0:Int)≤(ps.length:Int):=by omega
     have HKW:Hid (∀w6,Below wr.heap.size wr w6→∀ {o:Obj} {w7:World},(w6.alloc o).grownBy w7 (Value.slice av ps.length cv).ownBlock→Keep (fun k=>k=w.heap.size+1+1∨wc.heap.size≤k) wr w7):=by
      intro w6 h6 o w7 hg;have hA:=h6.trans (((Below.refl _ w6).alloc (Nat.le_refl _) o).mono h6.size);have hrow:=HI.out.1.row;exact⟨hg.os.trans hA.os,hg.tape.trans hA.tape,hg.output.trans hA.output,Nat.le_trans hA.size hg.size,fun k hk hn=>(hg.block k (by have:=hA.size;omega) (fun e=>hn (.inr (Dt.own_lt hrow k e.symm).1))).trans (hA.block k hk)⟩
     refine wp_region_noPanic ?_;refine wp_region_held_drew (S:=fun w'=>Dt.ElS w' w.heap.size 4 (.slice (some ⟨g,o,none⟩) x.l.length cal) g (o+ps.length*6) y (.slice b1 m1 p1) (.slice b2 m2 p2) (.slice b3 m3 p3)) (by kernel_rfl) hSd (fun hHeld=> ?_);refine Zm.u 0 ?_ rfl ?_ ?_;rotate_left
     ·intro w hSw;try dsimp only at hSw
      go_simp;try with_reducible rfl
     simp only[Act.put,za,zb,zc];refine Zm.u 2 ?_ rfl ?_ ?_;rotate_left
     ·intro w hSw;try dsimp only at hSw
      go_simp;try with_reducible rfl
     simp only[Act.put,za,zb,zc];refine Zm.u 3 ?_ rfl ?_ ?_;rotate_left
     ·intro w hSw;obtain⟨g9,g0,g1,g2,g3,g4,g5⟩:=hSw;go_simp;try with_reducible rfl
     simp only[Act.put,za,zb,zc];refine Zm.u 4 ?_ rfl ?_ ?_;rotate_left
     ·intro w hSw;try dsimp only at hSw
      go_simp;try with_reducible rfl
     simp only[Act.put,za,zb,zc];refine Zm.u 5 ?_ rfl ?_ ?_;rotate_left
     ·intro w hSw;try dsimp only at hSw
      go_simp;try with_reducible rfl
     simp only[Act.put,za,zb,zc];refine Zm.u 6 ?_ rfl ?_ ?_;rotate_left
     ·intro w hSw;obtain⟨g9,g0,g1,g2,g3,g4,g5⟩:=hSw;go_simp;try with_reducible rfl
     simp only[Act.put,za,zb,zc];refine Zm.u 7 ?_ rfl ?_ ?_;rotate_left
     ·intro w hSw;try dsimp only at hSw
      go_simp;try with_reducible rfl
     simp only[Act.put,za,zb,zc];refine wpAnyH_ready (rs:=[1,8]) (by kernel_rfl) (by simp) ?_;refine AllReadyH.cons (o:=⟨_,_,_,_,_,_⟩) rfl (fun K hK=> ?_) ?_
     ·go_simp;refine hK.out _ _ ?_ (fun hHeld=> ?_)
      ·exact hSd
      clear hK K;try simp only[Act.put,za,zb,zc]
      refine Zm.r 8 rfl (fun K hK=> ?_);go_simp;refine(HC.out _ HBD.out).mono ?_;rintro e w6 ⟨⟨um,ul,ut,rfl,hr6⟩,hb6⟩;obtain⟨e1,r1,t1,e2,r2,t2,e3,r3,t3,rfl,rfl,rfl⟩:=hr6.forms;have o6:=(hb6.cell (p:=⟨w.heap.size+1+1,4,none⟩) hOl).trans oF;rw[Dt.strip_k,Dt.strip_n,Dt.strip_s];dsimp only;refine hK.out _ _ ?_ (fun hHeld=> ?_)
      ·exact HS.out _ ((Keep.refl _ _).below ((btr HBD0.out hb6)))
      clear hK K;try simp only[Act.put,za,zb,zc]
      have HR6:Hid (Dt.Rep (fun k=>wr.heap.size≤k) w6 (Dt.strip b y) (.slice e1 r1 t1) (.slice e2 r2 t2) (.slice e3 r3 t3)):=hr6;have HB6:Hid (Below wr.heap.size wr w6):=btr HBD0.out hb6;have HCE:Hid ((Dt.P.mk (Dt.strip b y) (.slice e1 r1 t1) (.slice e2 r2 t2) (.slice e3 r3 t3)).cells=[.int .i64 y.k,.int .i64 y.n,.string y.s,.slice e1 r1 t1,.slice e2 r2 t2,.slice e3 r3 t3]):=by show Dt.P.cells _=_;unfold Dt.P.cells;simp only[Dt.strip_k,Dt.strip_n,Dt.strip_s]
      have HOW:Hid (w6.ownsRow wc.heap.size 25 6 (.slice av ps.length cv) ps.length (Dt.flatP ps)):=Dt.own_below HI.out.1.row HB6.out;have hbs:wc.heap.size≤(w6.alloc (.cells #[.int .i64 y.k,.int .i64 y.n,.string y.s,.slice e1 r1 t1,.slice e2 r2 t2,.slice e3 r3 t3] 25)).heap.size:=by rw[World.size_alloc];have:=HB6.out.size;have:=HI.out.2.2.1.size;omega
      refine Zm.r 9 rfl (fun K hK=> ?_);go_simp;refine hK.out _ _ ?_ (fun hHeld=> ?_)
      ·exact HS.out _ ((Keep.refl _ _).below (HB6.out.trans (((Below.refl _ w6).alloc (Nat.le_refl _) _).mono HB6.out.size)))
      clear hK K;try simp only[Act.put,za,zb,zc]
      refine Zm.r 10 rfl (fun K hK=> ?_);refine step_append_lies _ (by rfl) _ _ 23 (by rfl) wc.heap.size 25 i0 (.agg #[.int .i64 0,.int .i64 0,.string ⟨#[]⟩,.slice none 0 0,.slice none 0 0,.slice none 0 0]) 6 104 Tryz.underlying23 hi hz0 hz1 hz2 rfl (by decide) (.slice av ps.length cv) ps.length (Dt.flatP ps) (by rfl) (HOW.out.alloc _) ⟨w6.heap.size,0,none⟩ 1 1 [.int .i64 y.k,.int .i64 y.n,.string y.s,.slice e1 r1 t1,.slice e2 r2 t2,.slice e3 r3 t3] (by rfl) rfl (World.news_of_block (w:=w6.alloc _) (B:=w6.heap.size) (cs:=#[.int .i64 y.k,.int .i64 y.n,.string y.s,.slice e1 r1 t1,.slice e2 r2 t2,.slice e3 r3 t3]) (t:=25) (fr:=(0,0)) (heap_alloc_new w6 _)) (by simp[Value.oneCell']) (by omega) hmx hby hbs _ rfl ?_;intro g' cap w7 hown hgrow hat hlt;obtain⟨z4,zf,hst⟩:=HI.out.step (p:=Dt.P.mk (Dt.strip b y) (.slice e1 r1 t1) (.slice e2 r2 t2) (.slice e3 r3 t3)) HO4.out hltn (by rw[HY.out]) HB6.out HR6.out ((Below.refl _ w6).alloc (Nat.le_refl _) _) (by rw[show(Dt.P.mk (Dt.strip b y) (.slice e1 r1 t1) (.slice e2 r2 t2) (.slice e3 r3 t3)).cells=[.int .i64 y.k,.int .i64 y.n,.string y.s,.slice e1 r1 t1,.slice e2 r2 t2,.slice e3 r3 t3]from HCE.out];exact hown) hgrow (hat.imp (fun e=>by rw[e];rfl) (fun e=>by rw[e];rfl));refine hK.out _ _ ?_ (fun hHeld=> ?_)
      ·exact HS.out _ (HKW.out _ HB6.out hgrow)
      clear hK K;try simp only[Act.put,za,zb,zc]
      refine Zm.u 11 ?_ rfl ?_ ?_;rotate_left
      ·intro w hSw;try dsimp only at hSw
       go_simp;try with_reducible rfl
      simp only[Act.put,za,zb,zc];refine Zm.r 12 rfl (fun K hK=> ?_);go_simp;refine hK.out _ _ ?_ (fun hHeld=> ?_)
      ·exact HS.out _ ((HKW.out _ HB6.out hgrow).setCell (.inl rfl) _ _)
      clear hK K;try simp only[Act.put,za,zb,zc]
      refine wpAnyH_done (by kernel_rfl) ?_ _;refine NoPanic.normal ?_;go_wp2_with fail
      go_meet;exact⟨_,_,_,hst⟩
     refine AllReadyH.cons (o:=⟨_,_,_,_,_,_⟩) rfl (fun K hK=> ?_) AllReadyH.nil;go_simp;refine(HC.out _ HBD.out).mono ?_;rintro e w6 ⟨⟨um,ul,ut,rfl,hr6⟩,hb6⟩;obtain⟨e1,r1,t1,e2,r2,t2,e3,r3,t3,rfl,rfl,rfl⟩:=hr6.forms;have o6:=(hb6.cell (p:=⟨w.heap.size+1+1,4,none⟩) hOl).trans oF;rw[Dt.strip_k,Dt.strip_n,Dt.strip_s];dsimp only;refine hK.out _ _ ?_ (fun hHeld=> ?_)
     ·exact HS.out _ ((Keep.refl _ _).below ((btr HBD0.out hb6)))
     clear hK K;try simp only[Act.put,za,zb,zc]
     have HR6:Hid (Dt.Rep (fun k=>wr.heap.size≤k) w6 (Dt.strip b y) (.slice e1 r1 t1) (.slice e2 r2 t2) (.slice e3 r3 t3)):=hr6;have HB6:Hid (Below wr.heap.size wr w6):=btr HBD0.out hb6;have HCE:Hid ((Dt.P.mk (Dt.strip b y) (.slice e1 r1 t1) (.slice e2 r2 t2) (.slice e3 r3 t3)).cells=[.int .i64 y.k,.int .i64 y.n,.string y.s,.slice e1 r1 t1,.slice e2 r2 t2,.slice e3 r3 t3]):=by show Dt.P.cells _=_;unfold Dt.P.cells;simp only[Dt.strip_k,Dt.strip_n,Dt.strip_s]
     have HOW:Hid (w6.ownsRow wc.heap.size 25 6 (.slice av ps.length cv) ps.length (Dt.flatP ps)):=Dt.own_below HI.out.1.row HB6.out;have hbs:wc.heap.size≤(w6.alloc (.cells #[.int .i64 y.k,.int .i64 y.n,.string y.s,.slice e1 r1 t1,.slice e2 r2 t2,.slice e3 r3 t3] 25)).heap.size:=by rw[World.size_alloc];have:=HB6.out.size;have:=HI.out.2.2.1.size;omega
     have o6a:=(((Below.refl _ w6).alloc (Nat.le_refl _) (.cells #[.int .i64 y.k,.int .i64 y.n,.string y.s,.slice e1 r1 t1,.slice e2 r2 t2,.slice e3 r3 t3] 25)).cell (p:=⟨w.heap.size+1+1,4,none⟩) (block_lt_of_cell o6)).trans o6;refine wpAnyH_ready (rs:=[1,9]) (by kernel_rfl) (by simp) ?_;refine AllReadyH.cons (o:=⟨_,_,_,_,_,_⟩) rfl (fun K hK=> ?_) ?_
     ·go_simp;refine hK.out _ _ ?_ (fun hHeld=> ?_)
      ·exact HS.out _ ((Keep.refl _ _).below ((btr HBD0.out hb6)))
      clear hK K;try simp only[Act.put,za,zb,zc]
      refine Zm.r 9 rfl (fun K hK=> ?_);go_simp;refine hK.out _ _ ?_ (fun hHeld=> ?_)
      ·exact HS.out _ ((Keep.refl _ _).below (HB6.out.trans (((Below.refl _ w6).alloc (Nat.le_refl _) _).mono HB6.out.size)))
      clear hK K;try simp only[Act.put,za,zb,zc]
      refine Zm.r 10 rfl (fun K hK=> ?_);refine step_append_lies _ (by rfl) _ _ 23 (by rfl) wc.heap.size 25 i0 (.agg #[.int .i64 0,.int .i64 0,.string ⟨#[]⟩,.slice none 0 0,.slice none 0 0,.slice none 0 0]) 6 104 Tryz.underlying23 hi hz0 hz1 hz2 rfl (by decide) (.slice av ps.length cv) ps.length (Dt.flatP ps) (by rfl) (HOW.out.alloc _) ⟨w6.heap.size,0,none⟩ 1 1 [.int .i64 y.k,.int .i64 y.n,.string y.s,.slice e1 r1 t1,.slice e2 r2 t2,.slice e3 r3 t3] (by rfl) rfl (World.news_of_block (w:=w6.alloc _) (B:=w6.heap.size) (cs:=#[.int .i64 y.k,.int .i64 y.n,.string y.s,.slice e1 r1 t1,.slice e2 r2 t2,.slice e3 r3 t3]) (t:=25) (fr:=(0,0)) (heap_alloc_new w6 _)) (by simp[Value.oneCell']) (by omega) hmx hby hbs _ rfl ?_;intro g' cap w7 hown hgrow hat hlt;obtain⟨z4,zf,hst⟩:=HI.out.step (p:=Dt.P.mk (Dt.strip b y) (.slice e1 r1 t1) (.slice e2 r2 t2) (.slice e3 r3 t3)) HO4.out hltn (by rw[HY.out]) HB6.out HR6.out ((Below.refl _ w6).alloc (Nat.le_refl _) _) (by rw[show(Dt.P.mk (Dt.strip b y) (.slice e1 r1 t1) (.slice e2 r2 t2) (.slice e3 r3 t3)).cells=[.int .i64 y.k,.int .i64 y.n,.string y.s,.slice e1 r1 t1,.slice e2 r2 t2,.slice e3 r3 t3]from HCE.out];exact hown) hgrow (hat.imp (fun e=>by rw[e];rfl) (fun e=>by rw[e];rfl));refine hK.out _ _ ?_ (fun hHeld=> ?_)
      ·exact HS.out _ (HKW.out _ HB6.out hgrow)
      clear hK K;try simp only[Act.put,za,zb,zc]
      refine Zm.u 11 ?_ rfl ?_ ?_;rotate_left
      ·intro w hSw;try dsimp only at hSw
       go_simp;try with_reducible rfl
      simp only[Act.put,za,zb,zc];refine Zm.r 12 rfl (fun K hK=> ?_);go_simp;refine hK.out _ _ ?_ (fun hHeld=> ?_)
      ·exact HS.out _ ((HKW.out _ HB6.out hgrow).setCell (.inl rfl) _ _)
      clear hK K;try simp only[Act.put,za,zb,zc]
      refine wpAnyH_done (by kernel_rfl) ?_ _;refine NoPanic.normal ?_;go_wp2_with fail
      go_meet;exact⟨_,_,_,hst⟩
     refine AllReadyH.cons (o:=⟨_,_,_,_,_,_⟩) rfl (fun K hK=> ?_) AllReadyH.nil;go_simp;refine hK.out _ _ ?_ (fun hHeld=> ?_)
     ·exact HS.out _ ((Keep.refl _ _).below (HB6.out.trans (((Below.refl _ w6).alloc (Nat.le_refl _) _).mono HB6.out.size)))
     clear hK K;try simp only[Act.put,za,zb,zc]
     refine Zm.r 1 rfl (fun K hK=> ?_);go_simp;refine hK.out _ _ ?_ (fun hHeld=> ?_)
     ·exact HS.out _ ((Keep.refl _ _).below (HB6.out.trans (((Below.refl _ w6).alloc (Nat.le_refl _) _).mono HB6.out.size)))
     clear hK K;try simp only[Act.put,za,zb,zc]
     refine Zm.r 10 rfl (fun K hK=> ?_);refine step_append_lies _ (by rfl) _ _ 23 (by rfl) wc.heap.size 25 i0 (.agg #[.int .i64 0,.int .i64 0,.string ⟨#[]⟩,.slice none 0 0,.slice none 0 0,.slice none 0 0]) 6 104 Tryz.underlying23 hi hz0 hz1 hz2 rfl (by decide) (.slice av ps.length cv) ps.length (Dt.flatP ps) (by rfl) (HOW.out.alloc _) ⟨w6.heap.size,0,none⟩ 1 1 [.int .i64 y.k,.int .i64 y.n,.string y.s,.slice e1 r1 t1,.slice e2 r2 t2,.slice e3 r3 t3] (by rfl) rfl (World.news_of_block (w:=w6.alloc _) (B:=w6.heap.size) (cs:=#[.int .i64 y.k,.int .i64 y.n,.string y.s,.slice e1 r1 t1,.slice e2 r2 t2,.slice e3 r3 t3]) (t:=25) (fr:=(0,0)) (heap_alloc_new w6 _)) (by simp[Value.oneCell']) (by omega) hmx hby hbs _ rfl ?_;intro g' cap w7 hown hgrow hat hlt;obtain⟨z4,zf,hst⟩:=HI.out.step (p:=Dt.P.mk (Dt.strip b y) (.slice e1 r1 t1) (.slice e2 r2 t2) (.slice e3 r3 t3)) HO4.out hltn (by rw[HY.out]) HB6.out HR6.out ((Below.refl _ w6).alloc (Nat.le_refl _) _) (by rw[show(Dt.P.mk (Dt.strip b y) (.slice e1 r1 t1) (.slice e2 r2 t2) (.slice e3 r3 t3)).cells=[.int .i64 y.k,.int .i64 y.n,.string y.s,.slice e1 r1 t1,.slice e2 r2 t2,.slice e3 r3 t3]from HCE.out];exact hown) hgrow (hat.imp (fun e=>by rw[e];rfl) (fun e=>by rw[e];rfl));refine hK.out _ _ ?_ (fun hHeld=> ?_)
     ·exact HS.out _ (HKW.out _ HB6.out hgrow)
     clear hK K;try simp only[Act.put,za,zb,zc]
     refine Zm.u 11 ?_ rfl ?_ ?_;rotate_left
     ·intro w hSw;try dsimp only at hSw
      go_simp;try with_reducible rfl
     simp only[Act.put,za,zb,zc];refine Zm.r 12 rfl (fun K hK=> ?_);go_simp;refine hK.out _ _ ?_ (fun hHeld=> ?_)
     ·exact HS.out _ ((HKW.out _ HB6.out hgrow).setCell (.inl rfl) _ _)
     clear hK K;try simp only[Act.put,za,zb,zc]
     refine wpAnyH_done (by kernel_rfl) ?_ _;refine NoPanic.normal ?_;go_wp2_with fail
     go_meet;exact⟨_,_,_,hst⟩
    case rest=>
     obtain⟨p,av',cv',hI'⟩:=hcut;have HI':=zh hI';clear hI' xc xr oc0 oc1 oc2 oc3 oc4 oc5 of;go_wp2;go_roundw
     case rel=>exact⟨ps++[p],av',cv',by simp,by simp;omega,by simpa using HI'⟩
     case measure=>simp[intOf];omega
   ·have hje:ps.length=x.l.length:=by omega
    have hgei:(x.l.length:Int)≤(x.l.length:Int):=by omega
    have HLL:Hid (Dt.Row (fun k=>wc.heap.size≤k) wr (.slice av x.l.length cv) (Dt.strips b x.l)):=by
     have h:=HI.out.1.to_row;rw[HI.out.2.1,hje,List.take_length]at h;exact h
    have HKL:=zh HI.out.2.2.1;have HOB:Hid (Dt.Box wr (w.heap.size+1+1) x (.slice a5 (Dt.mrk b x).length cq5) (.slice av x.l.length cv) (.slice none 0 0)):=by have h:=HI.out.2.2.2.1;rw[hje]at h;exact h
    have HOF:=zh HI.out.2.2.2.2;have HROT:Hid (Dt.Row (fun k=>k<w.heap.size) wr (.slice at_ x.t.length cat_) x.t):=Dt.Row.keep ((HRT.out.mono (fun _ _ h=>h)).below HBL.out) HKL.out (fun k h _ e=>by omega);have HXT:=zh (HBX.out.keep HKL.out (by omega)).2.2.2.2.2;have HO5:Hid (w.heap.size+1+1<wr.heap.size):=Nat.lt_of_lt_of_le HO4.out HKL.out.size;have xf:=(HBX.out.keep HKL.out (by omega)).2.2.2.2.1;rw[hje];clear HI hje hltn hj;obtain⟨wo,hwo⟩:∃wo,wo=wr:=⟨_,rfl⟩
    rw[←hwo]at HLL HKL HOB HOF HROT HXT HO5 xf ⊢;clear hwo;go_wp2
    go_loopw [7] (fun v wr=>∃(ps:List Dt.P) (au:Option Addr) (cu:Nat),v= .int .i64 ps.length∧ps.length≤x.t.length∧Hid (Dt.InvT b wo (w.heap.size+1+1) x (.slice a5 (Dt.mrk b x).length cq5) (.slice av x.l.length cv) x.t ps (.slice au ps.length cu) wr)) (fun v _=>x.t.length - (intOf v).toNat)
    case atStart=>exact⟨[],none,0,rfl,Nat.zero_le _,⟨Dt.Rowing.nil _ _,by simp[Dt.strips],Keep.refl _ _,HOB.out,HOF.out⟩⟩
    case round=>
     clear xf;obtain⟨ps,au,cu,rfl,hj,HI⟩:=hrel;by_cases hltn:ps.length<x.t.length
     ·have hlti:(ps.length:Int)<(x.t.length:Int):=by omega
      obtain⟨g,o,y,vb1,vb2,vb3,hag,hy,hel,hrp,hS⟩:=HI.out.el (_w:=w) HROT.out (by omega) HXT.out (by omega) hltn;obtain⟨b1,m1,p1,b2,m2,p2,b3,m3,p3,rfl,rfl,rfl⟩:=hrp.forms;have HY:=zh hy;have HC:Hid (∀u,Below wr.heap.size wr u→Calls Tryz.prog 111 #[.agg #[.int .i64 y.k,.int .i64 y.n,.string y.s,.slice b1 m1 p1,.slice b2 m2 p2,.slice b3 m3 p3],.bool b] u fun e w'=>Dt.Fresh u.heap.size w' (Dt.strip b y) e∧Below u.heap.size u w'):=fun u hu=>HT.out y (by rw[hy];exact List.getElem_mem _) _ _ _ _ u (by rw[hy];exact(Dt.wf_t HW.out).at _ hltn) (by rw[hy];exact Dt.Fines.at HF5.out _ (List.getElem_mem _)) (hrp.below hu)
      have HBD:Hid (Below wr.heap.size wr wr.drew):=(Below.refl _ wr).drew;have HS:=zh hS;obtain⟨xc,xr⟩:=id hel;obtain⟨oc0,oc1,oc2,oc3,oc4,oc5⟩:=HI.out.2.2.2.1;have of:=HI.out.2.2.2.2 5;subst hag;clear hy hel hrp hS;go_upto_block 3 with fail
      go_cut [] (fun wx=>∃p au' cu',Dt.InvT b wo (w.heap.size+1+1) x (.slice a5 (Dt.mrk b x).length cq5) (.slice av x.l.length cv) x.t (ps++[p]) (.slice au' (ps.length+1) cu') wx)
      case first=>
       go_wp2_with fail
       have hmx:ps.length+1≤maxLen:=by unfold maxLen;omega
       have hby:(ps.length+1)*104≤140737488355328:=by omega
       have HBD0:Hid (Below wr.heap.size wr wr.drew):=(Below.refl _ wr).drew;have oF:wr.drew.cell? ⟨w.heap.size+1+1,5,none⟩=some (.slice au ps.length cu):=HI.out.2.2.2.1.2.2.2.2.2;have hOl:w.heap.size+1+1<wr.drew.heap.size:=block_lt_of_cell oF;have hSd:Dt.ElS wr.drew w.heap.size 5 (.slice (some ⟨g,o,none⟩) x.t.length cat_) g (o+ps.length*6) y (.slice b1 m1 p1) (.slice b2 m2 p2) (.slice b3 m3 p3):=HS.out _ ((Keep.refl _ _).below HBD0.out);have hpj0:(0:Int)≤(ps.length:Int):=by omega
       have HKW:Hid (∀w6,Below wr.heap.size wr w6→∀ {o:Obj} {w7:World},(w6.alloc o).grownBy w7 (Value.slice au ps.length cu).ownBlock→Keep (fun k=>k=w.heap.size+1+1∨wo.heap.size≤k) wr w7):=by
        intro w6 h6 o w7 hg;have hA:=h6.trans (((Below.refl _ w6).alloc (Nat.le_refl _) o).mono h6.size);have hrow:=HI.out.1.row;exact⟨hg.os.trans hA.os,hg.tape.trans hA.tape,hg.output.trans hA.output,Nat.le_trans hA.size hg.size,fun k hk hn=>(hg.block k (by have:=hA.size;omega) (fun e=>hn (.inr (Dt.own_lt hrow k e.symm).1))).trans (hA.block k hk)⟩
       refine wp_region_noPanic ?_;refine wp_region_held_drew (S:=fun w'=>Dt.ElS w' w.heap.size 5 (.slice (some ⟨g,o,none⟩) x.t.length cat_) g (o+ps.length*6) y (.slice b1 m1 p1) (.slice b2 m2 p2) (.slice b3 m3 p3)) (by kernel_rfl) hSd (fun hHeld=> ?_);refine Zm.u 0 ?_ rfl ?_ ?_;rotate_left
       ·intro w hSw;try dsimp only at hSw
        go_simp;try with_reducible rfl
       simp only[Act.put,za,zb,zc];refine Zm.u 2 ?_ rfl ?_ ?_;rotate_left
       ·intro w hSw;try dsimp only at hSw
        go_simp;try with_reducible rfl
       simp only[Act.put,za,zb,zc];refine Zm.u 3 ?_ rfl ?_ ?_;rotate_left
       ·intro w hSw;obtain⟨g9,g0,g1,g2,g3,g4,g5⟩:=hSw;go_simp;try with_reducible rfl
       simp only[Act.put,za,zb,zc];refine Zm.u 4 ?_ rfl ?_ ?_;rotate_left
       ·intro w hSw;try dsimp only at hSw
        go_simp;try with_reducible rfl
       simp only[Act.put,za,zb,zc];refine Zm.u 5 ?_ rfl ?_ ?_;rotate_left
       ·intro w hSw;try dsimp only at hSw
        go_simp;try with_reducible rfl
       simp only[Act.put,za,zb,zc];refine Zm.u 6 ?_ rfl ?_ ?_;rotate_left
       ·intro w hSw;obtain⟨g9,g0,g1,g2,g3,g4,g5⟩:=hSw;go_simp;try with_reducible rfl
       simp only[Act.put,za,zb,zc];refine Zm.u 7 ?_ rfl ?_ ?_;rotate_left
       ·intro w hSw;try dsimp only at hSw
        go_simp;try with_reducible rfl
       simp only[Act.put,za,zb,zc];refine wpAnyH_ready (rs:=[1,8]) (by kernel_rfl) (by simp) ?_;refine AllReadyH.cons (o:=⟨_,_,_,_,_,_⟩) rfl (fun K hK=> ?_) ?_
       ·go_simp;refine hK.out _ _ ?_ (fun hHeld=> ?_)
        ·exact hSd
        clear hK K;try simp only[Act.put,za,zb,zc]
        refine Zm.r 8 rfl (fun K hK=> ?_);go_simp;refine(HC.out _ HBD.out).mono ?_;rintro e w6 ⟨⟨um,ul,ut,rfl,hr6⟩,hb6⟩;obtain⟨e1,r1,t1,e2,r2,t2,e3,r3,t3,rfl,rfl,rfl⟩:=hr6.forms;have o6:=(hb6.cell (p:=⟨w.heap.size+1+1,5,none⟩) hOl).trans oF;rw[Dt.strip_k,Dt.strip_n,Dt.strip_s];dsimp only;refine hK.out _ _ ?_ (fun hHeld=> ?_)
        ·exact HS.out _ ((Keep.refl _ _).below ((btr HBD0.out hb6)))
        clear hK K;try simp only[Act.put,za,zb,zc]
        have HR6:Hid (Dt.Rep (fun k=>wr.heap.size≤k) w6 (Dt.strip b y) (.slice e1 r1 t1) (.slice e2 r2 t2) (.slice e3 r3 t3)):=hr6;have HB6:Hid (Below wr.heap.size wr w6):=btr HBD0.out hb6;have HCE:Hid ((Dt.P.mk (Dt.strip b y) (.slice e1 r1 t1) (.slice e2 r2 t2) (.slice e3 r3 t3)).cells=[.int .i64 y.k,.int .i64 y.n,.string y.s,.slice e1 r1 t1,.slice e2 r2 t2,.slice e3 r3 t3]):=by show Dt.P.cells _=_;unfold Dt.P.cells;simp only[Dt.strip_k,Dt.strip_n,Dt.strip_s]
        have HOW:Hid (w6.ownsRow wo.heap.size 25 6 (.slice au ps.length cu) ps.length (Dt.flatP ps)):=Dt.own_below HI.out.1.row HB6.out;have hbs:wo.heap.size≤(w6.alloc (.cells #[.int .i64 y.k,.int .i64 y.n,.string y.s,.slice e1 r1 t1,.slice e2 r2 t2,.slice e3 r3 t3] 25)).heap.size:=by rw[World.size_alloc];have:=HB6.out.size;have:=HI.out.2.2.1.size;omega
        refine Zm.r 9 rfl (fun K hK=> ?_);go_simp;refine hK.out _ _ ?_ (fun hHeld=> ?_)
        ·exact HS.out _ ((Keep.refl _ _).below (HB6.out.trans (((Below.refl _ w6).alloc (Nat.le_refl _) _).mono HB6.out.size)))
        clear hK K;try simp only[Act.put,za,zb,zc]
        refine Zm.r 10 rfl (fun K hK=> ?_);refine step_append_lies _ (by rfl) _ _ 23 (by rfl) wo.heap.size 25 i0 (.agg #[.int .i64 0,.int .i64 0,.string ⟨#[]⟩,.slice none 0 0,.slice none 0 0,.slice none 0 0]) 6 104 Tryz.underlying23 hi hz0 hz1 hz2 rfl (by decide) (.slice au ps.length cu) ps.length (Dt.flatP ps) (by rfl) (HOW.out.alloc _) ⟨w6.heap.size,0,none⟩ 1 1 [.int .i64 y.k,.int .i64 y.n,.string y.s,.slice e1 r1 t1,.slice e2 r2 t2,.slice e3 r3 t3] (by rfl) rfl (World.news_of_block (w:=w6.alloc _) (B:=w6.heap.size) (cs:=#[.int .i64 y.k,.int .i64 y.n,.string y.s,.slice e1 r1 t1,.slice e2 r2 t2,.slice e3 r3 t3]) (t:=25) (fr:=(0,0)) (heap_alloc_new w6 _)) (by simp[Value.oneCell']) (by omega) hmx hby hbs _ rfl ?_;intro g' cap w7 hown hgrow hat hlt;obtain⟨z4,zf,hst⟩:=HI.out.step (p:=Dt.P.mk (Dt.strip b y) (.slice e1 r1 t1) (.slice e2 r2 t2) (.slice e3 r3 t3)) HO5.out hltn (by rw[HY.out]) HB6.out HR6.out ((Below.refl _ w6).alloc (Nat.le_refl _) _) (by rw[show(Dt.P.mk (Dt.strip b y) (.slice e1 r1 t1) (.slice e2 r2 t2) (.slice e3 r3 t3)).cells=[.int .i64 y.k,.int .i64 y.n,.string y.s,.slice e1 r1 t1,.slice e2 r2 t2,.slice e3 r3 t3]from HCE.out];exact hown) hgrow (hat.imp (fun e=>by rw[e];rfl) (fun e=>by rw[e];rfl));refine hK.out _ _ ?_ (fun hHeld=> ?_)
        ·exact HS.out _ (HKW.out _ HB6.out hgrow)
        clear hK K;try simp only[Act.put,za,zb,zc]
        refine Zm.u 11 ?_ rfl ?_ ?_;rotate_left
        ·intro w hSw;try dsimp only at hSw
         go_simp;try with_reducible rfl
        simp only[Act.put,za,zb,zc];refine Zm.r 12 rfl (fun K hK=> ?_);go_simp;refine hK.out _ _ ?_ (fun hHeld=> ?_)
        ·exact HS.out _ ((HKW.out _ HB6.out hgrow).setCell (.inl rfl) _ _)
        clear hK K;try simp only[Act.put,za,zb,zc]
        refine wpAnyH_done (by kernel_rfl) ?_ _;refine NoPanic.normal ?_;go_wp2_with fail
        go_meet;exact⟨_,_,_,hst⟩
       refine AllReadyH.cons (o:=⟨_,_,_,_,_,_⟩) rfl (fun K hK=> ?_) AllReadyH.nil;go_simp;refine(HC.out _ HBD.out).mono ?_;rintro e w6 ⟨⟨um,ul,ut,rfl,hr6⟩,hb6⟩;obtain⟨e1,r1,t1,e2,r2,t2,e3,r3,t3,rfl,rfl,rfl⟩:=hr6.forms;have o6:=(hb6.cell (p:=⟨w.heap.size+1+1,5,none⟩) hOl).trans oF;rw[Dt.strip_k,Dt.strip_n,Dt.strip_s];dsimp only;refine hK.out _ _ ?_ (fun hHeld=> ?_)
       ·exact HS.out _ ((Keep.refl _ _).below ((btr HBD0.out hb6)))
       clear hK K;try simp only[Act.put,za,zb,zc]
       have HR6:Hid (Dt.Rep (fun k=>wr.heap.size≤k) w6 (Dt.strip b y) (.slice e1 r1 t1) (.slice e2 r2 t2) (.slice e3 r3 t3)):=hr6;have HB6:Hid (Below wr.heap.size wr w6):=btr HBD0.out hb6;have HCE:Hid ((Dt.P.mk (Dt.strip b y) (.slice e1 r1 t1) (.slice e2 r2 t2) (.slice e3 r3 t3)).cells=[.int .i64 y.k,.int .i64 y.n,.string y.s,.slice e1 r1 t1,.slice e2 r2 t2,.slice e3 r3 t3]):=by show Dt.P.cells _=_;unfold Dt.P.cells;simp only[Dt.strip_k,Dt.strip_n,Dt.strip_s]
       have HOW:Hid (w6.ownsRow wo.heap.size 25 6 (.slice au ps.length cu) ps.length (Dt.flatP ps)):=Dt.own_below HI.out.1.row HB6.out;have hbs:wo.heap.size≤(w6.alloc (.cells #[.int .i64 y.k,.int .i64 y.n,.string y.s,.slice e1 r1 t1,.slice e2 r2 t2,.slice e3 r3 t3] 25)).heap.size:=by rw[World.size_alloc];have:=HB6.out.size;have:=HI.out.2.2.1.size;omega
       have o6a:=(((Below.refl _ w6).alloc (Nat.le_refl _) (.cells #[.int .i64 y.k,.int .i64 y.n,.string y.s,.slice e1 r1 t1,.slice e2 r2 t2,.slice e3 r3 t3] 25)).cell (p:=⟨w.heap.size+1+1,5,none⟩) (block_lt_of_cell o6)).trans o6;refine wpAnyH_ready (rs:=[1,9]) (by kernel_rfl) (by simp) ?_;refine AllReadyH.cons (o:=⟨_,_,_,_,_,_⟩) rfl (fun K hK=> ?_) ?_
       ·go_simp;refine hK.out _ _ ?_ (fun hHeld=> ?_)
        ·exact HS.out _ ((Keep.refl _ _).below ((btr HBD0.out hb6)))
        clear hK K;try simp only[Act.put,za,zb,zc]
        refine Zm.r 9 rfl (fun K hK=> ?_);go_simp;refine hK.out _ _ ?_ (fun hHeld=> ?_)
        ·exact HS.out _ ((Keep.refl _ _).below (HB6.out.trans (((Below.refl _ w6).alloc (Nat.le_refl _) _).mono HB6.out.size)))
        clear hK K;try simp only[Act.put,za,zb,zc]
        refine Zm.r 10 rfl (fun K hK=> ?_);refine step_append_lies _ (by rfl) _ _ 23 (by rfl) wo.heap.size 25 i0 (.agg #[.int .i64 0,.int .i64 0,.string ⟨#[]⟩,.slice none 0 0,.slice none 0 0,.slice none 0 0]) 6 104 Tryz.underlying23 hi hz0 hz1 hz2 rfl (by decide) (.slice au ps.length cu) ps.length (Dt.flatP ps) (by rfl) (HOW.out.alloc _) ⟨w6.heap.size,0,none⟩ 1 1 [.int .i64 y.k,.int .i64 y.n,.string y.s,.slice e1 r1 t1,.slice e2 r2 t2,.slice e3 r3 t3] (by rfl) rfl (World.news_of_block (w:=w6.alloc _) (B:=w6.heap.size) (cs:=#[.int .i64 y.k,.int .i64 y.n,.string y.s,.slice e1 r1 t1,.slice e2 r2 t2,.slice e3 r3 t3]) (t:=25) (fr:=(0,0)) (heap_alloc_new w6 _)) (by simp[Value.oneCell']) (by omega) hmx hby hbs _ rfl ?_;intro g' cap w7 hown hgrow hat hlt;obtain⟨z4,zf,hst⟩:=HI.out.step (p:=Dt.P.mk (Dt.strip b y) (.slice e1 r1 t1) (.slice e2 r2 t2) (.slice e3 r3 t3)) HO5.out hltn (by rw[HY.out]) HB6.out HR6.out ((Below.refl _ w6).alloc (Nat.le_refl _) _) (by rw[show(Dt.P.mk (Dt.strip b y) (.slice e1 r1 t1) (.slice e2 r2 t2) (.slice e3 r3 t3)).cells=[.int .i64 y.k,.int .i64 y.n,.string y.s,.slice e1 r1 t1,.slice e2 r2 t2,.slice e3 r3 t3]from HCE.out];exact hown) hgrow (hat.imp (fun e=>by rw[e];rfl) (fun e=>by rw[e];rfl));refine hK.out _ _ ?_ (fun hHeld=> ?_)
        ·exact HS.out _ (HKW.out _ HB6.out hgrow)
        clear hK K;try simp only[Act.put,za,zb,zc]
        refine Zm.u 11 ?_ rfl ?_ ?_;rotate_left
        ·intro w hSw;try dsimp only at hSw
         go_simp;try with_reducible rfl
        simp only[Act.put,za,zb,zc];refine Zm.r 12 rfl (fun K hK=> ?_);go_simp;refine hK.out _ _ ?_ (fun hHeld=> ?_)
        ·exact HS.out _ ((HKW.out _ HB6.out hgrow).setCell (.inl rfl) _ _)
        clear hK K;try simp only[Act.put,za,zb,zc]
        refine wpAnyH_done (by kernel_rfl) ?_ _;refine NoPanic.normal ?_;go_wp2_with fail
        go_meet;exact⟨_,_,_,hst⟩
       refine AllReadyH.cons (o:=⟨_,_,_,_,_,_⟩) rfl (fun K hK=> ?_) AllReadyH.nil;go_simp;refine hK.out _ _ ?_ (fun hHeld=> ?_)
       ·exact HS.out _ ((Keep.refl _ _).below (HB6.out.trans (((Below.refl _ w6).alloc (Nat.le_refl _) _).mono HB6.out.size)))
       clear hK K;try simp only[Act.put,za,zb,zc]
       refine Zm.r 1 rfl (fun K hK=> ?_);go_simp;refine hK.out _ _ ?_ (fun hHeld=> ?_)
       ·exact HS.out _ ((Keep.refl _ _).below (HB6.out.trans (((Below.refl _ w6).alloc (Nat.le_refl _) _).mono HB6.out.size)))
       clear hK K;try simp only[Act.put,za,zb,zc]
       refine Zm.r 10 rfl (fun K hK=> ?_);refine step_append_lies _ (by rfl) _ _ 23 (by rfl) wo.heap.size 25 i0 (.agg #[.int .i64 0,.int .i64 0,.string ⟨#[]⟩,.slice none 0 0,.slice none 0 0,.slice none 0 0]) 6 104 Tryz.underlying23 hi hz0 hz1 hz2 rfl (by decide) (.slice au ps.length cu) ps.length (Dt.flatP ps) (by rfl) (HOW.out.alloc _) ⟨w6.heap.size,0,none⟩ 1 1 [.int .i64 y.k,.int .i64 y.n,.string y.s,.slice e1 r1 t1,.slice e2 r2 t2,.slice e3 r3 t3] (by rfl) rfl (World.news_of_block (w:=w6.alloc _) (B:=w6.heap.size) (cs:=#[.int .i64 y.k,.int .i64 y.n,.string y.s,.slice e1 r1 t1,.slice e2 r2 t2,.slice e3 r3 t3]) (t:=25) (fr:=(0,0)) (heap_alloc_new w6 _)) (by simp[Value.oneCell']) (by omega) hmx hby hbs _ rfl ?_;intro g' cap w7 hown hgrow hat hlt;obtain⟨z4,zf,hst⟩:=HI.out.step (p:=Dt.P.mk (Dt.strip b y) (.slice e1 r1 t1) (.slice e2 r2 t2) (.slice e3 r3 t3)) HO5.out hltn (by rw[HY.out]) HB6.out HR6.out ((Below.refl _ w6).alloc (Nat.le_refl _) _) (by rw[show(Dt.P.mk (Dt.strip b y) (.slice e1 r1 t1) (.slice e2 r2 t2) (.slice e3 r3 t3)).cells=[.int .i64 y.k,.int .i64 y.n,.string y.s,.slice e1 r1 t1,.slice e2 r2 t2,.slice e3 r3 t3]from HCE.out];exact hown) hgrow (hat.imp (fun e=>by rw[e];rfl) (fun e=>by rw[e];rfl));refine hK.out _ _ ?_ (fun hHeld=> ?_)
       ·exact HS.out _ (HKW.out _ HB6.out hgrow)
       clear hK K;try simp only[Act.put,za,zb,zc]
       refine Zm.u 11 ?_ rfl ?_ ?_;rotate_left
       ·intro w hSw;try dsimp only at hSw
        go_simp;try with_reducible rfl
       simp only[Act.put,za,zb,zc];refine Zm.r 12 rfl (fun K hK=> ?_);go_simp;refine hK.out _ _ ?_ (fun hHeld=> ?_)
       ·exact HS.out _ ((HKW.out _ HB6.out hgrow).setCell (.inl rfl) _ _)
       clear hK K;try simp only[Act.put,za,zb,zc]
       refine wpAnyH_done (by kernel_rfl) ?_ _;refine NoPanic.normal ?_;go_wp2_with fail
       go_meet;exact⟨_,_,_,hst⟩
      case rest=>
       obtain⟨p,au',cu',hI'⟩:=hcut;have HI':=zh hI';clear hI' xc xr oc0 oc1 oc2 oc3 oc4 oc5 of;go_wp2;go_roundw
       case rel=>exact⟨ps++[p],au',cu',by simp,by simp;omega,by simpa using HI'⟩
       case measure=>simp[intOf];omega
     ·have hje:ps.length=x.t.length:=by omega
      have hgei:(x.t.length:Int)≤(x.t.length:Int):=by omega
      obtain⟨hbo,hbz,hfz,hEND⟩:=Dt.made_end HI5.out HBR.out HFR.out HBL.out HO4.out HLL.out HKL.out HI.out hje;rw[hje]at hbo hEND ⊢;have HEND:=zh hEND;obtain⟨b0,b1,b2,b3,b4,b5⟩:=hbo;obtain⟨d0,d1,d2,d3,d4,d5⟩:=hbz;have k0:=hfz 0;have k1:=hfz 1;have k2:=hfz 2;have k3:=hfz 3;have k4:=hfz 4;have k5:=hfz 5;have xf:=(HBX.out.keep (HKL.out.trans HI.out.2.2.1) (by omega)).2.2.2.2.2;clear hEND hfz HI hje hltn hj;go_wp2;refine bodyPost_ret (v:= .agg #[.int .i64 x.k,.int .i64 x.n,.string x.s,.slice a5 (Dt.mrk b x).length cq5,.slice av x.l.length cv,.slice au x.t.length cu]) ?_ rfl ?_
      ·simp[results,Tryz.results111,go_sem, *]
      ·exact HEND.out
mutual
theorem Dt.made_any(b:Bool):∀x:Dt.D,Dt.Made b x
 | .mk k n s m l t=>made_step b (.mk k n s m l t) (Dt.mades_any b l) (Dt.mades_any b t)
theorem Dt.mades_any(b:Bool):∀(l:List Dt.D) (y:Dt.D),y∈l→Dt.Made b y
 |[],_,h=>absurd h (by simp)
 |x :: r,y,h=>(List.mem_cons.1 h).elim (fun e=>by rw[e];exact Dt.made_any b x) (fun h'=>Dt.mades_any b r y h')
end
end Go.Proofs.YtfjmlfbohenmfaaGreat
