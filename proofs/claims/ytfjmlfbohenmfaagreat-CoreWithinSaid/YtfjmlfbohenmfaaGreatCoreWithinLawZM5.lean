/-
  Several texts of this proof in one: DtMadeq, DtRCloneq, CoROfq, CoDatumq, CoLikeq, CoLikeAq, CdNeedq, DtOpenq, CdOpenq, CdOperq, CdWaysPq, CdAtq, CdFewq, LexWordsq, LexAwakeq, LexSameq, LexAllq, CoAwMq, FixRefq, FixTextRq, FixFormq, FixParseRq, LexRefDq, LexRefEq, LexRefFq, LexRefGq.
-/
import Derived.Test.YtfjmlfbohenmfaaGreatDtOwnq
import Derived.Deep.CutBlock
import Derived.Test.YtfjmlfbohenmfaaGreatMinq
import Derived.Test.YtfjmlfbohenmfaaGreatCoreWithinLawZM4
import Derived.Test.YtfjmlfbohenmfaaGreatCoreWithinLawZM2
import Derived.BigRegion
import Derived.Test.YtfjmlfbohenmfaaGreatCoreWithinLawZM1
import Derived.Test.YtfjmlfbohenmfaaGreatPutq
import Derived.Test.YtfjmlfbohenmfaaGreatDtOwnPq
import Derived.Deep.Slices
import Derived.Deep.Fields
import Derived.SizedLaws
import Derived.Test.YtfjmlfbohenmfaaGreatPostq
import Derived.Lib.SmallJoins
import Derived.Deep.QuietTactic
import Derived.BigQuiet
import Derived.Test.YtfjmlfbohenmfaaGreatDtAllq
import Derived.Test.YtfjmlfbohenmfaaGreatLexWordsPq
import Derived.RangeFuncNested
import Derived.RangeFuncBound
import Derived.RangeFuncCalls
import Derived.RangeFuncLeaves
import Derived.Shelf.Abstract
import Derived.Shelf.RegionOpen
import Derived.WalkKit
import Derived.OwnWalkIn
import Derived.TacticsInMore
import Derived.LoopNIn
import Derived.LoopIn
import Derived.Maps.OwnIn
import Derived.Maps.AppendAt
import Derived.Test.YtfjmlfbohenmfaaGreatCoreWithinLawZM3
import Derived.Test.YtfjmlfbohenmfaaGreatFixWalksq
import Derived.Test.YtfjmlfbohenmfaaGreatFixParseq
import Derived.Laws.Concat
import Derived.Test.YtfjmlfbohenmfaaGreatLexRefCq
import Derived.Test.YtfjmlfbohenmfaaGreatLexCharq
import Derived.Test.YtfjmlfbohenmfaaGreatLexRunq
import Derived.Test.YtfjmlfbohenmfaaGreatLexStrq
import Derived.Test.YtfjmlfbohenmfaaGreatLexWordq
set_option maxRecDepth 100000
set_option maxHeartbeats 32000000
namespace Go.Proofs.YtfjmlfbohenmfaaGreat
open Go.RowKit
namespace Dt
mutual
def strip(b:Bool):D→D
 | .mk k n s m l t=> .mk k n s (if b then m else []) (strips b l) (strips b t)
def strips(b:Bool):List D→List D
 |[]=>[]
 |d :: r=>strip b d :: strips b r
end
theorem strips_length(b:Bool):∀l:List D,(strips b l).length=l.length
 |[]=>by rw[strips]
 |d :: r=>by rw[strips,List.length_cons,List.length_cons,strips_length b r]
theorem strips_snoc(b:Bool):∀(l:List D) (j:Nat) (h:j<l.length),strips b (l.take (j+1))=strips b (l.take j)++[strip b l[j]]
 |[],j,h=>absurd h (by simp)
 |d :: r,0,h=>by simp[strips]
 |d :: r,j+1,h=>by
  have:=strips_snoc b r j (by simpa using h);simp only[List.take_succ_cons,strips,List.getElem_cons_succ,this,List.cons_append]
mutual
theorem strip_true:∀x:D,strip true x=x
 | .mk k n s m l t=>by rw[strip,strips_true l,strips_true t];rfl
theorem strips_true:∀x:List D,strips true x=x
 |[]=>by rw[strips]
 |d :: r=>by rw[strips,strip_true d,strips_true r]
end
theorem strip_k(b:Bool)(x:D):(strip b x).k=x.k:=by cases x;rw[strip];rfl
theorem strip_n(b:Bool)(x:D):(strip b x).n=x.n:=by cases x;rw[strip];rfl
theorem strip_s(b:Bool)(x:D):(strip b x).s=x.s:=by cases x;rw[strip];rfl
def mrk(b:Bool)(x:D):List Int:=if b then x.m else []
theorem strip_m(b:Bool)(x:D):(strip b x).m=mrk b x:=by cases x;rw[strip];rfl
theorem strip_l(b:Bool)(x:D):(strip b x).l=strips b x.l:=by cases x;rw[strip];rfl
theorem strip_t(b:Bool)(x:D):(strip b x).t=strips b x.t:=by cases x;rw[strip];rfl
def Made(b:Bool)(x:D):Prop:=∀(F:Nat→Prop) (vm vl vt:Value) (w:World),Wf x→Fine x→Rep F w x vm vl vt→
 Calls Tryz.prog 111 #[.agg #[.int .i64 x.k,.int .i64 x.n,.string x.s,vm,vl,vt],.bool b] w fun e w'=>Fresh w.heap.size w' (strip b x) e∧Below w.heap.size w w'
def ElS(w:World)(X f:Nat)(v:Value)(g o:Nat)(y:D)(a b c:Value):Prop:=w.cell? ⟨X,f,none⟩=some v∧Six w g o y a b c
theorem ElS.keep{S:Nat→Prop}{w w':World}{X f:Nat}{v:Value}{g o:Nat}{y:D}{a b c:Value}(h:ElS w X f v g o y a b c)(hk:Keep S w w')(hX:¬S X)(hg:¬S g):ElS w' X f v g o y a b c:=
 ⟨(hk.cell f (block_lt_of_cell h.1) hX).trans h.1,h.2.keep hk (block_lt_of_cell h.2.c0) hg⟩
def InvL(b:Bool)(w4:World)(O:Nat)(x:D)(vm vt:Value)(L:List D)(ps:List P)(v:Value)(wr:World):Prop:=
 Rowing wr w4.heap.size v ps∧ps.map P.d=strips b (L.take ps.length)∧Keep (fun k=>k=O) w4 wr∧Box wr O x vm v vt∧(∀j,wr.frozen? ⟨O,j,none⟩=false)
theorem InvL.step{b:Bool}{w4 wr w1 wA w5:World}{O:Nat}{x:D}{vm vt:Value}{L:List D}{ps:List P}{v v':Value}(h:InvL b w4 O x vm vt L ps v wr)(hO:O<w4.heap.size)(hj:ps.length<L.length){p:P}(hpd:p.d=strip b L[ps.length])
  (h1:Below wr.heap.size wr w1) (hp:Rep (fun k=>wr.heap.size≤k) w1 p.d p.vm p.vl p.vt) (hA:Below w1.heap.size w1 wA)
  (hown:w5.ownsRow w4.heap.size 25 6 v' (ps.length+1) (flatP ps++p.cells)) (hg:wA.grownBy w5 v.ownBlock) (hat:v'.ownBlock=v.ownBlock∨v'.ownBlock=some wA.heap.size):
  w5.cell? ⟨O,4,none⟩=some v∧w5.frozen? ⟨O,4,none⟩=false∧InvL b w4 O x vm vt L (ps++[p]) v' (w5.setCell ⟨O,4,none⟩ v'):=by
 obtain⟨hR,hm,hk,hb,hf⟩:=h;have hsz:=hk.size;obtain⟨k1,k2⟩:=hR.push hsz h1 hp hA hown hg hat;have hvO:¬v.ownBlock=some O:=fun e=>by have:=(own_lt hR.row O e).1;omega
 have hb5:=hb.keep k2 hvO;have hf5:=frz_keep hf k2 (by omega) hvO;have hk5:Keep (fun k=>k=O) w4 w5:=((hk.mono (T:=fun k=>k=O∨w4.heap.size≤k) (fun k _ e=> .inl e)).trans (k2.mono (fun k _ e=> .inr (own_lt hR.row k e).1))).mono (fun k hk e=>e.elim id (fun e=>by omega));have hl:ps.length<(L.take (ps.length+1)).length:=by rw[List.length_take];omega
 refine⟨hb5.2.2.2.2.1,hf5 4,k1.keep (keep1 w5 O 4 v') (fun k hk _ e=>by omega),?_,hk5.setCell rfl 4 v',hb5.set4 v',fun j=>(frz_set w5 O 4 v' O j).trans (hf5 j)⟩;rw[List.map_append,hm,List.length_append,List.map_cons,List.map_nil,hpd];exact(strips_snoc b L ps.length hj).symm
theorem InvL.el{b:Bool}{_w w4 wr:World}{O X:Nat}{x:D}{vm vt:Value}{L:List D}{ps:List P}{v:Value}(h:InvL b w4 O x vm vt L ps v wr){a:Option Addr}{c:Nat}{n:Nat}(hRow:Row (fun k=>k<n) w4 (.slice a L.length c) L)(hn:n≤O)(hX:w4.cell? ⟨X,4,none⟩=some (.slice a L.length c))(hXO:X≠O)(hj:ps.length<L.length):
  ∃g o y a1 b1 c1,a=some ⟨g,o,none⟩∧y=L[ps.length]∧ElS wr X 4 (.slice a L.length c) g (o+ps.length*6) y a1 b1 c1∧Rep (fun k=>k<n) wr y a1 b1 c1∧
   (∀w',Keep (fun k=>k=O∨w4.heap.size≤k) wr w'→ElS w' X 4 (.slice a L.length c) g (o+ps.length*6) y a1 b1 c1):=by
 obtain⟨hR,hm,hk,hb,hf⟩:=h;have hr:=hRow.keep hk (fun b hb _ e=>by omega);obtain⟨a',c',h1,h2,h3⟩:=hr;cases h1;obtain⟨g,o,e1,e2,e3,e4⟩:=h3 (by intro e;rw[e]at hj;simp at hj);obtain⟨vm',vl',vt',hs,hrep⟩:=e4.at ps.length hj;have hXl:X<w4.heap.size:=block_lt_of_cell hX;have hgl:g<w4.heap.size:=by
  obtain⟨a2,c2,q1,q2,q3⟩:=hRow;cases q1;obtain⟨g2,o2,r1,r2,r3,r4⟩:=q3 (by intro e;rw[e]at hj;simp at hj);rw[e1]at r1;cases r1;exact r3
 have hel:ElS wr X 4 (.slice a L.length c) g (o+ps.length*6) L[ps.length] vm' vl' vt':=⟨(hk.cell 4 hXl hXO).trans hX,hs⟩
 exact⟨g,o,_,vm',vl',vt',e1,rfl,hel,hrep,fun w' hk'=>hel.keep hk' (fun e=>by omega) (fun e=>by omega)⟩
def InvT(b:Bool)(w4:World)(O:Nat)(x:D)(vm vl:Value)(L:List D)(ps:List P)(v:Value)(wr:World):Prop:=
 Rowing wr w4.heap.size v ps∧ps.map P.d=strips b (L.take ps.length)∧Keep (fun k=>k=O) w4 wr∧Box wr O x vm vl v∧(∀j,wr.frozen? ⟨O,j,none⟩=false)
theorem InvT.step{b:Bool}{w4 wr w1 wA w5:World}{O:Nat}{x:D}{vm vl:Value}{L:List D}{ps:List P}{v v':Value}(h:InvT b w4 O x vm vl L ps v wr)(hO:O<w4.heap.size)(hj:ps.length<L.length){p:P}(hpd:p.d=strip b L[ps.length])
  (h1:Below wr.heap.size wr w1) (hp:Rep (fun k=>wr.heap.size≤k) w1 p.d p.vm p.vl p.vt) (hA:Below w1.heap.size w1 wA)
  (hown:w5.ownsRow w4.heap.size 25 6 v' (ps.length+1) (flatP ps++p.cells)) (hg:wA.grownBy w5 v.ownBlock) (hat:v'.ownBlock=v.ownBlock∨v'.ownBlock=some wA.heap.size):
  w5.cell? ⟨O,5,none⟩=some v∧w5.frozen? ⟨O,5,none⟩=false∧InvT b w4 O x vm vl L (ps++[p]) v' (w5.setCell ⟨O,5,none⟩ v'):=by
 obtain⟨hR,hm,hk,hb,hf⟩:=h;have hsz:=hk.size;obtain⟨k1,k2⟩:=hR.push hsz h1 hp hA hown hg hat;have hvO:¬v.ownBlock=some O:=fun e=>by have:=(own_lt hR.row O e).1;omega
 have hb5:=hb.keep k2 hvO;have hf5:=frz_keep hf k2 (by omega) hvO;have hk5:Keep (fun k=>k=O) w4 w5:=((hk.mono (T:=fun k=>k=O∨w4.heap.size≤k) (fun k _ e=> .inl e)).trans (k2.mono (fun k _ e=> .inr (own_lt hR.row k e).1))).mono (fun k hk e=>e.elim id (fun e=>by omega));have hl:ps.length<(L.take (ps.length+1)).length:=by rw[List.length_take];omega
 refine⟨hb5.2.2.2.2.2,hf5 5,k1.keep (keep1 w5 O 5 v') (fun k hk _ e=>by omega),?_,hk5.setCell rfl 5 v',hb5.set5 v',fun j=>(frz_set w5 O 5 v' O j).trans (hf5 j)⟩;rw[List.map_append,hm,List.length_append,List.map_cons,List.map_nil,hpd];exact(strips_snoc b L ps.length hj).symm
theorem InvT.el{b:Bool}{_w w4 wr:World}{O X:Nat}{x:D}{vm vl:Value}{L:List D}{ps:List P}{v:Value}(h:InvT b w4 O x vm vl L ps v wr){a:Option Addr}{c:Nat}{n:Nat}(hRow:Row (fun k=>k<n) w4 (.slice a L.length c) L)(hn:n≤O)(hX:w4.cell? ⟨X,5,none⟩=some (.slice a L.length c))(hXO:X≠O)(hj:ps.length<L.length):
  ∃g o y a1 b1 c1,a=some ⟨g,o,none⟩∧y=L[ps.length]∧ElS wr X 5 (.slice a L.length c) g (o+ps.length*6) y a1 b1 c1∧Rep (fun k=>k<n) wr y a1 b1 c1∧
   (∀w',Keep (fun k=>k=O∨w4.heap.size≤k) wr w'→ElS w' X 5 (.slice a L.length c) g (o+ps.length*6) y a1 b1 c1):=by
 obtain⟨hR,hm,hk,hb,hf⟩:=h;have hr:=hRow.keep hk (fun b hb _ e=>by omega);obtain⟨a',c',h1,h2,h3⟩:=hr;cases h1;obtain⟨g,o,e1,e2,e3,e4⟩:=h3 (by intro e;rw[e]at hj;simp at hj);obtain⟨vm',vl',vt',hs,hrep⟩:=e4.at ps.length hj;have hXl:X<w4.heap.size:=block_lt_of_cell hX;have hgl:g<w4.heap.size:=by
  obtain⟨a2,c2,q1,q2,q3⟩:=hRow;cases q1;obtain⟨g2,o2,r1,r2,r3,r4⟩:=q3 (by intro e;rw[e]at hj;simp at hj);rw[e1]at r1;cases r1;exact r3
 have hel:ElS wr X 5 (.slice a L.length c) g (o+ps.length*6) L[ps.length] vm' vl' vt':=⟨(hk.cell 5 hXl hXO).trans hX,hs⟩
 exact⟨g,o,_,vm',vl',vt',e1,rfl,hel,hrep,fun w' hk'=>hel.keep hk' (fun e=>by omega) (fun e=>by omega)⟩
def Mid4(b:Bool)(w:World)(x:D)(vm vl vt:Value)(wx:World):Prop:=∃a c,Box wx (w.heap.size+1+1) x (.slice a (mrk b x).length c) (.slice none 0 0) (.slice none 0 0)∧IRow (fun k=>w.heap.size+1+1<k) wx (.slice a (mrk b x).length c) (mrk b x)∧Box wx w.heap.size x vm vl vt∧Box wx (w.heap.size+1) (.mk 0 0 ⟨#[]⟩ [] [] []) (.slice none 0 0) (.slice none 0 0) (.slice none 0 0)∧(∀j,wx.frozen? ⟨w.heap.size+1,j,none⟩=false)∧(∀j,wx.frozen? ⟨w.heap.size+1+1,j,none⟩=false)∧Below w.heap.size w wx∧w.heap.size+1+1<wx.heap.size
theorem Mid4.start{w w1 w2 w3:World}{x:D}{vm vl vt:Value}(h1:w.alloc (.cells #[.int .i64 x.k,.int .i64 x.n,.string x.s,vm,vl,vt] 25)=w1)(h2:w1.alloc (.cells #[.int .i64 0,.int .i64 0,.string ⟨#[]⟩,.slice none 0 0,.slice none 0 0,.slice none 0 0] 25)=w2)(h3:w2.alloc (.cells #[.int .i64 x.k,.int .i64 x.n,.string x.s,.slice none 0 0,.slice none 0 0,.slice none 0 0] 25)=w3):
  Box w3 (w.heap.size+1+1) x (.slice none 0 0) (.slice none 0 0) (.slice none 0 0)∧Box w3 w.heap.size x vm vl vt∧Box w3 (w.heap.size+1) (.mk 0 0 ⟨#[]⟩ [] [] []) (.slice none 0 0) (.slice none 0 0) (.slice none 0 0)∧(∀j,w3.frozen? ⟨w.heap.size+1,j,none⟩=false)∧(∀j,w3.frozen? ⟨w.heap.size+1+1,j,none⟩=false)∧Below w.heap.size w w3∧w3.heap.size=w.heap.size+1+1+1∧w1.heap.size=w.heap.size+1∧w2.heap.size=w.heap.size+1+1∧Box w1 w.heap.size x vm vl vt∧Box w2 w.heap.size x vm vl vt:=by
 have s1:w1.heap.size=w.heap.size+1:=by rw[←h1];simp
 have s2:w2.heap.size=w.heap.size+1+1:=by rw[←h2,World.size_alloc,s1]
 have s3:w3.heap.size=w.heap.size+1+1+1:=by rw[←h3,World.size_alloc,s2]
 have hb1:Below w.heap.size w w1:=by rw[←h1];exact(Below.refl _ _).alloc (Nat.le_refl _) _
 have hb2:Below w1.heap.size w1 w2:=by rw[←h2];exact(Below.refl _ _).alloc (Nat.le_refl _) _
 have hb3:Below w2.heap.size w2 w3:=by rw[←h3];exact(Below.refl _ _).alloc (Nat.le_refl _) _
 have a1:=six_new w x.k x.n x.s vm vl vt 25;rw[h1]at a1;have B1:Box w1 w.heap.size x vm vl vt:=⟨a1 0 (by omega),a1 1 (by omega),a1 2 (by omega),a1 3 (by omega),a1 4 (by omega),a1 5 (by omega)⟩
 have a2:=six_new w1 0 0 ⟨#[]⟩ (.slice none 0 0) (.slice none 0 0) (.slice none 0 0) 25;rw[h2,s1]at a2;have B2:Box w2 (w.heap.size+1) (.mk 0 0 ⟨#[]⟩ [] [] []) (.slice none 0 0) (.slice none 0 0) (.slice none 0 0):=⟨a2 0 (by omega),a2 1 (by omega),a2 2 (by omega),a2 3 (by omega),a2 4 (by omega),a2 5 (by omega)⟩
 have a3:=six_new w2 x.k x.n x.s (.slice none 0 0) (.slice none 0 0) (.slice none 0 0) 25;rw[h3,s2]at a3;have B3:Box w3 (w.heap.size+1+1) x (.slice none 0 0) (.slice none 0 0) (.slice none 0 0):=⟨a3 0 (by omega),a3 1 (by omega),a3 2 (by omega),a3 3 (by omega),a3 4 (by omega),a3 5 (by omega)⟩
 have f2:∀j,w2.frozen? ⟨w.heap.size+1,j,none⟩=false:=fun j=>by
  have:=frz_new w1 #[.int .i64 0,.int .i64 0,.string ⟨#[]⟩,.slice none 0 0,.slice none 0 0,.slice none 0 0] 25 j;rw[h2,s1]at this;exact this
 have f3:∀j,w3.frozen? ⟨w.heap.size+1+1,j,none⟩=false:=fun j=>by
  have:=frz_new w2 #[.int .i64 x.k,.int .i64 x.n,.string x.s,.slice none 0 0,.slice none 0 0,.slice none 0 0] 25 j;rw[h3,s2]at this;exact this
 exact⟨B3,(B1.below hb2).below hb3,B2.below hb3,fun j=>(hb3.frozen (p:=⟨w.heap.size+1,j,none⟩) (by show w.heap.size+1<_;omega)).trans (f2 j),f3,(hb1.trans (hb2.mono (by omega))).trans (hb3.mono (by omega)),s3,s1,s2,B1,B1.below hb2⟩
theorem IRow.src'{F:Nat→Prop}{w:World}{a:Option Addr}{c:Nat}{m:List Int}(h:IRow F w (.slice a m.length c) m):Ap.Src w (.slice a m.length c) m.length (m.map (Value.int .i64))∨(a=none∧m=[]):=by
 by_cases ha:a=none
 ·right;refine⟨ha,?_⟩;obtain⟨a',c',h1,h2,h3⟩:=h;cases h1
  cases m with
  |nil=>rfl
  |cons x r=>obtain⟨b,o,e,_⟩:=h3 (by simp);rw[ha]at e;cases e
 ·exact .inl (h.src ha)
theorem Mid4.marks{b:Bool}{w w3 w5:World}{x:D}{vm vl vt:Value}(q1:Box w3 (w.heap.size+1+1) x (.slice none 0 0) (.slice none 0 0) (.slice none 0 0))(q2:Box w3 w.heap.size x vm vl vt)(q3:Box w3 (w.heap.size+1) (.mk 0 0 ⟨#[]⟩ [] [] []) (.slice none 0 0) (.slice none 0 0) (.slice none 0 0))(q4:∀j,w3.frozen? ⟨w.heap.size+1,j,none⟩=false)(q5:∀j,w3.frozen? ⟨w.heap.size+1+1,j,none⟩=false)(q6:Below w.heap.size w w3)(s3:w3.heap.size=w.heap.size+1+1+1)
  (hb:Below w3.heap.size w3 w5) {a:Option Addr} {c:Nat} (hi:IRow (fun k=>w3.heap.size≤k) w5 (.slice a (mrk b x).length c) (mrk b x)):
  w5.cell? ⟨w.heap.size+1+1,3,none⟩=some (.slice none 0 0)∧w5.frozen? ⟨w.heap.size+1+1,3,none⟩=false∧Mid4 b w x vm vl vt (w5.setCell ⟨w.heap.size+1+1,3,none⟩ (.slice a (mrk b x).length c)):=by
 have hf5:∀j,w5.frozen? ⟨w.heap.size+1+1,j,none⟩=false:=fun j=>(hb.frozen (p:=⟨w.heap.size+1+1,j,none⟩) (by show w.heap.size+1+1<_;omega)).trans (q5 j)
 have hf4:∀j,w5.frozen? ⟨w.heap.size+1,j,none⟩=false:=fun j=>(hb.frozen (p:=⟨w.heap.size+1,j,none⟩) (by show w.heap.size+1<_;omega)).trans (q4 j)
 have hbx:=q1.below hb;have hk:=keep1 w5 (w.heap.size+1+1) 3 (.slice a (mrk b x).length c);have hs:=hb.size;refine⟨hbx.2.2.2.1,hf5 3,a,c,hbx.set3 _,IRow.mono (IRow.keep hi hk (fun b hb _ e=>by omega)) (fun _ hb _=>by omega),(q2.below hb).keep hk (by omega),(q3.below hb).keep hk (by omega),fun j=>(frz_set _ _ _ _ _ _).trans (hf4 j),fun j=>(frz_set _ _ _ _ _ _).trans (hf5 j),((btr q6 hb)).trans (hk.to_below (fun k e=>by omega) (by omega)),?_⟩;have:=hk.size;omega
theorem Mid4.none'{b:Bool}{w w3:World}{x:D}{vm vl vt:Value}(q1:Box w3 (w.heap.size+1+1) x (.slice none 0 0) (.slice none 0 0) (.slice none 0 0))(q2:Box w3 w.heap.size x vm vl vt)(q3:Box w3 (w.heap.size+1) (.mk 0 0 ⟨#[]⟩ [] [] []) (.slice none 0 0) (.slice none 0 0) (.slice none 0 0))(q4:∀j,w3.frozen? ⟨w.heap.size+1,j,none⟩=false)(q5:∀j,w3.frozen? ⟨w.heap.size+1+1,j,none⟩=false)(q6:Below w.heap.size w w3)(s3:w3.heap.size=w.heap.size+1+1+1)(hb:b=false):
  Mid4 b w x vm vl vt w3:=by
 subst hb;exact⟨none,0,q1,⟨none,0,rfl,Nat.le_refl _,fun h=>absurd rfl h⟩,q2,q3,q4,q5,q6,by omega⟩
theorem made_end{b:Bool}{w wc wo wr:World}{x:D}{vx vy vz vm vL v:Value}{ps:List P}(hi:IRow (fun k=>w.heap.size+1+1<k) wc vm (mrk b x))(hZ:Box wc (w.heap.size+1) (.mk 0 0 ⟨#[]⟩ [] [] []) vx vy vz)(hf:∀j,wc.frozen? ⟨w.heap.size+1,j,none⟩=false)(hbl:Below w.heap.size w wc)(hs:w.heap.size+1+1<wc.heap.size)
  (hL:Row (fun k=>wc.heap.size≤k) wo vL (strips b x.l)) (kL:Keep (fun k=>k=w.heap.size+1+1) wc wo) (hI:InvT b wo (w.heap.size+1+1) x vm vL x.t ps v wr) (hlen:ps.length=x.t.length):
  Box wr (w.heap.size+1+1) x vm vL v∧Box wr (w.heap.size+1) (.mk 0 0 ⟨#[]⟩ [] [] []) vx vy vz∧(∀j,wr.frozen? ⟨w.heap.size+1,j,none⟩=false)∧Fresh w.heap.size (six6 wr (w.heap.size+1) x vm vL v) (strip b x) (.returned (.agg #[.int .i64 x.k,.int .i64 x.n,.string x.s,vm,vL,v]))∧Below w.heap.size w (six6 wr (w.heap.size+1) x vm vL v):=by
 obtain⟨h1,h2,h3,h4,h5⟩:=hI;have kk:Keep (fun k=>k=w.heap.size+1+1) wc wr:=kL.trans h3;have k6:=six6_keep wr (w.heap.size+1) x vm vL v;have s1:=kL.size;have s2:=h3.size;have s3:=k6.size;have hT:=h1.to_row;rw[h2,hlen,List.take_length]at hT;have gI:IRow (fun k=>w.heap.size≤k) (six6 wr (w.heap.size+1) x vm vL v) vm (mrk b x):=IRow.mono (IRow.keep (IRow.keep hi kk (fun b hb _ e=>by omega)) k6 (fun b hb _ e=>by omega)) (fun _ hb _=>by omega);have gL:Row (fun k=>w.heap.size≤k) (six6 wr (w.heap.size+1) x vm vL v) vL (strips b x.l):=Row.mono (Row.keep (Row.keep hL h3 (fun b hb _ e=>by omega)) k6 (fun b hb _ e=>by omega)) (fun _ hb _=>by omega);have gT:Row (fun k=>w.heap.size≤k) (six6 wr (w.heap.size+1) x vm vL v) v (strips b x.t):=Row.mono (Row.keep hT k6 (fun b hb _ e=>by omega)) (fun _ hb _=>by omega);refine⟨h4,hZ.keep kk (by omega),fun j=>(kk.frozen j (by omega) (by omega)).trans (hf j),⟨vm,vL,v,by rw[strip_k,strip_n,strip_s],(rep_iff _ _ _ _ _ _).2 ⟨by rw[strip_m];exact gI,by rw[strip_l];exact gL,by rw[strip_t];exact gT⟩⟩,(hbl.trans (kk.to_below (fun k e=>by omega) (by omega))).trans (k6.to_below (fun k e=>by omega) (by omega))⟩
end Dt
theorem made_step(b:Bool)(x:Dt.D)(hl:∀y∈x.l,Dt.Made b y)(ht:∀y∈x.t,Dt.Made b y):Dt.Made b x:=by
 intro F vm vl vt w hW hF hR;obtain⟨hm,⟨al,cal,rfl,hcl⟩,⟨at_,cat_,rfl,hct⟩⟩:=(Dt.rep_iff _ _ _ _ _ _).1 hR;have hrl:=((Dt.rep_iff _ _ _ _ _ _).1 hR).2.1;have hrt:=((Dt.rep_iff _ _ _ _ _ _).1 hR).2.2;have hm0:=hm;obtain⟨am,cm,rfl,hcm⟩:=hm;obtain⟨f1,f2,f3,f4,f5⟩:=Dt.fine_parts hF;obtain⟨w1,hw1⟩:∃w1,w.alloc (.cells #[.int .i64 x.k,.int .i64 x.n,.string x.s,.slice am x.m.length cm,.slice al x.l.length cal,.slice at_ x.t.length cat_] 25)=w1:=⟨_,rfl⟩
 obtain⟨w2,hw2⟩:∃w2,w1.alloc (.cells #[.int .i64 0,.int .i64 0,.string ⟨#[]⟩,.slice none 0 0,.slice none 0 0,.slice none 0 0] 25)=w2:=⟨_,rfl⟩
 obtain⟨w3,hw3⟩:∃w3,w2.alloc (.cells #[.int .i64 x.k,.int .i64 x.n,.string x.s,.slice none 0 0,.slice none 0 0,.slice none 0 0] 25)=w3:=⟨_,rfl⟩
 obtain⟨q1,q2,q3,q4,q5,q6,s3,s1,s2,q7,q8⟩:=Dt.Mid4.start hw1 hw2 hw3;have HRL:=hd hrl;have HRT:=hd hrt;have HM0:=hd hm0;have HL:=hd hl;have HT:=hd ht;have HW:=hd hW;have HF4:=hd f4;have HF5:=hd f5;have HB3:=hd q6;have HQ4:=hd q4;have HQ5:=hd q5;have HQ3:=hd q3;have HS3:=hd s3;obtain⟨b0,b1,b2,b3,b4,b5⟩:=q8;obtain⟨c0,c1,c2,c3,c4,c5⟩:=id q1;obtain⟨d0,d1,d2,d3,d4,d5⟩:=id q2;have HQ1:=hd q1;have HQ2:=hd q2;obtain⟨i0,hi,hz0,hz1,hz2⟩:=info_parts Dt.infoD;clear hl ht hW hF hR hrl hrt hm0 hcm hcl hct f4 f5 q1 q2 q3 q4 q5 q6 q7 s3;have HW3:=hd hw3;clear hw3;go_enter Tryz.func111,Tryz.ntmps111
 go_upto_if 15 with fail
 rw[HW3.out];clear hw1 hw2 s1 s2 b0 b1 b2 b3 b4 b5
 go_cut [] (fun wx=>Dt.Mid4 b w x (.slice am x.m.length cm) (.slice al x.l.length cal) (.slice at_ x.t.length cat_) wx)
 case first=>
  have HX3:=hd ((HM0.out).below HB3.out);have HRUN:Hid (∀w5 a c,Below w3.heap.size w3 w5→Dt.IRow (fun k=>w3.heap.size≤k) w5 (.slice a (Dt.mrk b x).length c) (Dt.mrk b x)→w5.cell? ⟨w.heap.size+1+1,3,none⟩=some (.slice none 0 0)∧w5.frozen? ⟨w.heap.size+1+1,3,none⟩=false∧Dt.Mid4 b w x (.slice am x.m.length cm) (.slice al x.l.length cal) (.slice at_ x.t.length cat_) (w5.setCell ⟨w.heap.size+1+1,3,none⟩ (.slice a (Dt.mrk b x).length c))):=
   fun w5 a c h1 h2=>Dt.Mid4.marks HQ1.out HQ2.out HQ3.out HQ4.out HQ5.out HB3.out HS3.out h1 h2
  have HNO:Hid (b=false→Dt.Mid4 b w x (.slice am x.m.length cm) (.slice al x.l.length cal) (.slice at_ x.t.length cat_) w3):=fun h=>Dt.Mid4.none' HQ1.out HQ2.out HQ3.out HQ4.out HQ5.out HB3.out HS3.out h
  clear HQ1 HQ2 HQ3 HQ4 HQ5 HL HT HF4 HF5 HRL HRT
  cases b with
  |false=>
   go_wp2;go_meet;exact HNO.out (by simp)
  |true=>
   obtain⟨i1,hi1,hy0,hy1,hy2⟩:=info_parts Dt.infoI;have hm1:0+x.m.length≤maxLen:=by unfold maxLen;omega
   have hm2:(0+x.m.length)*8≤140737488355328:=by omega
   have HO:Hid (w3.ownsRow w3.heap.size 3 1 (.slice none 0 0) 0 []):=World.ownsRow_nil _ _ _ _;rcases HX3.out.src' with hsrc|⟨rfl,hmn⟩
   ·have HS:=hd hsrc;clear hsrc;go_wp2_with(at_builtin;refine Ap.list rfl _ _ 22 rfl w3.heap.size 3 i1 (.int .i64 0) 1 8 Tryz.underlying22 hi1 hy0 hy1 hy2 rfl (by decide) (.slice none 0 0) 0 [] rfl HO.out (.slice am x.m.length cm) x.m.length (x.m.map (Value.int .i64)) rfl HS.out (by simp) (by intro u hu;obtain⟨x,_,rfl⟩:=List.mem_map.1 hu;rfl) hm1 hm2 (Nat.le_refl _) ?_;intro v' w5 hown hg hat;obtain⟨a5,c5,rfl⟩:=Dt.row_form hown;obtain⟨z1,z2,HM⟩:=HRUN.out w5 a5 c5 ⟨hg.os,hg.tape,hg.output,hg.size,fun k hk=>hg.block k hk (by intro e;cases e)⟩ (show Dt.IRow _ w5 (.slice a5 x.m.length c5) x.m from Dt.IRow.of_own (by simpa using hown));have HMM:=hd HM;clear HM hown hg hat;rw[Nat.zero_add])
    go_meet;exact HMM.out
   ·have HMN:=hd hmn;obtain⟨z1,z2,HM⟩:=HRUN.out w3 none 0 (Below.refl _ _) (show Dt.IRow _ w3 (.slice none x.m.length 0) x.m from by rw[HMN.out];exact⟨none,0,rfl,Nat.le_refl _,fun h=>absurd rfl h⟩);rw[show(Dt.mrk true x).length=0 from by show x.m.length=0;rw[HMN.out];rfl]at HM;have HMM:=hd HM;clear HM hmn;go_wp2_with(at_builtin;refine Pt.list_none rfl _ _ 22 rfl w3.heap.size 3 i1 1 cm Tryz.underlying22 hi1 (.slice none 0 0) 0 [] rfl HO.out (by rw[show Act.eval _ _=(Value.slice none x.m.length cm)from rfl,HMN.out];rfl) ?_)
    go_meet;exact HMM.out
 case rest=>
  obtain⟨a5,cq5,hb5,hi5,hx5,hr5,hf5,hfo5,hbl5,hs5⟩:=hcut;clear c0 c1 c2 c3 c4 c5 d0 d1 d2 d3 d4 d5 HQ1 HQ2 HQ3 HQ4 HQ5 HB3 HS3;have HO4:Hid (w.heap.size+1+1<wc.heap.size):=hs5;have HROW:Hid (Dt.Row (fun k=>k<w.heap.size) wc (.slice al x.l.length cal) x.l):=(HRL.out.mono (fun _ _ h=>h)).below hbl5;have HX:=hd hx5.2.2.2.2.1;have HI0:Hid (Dt.InvL b wc (w.heap.size+1+1) x (.slice a5 (Dt.mrk b x).length cq5) (.slice none 0 0) x.l [] (.slice none 0 0) wc):=⟨Dt.Rowing.nil _ _,by simp[Dt.strips],Keep.refl _ _,hb5,hfo5⟩
  obtain⟨c0,c1,c2,c3,c4,c5⟩:=id hb5;obtain⟨d0,d1,d2,d3,d4,d5⟩:=id hx5;have HBX:=hd hx5;have HBR:=hd hr5;have HFR:=hd hf5;have HBL:=hd hbl5;have HI5:=hd hi5;clear hb5 hi5 hx5 hr5 hf5 hfo5 hbl5 hs5;go_wp2
  go_loopw [6] (fun v wr=>∃(ps:List Dt.P) (av:Option Addr) (cv:Nat),v= .int .i64 ps.length∧ps.length≤x.l.length∧Hid (Dt.InvL b wc (w.heap.size+1+1) x (.slice a5 (Dt.mrk b x).length cq5) (.slice none 0 0) x.l ps (.slice av ps.length cv) wr)) (fun v _=>x.l.length - (intOf v).toNat)
  case atStart=>exact⟨[],none,0,rfl,Nat.zero_le _,HI0⟩
  case round=>
   clear c0 c1 c2 c3 c4 c5 d0 d1 d2 d3 d4 d5;obtain⟨ps,av,cv,rfl,hj,HI⟩:=hrel;by_cases hltn:ps.length<x.l.length
   ·have hlti:(ps.length:Int)<(x.l.length:Int):=by omega
    obtain⟨g,o,y,vb1,vb2,vb3,hag,hy,hel,hrp,hS⟩:=HI.out.el (_w:=w) HROW.out (by omega) HX.out (by omega) hltn;obtain⟨b1,m1,p1,b2,m2,p2,b3,m3,p3,rfl,rfl,rfl⟩:=hrp.forms;have HY:=hd hy;have HC:Hid (∀u,Below wr.heap.size wr u→Calls Tryz.prog 111 #[.agg #[.int .i64 y.k,.int .i64 y.n,.string y.s,.slice b1 m1 p1,.slice b2 m2 p2,.slice b3 m3 p3],.bool b] u fun e w'=>Dt.Fresh u.heap.size w' (Dt.strip b y) e∧Below u.heap.size u w'):=fun u hu=>HL.out y (by rw[hy];exact List.getElem_mem _) _ _ _ _ u (by rw[hy];exact(Dt.wf_l HW.out).at _ hltn) (by rw[hy];exact Dt.Fines.at HF4.out _ (List.getElem_mem _)) (hrp.below hu)
    have HBD:Hid (Below wr.heap.size wr wr.drew):=(Below.refl _ wr).drew;have HS:=hd hS;obtain⟨xc,xr⟩:=id hel;obtain⟨oc0,oc1,oc2,oc3,oc4,oc5⟩:=HI.out.2.2.2.1;have of:=HI.out.2.2.2.2 4;subst hag;clear hy hel hrp hS;go_upto_block 1 with fail
    go_cut [] (fun wx=>∃p av' cv',Dt.InvL b wc (w.heap.size+1+1) x (.slice a5 (Dt.mrk b x).length cq5) (.slice none 0 0) x.l (ps++[p]) (.slice av' (ps.length+1) cv') wx)
    case first=>
     go_wp2_with fail
     have hmx:ps.length+1≤maxLen:=by unfold maxLen;omega
     have hby:(ps.length+1)*104≤140737488355328:=by omega
     have HBD0:Hid (Below wr.heap.size wr wr.drew):=(Below.refl _ wr).drew;have oF:wr.drew.cell? ⟨w.heap.size+1+1,4,none⟩=some (.slice av ps.length cv):=HI.out.2.2.2.1.2.2.2.2.1;have hOl:w.heap.size+1+1<wr.drew.heap.size:=block_lt_of_cell oF;have hSd:Dt.ElS wr.drew w.heap.size 4 (.slice (some ⟨g,o,none⟩) x.l.length cal) g (o+ps.length*6) y (.slice b1 m1 p1) (.slice b2 m2 p2) (.slice b3 m3 p3):=HS.out _ ((Keep.refl _ _).below HBD0.out);have hpj0:(0:Int)≤(ps.length:Int):=by omega
     have HKW:Hid (∀w6,Below wr.heap.size wr w6→∀ {o:Obj} {w7:World},(w6.alloc o).grownBy w7 (Value.slice av ps.length cv).ownBlock→Keep (fun k=>k=w.heap.size+1+1∨wc.heap.size≤k) wr w7):=by
      intro w6 h6 o w7 hg;have hA:=h6.trans (((Below.refl _ w6).alloc (Nat.le_refl _) o).mono h6.size);have hrow:=HI.out.1.row;exact⟨hg.os.trans hA.os,hg.tape.trans hA.tape,hg.output.trans hA.output,Nat.le_trans hA.size hg.size,fun k hk hn=>(hg.block k (by have:=hA.size;omega) (fun e=>hn (.inr (Dt.own_lt hrow k e.symm).1))).trans (hA.block k hk)⟩
     refine wp_region_noPanic ?_;refine wp_region_held_drew (S:=fun w'=>Dt.ElS w' w.heap.size 4 (.slice (some ⟨g,o,none⟩) x.l.length cal) g (o+ps.length*6) y (.slice b1 m1 p1) (.slice b2 m2 p2) (.slice b3 m3 p3)) (by kernel_rfl) hSd (fun hHeld=> ?_);refine Zm.u 0 ?_ rfl ?_ ?_;rotate_left
     ·intro w hSw
      try dsimp only at hSw
      go_simp
      try with_reducible rfl
     simp only[Act.put,Zm.a,Zm.b,Zm.c];refine Zm.u 2 ?_ rfl ?_ ?_;rotate_left
     ·intro w hSw
      try dsimp only at hSw
      go_simp
      try with_reducible rfl
     simp only[Act.put,Zm.a,Zm.b,Zm.c];refine Zm.u 3 ?_ rfl ?_ ?_;rotate_left
     ·intro w hSw;obtain⟨g9,g0,g1,g2,g3,g4,g5⟩:=hSw;go_simp
      try with_reducible rfl
     simp only[Act.put,Zm.a,Zm.b,Zm.c];refine Zm.u 4 ?_ rfl ?_ ?_;rotate_left
     ·intro w hSw
      try dsimp only at hSw
      go_simp
      try with_reducible rfl
     simp only[Act.put,Zm.a,Zm.b,Zm.c];refine Zm.u 5 ?_ rfl ?_ ?_;rotate_left
     ·intro w hSw
      try dsimp only at hSw
      go_simp
      try with_reducible rfl
     simp only[Act.put,Zm.a,Zm.b,Zm.c];refine Zm.u 6 ?_ rfl ?_ ?_;rotate_left
     ·intro w hSw;obtain⟨g9,g0,g1,g2,g3,g4,g5⟩:=hSw;go_simp
      try with_reducible rfl
     simp only[Act.put,Zm.a,Zm.b,Zm.c];refine Zm.u 7 ?_ rfl ?_ ?_;rotate_left
     ·intro w hSw
      try dsimp only at hSw
      go_simp
      try with_reducible rfl
     simp only[Act.put,Zm.a,Zm.b,Zm.c];refine wpAnyH_ready (rs:=[1,8]) (by kernel_rfl) (by simp) ?_;refine AllReadyH.cons (o:=⟨_,_,_,_,_,_⟩) rfl (fun K hK=> ?_) ?_
     ·go_simp;refine hK.out _ _ ?_ (fun hHeld=> ?_)
      ·exact hSd
      clear hK K
      try simp only[Act.put,Zm.a,Zm.b,Zm.c]
      refine Zm.r 8 rfl (fun K hK=> ?_);go_simp;refine(HC.out _ HBD.out).mono ?_;rintro e w6 ⟨⟨um,ul,ut,rfl,hr6⟩,hb6⟩;obtain⟨e1,r1,t1,e2,r2,t2,e3,r3,t3,rfl,rfl,rfl⟩:=hr6.forms;have o6:=(hb6.cell (p:=⟨w.heap.size+1+1,4,none⟩) hOl).trans oF;rw[Dt.strip_k,Dt.strip_n,Dt.strip_s];dsimp only;refine hK.out _ _ ?_ (fun hHeld=> ?_)
      ·exact HS.out _ ((Keep.refl _ _).below ((btr HBD0.out hb6)))
      clear hK K
      try simp only[Act.put,Zm.a,Zm.b,Zm.c]
      have HR6:Hid (Dt.Rep (fun k=>wr.heap.size≤k) w6 (Dt.strip b y) (.slice e1 r1 t1) (.slice e2 r2 t2) (.slice e3 r3 t3)):=hr6;have HB6:Hid (Below wr.heap.size wr w6):=btr HBD0.out hb6;have HCE:Hid ((Dt.P.mk (Dt.strip b y) (.slice e1 r1 t1) (.slice e2 r2 t2) (.slice e3 r3 t3)).cells=[.int .i64 y.k,.int .i64 y.n,.string y.s,.slice e1 r1 t1,.slice e2 r2 t2,.slice e3 r3 t3]):=by show Dt.P.cells _=_;unfold Dt.P.cells;simp only[Dt.strip_k,Dt.strip_n,Dt.strip_s]
      have HOW:Hid (w6.ownsRow wc.heap.size 25 6 (.slice av ps.length cv) ps.length (Dt.flatP ps)):=Dt.own_below HI.out.1.row HB6.out;have hbs:wc.heap.size≤(w6.alloc (.cells #[.int .i64 y.k,.int .i64 y.n,.string y.s,.slice e1 r1 t1,.slice e2 r2 t2,.slice e3 r3 t3] 25)).heap.size:=by rw[World.size_alloc];have:=HB6.out.size;have:=HI.out.2.2.1.size;omega
      refine Zm.r 9 rfl (fun K hK=> ?_);go_simp;refine hK.out _ _ ?_ (fun hHeld=> ?_)
      ·exact HS.out _ ((Keep.refl _ _).below (HB6.out.trans (((Below.refl _ w6).alloc (Nat.le_refl _) _).mono HB6.out.size)))
      clear hK K
      try simp only[Act.put,Zm.a,Zm.b,Zm.c]
      refine Zm.r 10 rfl (fun K hK=> ?_);refine step_append_lies _ (by rfl) _ _ 23 (by rfl) wc.heap.size 25 i0 (.agg #[.int .i64 0,.int .i64 0,.string ⟨#[]⟩,.slice none 0 0,.slice none 0 0,.slice none 0 0]) 6 104 Tryz.underlying23 hi hz0 hz1 hz2 rfl (by decide) (.slice av ps.length cv) ps.length (Dt.flatP ps) (by rfl) (HOW.out.alloc _) ⟨w6.heap.size,0,none⟩ 1 1 [.int .i64 y.k,.int .i64 y.n,.string y.s,.slice e1 r1 t1,.slice e2 r2 t2,.slice e3 r3 t3] (by rfl) rfl (World.news_of_block (w:=w6.alloc _) (B:=w6.heap.size) (cs:=#[.int .i64 y.k,.int .i64 y.n,.string y.s,.slice e1 r1 t1,.slice e2 r2 t2,.slice e3 r3 t3]) (t:=25) (fr:=(0,0)) (heap_alloc_new w6 _)) (by simp[Value.oneCell']) (by omega) hmx hby hbs _ rfl ?_;intro g' cap w7 hown hgrow hat hlt;obtain⟨z4,zf,hst⟩:=HI.out.step (p:=Dt.P.mk (Dt.strip b y) (.slice e1 r1 t1) (.slice e2 r2 t2) (.slice e3 r3 t3)) HO4.out hltn (by rw[HY.out]) HB6.out HR6.out ((Below.refl _ w6).alloc (Nat.le_refl _) _) (by rw[show(Dt.P.mk (Dt.strip b y) (.slice e1 r1 t1) (.slice e2 r2 t2) (.slice e3 r3 t3)).cells=[.int .i64 y.k,.int .i64 y.n,.string y.s,.slice e1 r1 t1,.slice e2 r2 t2,.slice e3 r3 t3]from HCE.out];exact hown) hgrow (hat.imp (fun e=>by rw[e];rfl) (fun e=>by rw[e];rfl));refine hK.out _ _ ?_ (fun hHeld=> ?_)
      ·exact HS.out _ (HKW.out _ HB6.out hgrow)
      clear hK K
      try simp only[Act.put,Zm.a,Zm.b,Zm.c]
      refine Zm.u 11 ?_ rfl ?_ ?_;rotate_left
      ·intro w hSw
       try dsimp only at hSw
       go_simp
       try with_reducible rfl
      simp only[Act.put,Zm.a,Zm.b,Zm.c];refine Zm.r 12 rfl (fun K hK=> ?_);go_simp;refine hK.out _ _ ?_ (fun hHeld=> ?_)
      ·exact HS.out _ ((HKW.out _ HB6.out hgrow).setCell (.inl rfl) _ _)
      clear hK K
      try simp only[Act.put,Zm.a,Zm.b,Zm.c]
      refine wpAnyH_done (by kernel_rfl) ?_ _;refine NoPanic.normal ?_;go_wp2_with fail
      go_meet;exact⟨_,_,_,hst⟩
     refine AllReadyH.cons (o:=⟨_,_,_,_,_,_⟩) rfl (fun K hK=> ?_) AllReadyH.nil;go_simp;refine(HC.out _ HBD.out).mono ?_;rintro e w6 ⟨⟨um,ul,ut,rfl,hr6⟩,hb6⟩;obtain⟨e1,r1,t1,e2,r2,t2,e3,r3,t3,rfl,rfl,rfl⟩:=hr6.forms;have o6:=(hb6.cell (p:=⟨w.heap.size+1+1,4,none⟩) hOl).trans oF;rw[Dt.strip_k,Dt.strip_n,Dt.strip_s];dsimp only;refine hK.out _ _ ?_ (fun hHeld=> ?_)
     ·exact HS.out _ ((Keep.refl _ _).below ((btr HBD0.out hb6)))
     clear hK K
     try simp only[Act.put,Zm.a,Zm.b,Zm.c]
     have HR6:Hid (Dt.Rep (fun k=>wr.heap.size≤k) w6 (Dt.strip b y) (.slice e1 r1 t1) (.slice e2 r2 t2) (.slice e3 r3 t3)):=hr6;have HB6:Hid (Below wr.heap.size wr w6):=btr HBD0.out hb6;have HCE:Hid ((Dt.P.mk (Dt.strip b y) (.slice e1 r1 t1) (.slice e2 r2 t2) (.slice e3 r3 t3)).cells=[.int .i64 y.k,.int .i64 y.n,.string y.s,.slice e1 r1 t1,.slice e2 r2 t2,.slice e3 r3 t3]):=by show Dt.P.cells _=_;unfold Dt.P.cells;simp only[Dt.strip_k,Dt.strip_n,Dt.strip_s]
     have HOW:Hid (w6.ownsRow wc.heap.size 25 6 (.slice av ps.length cv) ps.length (Dt.flatP ps)):=Dt.own_below HI.out.1.row HB6.out;have hbs:wc.heap.size≤(w6.alloc (.cells #[.int .i64 y.k,.int .i64 y.n,.string y.s,.slice e1 r1 t1,.slice e2 r2 t2,.slice e3 r3 t3] 25)).heap.size:=by rw[World.size_alloc];have:=HB6.out.size;have:=HI.out.2.2.1.size;omega
     have o6a:=(((Below.refl _ w6).alloc (Nat.le_refl _) (.cells #[.int .i64 y.k,.int .i64 y.n,.string y.s,.slice e1 r1 t1,.slice e2 r2 t2,.slice e3 r3 t3] 25)).cell (p:=⟨w.heap.size+1+1,4,none⟩) (block_lt_of_cell o6)).trans o6;refine wpAnyH_ready (rs:=[1,9]) (by kernel_rfl) (by simp) ?_;refine AllReadyH.cons (o:=⟨_,_,_,_,_,_⟩) rfl (fun K hK=> ?_) ?_
     ·go_simp;refine hK.out _ _ ?_ (fun hHeld=> ?_)
      ·exact HS.out _ ((Keep.refl _ _).below ((btr HBD0.out hb6)))
      clear hK K
      try simp only[Act.put,Zm.a,Zm.b,Zm.c]
      refine Zm.r 9 rfl (fun K hK=> ?_);go_simp;refine hK.out _ _ ?_ (fun hHeld=> ?_)
      ·exact HS.out _ ((Keep.refl _ _).below (HB6.out.trans (((Below.refl _ w6).alloc (Nat.le_refl _) _).mono HB6.out.size)))
      clear hK K
      try simp only[Act.put,Zm.a,Zm.b,Zm.c]
      refine Zm.r 10 rfl (fun K hK=> ?_);refine step_append_lies _ (by rfl) _ _ 23 (by rfl) wc.heap.size 25 i0 (.agg #[.int .i64 0,.int .i64 0,.string ⟨#[]⟩,.slice none 0 0,.slice none 0 0,.slice none 0 0]) 6 104 Tryz.underlying23 hi hz0 hz1 hz2 rfl (by decide) (.slice av ps.length cv) ps.length (Dt.flatP ps) (by rfl) (HOW.out.alloc _) ⟨w6.heap.size,0,none⟩ 1 1 [.int .i64 y.k,.int .i64 y.n,.string y.s,.slice e1 r1 t1,.slice e2 r2 t2,.slice e3 r3 t3] (by rfl) rfl (World.news_of_block (w:=w6.alloc _) (B:=w6.heap.size) (cs:=#[.int .i64 y.k,.int .i64 y.n,.string y.s,.slice e1 r1 t1,.slice e2 r2 t2,.slice e3 r3 t3]) (t:=25) (fr:=(0,0)) (heap_alloc_new w6 _)) (by simp[Value.oneCell']) (by omega) hmx hby hbs _ rfl ?_;intro g' cap w7 hown hgrow hat hlt;obtain⟨z4,zf,hst⟩:=HI.out.step (p:=Dt.P.mk (Dt.strip b y) (.slice e1 r1 t1) (.slice e2 r2 t2) (.slice e3 r3 t3)) HO4.out hltn (by rw[HY.out]) HB6.out HR6.out ((Below.refl _ w6).alloc (Nat.le_refl _) _) (by rw[show(Dt.P.mk (Dt.strip b y) (.slice e1 r1 t1) (.slice e2 r2 t2) (.slice e3 r3 t3)).cells=[.int .i64 y.k,.int .i64 y.n,.string y.s,.slice e1 r1 t1,.slice e2 r2 t2,.slice e3 r3 t3]from HCE.out];exact hown) hgrow (hat.imp (fun e=>by rw[e];rfl) (fun e=>by rw[e];rfl));refine hK.out _ _ ?_ (fun hHeld=> ?_)
      ·exact HS.out _ (HKW.out _ HB6.out hgrow)
      clear hK K
      try simp only[Act.put,Zm.a,Zm.b,Zm.c]
      refine Zm.u 11 ?_ rfl ?_ ?_;rotate_left
      ·intro w hSw
       try dsimp only at hSw
       go_simp
       try with_reducible rfl
      simp only[Act.put,Zm.a,Zm.b,Zm.c];refine Zm.r 12 rfl (fun K hK=> ?_);go_simp;refine hK.out _ _ ?_ (fun hHeld=> ?_)
      ·exact HS.out _ ((HKW.out _ HB6.out hgrow).setCell (.inl rfl) _ _)
      clear hK K
      try simp only[Act.put,Zm.a,Zm.b,Zm.c]
      refine wpAnyH_done (by kernel_rfl) ?_ _;refine NoPanic.normal ?_;go_wp2_with fail
      go_meet;exact⟨_,_,_,hst⟩
     refine AllReadyH.cons (o:=⟨_,_,_,_,_,_⟩) rfl (fun K hK=> ?_) AllReadyH.nil;go_simp;refine hK.out _ _ ?_ (fun hHeld=> ?_)
     ·exact HS.out _ ((Keep.refl _ _).below (HB6.out.trans (((Below.refl _ w6).alloc (Nat.le_refl _) _).mono HB6.out.size)))
     clear hK K
     try simp only[Act.put,Zm.a,Zm.b,Zm.c]
     refine Zm.r 1 rfl (fun K hK=> ?_);go_simp;refine hK.out _ _ ?_ (fun hHeld=> ?_)
     ·exact HS.out _ ((Keep.refl _ _).below (HB6.out.trans (((Below.refl _ w6).alloc (Nat.le_refl _) _).mono HB6.out.size)))
     clear hK K
     try simp only[Act.put,Zm.a,Zm.b,Zm.c]
     refine Zm.r 10 rfl (fun K hK=> ?_);refine step_append_lies _ (by rfl) _ _ 23 (by rfl) wc.heap.size 25 i0 (.agg #[.int .i64 0,.int .i64 0,.string ⟨#[]⟩,.slice none 0 0,.slice none 0 0,.slice none 0 0]) 6 104 Tryz.underlying23 hi hz0 hz1 hz2 rfl (by decide) (.slice av ps.length cv) ps.length (Dt.flatP ps) (by rfl) (HOW.out.alloc _) ⟨w6.heap.size,0,none⟩ 1 1 [.int .i64 y.k,.int .i64 y.n,.string y.s,.slice e1 r1 t1,.slice e2 r2 t2,.slice e3 r3 t3] (by rfl) rfl (World.news_of_block (w:=w6.alloc _) (B:=w6.heap.size) (cs:=#[.int .i64 y.k,.int .i64 y.n,.string y.s,.slice e1 r1 t1,.slice e2 r2 t2,.slice e3 r3 t3]) (t:=25) (fr:=(0,0)) (heap_alloc_new w6 _)) (by simp[Value.oneCell']) (by omega) hmx hby hbs _ rfl ?_;intro g' cap w7 hown hgrow hat hlt;obtain⟨z4,zf,hst⟩:=HI.out.step (p:=Dt.P.mk (Dt.strip b y) (.slice e1 r1 t1) (.slice e2 r2 t2) (.slice e3 r3 t3)) HO4.out hltn (by rw[HY.out]) HB6.out HR6.out ((Below.refl _ w6).alloc (Nat.le_refl _) _) (by rw[show(Dt.P.mk (Dt.strip b y) (.slice e1 r1 t1) (.slice e2 r2 t2) (.slice e3 r3 t3)).cells=[.int .i64 y.k,.int .i64 y.n,.string y.s,.slice e1 r1 t1,.slice e2 r2 t2,.slice e3 r3 t3]from HCE.out];exact hown) hgrow (hat.imp (fun e=>by rw[e];rfl) (fun e=>by rw[e];rfl));refine hK.out _ _ ?_ (fun hHeld=> ?_)
     ·exact HS.out _ (HKW.out _ HB6.out hgrow)
     clear hK K
     try simp only[Act.put,Zm.a,Zm.b,Zm.c]
     refine Zm.u 11 ?_ rfl ?_ ?_;rotate_left
     ·intro w hSw
      try dsimp only at hSw
      go_simp
      try with_reducible rfl
     simp only[Act.put,Zm.a,Zm.b,Zm.c];refine Zm.r 12 rfl (fun K hK=> ?_);go_simp;refine hK.out _ _ ?_ (fun hHeld=> ?_)
     ·exact HS.out _ ((HKW.out _ HB6.out hgrow).setCell (.inl rfl) _ _)
     clear hK K
     try simp only[Act.put,Zm.a,Zm.b,Zm.c]
     refine wpAnyH_done (by kernel_rfl) ?_ _;refine NoPanic.normal ?_;go_wp2_with fail
     go_meet;exact⟨_,_,_,hst⟩
    case rest=>
     obtain⟨p,av',cv',hI'⟩:=hcut;have HI':=hd hI';clear hI' xc xr oc0 oc1 oc2 oc3 oc4 oc5 of;go_wp2;go_roundw
     case rel=>exact⟨ps++[p],av',cv',by simp,by simp;omega,by simpa using HI'⟩
     case measure=>simp[intOf];omega
   ·have hje:ps.length=x.l.length:=by omega
    have hgei:(x.l.length:Int)≤(x.l.length:Int):=by omega
    have HLL:Hid (Dt.Row (fun k=>wc.heap.size≤k) wr (.slice av x.l.length cv) (Dt.strips b x.l)):=by
     have h:=HI.out.1.to_row;rw[HI.out.2.1,hje,List.take_length]at h;exact h
    have HKL:=hd HI.out.2.2.1;have HOB:Hid (Dt.Box wr (w.heap.size+1+1) x (.slice a5 (Dt.mrk b x).length cq5) (.slice av x.l.length cv) (.slice none 0 0)):=by have h:=HI.out.2.2.2.1;rw[hje]at h;exact h
    have HOF:=hd HI.out.2.2.2.2;have HROT:Hid (Dt.Row (fun k=>k<w.heap.size) wr (.slice at_ x.t.length cat_) x.t):=Dt.Row.keep ((HRT.out.mono (fun _ _ h=>h)).below HBL.out) HKL.out (fun k h _ e=>by omega);have HXT:=hd (HBX.out.keep HKL.out (by omega)).2.2.2.2.2;have HO5:Hid (w.heap.size+1+1<wr.heap.size):=Nat.lt_of_lt_of_le HO4.out HKL.out.size;have xf:=(HBX.out.keep HKL.out (by omega)).2.2.2.2.1;rw[hje];clear HI hje hltn hj;obtain⟨wo,hwo⟩:∃wo,wo=wr:=⟨_,rfl⟩
    rw[←hwo]at HLL HKL HOB HOF HROT HXT HO5 xf ⊢;clear hwo;go_wp2
    go_loopw [7] (fun v wr=>∃(ps:List Dt.P) (au:Option Addr) (cu:Nat),v= .int .i64 ps.length∧ps.length≤x.t.length∧Hid (Dt.InvT b wo (w.heap.size+1+1) x (.slice a5 (Dt.mrk b x).length cq5) (.slice av x.l.length cv) x.t ps (.slice au ps.length cu) wr)) (fun v _=>x.t.length - (intOf v).toNat)
    case atStart=>exact⟨[],none,0,rfl,Nat.zero_le _,⟨Dt.Rowing.nil _ _,by simp[Dt.strips],Keep.refl _ _,HOB.out,HOF.out⟩⟩
    case round=>
     clear xf;obtain⟨ps,au,cu,rfl,hj,HI⟩:=hrel;by_cases hltn:ps.length<x.t.length
     ·have hlti:(ps.length:Int)<(x.t.length:Int):=by omega
      obtain⟨g,o,y,vb1,vb2,vb3,hag,hy,hel,hrp,hS⟩:=HI.out.el (_w:=w) HROT.out (by omega) HXT.out (by omega) hltn;obtain⟨b1,m1,p1,b2,m2,p2,b3,m3,p3,rfl,rfl,rfl⟩:=hrp.forms;have HY:=hd hy;have HC:Hid (∀u,Below wr.heap.size wr u→Calls Tryz.prog 111 #[.agg #[.int .i64 y.k,.int .i64 y.n,.string y.s,.slice b1 m1 p1,.slice b2 m2 p2,.slice b3 m3 p3],.bool b] u fun e w'=>Dt.Fresh u.heap.size w' (Dt.strip b y) e∧Below u.heap.size u w'):=fun u hu=>HT.out y (by rw[hy];exact List.getElem_mem _) _ _ _ _ u (by rw[hy];exact(Dt.wf_t HW.out).at _ hltn) (by rw[hy];exact Dt.Fines.at HF5.out _ (List.getElem_mem _)) (hrp.below hu)
      have HBD:Hid (Below wr.heap.size wr wr.drew):=(Below.refl _ wr).drew;have HS:=hd hS;obtain⟨xc,xr⟩:=id hel;obtain⟨oc0,oc1,oc2,oc3,oc4,oc5⟩:=HI.out.2.2.2.1;have of:=HI.out.2.2.2.2 5;subst hag;clear hy hel hrp hS;go_upto_block 3 with fail
      go_cut [] (fun wx=>∃p au' cu',Dt.InvT b wo (w.heap.size+1+1) x (.slice a5 (Dt.mrk b x).length cq5) (.slice av x.l.length cv) x.t (ps++[p]) (.slice au' (ps.length+1) cu') wx)
      case first=>
       go_wp2_with fail
       have hmx:ps.length+1≤maxLen:=by unfold maxLen;omega
       have hby:(ps.length+1)*104≤140737488355328:=by omega
       have HBD0:Hid (Below wr.heap.size wr wr.drew):=(Below.refl _ wr).drew;have oF:wr.drew.cell? ⟨w.heap.size+1+1,5,none⟩=some (.slice au ps.length cu):=HI.out.2.2.2.1.2.2.2.2.2;have hOl:w.heap.size+1+1<wr.drew.heap.size:=block_lt_of_cell oF;have hSd:Dt.ElS wr.drew w.heap.size 5 (.slice (some ⟨g,o,none⟩) x.t.length cat_) g (o+ps.length*6) y (.slice b1 m1 p1) (.slice b2 m2 p2) (.slice b3 m3 p3):=HS.out _ ((Keep.refl _ _).below HBD0.out);have hpj0:(0:Int)≤(ps.length:Int):=by omega
       have HKW:Hid (∀w6,Below wr.heap.size wr w6→∀ {o:Obj} {w7:World},(w6.alloc o).grownBy w7 (Value.slice au ps.length cu).ownBlock→Keep (fun k=>k=w.heap.size+1+1∨wo.heap.size≤k) wr w7):=by
        intro w6 h6 o w7 hg;have hA:=h6.trans (((Below.refl _ w6).alloc (Nat.le_refl _) o).mono h6.size);have hrow:=HI.out.1.row;exact⟨hg.os.trans hA.os,hg.tape.trans hA.tape,hg.output.trans hA.output,Nat.le_trans hA.size hg.size,fun k hk hn=>(hg.block k (by have:=hA.size;omega) (fun e=>hn (.inr (Dt.own_lt hrow k e.symm).1))).trans (hA.block k hk)⟩
       refine wp_region_noPanic ?_;refine wp_region_held_drew (S:=fun w'=>Dt.ElS w' w.heap.size 5 (.slice (some ⟨g,o,none⟩) x.t.length cat_) g (o+ps.length*6) y (.slice b1 m1 p1) (.slice b2 m2 p2) (.slice b3 m3 p3)) (by kernel_rfl) hSd (fun hHeld=> ?_);refine Zm.u 0 ?_ rfl ?_ ?_;rotate_left
       ·intro w hSw
        try dsimp only at hSw
        go_simp
        try with_reducible rfl
       simp only[Act.put,Zm.a,Zm.b,Zm.c];refine Zm.u 2 ?_ rfl ?_ ?_;rotate_left
       ·intro w hSw
        try dsimp only at hSw
        go_simp
        try with_reducible rfl
       simp only[Act.put,Zm.a,Zm.b,Zm.c];refine Zm.u 3 ?_ rfl ?_ ?_;rotate_left
       ·intro w hSw;obtain⟨g9,g0,g1,g2,g3,g4,g5⟩:=hSw;go_simp
        try with_reducible rfl
       simp only[Act.put,Zm.a,Zm.b,Zm.c];refine Zm.u 4 ?_ rfl ?_ ?_;rotate_left
       ·intro w hSw
        try dsimp only at hSw
        go_simp
        try with_reducible rfl
       simp only[Act.put,Zm.a,Zm.b,Zm.c];refine Zm.u 5 ?_ rfl ?_ ?_;rotate_left
       ·intro w hSw
        try dsimp only at hSw
        go_simp
        try with_reducible rfl
       simp only[Act.put,Zm.a,Zm.b,Zm.c];refine Zm.u 6 ?_ rfl ?_ ?_;rotate_left
       ·intro w hSw;obtain⟨g9,g0,g1,g2,g3,g4,g5⟩:=hSw;go_simp
        try with_reducible rfl
       simp only[Act.put,Zm.a,Zm.b,Zm.c];refine Zm.u 7 ?_ rfl ?_ ?_;rotate_left
       ·intro w hSw
        try dsimp only at hSw
        go_simp
        try with_reducible rfl
       simp only[Act.put,Zm.a,Zm.b,Zm.c];refine wpAnyH_ready (rs:=[1,8]) (by kernel_rfl) (by simp) ?_;refine AllReadyH.cons (o:=⟨_,_,_,_,_,_⟩) rfl (fun K hK=> ?_) ?_
       ·go_simp;refine hK.out _ _ ?_ (fun hHeld=> ?_)
        ·exact hSd
        clear hK K
        try simp only[Act.put,Zm.a,Zm.b,Zm.c]
        refine Zm.r 8 rfl (fun K hK=> ?_);go_simp;refine(HC.out _ HBD.out).mono ?_;rintro e w6 ⟨⟨um,ul,ut,rfl,hr6⟩,hb6⟩;obtain⟨e1,r1,t1,e2,r2,t2,e3,r3,t3,rfl,rfl,rfl⟩:=hr6.forms;have o6:=(hb6.cell (p:=⟨w.heap.size+1+1,5,none⟩) hOl).trans oF;rw[Dt.strip_k,Dt.strip_n,Dt.strip_s];dsimp only;refine hK.out _ _ ?_ (fun hHeld=> ?_)
        ·exact HS.out _ ((Keep.refl _ _).below ((btr HBD0.out hb6)))
        clear hK K
        try simp only[Act.put,Zm.a,Zm.b,Zm.c]
        have HR6:Hid (Dt.Rep (fun k=>wr.heap.size≤k) w6 (Dt.strip b y) (.slice e1 r1 t1) (.slice e2 r2 t2) (.slice e3 r3 t3)):=hr6;have HB6:Hid (Below wr.heap.size wr w6):=btr HBD0.out hb6;have HCE:Hid ((Dt.P.mk (Dt.strip b y) (.slice e1 r1 t1) (.slice e2 r2 t2) (.slice e3 r3 t3)).cells=[.int .i64 y.k,.int .i64 y.n,.string y.s,.slice e1 r1 t1,.slice e2 r2 t2,.slice e3 r3 t3]):=by show Dt.P.cells _=_;unfold Dt.P.cells;simp only[Dt.strip_k,Dt.strip_n,Dt.strip_s]
        have HOW:Hid (w6.ownsRow wo.heap.size 25 6 (.slice au ps.length cu) ps.length (Dt.flatP ps)):=Dt.own_below HI.out.1.row HB6.out;have hbs:wo.heap.size≤(w6.alloc (.cells #[.int .i64 y.k,.int .i64 y.n,.string y.s,.slice e1 r1 t1,.slice e2 r2 t2,.slice e3 r3 t3] 25)).heap.size:=by rw[World.size_alloc];have:=HB6.out.size;have:=HI.out.2.2.1.size;omega
        refine Zm.r 9 rfl (fun K hK=> ?_);go_simp;refine hK.out _ _ ?_ (fun hHeld=> ?_)
        ·exact HS.out _ ((Keep.refl _ _).below (HB6.out.trans (((Below.refl _ w6).alloc (Nat.le_refl _) _).mono HB6.out.size)))
        clear hK K
        try simp only[Act.put,Zm.a,Zm.b,Zm.c]
        refine Zm.r 10 rfl (fun K hK=> ?_);refine step_append_lies _ (by rfl) _ _ 23 (by rfl) wo.heap.size 25 i0 (.agg #[.int .i64 0,.int .i64 0,.string ⟨#[]⟩,.slice none 0 0,.slice none 0 0,.slice none 0 0]) 6 104 Tryz.underlying23 hi hz0 hz1 hz2 rfl (by decide) (.slice au ps.length cu) ps.length (Dt.flatP ps) (by rfl) (HOW.out.alloc _) ⟨w6.heap.size,0,none⟩ 1 1 [.int .i64 y.k,.int .i64 y.n,.string y.s,.slice e1 r1 t1,.slice e2 r2 t2,.slice e3 r3 t3] (by rfl) rfl (World.news_of_block (w:=w6.alloc _) (B:=w6.heap.size) (cs:=#[.int .i64 y.k,.int .i64 y.n,.string y.s,.slice e1 r1 t1,.slice e2 r2 t2,.slice e3 r3 t3]) (t:=25) (fr:=(0,0)) (heap_alloc_new w6 _)) (by simp[Value.oneCell']) (by omega) hmx hby hbs _ rfl ?_;intro g' cap w7 hown hgrow hat hlt;obtain⟨z4,zf,hst⟩:=HI.out.step (p:=Dt.P.mk (Dt.strip b y) (.slice e1 r1 t1) (.slice e2 r2 t2) (.slice e3 r3 t3)) HO5.out hltn (by rw[HY.out]) HB6.out HR6.out ((Below.refl _ w6).alloc (Nat.le_refl _) _) (by rw[show(Dt.P.mk (Dt.strip b y) (.slice e1 r1 t1) (.slice e2 r2 t2) (.slice e3 r3 t3)).cells=[.int .i64 y.k,.int .i64 y.n,.string y.s,.slice e1 r1 t1,.slice e2 r2 t2,.slice e3 r3 t3]from HCE.out];exact hown) hgrow (hat.imp (fun e=>by rw[e];rfl) (fun e=>by rw[e];rfl));refine hK.out _ _ ?_ (fun hHeld=> ?_)
        ·exact HS.out _ (HKW.out _ HB6.out hgrow)
        clear hK K
        try simp only[Act.put,Zm.a,Zm.b,Zm.c]
        refine Zm.u 11 ?_ rfl ?_ ?_;rotate_left
        ·intro w hSw
         try dsimp only at hSw
         go_simp
         try with_reducible rfl
        simp only[Act.put,Zm.a,Zm.b,Zm.c];refine Zm.r 12 rfl (fun K hK=> ?_);go_simp;refine hK.out _ _ ?_ (fun hHeld=> ?_)
        ·exact HS.out _ ((HKW.out _ HB6.out hgrow).setCell (.inl rfl) _ _)
        clear hK K
        try simp only[Act.put,Zm.a,Zm.b,Zm.c]
        refine wpAnyH_done (by kernel_rfl) ?_ _;refine NoPanic.normal ?_;go_wp2_with fail
        go_meet;exact⟨_,_,_,hst⟩
       refine AllReadyH.cons (o:=⟨_,_,_,_,_,_⟩) rfl (fun K hK=> ?_) AllReadyH.nil;go_simp;refine(HC.out _ HBD.out).mono ?_;rintro e w6 ⟨⟨um,ul,ut,rfl,hr6⟩,hb6⟩;obtain⟨e1,r1,t1,e2,r2,t2,e3,r3,t3,rfl,rfl,rfl⟩:=hr6.forms;have o6:=(hb6.cell (p:=⟨w.heap.size+1+1,5,none⟩) hOl).trans oF;rw[Dt.strip_k,Dt.strip_n,Dt.strip_s];dsimp only;refine hK.out _ _ ?_ (fun hHeld=> ?_)
       ·exact HS.out _ ((Keep.refl _ _).below ((btr HBD0.out hb6)))
       clear hK K
       try simp only[Act.put,Zm.a,Zm.b,Zm.c]
       have HR6:Hid (Dt.Rep (fun k=>wr.heap.size≤k) w6 (Dt.strip b y) (.slice e1 r1 t1) (.slice e2 r2 t2) (.slice e3 r3 t3)):=hr6;have HB6:Hid (Below wr.heap.size wr w6):=btr HBD0.out hb6;have HCE:Hid ((Dt.P.mk (Dt.strip b y) (.slice e1 r1 t1) (.slice e2 r2 t2) (.slice e3 r3 t3)).cells=[.int .i64 y.k,.int .i64 y.n,.string y.s,.slice e1 r1 t1,.slice e2 r2 t2,.slice e3 r3 t3]):=by show Dt.P.cells _=_;unfold Dt.P.cells;simp only[Dt.strip_k,Dt.strip_n,Dt.strip_s]
       have HOW:Hid (w6.ownsRow wo.heap.size 25 6 (.slice au ps.length cu) ps.length (Dt.flatP ps)):=Dt.own_below HI.out.1.row HB6.out;have hbs:wo.heap.size≤(w6.alloc (.cells #[.int .i64 y.k,.int .i64 y.n,.string y.s,.slice e1 r1 t1,.slice e2 r2 t2,.slice e3 r3 t3] 25)).heap.size:=by rw[World.size_alloc];have:=HB6.out.size;have:=HI.out.2.2.1.size;omega
       have o6a:=(((Below.refl _ w6).alloc (Nat.le_refl _) (.cells #[.int .i64 y.k,.int .i64 y.n,.string y.s,.slice e1 r1 t1,.slice e2 r2 t2,.slice e3 r3 t3] 25)).cell (p:=⟨w.heap.size+1+1,5,none⟩) (block_lt_of_cell o6)).trans o6;refine wpAnyH_ready (rs:=[1,9]) (by kernel_rfl) (by simp) ?_;refine AllReadyH.cons (o:=⟨_,_,_,_,_,_⟩) rfl (fun K hK=> ?_) ?_
       ·go_simp;refine hK.out _ _ ?_ (fun hHeld=> ?_)
        ·exact HS.out _ ((Keep.refl _ _).below ((btr HBD0.out hb6)))
        clear hK K
        try simp only[Act.put,Zm.a,Zm.b,Zm.c]
        refine Zm.r 9 rfl (fun K hK=> ?_);go_simp;refine hK.out _ _ ?_ (fun hHeld=> ?_)
        ·exact HS.out _ ((Keep.refl _ _).below (HB6.out.trans (((Below.refl _ w6).alloc (Nat.le_refl _) _).mono HB6.out.size)))
        clear hK K
        try simp only[Act.put,Zm.a,Zm.b,Zm.c]
        refine Zm.r 10 rfl (fun K hK=> ?_);refine step_append_lies _ (by rfl) _ _ 23 (by rfl) wo.heap.size 25 i0 (.agg #[.int .i64 0,.int .i64 0,.string ⟨#[]⟩,.slice none 0 0,.slice none 0 0,.slice none 0 0]) 6 104 Tryz.underlying23 hi hz0 hz1 hz2 rfl (by decide) (.slice au ps.length cu) ps.length (Dt.flatP ps) (by rfl) (HOW.out.alloc _) ⟨w6.heap.size,0,none⟩ 1 1 [.int .i64 y.k,.int .i64 y.n,.string y.s,.slice e1 r1 t1,.slice e2 r2 t2,.slice e3 r3 t3] (by rfl) rfl (World.news_of_block (w:=w6.alloc _) (B:=w6.heap.size) (cs:=#[.int .i64 y.k,.int .i64 y.n,.string y.s,.slice e1 r1 t1,.slice e2 r2 t2,.slice e3 r3 t3]) (t:=25) (fr:=(0,0)) (heap_alloc_new w6 _)) (by simp[Value.oneCell']) (by omega) hmx hby hbs _ rfl ?_;intro g' cap w7 hown hgrow hat hlt;obtain⟨z4,zf,hst⟩:=HI.out.step (p:=Dt.P.mk (Dt.strip b y) (.slice e1 r1 t1) (.slice e2 r2 t2) (.slice e3 r3 t3)) HO5.out hltn (by rw[HY.out]) HB6.out HR6.out ((Below.refl _ w6).alloc (Nat.le_refl _) _) (by rw[show(Dt.P.mk (Dt.strip b y) (.slice e1 r1 t1) (.slice e2 r2 t2) (.slice e3 r3 t3)).cells=[.int .i64 y.k,.int .i64 y.n,.string y.s,.slice e1 r1 t1,.slice e2 r2 t2,.slice e3 r3 t3]from HCE.out];exact hown) hgrow (hat.imp (fun e=>by rw[e];rfl) (fun e=>by rw[e];rfl));refine hK.out _ _ ?_ (fun hHeld=> ?_)
        ·exact HS.out _ (HKW.out _ HB6.out hgrow)
        clear hK K
        try simp only[Act.put,Zm.a,Zm.b,Zm.c]
        refine Zm.u 11 ?_ rfl ?_ ?_;rotate_left
        ·intro w hSw
         try dsimp only at hSw
         go_simp
         try with_reducible rfl
        simp only[Act.put,Zm.a,Zm.b,Zm.c];refine Zm.r 12 rfl (fun K hK=> ?_);go_simp;refine hK.out _ _ ?_ (fun hHeld=> ?_)
        ·exact HS.out _ ((HKW.out _ HB6.out hgrow).setCell (.inl rfl) _ _)
        clear hK K
        try simp only[Act.put,Zm.a,Zm.b,Zm.c]
        refine wpAnyH_done (by kernel_rfl) ?_ _;refine NoPanic.normal ?_;go_wp2_with fail
        go_meet;exact⟨_,_,_,hst⟩
       refine AllReadyH.cons (o:=⟨_,_,_,_,_,_⟩) rfl (fun K hK=> ?_) AllReadyH.nil;go_simp;refine hK.out _ _ ?_ (fun hHeld=> ?_)
       ·exact HS.out _ ((Keep.refl _ _).below (HB6.out.trans (((Below.refl _ w6).alloc (Nat.le_refl _) _).mono HB6.out.size)))
       clear hK K
       try simp only[Act.put,Zm.a,Zm.b,Zm.c]
       refine Zm.r 1 rfl (fun K hK=> ?_);go_simp;refine hK.out _ _ ?_ (fun hHeld=> ?_)
       ·exact HS.out _ ((Keep.refl _ _).below (HB6.out.trans (((Below.refl _ w6).alloc (Nat.le_refl _) _).mono HB6.out.size)))
       clear hK K
       try simp only[Act.put,Zm.a,Zm.b,Zm.c]
       refine Zm.r 10 rfl (fun K hK=> ?_);refine step_append_lies _ (by rfl) _ _ 23 (by rfl) wo.heap.size 25 i0 (.agg #[.int .i64 0,.int .i64 0,.string ⟨#[]⟩,.slice none 0 0,.slice none 0 0,.slice none 0 0]) 6 104 Tryz.underlying23 hi hz0 hz1 hz2 rfl (by decide) (.slice au ps.length cu) ps.length (Dt.flatP ps) (by rfl) (HOW.out.alloc _) ⟨w6.heap.size,0,none⟩ 1 1 [.int .i64 y.k,.int .i64 y.n,.string y.s,.slice e1 r1 t1,.slice e2 r2 t2,.slice e3 r3 t3] (by rfl) rfl (World.news_of_block (w:=w6.alloc _) (B:=w6.heap.size) (cs:=#[.int .i64 y.k,.int .i64 y.n,.string y.s,.slice e1 r1 t1,.slice e2 r2 t2,.slice e3 r3 t3]) (t:=25) (fr:=(0,0)) (heap_alloc_new w6 _)) (by simp[Value.oneCell']) (by omega) hmx hby hbs _ rfl ?_;intro g' cap w7 hown hgrow hat hlt;obtain⟨z4,zf,hst⟩:=HI.out.step (p:=Dt.P.mk (Dt.strip b y) (.slice e1 r1 t1) (.slice e2 r2 t2) (.slice e3 r3 t3)) HO5.out hltn (by rw[HY.out]) HB6.out HR6.out ((Below.refl _ w6).alloc (Nat.le_refl _) _) (by rw[show(Dt.P.mk (Dt.strip b y) (.slice e1 r1 t1) (.slice e2 r2 t2) (.slice e3 r3 t3)).cells=[.int .i64 y.k,.int .i64 y.n,.string y.s,.slice e1 r1 t1,.slice e2 r2 t2,.slice e3 r3 t3]from HCE.out];exact hown) hgrow (hat.imp (fun e=>by rw[e];rfl) (fun e=>by rw[e];rfl));refine hK.out _ _ ?_ (fun hHeld=> ?_)
       ·exact HS.out _ (HKW.out _ HB6.out hgrow)
       clear hK K
       try simp only[Act.put,Zm.a,Zm.b,Zm.c]
       refine Zm.u 11 ?_ rfl ?_ ?_;rotate_left
       ·intro w hSw
        try dsimp only at hSw
        go_simp
        try with_reducible rfl
       simp only[Act.put,Zm.a,Zm.b,Zm.c];refine Zm.r 12 rfl (fun K hK=> ?_);go_simp;refine hK.out _ _ ?_ (fun hHeld=> ?_)
       ·exact HS.out _ ((HKW.out _ HB6.out hgrow).setCell (.inl rfl) _ _)
       clear hK K
       try simp only[Act.put,Zm.a,Zm.b,Zm.c]
       refine wpAnyH_done (by kernel_rfl) ?_ _;refine NoPanic.normal ?_;go_wp2_with fail
       go_meet;exact⟨_,_,_,hst⟩
      case rest=>
       obtain⟨p,au',cu',hI'⟩:=hcut;have HI':=hd hI';clear hI' xc xr oc0 oc1 oc2 oc3 oc4 oc5 of;go_wp2;go_roundw
       case rel=>exact⟨ps++[p],au',cu',by simp,by simp;omega,by simpa using HI'⟩
       case measure=>simp[intOf];omega
     ·have hje:ps.length=x.t.length:=by omega
      have hgei:(x.t.length:Int)≤(x.t.length:Int):=by omega
      obtain⟨hbo,hbz,hfz,hEND⟩:=Dt.made_end HI5.out HBR.out HFR.out HBL.out HO4.out HLL.out HKL.out HI.out hje;rw[hje]at hbo hEND ⊢;have HEND:=hd hEND;obtain⟨b0,b1,b2,b3,b4,b5⟩:=hbo;obtain⟨d0,d1,d2,d3,d4,d5⟩:=hbz;have k0:=hfz 0;have k1:=hfz 1;have k2:=hfz 2;have k3:=hfz 3;have k4:=hfz 4;have k5:=hfz 5;have xf:=(HBX.out.keep (HKL.out.trans HI.out.2.2.1) (by omega)).2.2.2.2.2;clear hEND hfz HI hje hltn hj;go_wp2;refine bodyPost_ret (v:= .agg #[.int .i64 x.k,.int .i64 x.n,.string x.s,.slice a5 (Dt.mrk b x).length cq5,.slice av x.l.length cv,.slice au x.t.length cu]) ?_ rfl ?_
      ·simp[results,Tryz.results111,go_sem, *]
      ·exact HEND.out
mutual
theorem Dt.made_any(b:Bool):∀x:Dt.D,Dt.Made b x
 | .mk k n s m l t=>made_step b (.mk k n s m l t) (Dt.mades_any b l) (Dt.mades_any b t)
theorem Dt.mades_any(b:Bool):∀(l:List Dt.D) (y:Dt.D),y∈l→Dt.Made b y
 |[],_,h=>absurd h (by simp)
 |x :: r,y,h=>(List.mem_cons.1 h).elim (fun e=>by rw[e];exact Dt.made_any b x) (fun h'=>Dt.mades_any b r y h')
end
theorem rClone_any{F:Nat→Prop}(x:Dt.D)(vm vl vt:Value)(w:World)(hW:Dt.Wf x)(hR:Dt.Rep F w x vm vl vt):
  Calls Tryz.prog 88 #[.agg #[.int .i64 x.k,.int .i64 x.n,.string x.s,vm,vl,vt]] w fun e w'=>Dt.Fresh w.heap.size w' (Dt.clone x) e∧Below w.heap.size w w':=by
 obtain⟨a1,n1,q1,a2,n2,q2,a3,n3,q3,rfl,rfl,rfl⟩:=hR.forms;obtain⟨w2,hw2,hb2,hs2,hx2,hy2⟩:=Dt.boxes2 w x (.mk 0 0 ⟨#[]⟩ [] [] []) (.slice a1 n1 q1) (.slice a2 n2 q2) (.slice a3 n3 q3) (.slice none 0 0) (.slice none 0 0) (.slice none 0 0);have hck:=rCheck_any x _ _ _ w2 hW (hR.below hb2);have HR2:=hd (hR.below hb2);have HS2:=hd hs2;have HB2:=hd hb2;have HX:=hd hx2;have HY:=hd hy2;have HW:=hd hW;have HFZ:Hid (∀j,w2.frozen? ⟨w.heap.size+1,j,none⟩=false):=by
  intro j;rw[←hw2];have:=Dt.frz_new (w.alloc (.cells #[.int .i64 x.k,.int .i64 x.n,.string x.s,.slice a1 n1 q1,.slice a2 n2 q2,.slice a3 n3 q3] 25)) #[.int .i64 0,.int .i64 0,.string ⟨#[]⟩,.slice none 0 0,.slice none 0 0,.slice none 0 0] 25 j;rw[World.size_alloc]at this;exact this
 obtain⟨b0,b1,b2,b3,b4,b5⟩:=hx2;have hw2':(w.alloc (.cells #[.int .i64 x.k,.int .i64 x.n,.string x.s,.slice a1 n1 q1,.slice a2 n2 q2,.slice a3 n3 q3] 25)).alloc (.cells #[.int .i64 0,.int .i64 0,.string ⟨#[]⟩,.slice none 0 0,.slice none 0 0,.slice none 0 0] 25)=w2:=hw2;clear hR hW hs2 hb2 hy2 hw2;by_cases h0:Dt.check x=0
 ·have HC:Hid (Dt.clone x=x):=by show _=_;unfold Dt.clone;rw[if_pos h0]
  have HF:=hd (Dt.fine_of_check h0);rw[h0]at hck;rw[HC.out];clear h0;go_enter Tryz.func88,Tryz.ntmps88;go_wp2_with fail
  refine hck.mono ?_;rintro e w3 ⟨rfl,hb3⟩;obtain⟨c0,c1,c2,c3,c4,c5⟩:=HX.out.below hb3;have hown:=Dt.made_any true x F (.slice a1 n1 q1) (.slice a2 n2 q2) (.slice a3 n3 q3) w3 HW.out HF.out (HR2.out.below hb3);rw[Dt.strip_true]at hown;have HB3:=hd hb3;clear hck hw2' hb3 b0 b1 b2 b3 b4 b5;go_wp2_with fail
  refine hown.mono ?_;rintro e w4 ⟨⟨um,ul,ut,rfl,hr4⟩,hb4⟩;obtain⟨b1,m1,p1,b2,m2,p2,b3,m3,p3,rfl,rfl,rfl⟩:=hr4.forms;have hb24:Below w2.heap.size w2 w4:=btr HB3.out hb4;obtain⟨d0,d1,d2,d3,d4,d5⟩:=HY.out.below hb24;have hl:w.heap.size+1<w2.heap.size:=by have:=HS2.out;omega
  have hf:∀j,w4.frozen? ⟨w.heap.size+1,j,none⟩=false:=fun j=>(hb24.frozen (p:=⟨w.heap.size+1,j,none⟩) hl).trans (HFZ.out j)
  have k0:=hf 0;have k1:=hf 1;have k2:=hf 2;have k3:=hf 3;have k4:=hf 4;have k5:=hf 5;have HE:Hid (Dt.Fresh w.heap.size (Dt.six6 w4 (w.heap.size+1) x (.slice b1 m1 p1) (.slice b2 m2 p2) (.slice b3 m3 p3)) x (.returned (.agg #[.int .i64 x.k,.int .i64 x.n,.string x.s,.slice b1 m1 p1,.slice b2 m2 p2,.slice b3 m3 p3]))∧Below w.heap.size w (Dt.six6 w4 (w.heap.size+1) x (.slice b1 m1 p1) (.slice b2 m2 p2) (.slice b3 m3 p3))):=by
   have hk:=Dt.six6_keep w4 (w.heap.size+1) x (.slice b1 m1 p1) (.slice b2 m2 p2) (.slice b3 m3 p3);have hs3:=HB3.out.size;have hs2:=HS2.out;have hr4':Dt.Rep (fun k=>w.heap.size+1<k) w4 x (.slice b1 m1 p1) (.slice b2 m2 p2) (.slice b3 m3 p3):=Dt.Rep.mono (fun b hb _=>by omega) x hr4;refine⟨⟨_,_,_,rfl,Dt.Rep.mono (fun b hb _=>by omega) x (Dt.Rep.keep hk (fun b hb _ e=>by omega) x hr4')⟩,((btr HB2.out hb24)).trans (hk.to_below (fun k e=>by omega) (by have:=hb24.size;omega))⟩
  clear hown hr4 hb4 hb24 hf c0 c1 c2 c3 c4 c5;go_wp2;refine bodyPost_ret (v:= .agg #[.int .i64 x.k,.int .i64 x.n,.string x.s,.slice b1 m1 p1,.slice b2 m2 p2,.slice b3 m3 p3]) ?_ rfl ?_
  ·simp[results,Tryz.results88,go_sem, *]
  ·exact HE.out
 ·have HC:Hid (Dt.clone x= .mk 0 0 ⟨#[]⟩ [] [] []):=by show _=_;unfold Dt.clone;rw[if_neg h0]
  have h1:(Dt.check x !=0)=true:=by simpa using h0
  have h2:(Dt.check x==0)=false:=by simpa using h0
  rw[HC.out];clear h0;go_enter Tryz.func88,Tryz.ntmps88;go_wp2_with fail
  refine hck.mono ?_;rintro e w3 ⟨rfl,hb3⟩;obtain⟨d0,d1,d2,d3,d4,d5⟩:=HY.out.below hb3;have hl:w.heap.size+1<w2.heap.size:=by have:=HS2.out;omega
  have hf:∀j,w3.frozen? ⟨w.heap.size+1,j,none⟩=false:=fun j=>(hb3.frozen (p:=⟨w.heap.size+1,j,none⟩) hl).trans (HFZ.out j)
  have k0:=hf 0;have k1:=hf 1;have k2:=hf 2;have k3:=hf 3;have k4:=hf 4;have k5:=hf 5;have HE:Hid (∀u,Keep (fun k=>k=w.heap.size+1) w3 u→Below w.heap.size w u):=by
   intro u hu;exact((btr HB2.out hb3)).trans (hu.to_below (fun k e=>by omega) (by have:=hb3.size;omega))
  clear hck hw2' hb3 hf b0 b1 b2 b3 b4 b5;simp only[Dt.D.k,Dt.D.n,Dt.D.s]at d0 d1 d2;go_wp2;refine bodyPost_ret (v:= .agg #[.int .i64 0,.int .i64 0,.string ⟨#[]⟩,.slice none 0 0,.slice none 0 0,.slice none 0 0]) ?_ rfl ?_
  ·simp[results,Tryz.results88,go_sem, *]
  ·exact⟨⟨_,_,_,rfl,Dt.rep_zero _ _⟩,HE.out _ (Dt.six6_keep w3 (w.heap.size+1) (.mk 0 0 ⟨#[]⟩ [] [] []) (.slice none 0 0) (.slice none 0 0) (.slice none 0 0))⟩
end Go.Proofs.YtfjmlfbohenmfaaGreat
namespace Go.Proofs.YtfjmlfbohenmfaaGreat
open Go.RowKit
attribute [local go_sem] Oper.semAt_some
theorem rOf_any{F:Nat→Prop}(f:Nat)(d:Dt.D)(vm vl vt:Value)(w:World)(hW:Dt.Wf d)(hR:Dt.Rep F w d vm vl vt)(hck:Dt.check d=0)(hFi:Dt.Fine d)(hg:Co.goodF f d=true)(hWc:Co.Wf (Co.asC d))(hall:Co.all (Co.asC d)≠[]):
  Calls Tryz.prog 64 #[.agg #[.int .i64 d.k,.int .i64 d.n,.string d.s,vm,vl,vt]] w fun e w'=>∃um ul ut up uk,e= .returned (.tuple #[Co.V (Co.asC d) um ul ut up uk,.int .i64 0])∧Co.Rep (fun k=>w.heap.size≤k) w' (Co.asC d) um ul ut up uk∧Below w.heap.size w w':=by
 obtain⟨a1,n1,q1,a2,n2,q2,a3,n3,q3,rfl,rfl,rfl⟩:=hR.forms;obtain⟨w1,hw1⟩:∃w1,w.alloc (.cells #[.int .i64 d.k,.int .i64 d.n,.string d.s,.slice a1 n1 q1,.slice a2 n2 q2,.slice a3 n3 q3] 25)=w1:=⟨_,rfl⟩
 obtain⟨w2,hw2⟩:∃w2,w1.alloc (.cells #[.int .i64 0,.int .i64 0,.string ⟨#[]⟩,.int .i64 0,.int .i64 0,.string ⟨#[]⟩,.slice none 0 0,.slice none 0 0,.slice none 0 0,.slice none 0 0,.slice none 0 0] 28)=w2:=⟨_,rfl⟩
 obtain⟨hb1,hs1⟩:=new_below hw1;obtain⟨hb2,hs2⟩:=new_below hw2;have hb12:Below w.heap.size w w2:=btr hb1 hb2;obtain⟨R0,hR0⟩:∃R0,w1.heap.size=R0:=⟨_,rfl⟩
 have Hd:Hid (Hp w2 w.heap.size _ _):=(Hp.new hw1).below hb2;have hr2:=Hp.new hw2;rw[hR0]at hr2 hs1 hs2;have Hr:=hd hr2;have HR0:Hid (R0=w.heap.size+1∧w2.heap.size=R0+1):=⟨hs1,hs2⟩
 have HB2:=hd hb12;have hrc:=rCheck_any d _ _ _ w2 hW (hR.below hb12);rw[hck]at hrc;have HR:=hd (hR.below hb12);have HW:=hd hW;have HFI:=hd hFi;have HGD:=hd hg;have HWC:=hd hWc;have HAL:=hd hall;have HCK:=hd hck;obtain⟨y0,y1,y2,y3,y4,y5⟩:=Hd.out.c6;clear hb1 hb2 hs1 hs2 hb12 hr2 hR hW hFi hg hWc hall hck;go_enter Tryz.func64,Tryz.ntmps64;go_wp2_with fail
 refine hrc.mono ?_;rintro e w3 ⟨rfl,hb3⟩;have HD3:Hid (Hp w3 w.heap.size _ _):=Hd.out.below hb3;have HB3:Hid (Below w.heap.size w w3):=btr HB2.out hb3;have HR3:=hd (Hr.out.below hb3);have HZ3:=hd hb3.size;have hcl:=rClone_any d _ _ _ w3 HW.out (HR.out.below hb3);rw[show Dt.clone d=d from if_pos HCK.out]at hcl;clear y0 y1 y2 y3 y4 y5;obtain⟨y0,y1,y2,y3,y4,y5⟩:=HD3.out.c6;clear hrc hb3 hw1 hw2;go_wp2_with fail
 refine hcl.mono ?_;rintro e w4 ⟨⟨um,ul,ut,rfl,hr4⟩,hb4⟩;obtain⟨e1,f1,g1,e2,f2,g2,e3,f3,g3,rfl,rfl,rfl⟩:=hr4.forms;have HB4:Hid (Below w.heap.size w w4):=btr HB3.out hb4;have HR4:=hd (HR3.out.below hb4);have HZ4:=hd hb4.size;have has:=coRAs_any f d HGD.out (fun k=>w3.heap.size≤k) _ _ _ w4 HFI.out hr4;clear y0 y1 y2 y3 y4 y5;clear hcl hr4 hb4;go_wp2_with fail
 refine has.mono ?_;rintro e w5 ⟨um,ul,ut,up,uk,rfl,hr5,hb5⟩;obtain⟨h1,k1,s1,h2,k2,s2,h3,k3,s3,h4,k4,s4,h5,k5,s5,rfl,rfl,rfl,rfl,rfl⟩:=hr5.forms5;have HB5:Hid (Below w.heap.size w w5):=btr HB4.out hb5;have HR5:=hd (HR4.out.below hb5);obtain⟨c,hc⟩:∃c,Co.asC d=c:=⟨_,rfl⟩
 rw[hc]at hr5 HWC HAL ⊢;unfold Co.V;obtain⟨w6,hw6⟩:∃w6,w5.alloc (.cells #[.int .i64 c.k,.int .i64 c.n,.string c.s,.int .i64 c.d.k,.int .i64 c.d.n,.string c.d.s,.slice h1 k1 s1,.slice h2 k2 s2,.slice h3 k3 s3,.slice h4 k4 s4,.slice h5 k5 s5] 28)=w6:=⟨_,rfl⟩
 obtain⟨hb6,hs6⟩:=new_below hw6;have HC6:=hd (Hp.new hw6);have HB6:Hid (Below w.heap.size w w6):=btr HB5.out hb6;have HR6:=hd (HR5.out.below hb6);have HRC:Hid (Co.Rep (fun k=>w2.heap.size≤k) w6 c (.slice h1 k1 s1) (.slice h2 k2 s2) (.slice h3 k3 s3) (.slice h4 k4 s4) (.slice h5 k5 s5)):=Co.Rep.mono (fun b hb _=>by have h1:=HZ3.out;have h2:=HZ4.out;rcases hb with hb|hb <;> omega) c (hr5.below hb6);have hal:=rAll07_any c _ _ _ _ _ w6 HWC.out HRC.out;unfold Co.V at hal;obtain⟨c0,c1,c2,c3,c4,c5,c6,c7,c8,c9,c10⟩:=HC6.out.c11;have HS5:=hd hs6;clear has hr5 hb5 hb6 hs6;go_wp2_with fail
 refine hal.mono ?_;rintro e w7 ⟨v,ps,rfl,hown,hmap,-,-,hb7⟩;have hps:ps≠[]:=fun e=>HAL.out (by rw[←hmap,e];rfl)
 obtain⟨vg,vc,rfl⟩:=Co.nil_none hown hps;have hn:=fun W=>Lib.run_eql_slice_nil (P:=Tryz.prog) W 26 28 (some ⟨vg,0,none⟩) ps.length vc 0 0 Tryz.underlying26
 have HC7:=hd (HC6.out.below hb7);have HR7:=hd (HR6.out.below hb7);have HB7:Hid (Below w.heap.size w w7):=btr HB6.out hb7;have k11:=Co.set11_keep w7 R0 (.int .i64 c.k) (.int .i64 c.n) (.string c.s) (.int .i64 c.d.k) (.int .i64 c.d.n) (.string c.d.s) (.slice h1 k1 s1) (.slice h2 k2 s2) (.slice h3 k3 s3) (.slice h4 k4 s4) (.slice h5 k5 s5);have hr0:=HR0.out;have HF:Hid (Co.Rep (fun k=>w.heap.size≤k) (Co.set11 w7 R0 (.int .i64 c.k) (.int .i64 c.n) (.string c.s) (.int .i64 c.d.k) (.int .i64 c.d.n) (.string c.d.s) (.slice h1 k1 s1) (.slice h2 k2 s2) (.slice h3 k3 s3) (.slice h4 k4 s4) (.slice h5 k5 s5)) c (.slice h1 k1 s1) (.slice h2 k2 s2) (.slice h3 k3 s3) (.slice h4 k4 s4) (.slice h5 k5 s5)∧Below w.heap.size w (Co.set11 w7 R0 (.int .i64 c.k) (.int .i64 c.n) (.string c.s) (.int .i64 c.d.k) (.int .i64 c.d.n) (.string c.d.s) (.slice h1 k1 s1) (.slice h2 k2 s2) (.slice h3 k3 s3) (.slice h4 k4 s4) (.slice h5 k5 s5))):=
  ⟨Co.Rep.mono (fun b hb _=>by omega) c (Co.Rep.keep k11 (fun b hb _ e=>by omega) c (HRC.out.below hb7)),HB7.out.trans (k11.to_below (fun k e=>by omega) HB7.out.size)⟩
 clear c0 c1 c2 c3 c4 c5 c6 c7 c8 c9 c10;clear hal hown hmap hb7 hps k11 hr0 hw6;obtain⟨c0,c1,c2,c3,c4,c5,c6,c7,c8,c9,c10⟩:=HC7.out.c11;obtain⟨rr0,rr1,rr2,rr3,rr4,rr5,rr6,rr7,rr8,rr9,rr10⟩:=HR7.out.c11;have rrf0:=HR7.out.frz 0;have rrf1:=HR7.out.frz 1;have rrf2:=HR7.out.frz 2;have rrf3:=HR7.out.frz 3;have rrf4:=HR7.out.frz 4;have rrf5:=HR7.out.frz 5;have rrf6:=HR7.out.frz 6;have rrf7:=HR7.out.frz 7;have rrf8:=HR7.out.frz 8;have rrf9:=HR7.out.frz 9;have rrf10:=HR7.out.frz 10;go_wp2;refine bodyPost_ret (v:= .tuple #[.agg #[.int .i64 c.k,.int .i64 c.n,.string c.s,.int .i64 c.d.k,.int .i64 c.d.n,.string c.d.s,.slice h1 k1 s1,.slice h2 k2 s2,.slice h3 k3 s3,.slice h4 k4 s4,.slice h5 k5 s5],.int .i64 0]) (by simp[results,Tryz.results64,go_sem, *]) rfl ?_;rw[hc];exact⟨_,_,_,_,_,rfl,HF.out.1,HF.out.2⟩
namespace Co
open Dt (D)
theorem dwfs_app:∀ {a b:List D},Dt.Wfs a→Dt.Wfs b→Dt.Wfs (a++b)
 |[],_,_,h=>h
 |d :: r,b,h1,h2=>by
  rw[Dt.Wfs]at h1;rw[List.cons_append,Dt.Wfs];exact⟨h1.1,dwfs_app h1.2 h2⟩
theorem wf_sym{s:ByteArray}(h:s.size≤140737488355328):Dt.Wf (symD s):=by
 unfold symD;simp only[Dt.Wf,Dt.Wfs];exact⟨by decide,h,by decide,by decide,by decide,trivial,trivial⟩
theorem wf_fix{n:Int}(h: -9223372036854775808≤n∧n≤9223372036854775807):Dt.Wf (fixD n):=by
 unfold fixD;simp only[Dt.Wf,Dt.Wfs];exact⟨h,by decide,by decide,by decide,by decide,trivial,trivial⟩
theorem wf_lst{l:List D}(h1:l.length≤140737488355328)(h2:Dt.Wfs l):Dt.Wf (lstD l):=by
 unfold lstD;simp only[Dt.Wf,Dt.Wfs];exact⟨by decide,by decide,by decide,h1,by decide,h2,trivial⟩
theorem wfs_fix:∀ {p:List Int},(∀x∈p,-9223372036854775808≤x∧x≤9223372036854775807)→Dt.Wfs (p.map fixD)
 |[],_=>by rw[List.map_nil,Dt.Wfs];trivial
 |x :: r,h=>by
  rw[List.map_cons,Dt.Wfs];exact⟨wf_fix (h x (List.mem_cons_self ..)),wfs_fix (fun y hy=>h y (List.mem_cons_of_mem _ hy))⟩
theorem word_size(k:Int):(⟨(fm k).1.toArray⟩:ByteArray).size≤6:=by
 by_cases h:1≤k∧k≤10
 ·obtain rfl|rfl|rfl|rfl|rfl|rfl|rfl|rfl|rfl|rfl:k=1∨k=2∨k=3∨k=4∨k=5∨k=6∨k=7∨k=8∨k=9∨k=10:=by omega
  all_goals decide
 ·unfold fm;rw[if_neg h]
  decide
theorem wordD_size(c:C):(wordD c).size≤7:=by
 unfold wordD;have:=word_size c.k;split
 ·rename_i h;rw[h.1]
  decide
 ·omega
theorem wf_body{c:C}(hW:Wf c):Dt.Wfs (bodyD c)∧(bodyD c).length≤1:=by
 obtain⟨h1,h2,h3,h4,h5,-,-⟩:=wf_parts hW;unfold bodyD;have one:∀d:D,Dt.Wf d→Dt.Wfs [d]∧[d].length≤1:=fun d h=>⟨by rw[Dt.Wfs,Dt.Wfs];exact⟨h,trivial⟩,Nat.le_refl _⟩
 split
 ·exact one _ h3
 ·split
  ·exact one _ (wf_fix h1)
  ·split
   ·exact one _ (wf_sym h2)
   ·split
    ·exact one _ (wf_lst (by rw[List.length_map];exact h4) (wfs_fix h5))
    ·exact⟨by rw[Dt.Wfs];trivial,Nat.zero_le _⟩
mutual
theorem tell_wf:∀c:C,Wf c→Snd c→Dt.Wf (tellD c)
 | .mk k n s d p l,hW,hS=>by
  have h8:=(snd_parts hS).2.1;obtain⟨g1,g2⟩:=tells_wf l (wf_parts hW).2.2.2.2.2.2 (snd_parts hS).2.2;obtain⟨h1,h2⟩:=wf_body hW;rw[tellD];refine wf_lst ?_ ?_
  ·rw[List.length_append,List.length_cons,g2];have:l.length≤8192:=h8;omega
  ·refine dwfs_app ?_ g1;rw[Dt.Wfs];exact⟨wf_sym (Nat.le_trans (wordD_size _) (by decide)),h1⟩
theorem tells_wf:∀l:List C,Wfs l→Snds l→Dt.Wfs (tellDs l)∧(tellDs l).length=l.length
 |[],_,_=>by rw[tellDs,Dt.Wfs];exact⟨trivial,rfl⟩
 |c :: r,hW,hS=>by
  rw[Wfs]at hW;rw[Snds]at hS;obtain⟨g1,g2⟩:=tells_wf r hW.2 hS.2;rw[tellDs,Dt.Wfs,List.length_cons,List.length_cons,g2];exact⟨⟨tell_wf c hW.1 hS.1,g1⟩,rfl⟩
end
def zeroD:D:= .mk 0 0 ⟨#[]⟩ [] [] []
def datumC(c:C):D×Int:=if outE c≠0 then(zeroD,outE c)else if Dt.check (tellD c)≠0 then(zeroD,Dt.check (tellD c))else(tellD c,0)
end Co
theorem coDatum_any{F:Nat→Prop}(c:Co.C)(vm vl vt vp vk:Value)(w:World)(hW:Co.Wf c)(hR:Co.Rep F w c vm vl vt vp vk):
  Calls Tryz.prog 29 #[Co.V c vm vl vt vp vk] w fun e w'=>∃um ul ut,e= .returned (.tuple #[.agg #[.int .i64 (Co.datumC c).1.k,.int .i64 (Co.datumC c).1.n,.string (Co.datumC c).1.s,um,ul,ut],.int .i64 (Co.datumC c).2])∧Dt.Rep (fun k=>w.heap.size≤k) w' (Co.datumC c).1 um ul ut∧Below w.heap.size w w':=by
 unfold Co.V;obtain⟨b1,n1,q1,b2,n2,q2,b3,n3,q3,b4,n4,q4,b5,n5,q5,rfl,rfl,rfl,rfl,rfl⟩:=hR.forms5;obtain⟨w1,hw1⟩:∃w1,w.alloc (.cells #[.int .i64 c.k,.int .i64 c.n,.string c.s,.int .i64 c.d.k,.int .i64 c.d.n,.string c.d.s,.slice b1 n1 q1,.slice b2 n2 q2,.slice b3 n3 q3,.slice b4 n4 q4,.slice b5 n5 q5] 28)=w1:=⟨_,rfl⟩
 obtain⟨w2,hw2⟩:∃w2,w1.alloc (.cells #[.int .i64 0,.int .i64 0,.string ⟨#[]⟩,.slice none 0 0,.slice none 0 0,.slice none 0 0] 25)=w2:=⟨_,rfl⟩
 obtain⟨hb1,hs1⟩:=new_below hw1;obtain⟨hb2,hs2⟩:=new_below hw2;have Hc:Hid (Hp w2 w.heap.size _ _):=(Hp.new hw1).below hb2;have hr2:=Hp.new hw2;obtain⟨R0,hR0⟩:∃R0,w1.heap.size=R0:=⟨_,rfl⟩
 rw[hR0]at hr2 hs1 hs2;have Hr:=hd hr2;have hb12:=btr hb1 hb2;have HR0:Hid (R0=w.heap.size+1∧w2.heap.size=R0+1):=⟨hs1,hs2⟩
 have ho:=outC_any c _ _ _ _ _ w2 hW (hR.below hb12);unfold Co.V at ho;obtain⟨E,hE⟩:∃E,Co.outE c=E:=⟨_,rfl⟩
 rw[hE]at ho;have HE:=hd hE;have HB12:=hd hb12;have HRR:=hd (hR.below hb12);have HW:=hd hW;obtain⟨c0,c1,c2,c3,c4,c5,c6,c7,c8,c9,c10⟩:=Hc.out.c11;clear hb1 hb2 hs1 hs2 hb12 hr2 hE hR hW;have HZERO:Hid (∀(wx:World) (er:Int),Below w2.heap.size w2 wx→Co.datumC c=(Co.zeroD,er)→∃um ul ut,(Ending.returned (.tuple #[.agg #[.int .i64 0,.int .i64 0,.string ⟨#[]⟩,.slice none 0 0,.slice none 0 0,.slice none 0 0],.int .i64 er]))= .returned (.tuple #[.agg #[.int .i64 (Co.datumC c).1.k,.int .i64 (Co.datumC c).1.n,.string (Co.datumC c).1.s,um,ul,ut],.int .i64 (Co.datumC c).2])∧Dt.Rep (fun k=>w.heap.size≤k) (set6 wx R0 (.int .i64 0) (.int .i64 0) (.string ⟨#[]⟩) (.slice none 0 0) (.slice none 0 0) (.slice none 0 0)) (Co.datumC c).1 um ul ut∧Below w.heap.size w (set6 wx R0 (.int .i64 0) (.int .i64 0) (.string ⟨#[]⟩) (.slice none 0 0) (.slice none 0 0) (.slice none 0 0))):=fun wx er hb e=>by
  rw[e];have k3:=set6_keep wx R0 (.int .i64 0) (.int .i64 0) (.string ⟨#[]⟩) (.slice none 0 0) (.slice none 0 0) (.slice none 0 0);exact⟨_,_,_,rfl,Co.rep_nil _ _ _ _ _,((btr HB12.out hb)).trans (k3.to_below (fun k e=>by have:=HR0.out;omega) (by have:=HB12.out.size;have:=hb.size;omega))⟩
 go_enter Tryz.func29,Tryz.ntmps29;go_wp2_with fail
 refine ho.mono ?_;rintro e w3 ⟨vf,rfl,-,hb3⟩;have HB3:=hd hb3;clear c0 c1 c2 c3 c4 c5 c6 c7 c8 c9 c10;clear ho hb3 hw1 hw2;by_cases hz:E=0
 case neg=>
  have hzb:(E !=0)=true:=by simpa using hz
  have HF:=hd (HZERO.out w3 E HB3.out (by unfold Co.datumC;rw[HE.out,if_pos hz]));have Hr3:=hd (Hr.out.below HB3.out);obtain⟨z0,z1,z2,z3,z4,z5⟩:=Hr3.out.c6;have zf0:=Hr3.out.frz 0;have zf1:=Hr3.out.frz 1;have zf2:=Hr3.out.frz 2;have zf3:=Hr3.out.frz 3;have zf4:=Hr3.out.frz 4;have zf5:=Hr3.out.frz 5;clear hz HZERO;go_wp2;refine bodyPost_ret (v:= .tuple #[.agg #[.int .i64 0,.int .i64 0,.string ⟨#[]⟩,.slice none 0 0,.slice none 0 0,.slice none 0 0],.int .i64 E]) (by simp[results,Tryz.results29,go_sem, *]) rfl ?_;exact HF.out
 have hzb:(E !=0)=false:=by simpa using hz
 have HS:Hid (Co.Snd c):=(Co.all_ok (HE.out.trans hz)).2.2.2.2;have HWD:Hid (Dt.Wf (Co.tellD c)):=Co.tell_wf c HW.out HS.out;have hte:=coTell_any c F _ _ _ _ _ w3 HW.out HS.out (HRR.out.below HB3.out);unfold Co.V at hte;have Hc3:Hid (Hp w3 w.heap.size _ _):=Hc.out.below HB3.out;obtain⟨X,hX⟩:∃X,Co.tellD c=X:=⟨_,rfl⟩
 rw[hX]at hte HWD;have HX:=hd hX;clear hX;obtain⟨c0,c1,c2,c3,c4,c5,c6,c7,c8,c9,c10⟩:=Hc3.out.c11;go_wp2_with fail
 refine hte.mono ?_;rintro e w4 ⟨xm,xl,xt,rfl,hrx,hb4⟩;obtain⟨g1,m1,p1,g2,m2,p2,g3,m3,p3,rfl,rfl,rfl⟩:=hrx.forms;clear c0 c1 c2 c3 c4 c5 c6 c7 c8 c9 c10;have hW5:w4.alloc (.cells #[.int .i64 X.k,.int .i64 X.n,.string X.s,.slice g1 m1 p1,.slice g2 m2 p2,.slice g3 m3 p3] 25)=w4.alloc (.cells #[.int .i64 X.k,.int .i64 X.n,.string X.s,.slice g1 m1 p1,.slice g2 m2 p2,.slice g3 m3 p3] 25):=rfl;obtain⟨hb5,hs5⟩:=new_below hW5;have HD5:Hid (Hp (w4.alloc (.cells #[.int .i64 X.k,.int .i64 X.n,.string X.s,.slice g1 m1 p1,.slice g2 m2 p2,.slice g3 m3 p3] 25)) w4.heap.size _ _):=Hp.new hW5;have hck:=dCheck_any X _ _ _ _ HWD.out (hrx.below hb5);have HB5:Hid (Below w2.heap.size w2 (w4.alloc (.cells #[.int .i64 X.k,.int .i64 X.n,.string X.s,.slice g1 m1 p1,.slice g2 m2 p2,.slice g3 m3 p3] 25))):=by
  have h1:=HB3.out.size;have h2:=hb4.size;exact(HB3.out.trans (hb4.mono h1)).trans (hb5.mono (by omega))
 have HRX:=hd (hrx.below hb5);obtain⟨D,hD⟩:∃D,Dt.check X=D:=⟨_,rfl⟩
 rw[hD]at hck;have HDD:=hd hD;obtain⟨d0,d1,d2,d3,d4,d5⟩:=HD5.out.c6;clear hte hrx hb4 hb5 hs5 hW5 hD;go_wp2_with fail
 refine hck.mono ?_;rintro e w6 ⟨rfl,hb6⟩;clear d0 d1 d2 d3 d4 d5;have HB6:Hid (Below w2.heap.size w2 w6):=btr HB5.out hb6;have HD6:Hid (Hp w6 w4.heap.size _ _):=HD5.out.below hb6;have HRX6:=hd (HRX.out.below hb6);clear hck hb6;by_cases hy:D=0
 case neg=>
  have hyb:(D !=0)=true:=by simpa using hy
  have HF:=hd (HZERO.out w6 D HB6.out (by unfold Co.datumC;rw[HE.out,if_neg (by rw[hz];simp),HX.out,HDD.out,if_pos hy]));have Hr6:=hd (Hr.out.below HB6.out);obtain⟨z0,z1,z2,z3,z4,z5⟩:=Hr6.out.c6;have zf0:=Hr6.out.frz 0;have zf1:=Hr6.out.frz 1;have zf2:=Hr6.out.frz 2;have zf3:=Hr6.out.frz 3;have zf4:=Hr6.out.frz 4;have zf5:=Hr6.out.frz 5;clear hz hy HZERO;go_wp2;refine bodyPost_ret (v:= .tuple #[.agg #[.int .i64 0,.int .i64 0,.string ⟨#[]⟩,.slice none 0 0,.slice none 0 0,.slice none 0 0],.int .i64 D]) (by simp[results,Tryz.results29,go_sem, *]) rfl ?_;exact HF.out
 have hyb:(D !=0)=false:=by simpa using hy
 have hcl:=dClone_any X _ _ _ w6 HWD.out HRX6.out;rw[show Dt.clone X=X from if_pos (HDD.out.trans hy)]at hcl;have HM:Hid (Co.datumC c=(X,0)):=hd <| by unfold Co.datumC;rw[HE.out,if_neg (by rw[hz];simp),HX.out,HDD.out,if_neg (by rw[hy];simp)]
 obtain⟨d0,d1,d2,d3,d4,d5⟩:=HD6.out.c6;clear hz hy HZERO;go_wp2_with fail
 refine hcl.mono ?_;rintro e w7 ⟨⟨ym,yl,yt,rfl,hry⟩,hb7⟩;obtain⟨i1,j1,l1,i2,j2,l2,i3,j3,l3,rfl,rfl,rfl⟩:=hry.forms;clear d0 d1 d2 d3 d4 d5;have HB7:Hid (Below w2.heap.size w2 w7):=btr HB6.out hb7;have k3:=set6_keep w7 R0 (.int .i64 X.k) (.int .i64 X.n) (.string X.s) (.slice i1 j1 l1) (.slice i2 j2 l2) (.slice i3 j3 l3);have HF:Hid (Dt.Rep (fun k=>w.heap.size≤k) (set6 w7 R0 (.int .i64 X.k) (.int .i64 X.n) (.string X.s) (.slice i1 j1 l1) (.slice i2 j2 l2) (.slice i3 j3 l3)) X (.slice i1 j1 l1) (.slice i2 j2 l2) (.slice i3 j3 l3)∧Below w.heap.size w (set6 w7 R0 (.int .i64 X.k) (.int .i64 X.n) (.string X.s) (.slice i1 j1 l1) (.slice i2 j2 l2) (.slice i3 j3 l3))):=by
  have h0:=HR0.out;have h6:=HB6.out.size;have h7:=hb7.size;have h1:=HB12.out.size;refine⟨Dt.Rep.mono (fun b hb _=>by omega) X (Dt.Rep.keep k3 (fun b hb _ e=>by omega) X hry),(HB12.out.trans (HB7.out.mono h1)).trans (k3.to_below (fun k e=>by omega) (by omega))⟩
 have Hr7:=hd (Hr.out.below HB7.out);obtain⟨z0,z1,z2,z3,z4,z5⟩:=Hr7.out.c6;have zf0:=Hr7.out.frz 0;have zf1:=Hr7.out.frz 1;have zf2:=Hr7.out.frz 2;have zf3:=Hr7.out.frz 3;have zf4:=Hr7.out.frz 4;have zf5:=Hr7.out.frz 5;clear hcl hry hb7 k3;go_wp2;refine bodyPost_ret (v:= .tuple #[.agg #[.int .i64 X.k,.int .i64 X.n,.string X.s,.slice i1 j1 l1,.slice i2 j2 l2,.slice i3 j3 l3],.int .i64 0]) (by simp[results,Tryz.results29,go_sem, *]) rfl ?_;rw[HM.out];exact⟨_,_,_,rfl,HF.out.1,HF.out.2⟩
end Go.Proofs.YtfjmlfbohenmfaaGreat
namespace Go.Proofs.YtfjmlfbohenmfaaGreat
open Go.RowKit Go.Maps Go.WideMaps
attribute [local go_sem] Oper.semAt_some
theorem same1_any(m:List (Int×Int))(x y:Int)(W:World):Calls Tryz.prog 39 #[.int .i64 x,.int .i64 y] W fun e w'=>e= .returned (.bool (Co.eqs m x y).1)∧w'=W:=by
  show Calls _ _ _ W fun e w'=>e= .returned (.bool (decide (x=y)))∧w'=W
  obtain⟨R,hR⟩:∃R,(x==y)=R:=⟨_,rfl⟩
  have e:decide (x=y)=R:=by rw[←hR];by_cases h:x=y <;> simp[h]
  rw[e];clear e;go_enter Tryz.func39,Tryz.ntmps39;go_wp2;go_ret;exact⟨rfl,rfl⟩
namespace Co
def akS:AK where
  f:=39
  cap:=#[]
  lb:=fun _=>False
  Sa:=fun _ m=>m=[]
  st:=eqs
  g:=false
  lim:=0
theorem akS_ok:akS.Ok where
  ent:=enters_of Tryz.func39 (by kernel_rfl) rfl
  keep:=fun _ _ _ _ h _ _=>h
  len:=fun m x y=>Nat.le_refl _
  lbl:=fun _ h=>h.elim
  told:=fun W m x y h _ _ _=>(same1_any m x y W).mono fun e w' ⟨h1,h2⟩=>⟨h1,by rw[h2];exact Keep.refl _ _,fun _=>h⟩
theorem LB.new{w w1:World}{x:Int}(h:w.alloc (.cells #[.int .i64 x] 3)=w1):LB w1 w.heap.size x:=Hp.new h
end Co
theorem coSame_any{F G:Nat→Prop}(a b:Co.C)(vm vl vt vp vk um ul ut up uk:Value)(w:World)(hWa:Co.Wf a)(hWb:Co.Wf b)(hRa:Co.Rep F w a vm vl vt vp vk)(hRb:Co.Rep G w b um ul ut up uk):
    Calls Tryz.prog 12 #[Co.V a vm vl vt vp vk,Co.V b um ul ut up uk] w fun e w'=>e= .returned (.bool (Co.same a b))∧Below w.heap.size w w':=by
  unfold Co.V;obtain⟨w1,hw1⟩:∃w1,w.alloc (.cells #[.int .i64 a.k,.int .i64 a.n,.string a.s,.int .i64 a.d.k,.int .i64 a.d.n,.string a.d.s,vm,vl,vt,vp,vk] 28)=w1:=⟨_,rfl⟩
  obtain⟨w2,hw2⟩:∃w2,w1.alloc (.cells #[.int .i64 b.k,.int .i64 b.n,.string b.s,.int .i64 b.d.k,.int .i64 b.d.n,.string b.d.s,um,ul,ut,up,uk] 28)=w2:=⟨_,rfl⟩
  obtain⟨w3,hw3⟩:∃w3,w2.alloc (.cells #[.int .i64 8192] 3)=w3:=⟨_,rfl⟩
  obtain⟨hb1,hs1⟩:=new_below hw1;obtain⟨hb2,hs2⟩:=new_below hw2;obtain⟨hb3,hs3⟩:=new_below hw3;obtain⟨L,hL⟩:∃L,w2.heap.size=L:=⟨_,rfl⟩
  obtain⟨B0,hB0⟩:∃B0,w1.heap.size=B0:=⟨_,rfl⟩
  have ha:Hp w3 w.heap.size _ _:=((Hp.new hw1).below hb2).below hb3;have hb:Hp w3 w1.heap.size _ _:=(Hp.new hw2).below hb3;rw[hB0]at hb;have hl:=Co.LB.new hw3;rw[hL]at hl;have hb03:Below w.heap.size w w3:=hb1.trans ((hb2.mono (by omega)).trans (hb3.mono (by omega)));have hc:=coBes_any Co.akS Co.akS_ok L id a b (fun k=>k<w.heap.size) (fun k=>k<w.heap.size) vm vl vt vp vk um ul ut up uk w3 1 8192 [] hWa hWb (fun k hk h=>h.elim (fun e=>by omega) id) (fun k hk h=>h.elim (fun e=>by omega) id) ((Co.Rep.mono (fun _ _ h=>h) a hRa).below hb03) ((Co.Rep.mono (fun _ _ h=>h) b hRb).below hb03) hl rfl (by omega) (by omega) (by omega) (fun e=>by cases e) (by unfold Co.AK.room;show((([]:List (Int×Int)).length:Nat):Int)≤0;simp) (Nat.zero_le _);unfold Co.BPost at hc;rw[show Co.akS.st=Co.eqs from rfl,Co.besideG_eqs]at hc;dsimp only at hc;rw[show(Co.pairs a b 1 8192).1=Co.same a b from rfl]at hc;obtain⟨R,hR⟩:∃R,Co.same a b=R:=⟨_,rfl⟩
  rw[hR]at hc ⊢;have hc':Calls Tryz.prog 38 #[.agg #[.int .i64 a.k,.int .i64 a.n,.string a.s,.int .i64 a.d.k,.int .i64 a.d.n,.string a.d.s,vm,vl,vt,vp,vk],.agg #[.int .i64 b.k,.int .i64 b.n,.string b.s,.int .i64 b.d.k,.int .i64 b.d.n,.string b.d.s,um,ul,ut,up,uk],.int .i64 1,.pointer (some ⟨L,0,none⟩),.func (.func 39) #[] #[]] w3 fun e w'=>e= .returned (.bool R)∧Below w.heap.size w w':=hc.mono fun e w' h=>⟨h.1,hb03.trans (h.2.1.to_below (fun k hk=>hk.elim (fun e=>by omega) (fun h=>h.elim)) (by omega))⟩
  have HA:=hd ha;have HB:=hd hb;clear hc ha hb hl hb03 hb1 hb2 hb3 hs1 hs2 hs3 hWa hWb hRa hRb hR;obtain⟨a0,a1,a2,a3,a4,a5,a6,a7,a8,a9,a10⟩:=HA.out.c11;obtain⟨b0,b1,b2,b3,b4,b5,b6,b7,b8,b9,b10⟩:=HB.out.c11;go_enter Tryz.func12,Tryz.ntmps12;go_wp2_with fail
  refine hc'.mono ?_;rintro e w4 ⟨rfl,hb4⟩;have HB4:=hd hb4;clear hc' hb4 hw1 hw2 hw3;clear a0 a1 a2 a3 a4 a5 a6 a7 a8 a9 a10 b0 b1 b2 b3 b4 b5 b6 b7 b8 b9 b10;go_wp2;go_ret;exact⟨rfl,HB4.out⟩
namespace Co
def rdI:Value→Option (DataW Unit×List MemPlace)
  | .int .i64 a=>some (.lit (.int .i64 a),[])
  |_=>none
theorem zeroL(w:World):(zeroValue 2).run Tryz.prog w= .ok (.int .i64 0) w:=by kernel_rfl
def mLL:Vm.MK Tryz.prog Int Int where
  mt:=71
  kt:=2
  et:=2
  under:=Tryz.underlying71
  keyed:=int_keyed Tryz.underlying2
  kv:=fun x=> .int .i64 x
  kl:=fun x=> .int .i64 x
  okK:=fun x=> -9223372036854775808≤x∧x≤9223372036854775807
  keyOf_:=fun k h=>keyOf_int_mk Tryz.underlying2 (by show(decide (IntKind.i64.min≤k)&&decide (k≤IntKind.i64.max))=true;rw[show IntKind.i64.min= -9223372036854775808 by decide,show IntKind.i64.max=9223372036854775807 by decide,decide_eq_true h.1,decide_eq_true h.2];rfl)
  kl_inj:=fun a b h=>by cases h;rfl
  isKey:=fun _=>trivial
  ev:=fun x=> .int .i64 x
  ed:=fun x=> .lit (.int .i64 x)
  ed_inj:=fun a b h=>by cases h;rfl
  z:=0
  zero:=zeroL
  rd:=rdI
  rd_ev:=fun _=>rfl
  rd_inv:=fun x q h=>by
    unfold rdI at h;split at h
    · rename_i a
      cases h;exact⟨a,rfl,rfl⟩
    · cases h
def there(m:List (Int×Int)):Int→Option Int:=fun x=>(m.find? (·.1=x)).map (·.2)
def back(m:List (Int×Int)):Int→Option Int:=fun y=>(m.find? (·.2=y)).map (·.1)
theorem there_new{m:List (Int×Int)}{x y:Int}(h:there m x=none):there (m++[(x,y)])=Vm.upd (there m) x y:=by
  funext z
  unfold Vm.upd;unfold there at h ⊢;rw[List.find?_append];by_cases e:z=x
  · subst e
    rw[if_pos rfl];rw[Option.map_eq_none_iff]at h;rw[h];simp
  · rw[if_neg e]
    cases h2:m.find? (·.1=z)with
    |some u=>simp
    |none=>simp[Ne.symm e]
theorem back_new{m:List (Int×Int)}{x y:Int}(h:back m y=none):back (m++[(x,y)])=Vm.upd (back m) y x:=by
  funext z
  unfold Vm.upd;unfold back at h ⊢;rw[List.find?_append];by_cases e:z=y
  · subst e
    rw[if_pos rfl];rw[Option.map_eq_none_iff]at h;rw[h];simp
  · rw[if_neg e]
    cases h2:m.find? (·.2=z)with
    |some u=>simp
    |none=>simp[Ne.symm e]
theorem step_eq(m:List (Int×Int))(x y:Int):step m x y=if(!(there m x).isSome&& !(back m y).isSome)then(true,m++[(x,y)])else(((there m x).isSome&&(back m y).isSome&&decide ((there m x).getD 0=y)&&decide ((back m y).getD 0=x)),m):=by
  unfold step there back;cases h1:m.find? (·.1=x) <;> cases h2:m.find? (·.2=y) <;> simp
structure SaA(XT XB MT MB:Nat)(w:World)(m:List (Int×Int)):Prop where
  bt:Hp w XT #[.map (some MT)] 71
  bb:Hp w XB #[.map (some MB)] 71
  mt:Vm.Mp mLL w MT m.length (there m)
  mb:Vm.Mp mLL w MB m.length (back m)
end Co
theorem alike1_any(XT XB MT MB:Nat)(hd1:XT≠MT∧XT≠MB∧XB≠MT∧XB≠MB∧MT≠MB)(m:List (Int×Int))(x y:Int)(W:World)(hS:Co.SaA XT XB MT MB W m)(hm:m.length≤1000000)(hx:Co.I64 x)(hy:Co.I64 y):
    Calls Tryz.prog 41 #[.int .i64 x,.int .i64 y,.pointer (some ⟨XT,0,none⟩),.pointer (some ⟨XB,0,none⟩)] W fun e w'=>e= .returned (.bool (Co.step m x y).1)∧Keep (fun k=>k=MT∨k=MB) W w'∧((Co.step m x y).1=true→Co.SaA XT XB MT MB w' (Co.step m x y).2):=by
  have h0:=hS.bt.cell 0 rfl;have h1:=hS.bb.cell 0 rfl;have l0:=Vm.Mp.look hS.mt (s:=x) hx;have l1:=Vm.Mp.look hS.mb (s:=y) hy;have hst:=Co.step_eq m x y;obtain⟨u,hu⟩:∃u,(Co.there m x).getD 0=u:=⟨_,rfl⟩
  obtain⟨v,hv⟩:∃v,(Co.back m y).getD 0=v:=⟨_,rfl⟩
  obtain⟨one,ho⟩:∃one,(Co.there m x).isSome=one:=⟨_,rfl⟩
  obtain⟨two,ht⟩:∃two,(Co.back m y).isSome=two:=⟨_,rfl⟩
  rw[show Co.mLL.z=0 from rfl,hu,ho]at l0;rw[show Co.mLL.z=0 from rfl,hv,ht]at l1;change (Instr.lookup 71 (.map (some MT)) (.int .i64 x) true).run Tryz.prog W= .ok (.tuple #[.int .i64 u,.bool one]) W at l0;change (Instr.lookup 71 (.map (some MB)) (.int .i64 y) true).run Tryz.prog W= .ok (.tuple #[.int .i64 v,.bool two]) W at l1;rw[hu,hv,ho,ht]at hst;have HS:=hd hS
  cases one with
  | false =>
    cases two with
    | false =>
      have ho':Co.there m x=none:=by simpa using ho
      have ht':Co.back m y=none:=by simpa using ht
      have hd:=Co.drew_below W;obtain⟨w1,e1,s1,k1⟩:=Vm.Mp.set (Vm.Mp.below hS.mt hd) (by unfold maxLen;omega) (s:=x) hx y;obtain⟨w2,e2,s2,k2⟩:=Vm.Mp.set (Vm.Mp.keep (Vm.Mp.below hS.mb hd) k1 (fun e=>hd1.2.2.2.2 e.symm)) (by unfold maxLen;omega) (s:=y) hy x;change (Instr.mapUpdate 71 (.map (some MT)) (.int .i64 x) (.int .i64 y)).run Tryz.prog W.drew= .ok () w1 at e1;change (Instr.mapUpdate 71 (.map (some MB)) (.int .i64 y) (.int .i64 x)).run Tryz.prog w1= .ok () w2 at e2;have HR:Hid (Keep (fun k=>k=MT∨k=MB) W w2∧Co.SaA XT XB MT MB w2 (m++[(x,y)])):=by
        have k02:Keep (fun k=>k=MT∨k=MB) W w2:=(keep_of_below hd).trans ((k1.le fun k e=> .inl e).trans (k2.le fun k e=> .inr e));refine⟨k02,hS.bt.keep k02 (fun e=>e.elim hd1.1 hd1.2.1),hS.bb.keep k02 (fun e=>e.elim hd1.2.2.1 hd1.2.2.2.1),?_,?_⟩
        · rw[Co.there_new ho',List.length_append]
          exact Vm.Mp.keep s1 k2 (fun e=>hd1.2.2.2.2 e)
        · rw[Co.back_new ht',List.length_append]
          exact s2
      have q1:=(Hp.keep (Hp.below hS.bb hd) k1 hd1.2.2.1).cell 0 rfl;rw[hst];clear hst hu hv ho ht ho' ht' hd s1 k1 s2 k2 hS hd1 hm hx hy;go_enter Tryz.func41,Tryz.ntmps41;go_wp2
      go_region
      go_wp2;go_ret
      first|exact⟨rfl,HR.out.1,fun _=>HR.out.2⟩|exact⟨rfl,HR.out.1,HR.out.2⟩
    | true =>
      rw[hst];clear hst hu hv ho ht hS hd1 hm hx hy;go_enter Tryz.func41,Tryz.ntmps41;go_wp2;go_ret;exact⟨rfl,Keep.refl _ _⟩
  | true =>
    cases two with
    | false =>
      rw[hst];clear hst hu hv ho ht hS hd1 hm hx hy;go_enter Tryz.func41,Tryz.ntmps41;go_wp2;go_ret;exact⟨rfl,Keep.refl _ _⟩
    | true =>
      obtain⟨b1,hb1⟩:∃b1,(u==y)=b1:=⟨_,rfl⟩
      obtain⟨b2,hb2⟩:∃b2,(v==x)=b2:=⟨_,rfl⟩
      have e1:decide (u=y)=b1:=by rw[←hb1];by_cases h:u=y <;> simp[h]
      have e2:decide (v=x)=b2:=by rw[←hb2];by_cases h:v=x <;> simp[h]
      rw[e1,e2]at hst;rw[hst];clear hst hu hv ho ht hS hd1 hm hx hy e1 e2;cases b1 <;> cases b2 <;>
      (go_enter Tryz.func41, Tryz.ntmps41
       go_wp2;go_ret
       first|exact⟨rfl,Keep.refl _ _,fun _=>HS.out⟩|exact⟨rfl,Keep.refl _ _,HS.out⟩|exact⟨rfl,Keep.refl _ _⟩)
namespace Co
def akA(XT XB MT MB n:Nat):AK where
  f:=41
  cap:=#[.pointer (some ⟨XT,0,none⟩),.pointer (some ⟨XB,0,none⟩)]
  lb:=fun k=>k=MT∨k=MB∨k=XT∨k=XB
  Sa:=SaA XT XB MT MB
  st:=step
  g:=true
  lim:=n
theorem step_len(m:List (Int×Int))(x y:Int):(step m x y).2.length≤m.length+1:=by
  rw[step_eq];split <;> simp
theorem akA_ok{XT XB MT MB n:Nat}(hd1:XT≠MT∧XT≠MB∧XB≠MT∧XB≠MB∧MT≠MB)(hn:MT<n∧MB<n∧XT<n∧XB<n):(akA XT XB MT MB n).Ok where
  ent:=enters_of Tryz.func41 (by kernel_rfl) rfl
  keep:=fun S W W' m h hk hn=>⟨h.bt.keep hk (hn _ (.inr (.inr (.inl rfl)))),h.bb.keep hk (hn _ (.inr (.inr (.inr rfl)))),Vm.Mp.keep h.mt hk (hn _ (.inl rfl)),Vm.Mp.keep h.mb hk (hn _ (.inr (.inl rfl)))⟩
  len:=step_len
  lbl:=fun k h=>by show k<n;rcases h with h|h|h|h <;> omega
  told:=fun W m x y h hm hx hy=>(alike1_any XT XB MT MB hd1 m x y W h hm hx hy).mono fun e w' ⟨h1,h2,h3⟩=>⟨h1,h2.le fun k e=>e.elim .inl (fun e=> .inr (.inl e)),h3⟩
end Co
namespace Co
mutual
theorem snd_alone:∀(c:C),Snd c→∀x∈parts c,alone x=true
 | .mk k n s d p l,h,x,hx=>by
  rw[Snd]at h;rw[parts]at hx;rcases List.mem_cons.1 hx with rfl|hx
  ·exact h.1
  ·exact snds_alone l h.2.2 x hx
theorem snds_alone:∀(l:List C),Snds l→∀x∈partsL l,alone x=true
 |[],_,x,hx=>by rw[partsL]at hx;simp at hx
 |c :: r,h,x,hx=>by
  rw[Snds]at h;rw[partsL]at hx;rcases List.mem_append.1 hx with hx|hx
  ·exact snd_alone c h.1 x hx
  ·exact snds_alone r h.2 x hx
end
theorem check_p32{c:C}{win:List Int}(h:check c win=0):∀x∈parts c,x.p.length≤32:=fun x hx=>
 alone_p32 (snd_alone c (goes_snd (r:=(goes false c 1 win true 0 win).2) c (Prod.ext h rfl)).1 x hx)
end Co
theorem coAlike_any{F G:Nat→Prop}(a b:Co.C)(vm vl vt vp vk um ul ut up uk:Value)(w:World)(hWa:Co.Wf a)(hWb:Co.Wf b)(hRa:Co.Rep F w a vm vl vt vp vk)(hRb:Co.Rep G w b um ul ut up uk):
  Calls Tryz.prog 14 #[Co.V a vm vl vt vp vk,Co.V b um ul ut up uk] w fun e w'=>e= .returned (.bool (Co.alike a b))∧Below w.heap.size w w':=by
 unfold Co.V;obtain⟨w1,hw1⟩:∃w1,w.alloc (.cells #[.int .i64 a.k,.int .i64 a.n,.string a.s,.int .i64 a.d.k,.int .i64 a.d.n,.string a.d.s,vm,vl,vt,vp,vk] 28)=w1:=⟨_,rfl⟩
 obtain⟨w2,hw2⟩:∃w2,w1.alloc (.cells #[.int .i64 b.k,.int .i64 b.n,.string b.s,.int .i64 b.d.k,.int .i64 b.d.n,.string b.d.s,um,ul,ut,up,uk] 28)=w2:=⟨_,rfl⟩
 obtain⟨hb1,hs1⟩:=new_below hw1;obtain⟨hb2,hs2⟩:=new_below hw2;obtain⟨B0,hB0⟩:∃B0,w1.heap.size=B0:=⟨_,rfl⟩
 have ha:Hp w2 w.heap.size _ _:=(Hp.new hw1).below hb2;have hb:Hp w2 w1.heap.size _ _:=Hp.new hw2;rw[hB0]at hb;have hb02:Below w.heap.size w w2:=hb1.trans (hb2.mono (by omega));have hca:=fun W (hb:Below w2.heap.size w2 W)=>checkC_any (F':=fun _=>True) a vm vl vt vp vk (.slice none 0 0) [] W hWa ((hRa.below hb02).below hb) ⟨none,0,rfl,Nat.le_refl _,fun h=>absurd rfl h⟩ (by simp) (by simp)
 have hcb:=fun W (hb:Below w2.heap.size w2 W)=>checkC_any (F':=fun _=>True) b um ul ut up uk (.slice none 0 0) [] W hWb ((hRb.below hb02).below hb) ⟨none,0,rfl,Nat.le_refl _,fun h=>absurd rfl h⟩ (by simp) (by simp)
 unfold Co.V at hca hcb;obtain⟨ea,hea⟩:∃ea,Co.check a []=ea:=⟨_,rfl⟩
 obtain⟨eb,heb⟩:∃eb,Co.check b []=eb:=⟨_,rfl⟩
 have hal:Co.alike a b=(decide (ea=0)&&decide (eb=0)&&(Co.besideG Co.step a b 1 8192 []).1):=by rw[←hea,←heb,Co.besideG_step];rfl
 rw[hea]at hca;rw[heb]at hcb;rw[hal];have HA:=hd ha;have HB:=hd hb;have HB02:=hd hb02;have HWA:=hd hWa;have HWB:=hd hWb;have HRA:=hd hRa;have HRB:=hd hRb;have HEA:=hd hea;have HSZ:Hid (w2.heap.size=w.heap.size+2):=by show _=_;omega
 obtain⟨a0,a1,a2,a3,a4,a5,a6,a7,a8,a9,a10⟩:=HA.out.c11;obtain⟨b0,b1,b2,b3,b4,b5,b6,b7,b8,b9,b10⟩:=HB.out.c11;clear ha hb hb1 hb2 hs1 hs2 hb02 hWa hWb hRa hRb hea heb hal;by_cases h1:ea=0
 case neg=>
  have t1:(ea !=0)=true:=by simpa using h1
  have D1:decide (ea=0)=false:=decide_eq_false h1;clear h1;rw[D1];go_enter Tryz.func14,Tryz.ntmps14;go_wp2_with fail
  refine(hca w2 (Below.refl _ _)).mono ?_;rintro e w3 ⟨rfl,hb3⟩;have HB3:Hid (Below w.heap.size w w3):=btr HB02.out hb3;clear hca hcb hb3 hw1 hw2;clear a0 a1 a2 a3 a4 a5 a6 a7 a8 a9 a10 b0 b1 b2 b3 b4 b5 b6 b7 b8 b9 b10;go_wp2;go_ret;exact⟨rfl,HB3.out⟩
 have t1:(ea !=0)=false:=by simpa using h1
 subst h1;by_cases h2:eb=0
 case neg=>
  have t2:(eb !=0)=true:=by simpa using h2
  have D1:decide (eb=0)=false:=decide_eq_false h2;clear h2;rw[D1];go_enter Tryz.func14,Tryz.ntmps14;go_wp2_with fail
  refine(hca w2 (Below.refl _ _)).mono ?_;rintro e w3 ⟨rfl,hb3⟩;have HB3:=hd hb3;have HBB:=hd (HB.out.below hb3);clear hca hb3 hw1 hw2;clear a0 a1 a2 a3 a4 a5 a6 a7 a8 a9 a10 b0 b1 b2 b3 b4 b5 b6 b7 b8 b9 b10;obtain⟨b0,b1,b2,b3,b4,b5,b6,b7,b8,b9,b10⟩:=HBB.out.c11;go_wp2_with fail
  refine(hcb w3 HB3.out).mono ?_;rintro e w4 ⟨rfl,hb4⟩;have HB4:Hid (Below w.heap.size w w4):=HB02.out.trans (((btr HB3.out hb4)).mono HB02.out.size);clear hcb hb4;clear b0 b1 b2 b3 b4 b5 b6 b7 b8 b9 b10;go_wp2;go_ret;exact⟨by simp,HB4.out⟩
 have t2:(eb !=0)=false:=by simpa using h2
 subst h2;have hmm:=@run_makeMap Tryz.prog;obtain⟨R,hR⟩:∃R,(Co.besideG Co.step a b 1 8192 []).1=R:=⟨_,rfl⟩
 rw[hR,show(decide ((0:Int)=0)&&decide ((0:Int)=0)&&R)=R by simp];have HR:=hd hR;clear hR;go_enter Tryz.func14,Tryz.ntmps14;go_wp2_with fail
 refine(hca w2 (Below.refl _ _)).mono ?_;rintro e w3 ⟨rfl,hb3⟩;have HB3:=hd hb3;have HBB:=hd (HB.out.below hb3);clear hca hb3 hw1 hw2;clear a0 a1 a2 a3 a4 a5 a6 a7 a8 a9 a10 b0 b1 b2 b3 b4 b5 b6 b7 b8 b9 b10;obtain⟨b0,b1,b2,b3,b4,b5,b6,b7,b8,b9,b10⟩:=HBB.out.c11;go_wp2_with fail
 refine(hcb w3 HB3.out).mono ?_;rintro e w4 ⟨rfl,hb4⟩;have HB4:Hid (Below w2.heap.size w2 w4):=btr HB3.out hb4;clear hcb hb4;clear b0 b1 b2 b3 b4 b5 b6 b7 b8 b9 b10;obtain⟨m1,hm1⟩:∃m1,w4.alloc (.map #[] 0)=m1:=⟨_,rfl⟩
 obtain⟨m2,hm2⟩:∃m2,m1.alloc (.map #[] 0)=m2:=⟨_,rfl⟩
 obtain⟨m3,hm3⟩:∃m3,m2.alloc (.cells #[.map none] 71)=m3:=⟨_,rfl⟩
 obtain⟨m4,hm4⟩:∃m4,m3.alloc (.cells #[.map none] 71)=m4:=⟨_,rfl⟩
 obtain⟨m5,hm5⟩:∃m5,m4.setCell ⟨m2.heap.size,0,none⟩ (.map (some w4.heap.size))=m5:=⟨_,rfl⟩
 obtain⟨m6,hm6⟩:∃m6,m5.setCell ⟨m3.heap.size,0,none⟩ (.map (some m1.heap.size))=m6:=⟨_,rfl⟩
 obtain⟨m7,hm7⟩:∃m7,m6.alloc (.cells #[.int .i64 8192] 3)=m7:=⟨_,rfl⟩
 obtain⟨b1,s1⟩:=new_below hm1;obtain⟨b2,s2⟩:=new_below hm2;obtain⟨b3,s3⟩:=new_below hm3;obtain⟨b4,s4⟩:=new_below hm4;obtain⟨b7,s7⟩:=new_below hm7;have k5:Keep (fun k=>k=m2.heap.size) m4 m5:=by rw[←hm5];exact set_keep _ _ _ _
 have k6:Keep (fun k=>k=m3.heap.size) m5 m6:=by rw[←hm6];exact set_keep _ _ _ _
 have z5:m5.heap.size=m4.heap.size:=by rw[←hm5];exact World.size_setCell _ _ _
 have z6:m6.heap.size=m5.heap.size:=by rw[←hm6];exact World.size_setCell _ _ _
 have hz:=HB4.out.size;have hT4:Hp m4 m2.heap.size #[.map none] 71:=(Hp.new hm3).below b4;have hB5:Hp m5 m3.heap.size #[.map none] 71:=(Hp.new hm4).keep k5 (by omega);have hT5:Hp m5 m2.heap.size #[.map (some w4.heap.size)] 71:=by rw[←hm5];exact hT4.set 0 _
 have hB6:Hp m6 m3.heap.size #[.map (some m1.heap.size)] 71:=by rw[←hm6];exact hB5.set 0 _
 have hT7:Hp m7 m2.heap.size #[.map (some w4.heap.size)] 71:=(hT5.keep k6 (by omega)).below b7;have hB7:Hp m7 m3.heap.size #[.map (some m1.heap.size)] 71:=hB6.below b7;have p1:Vm.Mp Co.mLL m1 w4.heap.size 0 fun _=>none:=by rw[←hm1];exact Vm.Mp.made _ _
 have p2:Vm.Mp Co.mLL m2 m1.heap.size 0 fun _=>none:=by rw[←hm2];exact Vm.Mp.made _ _
 have kk:∀n,n≤m2.heap.size→Below n m2 m7:=fun n hn=>((b3.mono hn).trans (b4.mono (by omega))).trans (((k5.to_below (n:=n) (fun k e=>by omega) (by omega)).trans (k6.to_below (fun k e=>by omega) (by omega))).trans (b7.mono (by omega)))
 have q1:Vm.Mp Co.mLL m7 w4.heap.size 0 fun _=>none:=(p1.below b2).below (kk _ (Nat.le_refl _))
 have q2:Vm.Mp Co.mLL m7 m1.heap.size 0 fun _=>none:=p2.below (kk _ (Nat.le_refl _))
 have hb47:Below w4.heap.size w4 m7:=b1.trans ((b2.mono (by omega)).trans (kk _ (by omega)));have hb27:Below w2.heap.size w2 m7:=btr HB4.out hb47;have HA7:=hd (HA.out.below hb27);have HB7:=hd (HB.out.below hb27);have hb07:Below w.heap.size w m7:=btr HB02.out hb27;have hsz:=HSZ.out;have hl:Co.LB m7 m6.heap.size 8192:=Co.LB.new hm7;have hd1:m2.heap.size≠w4.heap.size∧m2.heap.size≠m1.heap.size∧m3.heap.size≠w4.heap.size∧m3.heap.size≠m1.heap.size∧w4.heap.size≠m1.heap.size:=by omega
 have hlb:∀k,(Co.akA m2.heap.size m3.heap.size w4.heap.size m1.heap.size m7.heap.size).lb k→w.heap.size≤k∧k<m7.heap.size:=fun k h=>by
  rcases h with h|h|h|h <;> omega
 have hc:=coBes_any (Co.akA m2.heap.size m3.heap.size w4.heap.size m1.heap.size m7.heap.size) (Co.akA_ok hd1 (by omega)) m6.heap.size (fun h=>by rcases h with h|h|h|h <;> omega) a b (fun k=>k<w.heap.size) (fun k=>k<w.heap.size) vm vl vt vp vk um ul ut up uk m7 1 8192 [] HWA.out HWB.out (fun k hk h=>h.elim (fun e=>by omega) (fun h=>by have:=hlb k h;omega)) (fun k hk h=>h.elim (fun e=>by omega) (fun h=>by have:=hlb k h;omega)) ((Co.Rep.mono (fun _ _ h=>h) a HRA.out).below hb07) ((Co.Rep.mono (fun _ _ h=>h) b HRB.out).below hb07) hl ⟨hT7,hB7,q1,q2⟩ (by omega) (by omega) (by omega) (fun _ x hx=>Co.check_p32 HEA.out x hx) (by unfold Co.AK.room;simp[Co.akA]) (Nat.le_refl _);unfold Co.BPost at hc;rw[show(Co.akA m2.heap.size m3.heap.size w4.heap.size m1.heap.size m7.heap.size).st=Co.step from rfl,HR.out]at hc;have hc':Calls Tryz.prog 38 #[.agg #[.int .i64 a.k,.int .i64 a.n,.string a.s,.int .i64 a.d.k,.int .i64 a.d.n,.string a.d.s,vm,vl,vt,vp,vk],.agg #[.int .i64 b.k,.int .i64 b.n,.string b.s,.int .i64 b.d.k,.int .i64 b.d.n,.string b.d.s,um,ul,ut,up,uk],.int .i64 1,.pointer (some ⟨m6.heap.size,0,none⟩),.func (.func 41) #[] #[.pointer (some ⟨m2.heap.size,0,none⟩),.pointer (some ⟨m3.heap.size,0,none⟩)]] m7 fun e w'=>e= .returned (.bool R)∧Below w.heap.size w w':=hc.mono fun e w' h=>⟨h.1,hb07.trans (h.2.1.to_below (fun k hk=>hk.elim (fun e=>by omega) (fun h=>(hlb k h).1)) (by omega))⟩
 have x5:=hT4.cell 0 rfl;have xf5:=hT4.frz 0;have x6:=hB5.cell 0 rfl;have xf6:=hB5.frz 0;clear hc hlb hd1 hl hb07 hsz hb27 hb47 q1 q2 p1 p2 kk hB7 hT7 hB6 hT5 hB5 hT4 hz z5 z6 k5 k6 b1 b2 b3 b4 b7 s1 s2 s3 s4 s7;obtain⟨a0,a1,a2,a3,a4,a5,a6,a7,a8,a9,a10⟩:=HA7.out.c11;obtain⟨b0,b1,b2,b3,b4,b5,b6,b7,b8,b9,b10⟩:=HB7.out.c11;go_wp2_with fail
 refine hc'.mono ?_;rintro e w9 ⟨rfl,hb9⟩;have HB9:=hd hb9;clear hc' hb9 hm1 hm2 hm3 hm4 hm5 hm6 hm7 x5 xf5 x6 xf6 hmm;clear a0 a1 a2 a3 a4 a5 a6 a7 a8 a9 a10 b0 b1 b2 b3 b4 b5 b6 b7 b8 b9 b10;go_wp2;go_ret;exact⟨rfl,HB9.out⟩
end Go.Proofs.YtfjmlfbohenmfaaGreat
namespace Go.Proofs.YtfjmlfbohenmfaaGreat
open Go.RowKit
namespace Cd
end Cd
end Go.Proofs.YtfjmlfbohenmfaaGreat
namespace Go.Proofs.YtfjmlfbohenmfaaGreat
open Go.ChangeShapes Go.WideShapes Go.RowKit Go.Deep
namespace Dt
section
variable {H:Type} {enc:TypeId×Value→H} {P:Program} {w:World} {base:Nat} {spare:Nat→Bool} {held:Bool}
theorem weights_all{e:TypeId}:∀ {l:List (DataW H)} {d:DataW H},d∈l→∀n∈d.weights P e,n∈DataW.weightsAll P e l
 |a :: l,d,hd,n,hn=>by
  simp only[DataW.weightsAll,List.mem_append];rcases List.mem_cons.1 hd with rfl|hd
  ·exact .inl hn
  ·exact .inr (weights_all hd n hn)
def Fits(P:Program)(t:TypeId)(d:DataW H):Prop:=∀n∈d.weights P t,n≤reachBytes
theorem trod_six{t:TypeId}{f0 f1 f2 f3 f4 f5:Field}{fuel:Nat}{cs:List Value}{x:DataW H×List MemPlace}(hs:P.underlying t=some (.struct #[f0,f1,f2,f3,f4,f5]))(hone:oneCellFields P #[f0,f1,f2,f3,f4,f5]=true)(hC:P.cellsOf t=6)
  (h:DataW.trod enc P w base spare held fuel t cs=some x) (hf:Fits P t x.1):
  ∃(v0 v1 v2 v3 v4 v5:Value) (y0 y1 y2 y3 y4 y5:DataW H×List MemPlace) (n:Nat),fuel=n+1∧cs=[v0,v1,v2,v3,v4,v5]∧
   (DataW.trod enc P w base spare held n f0.type [v0]=some y0∧Fits P f0.type y0.1)∧(DataW.trod enc P w base spare held n f1.type [v1]=some y1∧Fits P f1.type y1.1)∧(DataW.trod enc P w base spare held n f2.type [v2]=some y2∧Fits P f2.type y2.1)∧(DataW.trod enc P w base spare held n f3.type [v3]=some y3∧Fits P f3.type y3.1)∧(DataW.trod enc P w base spare held n f4.type [v4]=some y4∧Fits P f4.type y4.1)∧(DataW.trod enc P w base spare held n f5.type [v5]=some y5∧Fits P f5.type y5.1):=by
 obtain⟨xs,n,hn,hx,hsz,hlen,hg⟩:=DataW.trod_struct hs h
 match cs,hsz.trans hC with
 |[c0,c1,c2,c3,c4,c5],_=>
  obtain⟨o0,k0⟩:=hone_of hone 0 f0 rfl;obtain⟨o1,k1⟩:=hone_of hone 1 f1 rfl;obtain⟨o2,k2⟩:=hone_of hone 2 f2 rfl;obtain⟨o3,k3⟩:=hone_of hone 3 f3 rfl;obtain⟨o4,k4⟩:=hone_of hone 4 f4 rfl;obtain⟨o5,k5⟩:=hone_of hone 5 f5 rfl
  match xs,hlen with
  |[y0,y1,y2,y3,y4,y5],_=>
   have hw:∀(i:Nat) (f:Field) (y:DataW H×List MemPlace),#[f0,f1,f2,f3,f4,f5][i]?=some f→[y0,y1,y2,y3,y4,y5][i]?=some y→Fits P f.type y.1:=by
    intro i f y h1 h2 m hm;refine hf m ?_;rw[hx];show m∈(DataW.agg ([y0,y1,y2,y3,y4,y5].map (·.1))).weights P t;simp only[DataW.weights,hs];refine DataW.weights_mem_each (j:=i) (t:=f.type) (d:=y.1) ?_ ?_ m hm
    ·rw[List.getElem?_map,Array.getElem?_toList,h1];rfl
    ·rw[List.getElem?_map,h2];rfl
   exact⟨c0,c1,c2,c3,c4,c5,y0,y1,y2,y3,y4,y5,n,hn,rfl,⟨by simpa[o0,k0]using hg 0 f0 rfl,hw 0 f0 y0 rfl rfl⟩,⟨by simpa[o1,k1]using hg 1 f1 rfl,hw 1 f1 y1 rfl rfl⟩,⟨by simpa[o2,k2]using hg 2 f2 rfl,hw 2 f2 y2 rfl rfl⟩,⟨by simpa[o3,k3]using hg 3 f3 rfl,hw 3 f3 y3 rfl rfl⟩,⟨by simpa[o4,k4]using hg 4 f4 rfl,hw 4 f4 y4 rfl rfl⟩,⟨by simpa[o5,k5]using hg 5 f5 rfl,hw 5 f5 y5 rfl rfl⟩⟩
theorem open_row{t e:TypeId}{fuel:Nat}{cs:List Value}{x:DataW H×List MemPlace}(ht:P.underlying t=some (.slice e))(h:DataW.trod enc P w base spare held fuel t cs=some x)(hf:Fits P t x.1):
  (cs = [.slice none 0 0]) ∨ ∃ (a : Addr) (len cap n : Nat), fuel = n + 1 ∧ cs = [.slice (some a) len cap] ∧ len ≤ cap ∧ len * P.bytesOf e ≤ reachBytes ∧
   ∀i,i<len→∃cs' y,w.cells? base (a.add (i*P.cellsOf e)) (P.cellsOf e)=some cs'∧DataW.trod enc P w base spare held n e cs'=some y∧Fits P e y.1:=by
 rcases DataW.trod_slice ht h with⟨h0,_⟩|⟨a,len,cap,elems,rest,n,hn,hcs,hx,hb,hl,hm,hlen,hel,_,_⟩
 ·exact .inl h0
 refine .inr ⟨a,len,cap,n,hn,hcs,hl,?_,fun i hi=> ?_⟩
 ·have h9:=hf ((elems.length+rest.length)*P.bytesOf e) (by rw[hx];simp[DataW.weights,ht]);rw[hlen]at h9;exact Nat.le_trans (Nat.mul_le_mul_right _ (Nat.le_add_right _ _)) h9
 ·have h1:=hel i hi;rw[List.getElem?_eq_getElem (by omega)]at h1;obtain⟨cs',h2,h3⟩:=Option.bind_eq_some_iff.1 h1;refine⟨cs',elems[i],h2,h3,fun m hm'=>hf m ?_⟩;rw[hx];simp only[DataW.weights,ht,List.mem_cons,List.mem_append];exact .inr (.inl (weights_all (List.mem_map_of_mem (List.getElem_mem _)) m hm'))
end
theorem gather{α:Type}(Q:Nat→α→Prop):∀n,(∀i,i<n→∃t,Q i t)→∃l:List α,l.length=n∧∀j,(h:j<l.length)→Q j l[j]
 |0,_=>⟨[],rfl,fun j h=>absurd h (by simp)⟩
 |n+1,h=>by
  obtain⟨l,hl,hq⟩:=gather Q n (fun i hi=>h i (by omega));obtain⟨t,ht⟩:=h n (by omega);refine⟨l++[t],by simp[hl],fun j hj=> ?_⟩;by_cases e:j<l.length
  ·rw[List.getElem_append_left e];exact hq j e
  ·have:j=l.length:=by simp at hj;omega
   subst this;rw[List.getElem_append_right (by omega)];simpa[hl]using ht
theorem add_none{b o i:Nat}:(⟨b,o,none⟩:Addr).add i=⟨b,o+i,none⟩:=by unfold Addr.add;split <;> simp_all
theorem spot_none{w:World}{b o:Nat}{spot:Option Nat}{i:Nat}{v:Value}(h:w.cell? ((⟨b,o,spot⟩:Addr).add i)=some v)(hi:i=0):spot=none:=by
 subst hi;have:=World.cell?_spot h;simpa[Addr.add]using this
section
variable {H:Type} {enc:TypeId×Value→H} {w:World} {base:Nat} {spare:Nat→Bool} {held:Bool}
theorem open_ints{fuel:Nat}{v:Value}{x:DataW H×List MemPlace}(h:DataW.trod enc Tryz.prog w base spare held fuel 22 [v]=some x)(hf:Fits Tryz.prog 22 x.1):
  ∃m:List Int,IRow (fun _=>True) w v m∧m.length≤140737488355328∧∀y∈m,-9223372036854775808≤y∧y≤9223372036854775807:=by
 rcases open_row Tryz.underlying22 h hf with h0|⟨a,len,cap,n,-,hcs,hl,hb,hel⟩
 ·obtain rfl:v= .slice none 0 0:=by simpa using h0
  exact⟨[],⟨none,0,rfl,Nat.le_refl _,fun h=>absurd rfl h⟩,by simp,by simp⟩
 ·obtain rfl:v= .slice (some a) len cap:=by simpa using hcs
  have hC:Tryz.prog.cellsOf 3=1:=by kernel_rfl
  have hB:Tryz.prog.bytesOf 3=8:=by kernel_rfl
  rw[hB]at hb;rw[hC]at hel;have hr:reachBytes=140737488351232:=by decide
  obtain⟨m,hm,hq⟩:=gather (fun i (y:Int)=>w.cell? (a.add i)=some (.int .i64 y)∧ -9223372036854775808≤y∧y≤9223372036854775807) len (fun i hi=>by
   obtain⟨cs',y,hc,ht,_⟩:=hel i hi;obtain⟨z,e0,_,hz⟩:=DataW.trod_int Tryz.underlying3 ht;subst e0;obtain⟨_,_,hat⟩:=World.cells?_some hc;have g0:=hat 0 (by omega);rw[Nat.mul_one]at g0;have hz':(decide (IntKind.i64.min≤z)&&decide (z≤IntKind.i64.max))=true:=hz;rw[show IntKind.i64.min= -9223372036854775808 by decide,show IntKind.i64.max=9223372036854775807 by decide]at hz';simp only[Bool.and_eq_true,decide_eq_true_eq]at hz';refine⟨z,?_,hz'⟩;have e9:(a.add i).add 0=a.add i:=by unfold Addr.add;rw[if_pos rfl]
   rw[e9]at g0;exact g0)
  refine⟨m,⟨some a,cap,by rw[hm],by omega,fun hn=> ?_⟩,by omega,fun y hy=> ?_⟩
  ·have hpos:0<m.length:=List.length_pos_iff.2 hn;obtain⟨b,off,spot⟩:=a;obtain rfl:=spot_none (hq 0 hpos).1 rfl;refine⟨b,off,rfl,trivial,?_,fun j hj=> ?_⟩
   ·have:=(hq 0 hpos).1;rw[add_none]at this;exact block_lt_of_cell this
   ·have:=(hq j hj).1;rw[add_none]at this;exact this
  ·obtain⟨j,hj,rfl⟩:=List.getElem_of_mem hy;exact(hq j hj).2
theorem wfs_of{l:List D}(h:∀j,(hj:j<l.length)→Wf l[j]):Wfs l:=by
 induction l with
 |nil=>rw[Wfs];trivial
 |cons a l ih=>
  rw[Wfs];exact⟨h 0 (by simp),ih (fun j hj=>h (j+1) (by simpa using hj))⟩
theorem open_data{fuel:Nat}{v:Value}{x:DataW H×List MemPlace}(h:DataW.trod enc Tryz.prog w base spare held fuel 23 [v]=some x)(hf:Fits Tryz.prog 23 x.1)
  (ih:∀n,n<fuel→∀cs y,DataW.trod enc Tryz.prog w base spare held n 25 cs=some y→Fits Tryz.prog 25 y.1→∃(d:D) (vm vl vt:Value),cs=[.int .i64 d.k,.int .i64 d.n,.string d.s,vm,vl,vt]∧Wf d∧Rep (fun _=>True) w d vm vl vt):
  ∃l:List D,Row (fun _=>True) w v l∧l.length≤140737488355328∧Wfs l:=by
 rcases open_row Tryz.underlying23 h hf with h0|⟨a,len,cap,n,hn,hcs,hl,hb,hel⟩
 ·obtain rfl:v= .slice none 0 0:=by simpa using h0
  exact⟨[],⟨none,0,rfl,Nat.le_refl _,fun h=>absurd rfl h⟩,by simp,by rw[Wfs];trivial⟩
 ·obtain rfl:v= .slice (some a) len cap:=by simpa using hcs
  have hC:Tryz.prog.cellsOf 25=6:=by kernel_rfl
  have hB:Tryz.prog.bytesOf 25=104:=by kernel_rfl
  rw[hB]at hb;rw[hC]at hel;have hr:reachBytes=140737488351232:=by decide
  obtain⟨l,hm,hq⟩:=gather (fun i (d:D)=>Wf d∧∃vm vl vt,Rep (fun _=>True) w d vm vl vt∧∀j,j<6→w.cell? ((a.add (i*6)).add j)=[Value.int .i64 d.k,.int .i64 d.n,.string d.s,vm,vl,vt][j]?) len (fun i hi=>by
   obtain⟨cs',y,hc,ht,hfy⟩:=hel i hi;obtain⟨d,vm,vl,vt,e0,hw,hr⟩:=ih n (by omega) cs' y ht hfy;subst e0;obtain⟨_,_,hat⟩:=World.cells?_some hc;exact⟨d,hw,vm,vl,vt,hr,hat⟩)
  refine⟨l,⟨some a,cap,by rw[hm],by omega,fun hne=> ?_⟩,by omega,wfs_of (fun j hj=>(hq j hj).1)⟩;have hpos:0<l.length:=List.length_pos_iff.2 hne;obtain⟨b,off,spot⟩:=a;obtain⟨_,vm,vl,vt,_,h6⟩:=hq 0 hpos;have e0:=h6 0 (by omega);rw[Nat.zero_mul]at e0;have hsp:spot=none:=by
   have e9:(((⟨b,off,spot⟩:Addr).add 0).add 0)=(⟨b,off,spot⟩:Addr).add 0:=by unfold Addr.add;simp
   rw[e9]at e0;exact spot_none e0 rfl
  subst hsp;rw[add_none,add_none]at e0;refine⟨b,off,rfl,trivial,block_lt_of_cell e0,Reps.of (fun j hj=> ?_)⟩;obtain⟨_,vm,vl,vt,hrep,h6⟩:=hq j hj;refine⟨vm,vl,vt,⟨?_,?_,?_,?_,?_,?_⟩,hrep⟩
  ·have:=h6 0 (by omega);rw[add_none,add_none]at this;exact this
  ·have:=h6 1 (by omega);rw[add_none,add_none]at this;exact this
  ·have:=h6 2 (by omega);rw[add_none,add_none]at this;exact this
  ·have:=h6 3 (by omega);rw[add_none,add_none]at this;exact this
  ·have:=h6 4 (by omega);rw[add_none,add_none]at this;exact this
  ·have:=h6 5 (by omega);rw[add_none,add_none]at this;exact this
theorem open_fuel:∀(fuel:Nat) (cs:List Value) (y:DataW H×List MemPlace),DataW.trod enc Tryz.prog w base spare held fuel 25 cs=some y→Fits Tryz.prog 25 y.1→∃(d:D) (vm vl vt:Value),cs=[.int .i64 d.k,.int .i64 d.n,.string d.s,vm,vl,vt]∧Wf d∧Rep (fun _=>True) w d vm vl vt:=by
 intro fuel
 induction fuel using Nat.strongRecOn with
 |_ fuel ih=>
  intro cs y h hf;have hC:Tryz.prog.cellsOf 25=6:=by kernel_rfl
  obtain⟨v0,v1,v2,v3,v4,v5,y0,y1,y2,y3,y4,y5,n,rfl,rfl,⟨h0,_⟩,⟨h1,_⟩,⟨h2,f2⟩,⟨h3,f3⟩,⟨h4,f4⟩,⟨h5,f5⟩⟩:=trod_six Tryz.underlying25 (by kernel_rfl) hC h hf;obtain⟨k,e0,_,_⟩:=DataW.trod_int Tryz.underlying3 h0;obtain⟨z,e1,_,hz⟩:=DataW.trod_int Tryz.underlying2 h1;obtain⟨s,e2,hx2,hs⟩:=DataW.trod_string Tryz.underlying9 h2;obtain⟨m,hm,hml,_⟩:=open_ints h3 f3;have ih':∀n',n'<n→∀cs y,DataW.trod enc Tryz.prog w base spare held n' 25 cs=some y→Fits Tryz.prog 25 y.1→∃(d:D) (vm vl vt:Value),cs=[.int .i64 d.k,.int .i64 d.n,.string d.s,vm,vl,vt]∧Wf d∧Rep (fun _=>True) w d vm vl vt:=fun n' hn=>ih n' (by omega)
  obtain⟨l,hl,hll,hlw⟩:=open_data h4 f4 ih';obtain⟨t,ht,htl,htw⟩:=open_data h5 f5 ih';obtain rfl:v0= .int .i64 k:=by simpa using e0
  obtain rfl:v1= .int .i64 z:=by simpa using e1
  obtain rfl:v2= .string s:=by simpa using e2
  have hz':(decide (IntKind.i64.min≤z)&&decide (z≤IntKind.i64.max))=true:=hz;rw[show IntKind.i64.min= -9223372036854775808 by decide,show IntKind.i64.max=9223372036854775807 by decide]at hz';simp only[Bool.and_eq_true,decide_eq_true_eq]at hz';have hs2:s.size≤140737488355328:=by
   have hr:reachBytes=140737488351232:=by decide
   have h9:=f2 s.data.toList.length (by rw[hx2];simp[DataW.weights]);have e9:s.data.toList.length=s.size:=by rw[Array.length_toList];rfl
   omega
  refine⟨.mk k z s m l t,v3,v4,v5,rfl,?_,(rep_iff _ _ _ _ _ _).2 ⟨hm,hl,ht⟩⟩;rw[Wf];exact⟨hz',hs2,hml,hll,htl,hlw,htw⟩
end
end Dt
end Go.Proofs.YtfjmlfbohenmfaaGreat
namespace Go.Proofs.YtfjmlfbohenmfaaGreat
open Go.Joins Go.ChangeShapes Go.WideShapes Go.RowKit Go.Deep
namespace Cd
open Dt
section
variable {H:Type} {enc:TypeId×Value→H} {P:Program} {w:World} {base:Nat} {spare:Nat→Bool} {held:Bool}
end
end Cd
end Go.Proofs.YtfjmlfbohenmfaaGreat
namespace Go.Proofs.YtfjmlfbohenmfaaGreat
open Go.RowKit
attribute [local go_sem] Oper.semAt_some
namespace Cd
open Dt
end Cd
end Go.Proofs.YtfjmlfbohenmfaaGreat
namespace Go.Proofs.YtfjmlfbohenmfaaGreat
namespace Cd
end Cd
end Go.Proofs.YtfjmlfbohenmfaaGreat
namespace Go.Proofs.YtfjmlfbohenmfaaGreat
open Go.RowKit
namespace Cd
open Dt
end Cd
end Go.Proofs.YtfjmlfbohenmfaaGreat
namespace Go.Proofs.YtfjmlfbohenmfaaGreat
open Go.RowKit
attribute [local go_sem] Oper.semAt_some
def Cd.sizeD(x:Dt.D):Nat:=if Dt.check x=0 then(Dt.pre x).length else 0
theorem rSize_any{F:Nat→Prop}(x:Dt.D)(vm vl vt:Value)(w:World)(hW:Dt.Wf x)(hR:Dt.Rep F w x vm vl vt):
  Calls Tryz.prog 33 #[.agg #[.int .i64 x.k,.int .i64 x.n,.string x.s,vm,vl,vt]] w fun e w'=>e= .returned (.int .i64 (Cd.sizeD x:Nat))∧Below w.heap.size w w':=by
 have hb0:Below w.heap.size w (w.alloc (.cells #[.int .i64 x.k,.int .i64 x.n,.string x.s,vm,vl,vt] 25)):=(Below.refl _ _).alloc (Nat.le_refl _) _;have hw:=rAll_any x vm vl vt _ hW (hR.below hb0);have HB:=hd hb0;obtain⟨a1,n1,q1,a2,n2,q2,a3,n3,q3,rfl,rfl,rfl⟩:=hR.forms;clear hR hW hb0;go_enter Tryz.func33,Tryz.ntmps33;go_wp2_with fail
 refine hw.mono ?_;rintro e w1 ⟨vp,ls,rfl,hK,hp,hd,hl,hb1⟩;obtain⟨ap,cp,rfl⟩:=Dt.row_form hK;have HL:Hid ((ls.length:Int)=(Cd.sizeD x:Nat)):=by
  show _=_;unfold Cd.sizeD;rw[←List.length_map (f:=Dt.P.d),hd];split <;> rfl
 have HB1:Hid (Below w.heap.size w w1):=btr HB.out hb1;clear hw hK hp hd hl hb1;go_wp2;go_ret;exact⟨by rw[HL.out];rfl,HB1.out⟩
end Go.Proofs.YtfjmlfbohenmfaaGreat
namespace Go.Proofs.YtfjmlfbohenmfaaGreat
open Go.RowKit Go.Sort
namespace Lx
theorem infoTok:(Tryz.prog.info? 144).map (fun i=>(i.zero,i.size,i.bytes))=some (some (.agg #[.int .i64 0,.int .i64 0,.int .i64 0,.int .i64 0,.string ⟨#[]⟩]),5,48):=by kernel_rfl
def cells5(p:PTok):List Value:=[.int .i64 p.t.k,.int .i64 (p.at_:Int),.int .i64 (p.to:Int),.int .i64 p.t.n,.string ⟨p.t.s.toArray⟩]
def flatT(l:List PTok):List Value:=l.flatMap cells5
def app(acc:List PTok)(r:List PTok×Nat×Int):List PTok×Nat×Int:=if r.2.2=0 then(acc++r.1,0,0)else([],r.2.1,r.2.2)
def WordsPost(W:List PTok×Nat×Int)(w:World)(e:Ending)(w':World):Prop:=
 Below w.heap.size w w'∧((W.2.2=0∧∃v,e= .returned (.tuple #[v,.int .i64 0,.int .i64 0])∧w'.ownsRow w.heap.size 144 5 v W.1.length (flatT W.1))
  ∨(W.2.2≠0∧e= .returned (.tuple #[.slice none 0 0,.int .i64 (W.2.1:Int),.int .i64 W.2.2])))
theorem WordsPost.err{W:List PTok×Nat×Int}{w w':World}{e:Ending}(p:Nat)(c:Int)(h:W=([],p,c))(hc:c≠0)(hb:Below w.heap.size w w')(he:e= .returned (.tuple #[.slice none 0 0,.int .i64 (p:Int),.int .i64 c])):WordsPost W w e w':=by
 subst h;exact⟨hb,.inr ⟨hc,he⟩⟩
theorem ok_int(c:UInt8):okByte c=(decide ((c.toNat:Int)≤126)&&(decide (32≤(c.toNat:Int))||white c)):=by
 unfold okByte
 congr 1
 ·rw[decide_eq_decide];omega
 ·congr 1
  rw[decide_eq_decide];omega
theorem all_ok(s:ByteArray)(h:∀j,(hj:j<s.size)→okByte s[j]=true):s.data.toList.all okByte=true:=by
 rw[List.all_eq_true];intro x hx;obtain⟨i,hi,rfl⟩:=List.getElem_of_mem hx;exact h i (by rw[←Fx.size_toList];exact hi)
theorem five_new(w:World)(k a z m:Int)(x:ByteArray)(ty:TypeId):∀j u,[.int .i64 k,.int .i64 a,.int .i64 z,.int .i64 m,.string x][j]?=some u→(w.alloc (.cells #[.int .i64 k,.int .i64 a,.int .i64 z,.int .i64 m,.string x] ty)).cell? ((⟨w.heap.size,0,none⟩:Addr).add j)=some u:=by
 intro j u h;have T:=TkAt.alloc w k a z m x ty
 match j,h with
 |0,h=>simp at h;subst h;simp[Addr.add]
 |1,h=>simp at h;subst h;simp[Addr.add]
 |2,h=>simp at h;subst h;simp[Addr.add]
 |3,h=>simp at h;subst h;simp[Addr.add]
 |4,h=>simp at h;subst h;simp[Addr.add]
 |j+5,h=>simp at h
theorem words_step(N f c:Nat)(t:List UInt8):words N (f+1) c t=
  if(gap t.length t).2=false then([],N - (gap t.length t).1.length,31)
  else if(gap t.length t).1=[]then([],0,0)
  else if c=4096 then([],N - (gap t.length t).1.length,3)
  else match word (gap t.length t).1 with
   | .err e=>([],N - (gap t.length t).1.length,e)
   | .tok k rest=>if(words N f (c+1) rest).2.2=0 then(⟨N - (gap t.length t).1.length,N - rest.length,k⟩ :: (words N f (c+1) rest).1,0,0)else([],(words N f (c+1) rest).2.1,(words N f (c+1) rest).2.2):=rfl
theorem words_norm(N f c:Nat)(t:List UInt8):app [] (words N f c t)=words N f c t:=by
 cases f with
 |zero=>rfl
 |succ f=>
  rw[words_step];split
  ·rfl
  ·split
   ·rfl
   ·split
    ·rfl
    ·split
     ·rename_i e he;unfold app;rw[if_neg (word_err _ _ he)]
     ·split
      ·unfold app;simp
      ·rename_i h;unfold app;rw[if_neg h]
theorem app_err(acc:List PTok)(p:Nat)(c:Int)(hc:c≠0):app acc ([],p,c)=([],p,c):=by
 unfold app;rw[if_neg hc]
theorem app_cons(acc:List PTok)(q:PTok)(r:List PTok×Nat×Int):app acc (if r.2.2=0 then(q :: r.1,0,0)else([],r.2.1,r.2.2))=app (acc++[q]) r:=by
 unfold app;by_cases h:r.2.2=0
 ·rw[if_pos h,if_pos h];simp
 ·rw[if_neg h,if_neg h,if_neg h]
theorem flat_app(l:List PTok)(q:PTok):flatT (l++[q])=flatT l++cells5 q:=by
 unfold flatT;simp
end Lx
namespace Lx
end Lx
namespace Lx
def Row(w:World)(v:Value)(l:List PTok):Prop:=
 (v= .slice none 0 0∧l=[])∨∃g cap,v= .slice (some ⟨g,0,none⟩) l.length cap∧∀j u,(flatT l)[j]?=some u→w.cell? ⟨g,j,none⟩=some u
theorem flat_at:∀(l:List PTok) (k:Nat) (h:k<l.length) (i:Nat),i<5→(flatT l)[k*5+i]?=(cells5 l[k])[i]?:=by
 intro l
 induction l with
 |nil=>intro k h;exact absurd h (by simp)
 |cons a l ih=>
  intro k h i hi;have e:flatT (a :: l)=cells5 a++flatT l:=rfl;rw[e];have h5:(cells5 a).length=5:=rfl
  cases k with
  |zero=>rw[List.getElem?_append_left (by omega)];simp
  |succ k=>
   rw[List.getElem?_append_right (by omega),h5,show(k+1)*5+i - 5=k*5+i by omega];simpa using ih k (by simpa using h) i hi
theorem Row.five{w:World}{g:Nat}{l:List PTok}(hc:∀j u,(flatT l)[j]?=some u→w.cell? ⟨g,j,none⟩=some u)(k:Nat)(h:k<l.length):
  w.cell? ⟨g,k*5,none⟩=some (.int .i64 l[k].t.k)∧w.cell? ⟨g,k*5+1,none⟩=some (.int .i64 (l[k].at_:Int))∧w.cell? ⟨g,k*5+2,none⟩=some (.int .i64 (l[k].to:Int))∧w.cell? ⟨g,k*5+3,none⟩=some (.int .i64 l[k].t.n)∧w.cell? ⟨g,k*5+4,none⟩=some (.string ⟨l[k].t.s.toArray⟩):=
 ⟨hc _ _ (flat_at l k h 0 (by omega)),hc _ _ (flat_at l k h 1 (by omega)),hc _ _ (flat_at l k h 2 (by omega)),hc _ _ (flat_at l k h 3 (by omega)),hc _ _ (flat_at l k h 4 (by omega))⟩
end Lx
end Go.Proofs.YtfjmlfbohenmfaaGreat
namespace Go.Proofs.YtfjmlfbohenmfaaGreat
open Go.RowKit Go.Sort Go.Shelf
attribute [local go_sem] Oper.semAt_some
namespace Lx
end Lx
end Go.Proofs.YtfjmlfbohenmfaaGreat
namespace Go.Proofs.YtfjmlfbohenmfaaGreat
open Go.RowKit
namespace Co
open Dt Lx
def awTA:ByteArray:=⟨#[40,108,97,109,98,100,97,32,40,49,41,32,40,99,97,108,108,32,40,103,108,111,98,97,108,32,99,97,114,41,32,40,108,111,99,97,108,32,49,41,41,41]⟩
def awTB:ByteArray:=⟨#[40,108,97,109,98,100,97,32,40,50,41,32,40,99,97,108,108,32,40,103,108,111,98,97,108,32,99,97,114,41,32,40,108,111,99,97,108,32,50,41,41,41]⟩
def awD(n:Int):D:=lstD [symD ⟨#[108,97,109,98,100,97]⟩,lstD [fixD n],lstD [symD ⟨#[99,97,108,108]⟩,lstD [symD ⟨#[103,108,111,98,97,108]⟩,symD ⟨#[99,97,114]⟩],lstD [symD ⟨#[108,111,99,97,108]⟩,fixD n]]]
def awC(n:Int):C:=asC (awD n)
theorem aw_lexA:Lx.lex awTA.data.toList=((Lx.lex awTA.data.toList).1,0,0):=by kernel_rfl
theorem aw_lexB:Lx.lex awTB.data.toList=((Lx.lex awTB.data.toList).1,0,0):=by kernel_rfl
theorem aw_lenA:(Lx.lex awTA.data.toList).1.length=17:=by kernel_rfl
theorem aw_lenB:(Lx.lex awTB.data.toList).1.length=17:=by kernel_rfl
theorem aw_rdA:rdD 30 (Lx.lex awTA.data.toList).1=some (awD 1,[]):=by kernel_rfl
theorem aw_rdB:rdD 30 (Lx.lex awTB.data.toList).1=some (awD 2,[]):=by kernel_rfl
theorem aw_wf(n:Int)(h: -100≤n∧n≤100):Dt.Wf (awD n):=by
 unfold awD;simp[symD,fixD,lstD,Dt.Wf,Dt.Wfs,ByteArray.size];omega
theorem aw_fine(n:Int):Dt.Fine (awD n):=by
 unfold awD;simp[symD,fixD,lstD,Dt.Fine,Dt.Fines]
theorem aw_ckA:Dt.check (awD 1)=0:=by kernel_rfl
theorem aw_ckB:Dt.check (awD 2)=0:=by kernel_rfl
theorem aw_gdA:goodF 9 (awD 1)=true:=by kernel_rfl
theorem aw_gdB:goodF 9 (awD 2)=true:=by kernel_rfl
theorem aw_datum:datumC (awC 1)=(awD 1,0):=by kernel_rfl
theorem aw_size:Cd.sizeD (awD 1)=12:=by kernel_rfl
theorem aw_check:check (awC 1) []=0:=by kernel_rfl
theorem aw_alike:alike (awC 1) (awC 2)=true:=by kernel_rfl
theorem aw_same:same (awC 1) (awC 2)=false:=by kernel_rfl
theorem aw_glob:globV (awC 1)=[[99,97,114]]:=by kernel_rfl
theorem aw_allA:(all (awC 1)).isEmpty=false:=by kernel_rfl
theorem aw_allB:(all (awC 2)).isEmpty=false:=by kernel_rfl
def awE(n:Int):C:= .mk 8 0 ⟨#[]⟩ zD [n] [.mk 10 0 ⟨#[]⟩ zD [] [.mk 3 0 ⟨#[99,97,114]⟩ zD [] [],.mk 2 n ⟨#[]⟩ zD [] []]]
theorem aw_eqA:awC 1=awE 1:=by kernel_rfl
theorem aw_eqB:awC 2=awE 2:=by kernel_rfl
theorem aw_cwf(n:Int)(h: -100≤n∧n≤100):Wf (awE n):=by
 unfold awE zD;simp[Wf,Wfs,Dt.Wf,Dt.Wfs,ByteArray.size];omega
end Co
theorem rIn_any(n:Int)(w:World):
  Calls Tryz.prog 164 #[.int .i64 n] w fun e w'=>e= .returned (.bool (Fx.isF n))∧w=w':=by
 by_cases h: -1152921504606846976≤n
 ·go_enter Tryz.func164,Tryz.ntmps164;go_wp2;go_ret;exact⟨by simp[Fx.isF,h],rfl⟩
 ·go_enter Tryz.func164,Tryz.ntmps164;go_wp2;go_ret;exact⟨by simp[Fx.isF];omega,rfl⟩
theorem got_any(n:Int)(w:World):
  Calls Tryz.prog 179 #[.int .i64 n] w fun e w'=>e= .returned (.tuple #[.int .i64 (Fx.fitsV n).1,.int .i64 (Fx.fitsV n).2])∧w=w':=by
 cases h:Fx.isF n
 ·have e1:=hd (show Fx.fitsV n=(0,10)by simp[Fx.fitsV,h]);go_enter Tryz.func179,Tryz.ntmps179;go_wp2_with(go_at_call 164;refine(rIn_any _ _).mono ?_;rintro e w' ⟨rfl,rfl⟩)
  go_ret2
  exact⟨Fx.R_mk e1.out,rfl⟩
 ·have e1:=hd (show Fx.fitsV n=(n,0)by simp[Fx.fitsV,h]);go_enter Tryz.func179,Tryz.ntmps179;go_wp2_with(go_at_call 164;refine(rIn_any _ _).mono ?_;rintro e w' ⟨rfl,rfl⟩)
  go_ret2
  exact⟨Fx.R_mk e1.out,rfl⟩
namespace Fx
end Fx
namespace Fx
end Fx
namespace Fx
theorem get_drop(s:ByteArray)(at_:Nat):(s.data.toList.drop at_).all isD=true↔∀j (h:j<s.size),at_≤j→isD s[j]=true:=by
  rw[List.all_eq_true];constructor
  · intro H j h hj
    refine H s[j] ?_;rw[List.mem_iff_getElem];refine⟨j - at_,by rw[List.length_drop,size_toList];omega,?_⟩;rw[List.getElem_drop];have e:at_+(j - at_)=j:=by omega
    simp only[e]
    rfl
  · intro H x hx
    obtain⟨i,hi,rfl⟩:=List.getElem_of_mem hx;rw[List.getElem_drop];rw[List.length_drop,size_toList]at hi;exact H (at_+i) (by omega) (by omega)
def allFrom(s:ByteArray)(at_:Nat):Bool:=(s.data.toList.drop at_).all isD
def pre(s:ByteArray)(at_ k:Nat):List UInt8:=(s.data.toList.take k).drop at_
theorem pre_snoc(s:ByteArray)(at_ k:Nat)(h:k<s.size)(ha:at_≤k):pre s at_ (k+1)=pre s at_ k++[s[k]]:=by
  unfold pre;rw[take_snoc s k h,List.drop_append_of_le_length (by rw[List.length_take,size_toList];omega)]
theorem pre_end(s:ByteArray)(at_:Nat):pre s at_ s.size=s.data.toList.drop at_:=by
  unfold pre;rw[List.take_of_length_le (by rw[size_toList];exact Nat.le_refl _)]
theorem val_mono(l m:List UInt8):val l≤val (l++m):=by
  induction m generalizing l with
  |nil=>simp
  | cons c m ih =>
    have:=ih (l++[c]);rw[val_snoc,List.append_assoc]at this;exact Nat.le_trans (by omega) this
theorem pre_le(s:ByteArray)(at_ k:Nat)(hk:k≤s.size):val (pre s at_ k)≤val (s.data.toList.drop at_):=by
  unfold pre;by_cases h:at_≤k
  · have:s.data.toList.drop at_=(s.data.toList.take k).drop at_++s.data.toList.drop k:=by
      rw[←List.drop_append_of_le_length (by rw[List.length_take,size_toList];omega),List.take_append_drop]
    rw[this];exact val_mono _ _
  · rw[List.drop_eq_nil_of_le (by rw[List.length_take];omega)]
    simp[val]
theorem val_ge(c:UInt8)(l:List UInt8)(hc:1≤c.toNat - 48)(_h:l.all isD=true):10 ^ l.length≤val (c :: l):=by
  have key:∀(l:List UInt8) (v k:Nat),10 ^ k≤v→10 ^ (k+l.length)≤l.foldl (fun v c=>10*v+(c.toNat - 48)) v:=by
    intro l
    induction l with
    |nil=>intro v k hv;simpa using hv
    | cons d l ih =>
      intro v k hv;rw[List.foldl_cons,List.length_cons,show k+(l.length+1)=(k+1)+l.length from by omega];refine ih _ _ ?_;rw[Nat.pow_succ];omega
  have:=key l (10*0+(c.toNat - 48)) 0 (by simpa using hc);rw[Nat.zero_add]at this;exact this
end Fx
theorem b2(p q:Bool)(h:p=q):Ending.returned (.bool p)= .returned (.bool q):=by rw[h]
theorem Form_plain(s:ByteArray)(w:World)(hs:s.size≤9223372036854775807)(h0:0<s.size)(hm:((s[0].toNat:Int)==45)=false)(hz:((s[0].toNat:Int)==48)=false):
    Calls Tryz.prog 178 #[.string s] w fun e w'=>e= .returned (.bool (Fx.allFrom s 0))∧w=w':=by
  have hne':0<(s.size:Int):=by omega
  have hne0:((s.size:Int)==0)=false:=beq_eq_false_iff_ne.2 (by omega);go_enter Tryz.func178,Tryz.ntmps178;go_wp2
  go_loop [4] (fun i=>∃k:Nat,0≤k∧k≤s.size∧i= .int .i64 k∧Hid (∀j (h:j<s.size),0≤j→j<k→Fx.isD s[j]=true)) (fun i=>s.size - (intOf i).toNat)
  case atStart=>exact⟨0,Nat.le_refl _,by omega,rfl,fun j _ h1 h2=>absurd h2 (by omega)⟩
  case round=>
    obtain⟨k,hak,hk,rfl,HA⟩:=hrel;by_cases hlt:k<s.size
    · cases hD:Fx.isD s[k]
      · have e1:Hid (Fx.allFrom s 0=false):=by
          show Fx.allFrom s _=false;rw[Bool.eq_false_iff];intro h;have:=(Fx.get_drop s 0).1 h k hlt hak;rw[hD]at this;cases this
        have hc:s[k].toNat<48∨57<s[k].toNat:=by simp[Fx.isD]at hD;omega
        clear hD;rcases hc with hc|hc
        · have hc':((s[k].toNat:Nat):Int)<48:=by omega
          clear hc;go_wp2;go_ret;exact⟨b2 _ _ e1.out.symm,rfl⟩
        · have hc':57<((s[k].toNat:Nat):Int):=by omega
          clear hc;go_wp2;go_ret;exact⟨b2 _ _ e1.out.symm,rfl⟩
      · have hc:48≤s[k].toNat∧s[k].toNat≤57:=by simpa[Fx.isD]using hD
        have hc1:48≤((s[k].toNat:Nat):Int):=by omega
        have hc2:((s[k].toNat:Nat):Int)≤57:=by omega
        have HA2:Hid (∀j (h:j<s.size),0≤j→j<k+1→Fx.isD s[j]=true):=fun j h h1 hj=>by
          by_cases hjk:j=k
          · subst hjk;exact hD
          · exact HA.out j h h1 (by omega)
        clear hD hc;go_wp2
        go_round
        case rel=>exact⟨k+1,by omega,by omega,by go_num,HA2⟩
        case measure=>simp[intOf];omega
    · have e1:Hid (Fx.allFrom s 0=true):=(Fx.get_drop s 0).2 (fun j h h1=>HA.out j h h1 (by omega))
      go_wp2;go_ret;exact⟨b2 _ _ e1.out.symm,rfl⟩
theorem Form_zero(s:ByteArray)(w:World)(hs:s.size≤9223372036854775807)(h0:s.size=1)(h00:0<s.size)(hz:((s[0].toNat:Int)==48)=true):
    Calls Tryz.prog 178 #[.string s] w fun e w'=>e= .returned (.bool (Fx.allFrom s 0))∧w=w':=by
  have hm:((s[0].toNat:Int)==45)=false:=by
    have:(s[0].toNat:Int)=48:=by simpa using hz
    rw[this];decide
  have h0a:s.size≤1:=by omega
  have h0b:(s.size:Int)≤1:=by omega
  clear h0;have hne':0<(s.size:Int):=by omega
  have hne0:((s.size:Int)==0)=false:=beq_eq_false_iff_ne.2 (by omega);go_enter Tryz.func178,Tryz.ntmps178;go_wp2
  go_loop [4] (fun i=>∃k:Nat,0≤k∧k≤s.size∧i= .int .i64 k∧Hid (∀j (h:j<s.size),0≤j→j<k→Fx.isD s[j]=true)) (fun i=>s.size - (intOf i).toNat)
  case atStart=>exact⟨0,Nat.le_refl _,by omega,rfl,fun j _ h1 h2=>absurd h2 (by omega)⟩
  case round=>
    obtain⟨k,hak,hk,rfl,HA⟩:=hrel;by_cases hlt:k<s.size
    · cases hD:Fx.isD s[k]
      · have e1:Hid (Fx.allFrom s 0=false):=by
          show Fx.allFrom s _=false;rw[Bool.eq_false_iff];intro h;have:=(Fx.get_drop s 0).1 h k hlt hak;rw[hD]at this;cases this
        have hc:s[k].toNat<48∨57<s[k].toNat:=by simp[Fx.isD]at hD;omega
        clear hD;rcases hc with hc|hc
        · have hc':((s[k].toNat:Nat):Int)<48:=by omega
          clear hc;go_wp2;go_ret;exact⟨b2 _ _ e1.out.symm,rfl⟩
        · have hc':57<((s[k].toNat:Nat):Int):=by omega
          clear hc;go_wp2;go_ret;exact⟨b2 _ _ e1.out.symm,rfl⟩
      · have hc:48≤s[k].toNat∧s[k].toNat≤57:=by simpa[Fx.isD]using hD
        have hc1:48≤((s[k].toNat:Nat):Int):=by omega
        have hc2:((s[k].toNat:Nat):Int)≤57:=by omega
        have HA2:Hid (∀j (h:j<s.size),0≤j→j<k+1→Fx.isD s[j]=true):=fun j h h1 hj=>by
          by_cases hjk:j=k
          · subst hjk;exact hD
          · exact HA.out j h h1 (by omega)
        clear hD hc;go_wp2
        go_round
        case rel=>exact⟨k+1,by omega,by omega,by go_num,HA2⟩
        case measure=>simp[intOf];omega
    · have e1:Hid (Fx.allFrom s 0=true):=(Fx.get_drop s 0).2 (fun j h h1=>HA.out j h h1 (by omega))
      go_wp2;go_ret;exact⟨b2 _ _ e1.out.symm,rfl⟩
theorem Form_minus(s:ByteArray)(w:World)(hs:s.size≤9223372036854775807)(h0:1<s.size)(hm:((s[0].toNat:Int)==45)=true)(hz:((s[1].toNat:Int)==48)=false):
    Calls Tryz.prog 178 #[.string s] w fun e w'=>e= .returned (.bool (Fx.allFrom s 1))∧w=w':=by
  have hne':0<(s.size:Int):=by omega
  have hne0:((s.size:Int)==1)=false:=beq_eq_false_iff_ne.2 (by omega);have hne1:1<(s.size:Int):=by omega
  go_enter Tryz.func178,Tryz.ntmps178;go_wp2
  go_loop [4] (fun i=>∃k:Nat,1≤k∧k≤s.size∧i= .int .i64 k∧Hid (∀j (h:j<s.size),1≤j→j<k→Fx.isD s[j]=true)) (fun i=>s.size - (intOf i).toNat)
  case atStart=>exact⟨1,Nat.le_refl _,by omega,rfl,fun j _ h1 h2=>absurd h2 (by omega)⟩
  case round=>
    obtain⟨k,hak,hk,rfl,HA⟩:=hrel;by_cases hlt:k<s.size
    · cases hD:Fx.isD s[k]
      · have e1:Hid (Fx.allFrom s 1=false):=by
          show Fx.allFrom s _=false;rw[Bool.eq_false_iff];intro h;have:=(Fx.get_drop s 1).1 h k hlt hak;rw[hD]at this;cases this
        have hc:s[k].toNat<48∨57<s[k].toNat:=by simp[Fx.isD]at hD;omega
        clear hD;rcases hc with hc|hc
        · have hc':((s[k].toNat:Nat):Int)<48:=by omega
          clear hc;go_wp2;go_ret;exact⟨b2 _ _ e1.out.symm,rfl⟩
        · have hc':57<((s[k].toNat:Nat):Int):=by omega
          clear hc;go_wp2;go_ret;exact⟨b2 _ _ e1.out.symm,rfl⟩
      · have hc:48≤s[k].toNat∧s[k].toNat≤57:=by simpa[Fx.isD]using hD
        have hc1:48≤((s[k].toNat:Nat):Int):=by omega
        have hc2:((s[k].toNat:Nat):Int)≤57:=by omega
        have HA2:Hid (∀j (h:j<s.size),1≤j→j<k+1→Fx.isD s[j]=true):=fun j h h1 hj=>by
          by_cases hjk:j=k
          · subst hjk;exact hD
          · exact HA.out j h h1 (by omega)
        clear hD hc;go_wp2
        go_round
        case rel=>exact⟨k+1,by omega,by omega,by go_num,HA2⟩
        case measure=>simp[intOf];omega
    · have e1:Hid (Fx.allFrom s 1=true):=(Fx.get_drop s 1).2 (fun j h h1=>HA.out j h h1 (by omega))
      go_wp2;go_ret;exact⟨b2 _ _ e1.out.symm,rfl⟩
theorem Form_empty(s:ByteArray)(w:World)(hs:s.size≤9223372036854775807)(h0:s=⟨#[]⟩):
    Calls Tryz.prog 178 #[.string s] w fun e w'=>e= .returned (.bool false)∧w=w':=by
  subst h0;go_enter Tryz.func178,Tryz.ntmps178;go_wp2;go_ret;exact⟨rfl,rfl⟩
theorem Form_lead(s:ByteArray)(w:World)(hs:s.size≤9223372036854775807)(h0:1<s.size)(h00:0<s.size)(hz:((s[0].toNat:Int)==48)=true):
    Calls Tryz.prog 178 #[.string s] w fun e w'=>e= .returned (.bool false)∧w=w':=by
  have hm:((s[0].toNat:Int)==45)=false:=by
    have:(s[0].toNat:Int)=48:=by simpa using hz
    rw[this];decide
  have hne':0<(s.size:Int):=by omega
  have hne0:((s.size:Int)==0)=false:=beq_eq_false_iff_ne.2 (by omega);have hne1:1<(s.size:Int):=by omega
  go_enter Tryz.func178,Tryz.ntmps178;go_wp2;go_ret;exact⟨rfl,rfl⟩
theorem Form_sign(s:ByteArray)(w:World)(_hs:s.size≤9223372036854775807)(h0:0<s.size)(hm:((s[0].toNat:Int)==45)=true)(h1:s.size=1):
    Calls Tryz.prog 178 #[.string s] w fun e w'=>e= .returned (.bool false)∧w=w':=by
  have hne:((s.size:Int)==1)=true:=beq_iff_eq.2 (by omega);have hne':0<(s.size:Int):=by omega
  clear h1;go_enter Tryz.func178,Tryz.ntmps178;go_wp2;go_ret;exact⟨rfl,rfl⟩
theorem Form_slead(s:ByteArray)(w:World)(hs:s.size≤9223372036854775807)(h0:1<s.size)(hm:((s[0].toNat:Int)==45)=true)(hz:((s[1].toNat:Int)==48)=true):
    Calls Tryz.prog 178 #[.string s] w fun e w'=>e= .returned (.bool false)∧w=w':=by
  have hne':0<(s.size:Int):=by omega
  have hne0:((s.size:Int)==1)=false:=beq_eq_false_iff_ne.2 (by omega);have hne1:1<(s.size:Int):=by omega
  go_enter Tryz.func178,Tryz.ntmps178;go_wp2;go_ret;exact⟨rfl,rfl⟩
theorem Fx.at_eq(s:ByteArray)(h0:0<s.size)(k:Nat)(hk:k<256):((s[0].toNat:Int)==(k:Int))=(s.data.toList.head?==some (UInt8.ofNat k)):=by
  rw[Fx.at0 s h0];by_cases h:s[0].toNat=k
  · have e:s[0]=UInt8.ofNat k:=UInt8.toNat_inj.1 (by rw[h];simp;omega)
    rw[beq_iff_eq.2 (show(s[0].toNat:Int)=k by omega),e];simp
  · have e:s[0]≠UInt8.ofNat k:=fun e=>h (by rw[e];simp;omega)
    rw[beq_eq_false_iff_ne.2 (show(s[0].toNat:Int)≠k by omega)];exact(beq_eq_false_iff_ne.2 (fun h=>e (by injection h))).symm
theorem Fx.cases(s:ByteArray)(P:Prop)
    (empty:s=⟨#[]⟩→P)
    (sign:∀h0:0<s.size,s.size=1→((s[0].toNat:Int)==45)=true→Fx.form s.data.toList=false→P)
    (slead:∀h1:1<s.size,((s[0].toNat:Int)==45)=true→((s[1].toNat:Int)==48)=true→Fx.form s.data.toList=false→P)
    (minus:∀h1:1<s.size,((s[0].toNat:Int)==45)=true→((s[1].toNat:Int)==48)=false→Fx.form s.data.toList=Fx.allFrom s 1→Fx.dig s.data.toList=s.data.toList.drop 1→Fx.neg s.data.toList=true→P)
    (lead:∀h0:0<s.size,1<s.size→((s[0].toNat:Int)==48)=true→Fx.form s.data.toList=false→P)
    (zero:∀h0:0<s.size,s.size=1→((s[0].toNat:Int)==48)=true→Fx.form s.data.toList=Fx.allFrom s 0→Fx.dig s.data.toList=s.data.toList.drop 0→Fx.neg s.data.toList=false→P)
    (plain:∀h0:0<s.size,((s[0].toNat:Int)==45)=false→((s[0].toNat:Int)==48)=false→Fx.form s.data.toList=Fx.allFrom s 0→Fx.dig s.data.toList=s.data.toList.drop 0→Fx.neg s.data.toList=false→P):P:=by
  by_cases h0:s.size=0
  · refine empty ?_
    obtain⟨⟨l⟩⟩:=s
    cases l with
    |nil=>rfl
    |cons c l=>simp[ByteArray.size]at h0
  have hp:0<s.size:=by omega
  have hl:=Fx.size_toList s;have q45:=Fx.at_eq s hp 45 (by omega);have q48:=Fx.at_eq s hp 48 (by omega);cases hm:(((s[0]'hp).toNat:Int)==45)
  · have q45':(s.data.toList.head?==some 45)=false:=q45.symm.trans hm
    have hdig:Fx.dig s.data.toList=s.data.toList:=by unfold Fx.dig;rw[if_neg (by simpa using q45')]
    have hneg:Fx.neg s.data.toList=false:=q45';have hne:s.data.toList.isEmpty=false:=by rw[List.isEmpty_eq_false_iff];intro h;rw[h]at hl;simp at hl;omega
    cases hz:(((s[0]'hp).toNat:Int)==48)
    · have q48':(s.data.toList.head?==some 48)=false:=q48.symm.trans hz
      exact plain hp hm hz (by unfold Fx.form Fx.allFrom;rw[hdig,q48',hne];simp) hdig hneg
    · have q48':(s.data.toList.head?==some 48)=true:=q48.symm.trans hz
      by_cases h1:s.size=1
      · exact zero hp h1 hz (by unfold Fx.form Fx.allFrom;rw[hdig,q48',hne,hl,h1];simp) hdig hneg
      · exact lead hp (by omega) hz (by unfold Fx.form;rw[hdig,q48',hl];simp;omega)
  · have q45':(s.data.toList.head?==some 45)=true:=q45.symm.trans hm
    have hdig:Fx.dig s.data.toList=s.data.toList.tail:=by unfold Fx.dig;rw[if_pos (by simpa using q45')]
    have hneg:Fx.neg s.data.toList=true:=q45';by_cases h1:s.size=1
    · refine sign hp h1 hm ?_
      have:s.data.toList.tail=[]:=List.eq_nil_of_length_eq_zero (by rw[List.length_tail];omega);unfold Fx.form;rw[hdig,this];rfl
    have h1':1<s.size:=by omega
    have hh:s.data.toList.tail.head?=some s[1]:=by
      rw[List.head?_eq_getElem?,List.getElem?_tail,List.getElem?_eq_getElem (by rw[hl];exact h1')]
      rfl
    have hne:s.data.toList.tail.isEmpty=false:=by rw[List.isEmpty_eq_false_iff];intro h;rw[h]at hh;cases hh
    cases hz:((s[1].toNat:Int)==48)
    · have:(some s[1]==some (48:UInt8))=false:=by
        rw[beq_eq_false_iff_ne];intro h;injection h with h;rw[h]at hz;revert hz;decide
      refine minus h1' hm hz ?_ (by rw[hdig,List.drop_one]) hneg;unfold Fx.form Fx.allFrom;rw[hdig,hh,this,hne,List.drop_one];simp
    · have h48 : s[1] = 48 := UInt8.toNat_inj.1 (by have : (s[1].toNat : Int) = 48 := by simpa using hz
                                                    have:s[1].toNat=48:=by omega
                                                    rw[this];rfl)
      refine slead h1' hm hz ?_;unfold Fx.form;rw[hdig,hh,h48,hl];simp;omega
theorem Form_any(s:ByteArray)(w:World)(hs:s.size≤9223372036854775807):
    Calls Tryz.prog 178 #[.string s] w fun e w'=>e= .returned (.bool (Fx.form s.data.toList))∧w=w':=by
  refine Fx.cases s _ (fun h=> ?_) (fun h0 h1 hm hf=> ?_) (fun h1 hm hz hf=> ?_) (fun h1 hm hz hf _ _=> ?_) (fun h0 h1 hz hf=> ?_) (fun h0 h1 hz hf _ _=> ?_) (fun h0 hm hz hf _ _=> ?_)
  · subst h;exact Form_empty _ w (by simp[ByteArray.size]) rfl
  · rw[hf];exact Form_sign s w hs h0 hm h1
  · rw[hf];exact Form_slead s w hs h1 hm hz
  · rw[hf];exact Form_minus s w hs h1 hm hz
  · rw[hf];exact Form_lead s w hs h1 h0 hz
  · rw[hf];exact Form_zero s w hs h1 h0 hz
  · rw[hf];exact Form_plain s w hs h0 hm hz
namespace Fx
theorem parse_over(s:ByteArray)(at_ k:Nat)(hf:form s.data.toList=true)(hd:dig s.data.toList=s.data.toList.drop at_)(hk:k≤s.size)(h:1152921504606846976<val (pre s at_ k)):parse s.data.toList=(0,10):=by
  have:=pre_le s at_ k hk;unfold parse;rw[if_pos hf,hd];split
  · rfl
  · unfold signedV;rw[if_pos (.inr (by omega))]
theorem parse_end(s:ByteArray)(at_:Nat)(hf:form s.data.toList=true)(hd:dig s.data.toList=s.data.toList.drop at_)(h:val (pre s at_ s.size)≤1152921504606846976):
    parse s.data.toList=fitsV (if neg s.data.toList then -(val (pre s at_ s.size):Int)else(val (pre s at_ s.size):Int)):=by
  rw[pre_end]at h ⊢;have hlen:(s.data.toList.drop at_).length≤19:=by
    apply Classical.byContradiction
    intro hc;have h3:form s.data.toList=true:=hf;unfold form at h3;rw[hd]at h3;simp only[Bool.and_eq_true,Bool.not_eq_true',List.isEmpty_eq_false_iff]at h3;obtain⟨⟨h4,h5⟩,h6⟩:=h3
    cases hl:s.data.toList.drop at_ with
    |nil=>rw[hl]at hc;simp at hc
    | cons c l =>
      rw[hl]at hc h5 h6 h;have h7:isD c=true∧l.all isD=true:=by simpa using h6
      have h8:1<s.data.toList.length:=by
        have:=congrArg List.length hl;rw[List.length_drop]at this;simp only[List.length_cons]at hc this;omega
      have h9:c≠48:=by
        intro e;subst e;rw[show((48 :: l).head?==some (48:UInt8))=true from rfl,decide_eq_true h8]at h5;cases h5
      have h10:1≤c.toNat - 48:=by
        have:=h7.1;simp[isD]at this;have:c.toNat≠48:=fun e=>h9 (UInt8.toNat_inj.1 (by rw[e];rfl))
        omega
      have h11:=val_ge c l h10 h7.2;have h12:(10:Nat) ^ 19≤10 ^ l.length:=Nat.pow_le_pow_right (by omega) (by simp at hc;omega);have h13:(10:Nat) ^ 19=10000000000000000000:=by decide
      omega
  unfold parse;rw[if_pos hf,hd,if_neg (by omega)];unfold signedV;rw[if_neg (by omega)]
end Fx
theorem rParse_minus(s:ByteArray)(w:World)(h00:0<s.size)(h20:s.size≤20)(hm:((s[0].toNat:Int)==45)=true)(hf:Fx.form s.data.toList=true)(hd:Fx.dig s.data.toList=s.data.toList.drop 1)(hn:Fx.neg s.data.toList=true)(ha:Fx.allFrom s 1=true):
    Calls Tryz.prog 177 #[.string s] w fun e w'=>e= .returned (Fx.R (Fx.parse s.data.toList))∧w=w':=by
  have HF:=hd (fun w=>Form_any s w (by omega));rw[hf]at HF;have HO:=hd (fun k=>Fx.parse_over s 1 k hf hd);have HE:=hd (Fx.parse_end s 1 hf hd);rw[hn]at HE;have HD:=hd ((Fx.get_drop s 1).1 ha);clear hf hd hn ha;have hp:0<(s.size:Int):=by omega
  go_enter Tryz.func177,Tryz.ntmps177;go_wp2_with(go_at_call 178;refine(HF.out _).mono ?_;rintro e w' ⟨rfl,rfl⟩)
  go_loop [4,5] (fun n i=>∃k v:Nat,k≤s.size∧i= .int .i64 k∧n= .int .i64 (-(v:Int))∧v≤1152921504606846976∧Hid (v=Fx.val (Fx.pre s 1 k))) (fun _ i=>s.size - (intOf i).toNat)
  case atStart=>exact⟨0,0,Nat.zero_le _,rfl,rfl,by omega,by show 0=Fx.val _;simp[Fx.pre,Fx.val]⟩
  case round=>
    obtain⟨k,v,hk,rfl,rfl,hv,HV⟩:=hrel;by_cases hlt:k<s.size
    · by_cases hk0:k=0
      · subst hk0
        have HV2:Hid (v=Fx.val (Fx.pre s 1 1)):=by
          show v=_;rw[HV.out];have:Fx.pre s 1 1=[]:=by unfold Fx.pre;rw[List.drop_eq_nil_of_le (by rw[List.length_take];omega)]
          rw[this];simp[Fx.pre,Fx.val]
        go_wp2
        go_round
        case rel=>exact⟨1,v,by omega,rfl,rfl,hv,HV2⟩
        case measure=>simp[intOf];omega
      have hka:1≤k:=by omega
      have hD:=HD.out k hlt hka;have hc:48≤s[k].toNat∧s[k].toNat≤57:=by simpa[Fx.isD]using hD
      have hs:=Fx.val_snoc (Fx.pre s 1 k) s[k];rw[←Fx.pre_snoc s 1 k hlt hka,←HV.out]at hs;have HS:=hd hs;have hc0:(((s[k].toNat:Nat):Int)==45)=false:=beq_eq_false_iff_ne.2 (by omega);have hc1:48≤((s[k].toNat:Nat):Int):=by omega
      have hc2:((s[k].toNat:Nat):Int)≤57:=by omega
      clear hs hD hc;by_cases hov:115292150460684697<v
      · have e1:=hd (HO.out (k+1) hlt (by rw[HS.out];omega))
        go_wp2
        go_ret2
        exact⟨Fx.R_mk e1.out,rfl⟩
      by_cases hov2:1152921504606846976<10*v+(s[k].toNat - 48)
      · have e1:=hd (HO.out (k+1) hlt (by rw[HS.out];omega))
        have hv2: -10*(v:Int) - (((s[k].toNat:Nat):Int) - 48)< -1152921504606846976:=by omega
        clear hov2;go_wp2
        go_ret2
        exact⟨Fx.R_mk e1.out,rfl⟩
      have hv3:10*v+(s[k].toNat - 48)≤1152921504606846976:=by omega
      have HV3:Hid (10*v+(s[k].toNat - 48)=Fx.val (Fx.pre s 1 (k+1))):=HS.out.symm;have hv2: -1152921504606846976≤ -10*(v:Int) - (((s[k].toNat:Nat):Int) - 48):=by omega
      clear hov2;go_wp2
      go_round
      case rel=>exact⟨k+1,10*v+(s[k].toNat - 48),by omega,by go_num,congrArg (Value.int .i64) (by omega),hv3,HV3⟩
      case measure=>simp[intOf];omega
    · obtain rfl:k=s.size:=by omega
      have hv':Fx.val (Fx.pre s 1 s.size)≤1152921504606846976:=by rw[←HV.out];exact hv
      have e1:=hd (HE.out hv');rw[←HV.out]at e1;have e2:Hid (Fx.parse s.data.toList=(-(v:Int),0)):=e1.out.trans (by simp only[if_true];exact Fx.fitsV_ok (Fx.isF_mk (by omega)));go_wp2
      go_ret2
      exact⟨Fx.R_mk e2.out,rfl⟩
theorem rParse_plain(s:ByteArray)(w:World)(h00:0<s.size)(h20:s.size≤20)(hm:((s[0].toNat:Int)==45)=false)(hf:Fx.form s.data.toList=true)(hd:Fx.dig s.data.toList=s.data.toList.drop 0)(hn:Fx.neg s.data.toList=false)(ha:Fx.allFrom s 0=true):
    Calls Tryz.prog 177 #[.string s] w fun e w'=>e= .returned (Fx.R (Fx.parse s.data.toList))∧w=w':=by
  have HF:=hd (fun w=>Form_any s w (by omega));rw[hf]at HF;have HO:=hd (fun k=>Fx.parse_over s 0 k hf hd);have HE:=hd (Fx.parse_end s 0 hf hd);rw[hn]at HE;have HD:=hd ((Fx.get_drop s 0).1 ha);clear hf hd hn ha;have hp:0<(s.size:Int):=by omega
  go_enter Tryz.func177,Tryz.ntmps177;go_wp2_with(go_at_call 178;refine(HF.out _).mono ?_;rintro e w' ⟨rfl,rfl⟩)
  go_loop [4,5] (fun n i=>∃k v:Nat,k≤s.size∧i= .int .i64 k∧n= .int .i64 (-(v:Int))∧v≤1152921504606846976∧Hid (v=Fx.val (Fx.pre s 0 k))) (fun _ i=>s.size - (intOf i).toNat)
  case atStart=>exact⟨0,0,Nat.zero_le _,rfl,rfl,by omega,by show 0=Fx.val _;simp[Fx.pre,Fx.val]⟩
  case round=>
    obtain⟨k,v,hk,rfl,rfl,hv,HV⟩:=hrel;by_cases hlt:k<s.size
    · have hka:0≤k:=by omega
      have hD:=HD.out k hlt hka;have hc:48≤s[k].toNat∧s[k].toNat≤57:=by simpa[Fx.isD]using hD
      have hs:=Fx.val_snoc (Fx.pre s 0 k) s[k];rw[←Fx.pre_snoc s 0 k hlt hka,←HV.out]at hs;have HS:=hd hs;have hc0:(((s[k].toNat:Nat):Int)==45)=false:=beq_eq_false_iff_ne.2 (by omega);have hc1:48≤((s[k].toNat:Nat):Int):=by omega
      have hc2:((s[k].toNat:Nat):Int)≤57:=by omega
      clear hs hD hc;by_cases hov:115292150460684697<v
      · have e1:=hd (HO.out (k+1) hlt (by rw[HS.out];omega))
        go_wp2
        go_ret2
        exact⟨Fx.R_mk e1.out,rfl⟩
      by_cases hov2:1152921504606846976<10*v+(s[k].toNat - 48)
      · have e1:=hd (HO.out (k+1) hlt (by rw[HS.out];omega))
        have hv2: -10*(v:Int) - (((s[k].toNat:Nat):Int) - 48)< -1152921504606846976:=by omega
        clear hov2;go_wp2
        go_ret2
        exact⟨Fx.R_mk e1.out,rfl⟩
      have hv3:10*v+(s[k].toNat - 48)≤1152921504606846976:=by omega
      have HV3:Hid (10*v+(s[k].toNat - 48)=Fx.val (Fx.pre s 0 (k+1))):=HS.out.symm;have hv2: -1152921504606846976≤ -10*(v:Int) - (((s[k].toNat:Nat):Int) - 48):=by omega
      clear hov2;go_wp2
      go_round
      case rel=>exact⟨k+1,10*v+(s[k].toNat - 48),by omega,by go_num,congrArg (Value.int .i64) (by omega),hv3,HV3⟩
      case measure=>simp[intOf];omega
    · obtain rfl:k=s.size:=by omega
      have hv':Fx.val (Fx.pre s 0 s.size)≤1152921504606846976:=by rw[←HV.out];exact hv
      have e1:=hd (HE.out hv');rw[←HV.out]at e1;have e2:Hid (Fx.parse s.data.toList=Fx.fitsV v):=e1.out.trans (by simp);go_wp2_with(go_at_call 179;refine(got_any _ _).mono ?_;rintro e w' ⟨rfl,rfl⟩)
      go_ret2
      exact⟨Fx.R_mk e2.out,rfl⟩
theorem rParse_form(s:ByteArray)(w:World)(hs:s.size≤9223372036854775807)(hf:Fx.form s.data.toList=false):
    Calls Tryz.prog 177 #[.string s] w fun e w'=>e= .returned (Fx.R (Fx.parse s.data.toList))∧w=w':=by
  have HF:=hd (fun w=>Form_any s w hs);rw[hf]at HF;have e1:Hid (Fx.parse s.data.toList=(0,5)):=by show _=_;unfold Fx.parse;rw[hf];rfl
  clear hf;go_enter Tryz.func177,Tryz.ntmps177;go_wp2_with(go_at_call 178;refine(HF.out _).mono ?_;rintro e w' ⟨rfl,rfl⟩)
  go_ret2
  exact⟨Fx.R_mk e1.out,rfl⟩
theorem rParse_long(s:ByteArray)(w:World)(hs:s.size≤9223372036854775807)(hf:Fx.form s.data.toList=true)(hl:20<s.size):
    Calls Tryz.prog 177 #[.string s] w fun e w'=>e= .returned (Fx.R (Fx.parse s.data.toList))∧w=w':=by
  have HF:=hd (fun w=>Form_any s w hs);rw[hf]at HF;have hdl:19<(Fx.dig s.data.toList).length:=by
    have:=Fx.size_toList s;unfold Fx.dig;split
    · rw[List.length_tail];omega
    · omega
  have e1:Hid (Fx.parse s.data.toList=(0,10)):=by show _=_;unfold Fx.parse;rw[hf,if_pos rfl,if_pos hdl]
  clear hf hdl;go_enter Tryz.func177,Tryz.ntmps177;go_wp2_with(go_at_call 178;refine(HF.out _).mono ?_;rintro e w' ⟨rfl,rfl⟩)
  go_ret2
  exact⟨Fx.R_mk e1.out,rfl⟩
theorem rParse_any(s:ByteArray)(w:World)(hs:s.size≤9223372036854775807):
    Calls Tryz.prog 177 #[.string s] w fun e w'=>e= .returned (Fx.R (Fx.parse s.data.toList))∧w=w':=by
  cases hf:Fx.form s.data.toList
  · exact rParse_form s w hs hf
  by_cases hl:20<s.size
  · exact rParse_long s w hs hf hl
  have no:Fx.form s.data.toList=false→False:=fun h=>by rw[hf]at h;cases h
  refine Fx.cases s _ (fun h=> ?_) (fun h0 h1 hm hf'=>(no hf').elim) (fun h1 hm hz hf'=>(no hf').elim) (fun h1 hm hz hf' hd hn=> ?_) (fun h0 h1 hz hf'=>(no hf').elim) (fun h0 h1 hz hf' hd hn=> ?_) (fun h0 hm hz hf' hd hn=> ?_)
  · subst h;exact(no (by decide)).elim
  · exact rParse_minus s w (by omega) (by omega) hm hf hd hn (hf'.symm.trans hf)
  · exact rParse_plain s w h0 (by omega) (by have : (s[0].toNat : Int) = 48 := by simpa using hz
                                             rw[this];decide) hf hd hn (hf'.symm.trans hf)
  · exact rParse_plain s w h0 (by omega) hm hf hd hn (hf'.symm.trans hf)
end Go.Proofs.YtfjmlfbohenmfaaGreat
namespace Go.Proofs.YtfjmlfbohenmfaaGreat
open Go.RowKit Go.Sort
namespace Lx
def TokR(s:ByteArray)(n:Nat)(r:Res)(w:World)(e:Ending)(w':World):Prop:=
 ∃(k z m:Int) (x:ByteArray) (cc:Int),e= .returned (.tuple #[.agg #[.int .i64 k,.int .i64 (n:Int),.int .i64 z,.int .i64 m,.string x],.int .i64 cc])∧Below w.heap.size w w'∧
  match r with
  | .err c=>cc=c
  | .tok t rest=>cc=0∧k=t.k∧m=t.n∧x=⟨t.s.toArray⟩∧∃y:Nat,z=(y:Int)∧y≤s.size∧rest=tl s y
theorem TokR.err{s:ByteArray}{n:Nat}{r:Res}{w w':World}{k z m cc:Int}{x:ByteArray}(hr:r= .err cc)(hb:Below w.heap.size w w'):TokR s n r w (.returned (.tuple #[.agg #[.int .i64 k,.int .i64 (n:Int),.int .i64 z,.int .i64 m,.string x],.int .i64 cc])) w':=
 ⟨k,z,m,x,cc,rfl,hb,by rw[hr]⟩
theorem TokR.tok{s:ByteArray}{n y:Nat}{r:Res}{w w':World}{k m:Int}{x:List UInt8}{X:ByteArray}{z:Int}(hr:r= .tok ⟨k,m,x⟩ (tl s y))(hX:X=⟨x.toArray⟩)(hz:z=(y:Int))(hy:y≤s.size)(hb:Below w.heap.size w w'):TokR s n r w (.returned (.tuple #[.agg #[.int .i64 k,.int .i64 (n:Int),.int .i64 z,.int .i64 m,.string X],.int .i64 0])) w':=
 ⟨k,z,m,X,0,rfl,hb,by rw[hr];exact⟨rfl,rfl,rfl,hX,y,hz,hy,rfl⟩⟩
theorem bel2(w:World)(o p:Obj):Below w.heap.size w ((w.alloc o).alloc p):=((Below.refl _ _).alloc (Nat.le_refl _) _).alloc (by simp) _
def lf(c:UInt8):Bool:=low c||figure c
theorem nameLen_low(s:ByteArray)(b j:Nat)(hj:0<j)(hk:b+j≤s.size)(hl:low (pk (tl s b) 0)=true)(hin:∀i,i<j→(h:b+i<s.size)→lf s[b+i]=true)(hout:(h:b+j<s.size)→lf s[b+j]=false):nameLen (tl s b)=j:=by
 have h:=run_len lf s b (b+j) (by omega) hk (fun i h1 h2=>by
  have:=hin (i - b) (by omega) (by omega);simpa only[show b+(i - b)=i by omega]using this) (fun h=>hout h)
 unfold nameLen;rw[if_pos hl];have h0:=hin 0 hj (by omega);rw[tl_cons s b (by omega)]at h ⊢;rw[List.takeWhile_cons_of_pos (by simpa using h0),List.length_cons]at h;rw[List.tail_cons];show 1+((tl s (b+1)).takeWhile lf).length=j;omega
theorem low_white(c:UInt8)(h:low c=true):white c=false:=by
 have:=all_bytes (fun c=> !low c|| !white c) (fun _=>true) (by decide+kernel) c;simpa[h]using this
theorem str_ne(d:ByteArray)(l:List UInt8)(n:Nat)(hl:l.length=n)(h:d.size≠n):(d.toList==l)=false:=by
 rw[ByteArray.toList_eq,beq_eq_false_iff_ne];intro e;have:=congrArg List.length e;rw[Fx.size_toList]at this;omega
end Lx
theorem charR_any(s:ByteArray)(n:Nat)(w:World)(hs:s.size≤1000000)(hn:n+2≤s.size):
  Calls Tryz.prog 166 #[.string s,.int .i64 n] w (Lx.TokR s n (Lx.char (Lx.tl s n)) w):=by
 obtain⟨R,hR⟩:∃R,Lx.char (Lx.tl s n)=R:=⟨_,rfl⟩
 rw[hR];unfold Lx.char at hR;rw[Lx.tl_drop]at hR;by_cases hend:s.size≤n+2
 ·have hendi:(s.size:Int)≤(n:Int)+2:=by omega
  have HR:Hid (R= .err 31):=by show _=_;rw[←hR,Lx.tl_nil s (n+2) hend,if_pos rfl]
  clear hR;go_enter Tryz.func166,Tryz.ntmps166;go_wp2;refine bodyPost_ret (v:= .tuple #[.agg #[.int .i64 11,.int .i64 (n:Int),.int .i64 0,.int .i64 0,.string ⟨#[]⟩],.int .i64 31]) (by simp[results,Tryz.results166,go_sem]) rfl (.err HR.out (Lx.bel2 _ _ _))
 have hlt:n+2<s.size:=by omega
 have hendi:¬ (s.size:Int)≤(n:Int)+2:=by omega
 have hlti:(n:Int)+2<(s.size:Int):=by omega
 have hne:Lx.tl s (n+2)≠[]:=by rw[Lx.tl_cons s (n+2) hlt];simp
 rw[if_neg hne,Lx.pk_in s n 2 hlt]at hR;obtain⟨c,hc⟩:∃c,s[n+2]=c:=⟨_,rfl⟩
 have hp0:Lx.pk (Lx.tl s (n+2)) 0=c:=by rw[Lx.pk_in s (n+2) 0 hlt];exact hc
 rw[hc]at hR;have hb0:(0:Int)≤(c.toNat:Int):=by omega
 have hb1:(c.toNat:Int)≤255:=by have:=c.toNat_lt;omega
 have hsm:=fun wq=>smallR_any c wq
 have hbk:=fun wq=>blankR_any c wq
 cases hl:Lx.low c
 case false=>
  have hnl:Lx.nameLen (Lx.tl s (n+2))=1:=by unfold Lx.nameLen;rw[hp0,hl];rfl
  have ht1:(Lx.tl s (n+2)).take 1=[c]:=by rw[Lx.tl_cons s (n+2) hlt,hc];rfl
  have hnm:Lx.names [c]=(c.toNat:Int):=by unfold Lx.names;rw[if_pos (show [c].length=1 from rfl)];rfl
  rw[hnl,ht1,hnm,Lx.tl_drop]at hR;rw[hl]at hsm;cases hw:Lx.white c
  ·have HR:Hid (R= .tok ⟨11,(c.toNat:Int),[]⟩ (Lx.tl s (n+3))):=by
    show _=_;rw[←hR,hw,if_neg (by simp)]
   rw[hw]at hbk;clear hR hp0 hne hnl ht1 hnm;go_enter Tryz.func166,Tryz.ntmps166;go_wp2_with fail
   refine(hsm _).mono ?_;rintro e w1 ⟨rfl,rfl⟩;go_wp2_with fail
   refine(hbk _).mono ?_;rintro e w1 ⟨rfl,rfl⟩;go_wp2;refine bodyPost_ret (v:= .tuple #[.agg #[.int .i64 11,.int .i64 (n:Int),.int .i64 ((n:Int)+2+1),.int .i64 (c.toNat:Int),.string ⟨#[]⟩],.int .i64 0]) (by simp[results,Tryz.results166,go_sem]) rfl (.tok HR.out rfl (by omega) (by omega) (Lx.bel2 _ _ _))
  ·have HR:Hid (R= .err 30):=by
    show _=_;rw[←hR,hw,if_pos (by simp)]
   rw[hw]at hbk;clear hR hp0 hne hnl ht1 hnm;go_enter Tryz.func166,Tryz.ntmps166;go_wp2_with fail
   refine(hsm _).mono ?_;rintro e w1 ⟨rfl,rfl⟩;go_wp2_with fail
   refine(hbk _).mono ?_;rintro e w1 ⟨rfl,rfl⟩;go_wp2;refine bodyPost_ret (v:= .tuple #[.agg #[.int .i64 11,.int .i64 (n:Int),.int .i64 ((n:Int)+2+1),.int .i64 (c.toNat:Int),.string ⟨#[]⟩],.int .i64 30]) (by simp[results,Tryz.results166,go_sem]) rfl (.err HR.out (Lx.bel2 _ _ _))
 rw[hl]at hsm;rw[Lx.low_white c hl,Bool.or_false]at hR;have HP0:Hid (Lx.low (Lx.pk (Lx.tl s (n+2)) 0)=true):=by show _=_;rw[hp0];exact hl
 have HLF:Hid (Lx.lf c=true):=by show _=_;unfold Lx.lf;rw[hl];rfl
 have HC:=hd hc;have HR0:=hd hR;clear hR hp0 hne hbk hl;go_enter Tryz.func166,Tryz.ntmps166;go_wp2_with fail
 refine(hsm _).mono ?_;rintro e w1 ⟨rfl,rfl⟩;clear hsm hc;go_wp2_with fail
 go_loop [8] (fun vj=>∃j:Nat,vj= .int .i64 ((n+2+j:Nat):Int)∧n+2+j≤s.size∧Hid (∀i,i<j→(h:n+2+i<s.size)→Lx.lf s[n+2+i]=true)) (fun vj=>s.size+1 - (intOf vj).toNat)
 case atStart=>exact⟨0,by go_num,by omega,fun i h=>absurd h (by omega)⟩
 case round=>
  obtain⟨j,rfl,hj,HI⟩:=hrel
  -- the name's end, and what is behind it
  have fin:((h:n+2+j<s.size)→Lx.lf s[n+2+j]=false)→0<j∧Hid (∀d:ByteArray,s.extract (n+2) (n+2+j)=d→d.size=j∧R=(if(Lx.names d.data.toList<0)then .err 30 else .tok ⟨11,Lx.names d.data.toList,[]⟩ (Lx.tl s (n+2+j)))):=by
   intro hout;have hj0:0<j:=by
    rcases Nat.eq_zero_or_pos j with h|h
    ·subst h;have:=hout hlt;rw[show s[n+2+0]=c from HC.out,HLF.out]at this;cases this
    ·exact h
   refine⟨hj0,fun d hd=> ?_⟩;have hnl:=Lx.nameLen_low s (n+2) j hj0 hj HP0.out HI.out hout;have hdl:d.data.toList=(Lx.tl s (n+2)).take j:=by rw[←hd,Lib.extract_data,show n+2+j - (n+2)=j by omega];rfl
   refine⟨by rw[←hd];simp;omega,?_⟩;rw[←HR0.out,hnl,←hdl,Lx.tl_drop];simp only[decide_eq_true_eq]
  by_cases hin:n+2+j<s.size
  ·have hini:((n+2+j:Nat):Int)<(s.size:Int):=by omega
   obtain⟨d,hd⟩:∃d,s[n+2+j]=d:=⟨_,rfl⟩
   cases hl:Lx.low d
   case true=>
    have HN:Hid (∀i,i<j+1→(h:n+2+i<s.size)→Lx.lf s[n+2+i]=true):=by
     intro i hi h;by_cases e:i=j
     ·subst e;rw[hd];unfold Lx.lf;rw[hl];rfl
     ·exact HI.out i (by omega) h
    have h1:=smallR_any d;rw[hl]at h1;have H1:=hd h1;clear fin hl h1;go_wp2_with fail
    refine(H1.out _).mono ?_;rintro e w1 ⟨rfl,rfl⟩;go_wp2
    go_round
    case rel=>exact⟨j+1,by go_num,by omega,HN⟩
    case measure=>simp[intOf];omega
   cases hf:Lx.figure d
   case true=>
    have HN:Hid (∀i,i<j+1→(h:n+2+i<s.size)→Lx.lf s[n+2+i]=true):=by
     intro i hi h;by_cases e:i=j
     ·subst e;rw[hd];unfold Lx.lf;rw[hl,hf];rfl
     ·exact HI.out i (by omega) h
    have h1:=smallR_any d;have h2:=digitR_any d;rw[hl]at h1;rw[hf]at h2;have H1:=hd h1;have H2:=hd h2;clear fin hl hf h1 h2;go_wp2_with fail
    refine(H1.out _).mono ?_;rintro e w1 ⟨rfl,rfl⟩;go_wp2_with fail
    refine(H2.out _).mono ?_;rintro e w1 ⟨rfl,rfl⟩;go_wp2
    go_round
    case rel=>exact⟨j+1,by go_num,by omega,HN⟩
    case measure=>simp[intOf];omega
   obtain⟨hj0,HFIN⟩:=fin (fun h=>by rw[hd];unfold Lx.lf;rw[hl,hf];rfl);have h1:=smallR_any d;have h2:=digitR_any d;rw[hl]at h1;rw[hf]at h2;have H1:=hd h1;have H2:=hd h2;clear fin hl hf h1 h2;obtain⟨d9,hd9⟩:∃d9,s.extract (n+2) (n+2+j)=d9:=⟨_,rfl⟩
   obtain⟨hdz,hRR⟩:=HFIN.out d9 hd9;have HRR:=hd hRR;have i1:(n:Int)+2≤((n+2+j:Nat):Int):=by omega
   have i2:((n+2+j:Nat):Int)≤(s.size:Int):=by omega
   have hdp:0<d9.size:=by omega
   have hdpi:(0:Int)<(d9.size:Int):=by omega
   have hdle:d9.size≤1000000:=by omega
   clear hRR hdz;by_cases hone:d9.size=1
   ·have e1:=Lx.str_ne d9 [115,112,97,99,101] 5 rfl (by omega);have e2:=Lx.str_ne d9 [110,101,119,108,105,110,101] 7 rfl (by omega);have e3:=Lx.str_ne d9 [116,97,98] 3 rfl (by omega);have e4:=Lx.str_ne d9 [110,117,108] 3 rfl (by omega);have e5:((d9.size:Int)==1)=true:=by rw[beq_iff_eq];omega
    have hbb:=Lx.b8 d9[0];have hnm:Lx.names d9.data.toList=(d9[0].toNat:Int):=by
     unfold Lx.names;rw[if_pos (by rw[Fx.size_toList];exact hone)];have:=Lx.tl_cons d9 0 hdp;unfold Lx.tl at this;rw[List.drop_zero]at this;rw[this];rfl
    have HN:Hid (R= .tok ⟨11,(d9[0].toNat:Int),[]⟩ (Lx.tl s (n+2+j))):=by show _=_;rw[HRR.out,hnm,if_neg (by omega)]
    clear hnm hone;go_wp2_with fail
    refine(H1.out _).mono ?_;rintro e w1 ⟨rfl,rfl⟩;go_wp2_with fail
    refine(H2.out _).mono ?_;rintro e w1 ⟨rfl,rfl⟩;go_wp2;refine bodyPost_ret (v:= .tuple #[.agg #[.int .i64 11,.int .i64 (n:Int),.int .i64 ((n+2+j:Nat):Int),.int .i64 (d9[0].toNat:Int),(.string ⟨#[]⟩)],.int .i64 0]) (by simp[results,Tryz.results166,go_sem]) rfl (.tok HN.out rfl rfl (by omega) (Lx.bel2 _ _ _))
   have e5:((d9.size:Int)==1)=false:=by rw[beq_eq_false_iff_ne];omega
   have hnb:=Lx.names_bool d9 hone;cases e1:(d9.toList==[115,112,97,99,101])
   case true=>
    have HN:Hid (R= .tok ⟨11,32,[]⟩ (Lx.tl s (n+2+j))):=by show _=_;rw[HRR.out,hnb,e1];rfl
    clear hnb hone;go_wp2_with fail
    refine(H1.out _).mono ?_;rintro e w1 ⟨rfl,rfl⟩;go_wp2_with fail
    refine(H2.out _).mono ?_;rintro e w1 ⟨rfl,rfl⟩;go_wp2;refine bodyPost_ret (v:= .tuple #[.agg #[.int .i64 11,.int .i64 (n:Int),.int .i64 ((n+2+j:Nat):Int),.int .i64 32,(.string ⟨#[]⟩)],.int .i64 0]) (by simp[results,Tryz.results166,go_sem]) rfl (.tok HN.out rfl rfl (by omega) (Lx.bel2 _ _ _))
   cases e2:(d9.toList==[110,101,119,108,105,110,101])
   case true=>
    have HN:Hid (R= .tok ⟨11,10,[]⟩ (Lx.tl s (n+2+j))):=by show _=_;rw[HRR.out,hnb,e1,e2];rfl
    clear hnb hone;go_wp2_with fail
    refine(H1.out _).mono ?_;rintro e w1 ⟨rfl,rfl⟩;go_wp2_with fail
    refine(H2.out _).mono ?_;rintro e w1 ⟨rfl,rfl⟩;go_wp2;refine bodyPost_ret (v:= .tuple #[.agg #[.int .i64 11,.int .i64 (n:Int),.int .i64 ((n+2+j:Nat):Int),.int .i64 10,(.string ⟨#[]⟩)],.int .i64 0]) (by simp[results,Tryz.results166,go_sem]) rfl (.tok HN.out rfl rfl (by omega) (Lx.bel2 _ _ _))
   cases e3:(d9.toList==[116,97,98])
   case true=>
    have HN:Hid (R= .tok ⟨11,9,[]⟩ (Lx.tl s (n+2+j))):=by show _=_;rw[HRR.out,hnb,e1,e2,e3];rfl
    clear hnb hone;go_wp2_with fail
    refine(H1.out _).mono ?_;rintro e w1 ⟨rfl,rfl⟩;go_wp2_with fail
    refine(H2.out _).mono ?_;rintro e w1 ⟨rfl,rfl⟩;go_wp2;refine bodyPost_ret (v:= .tuple #[.agg #[.int .i64 11,.int .i64 (n:Int),.int .i64 ((n+2+j:Nat):Int),.int .i64 9,(.string ⟨#[]⟩)],.int .i64 0]) (by simp[results,Tryz.results166,go_sem]) rfl (.tok HN.out rfl rfl (by omega) (Lx.bel2 _ _ _))
   cases e4:(d9.toList==[110,117,108])
   case true=>
    have HN:Hid (R= .tok ⟨11,0,[]⟩ (Lx.tl s (n+2+j))):=by show _=_;rw[HRR.out,hnb,e1,e2,e3,e4];rfl
    clear hnb hone;go_wp2_with fail
    refine(H1.out _).mono ?_;rintro e w1 ⟨rfl,rfl⟩;go_wp2_with fail
    refine(H2.out _).mono ?_;rintro e w1 ⟨rfl,rfl⟩;go_wp2;refine bodyPost_ret (v:= .tuple #[.agg #[.int .i64 11,.int .i64 (n:Int),.int .i64 ((n+2+j:Nat):Int),.int .i64 0,(.string ⟨#[]⟩)],.int .i64 0]) (by simp[results,Tryz.results166,go_sem]) rfl (.tok HN.out rfl rfl (by omega) (Lx.bel2 _ _ _))
   rw[e1,e2,e3,e4]at hnb;simp only[Bool.false_eq_true,if_false]at hnb;have hh0:d9.data.toList.headD 0=d9[0]:=by
    have:=Lx.tl_cons d9 0 hdp;unfold Lx.tl at this;rw[List.drop_zero]at this;rw[this];rfl
   rw[hh0]at hnb;have hhx:=fun wq=>hexR_any d9 1 wq (by omega) hdp
   by_cases h3:d9.size=3
   case neg=>
    have e6:((d9.size:Int)==3)=false:=by rw[beq_eq_false_iff_ne];omega
    rw[if_neg (fun h=>h3 h.1)]at hnb;have HN:Hid (R= .err 30):=by show _=_;rw[HRR.out,hnb];rfl
    clear hnb hone h3 hh0 hhx;go_wp2_with fail
    refine(H1.out _).mono ?_;rintro e w1 ⟨rfl,rfl⟩;go_wp2_with fail
    refine(H2.out _).mono ?_;rintro e w1 ⟨rfl,rfl⟩;go_wp2;refine bodyPost_ret (v:= .tuple #[.agg #[.int .i64 11,.int .i64 (n:Int),.int .i64 ((n+2+j:Nat):Int),.int .i64 0,(.string ⟨#[]⟩)],.int .i64 30]) (by simp[results,Tryz.results166,go_sem]) rfl (.err HN.out (Lx.bel2 _ _ _))
   have e6:((d9.size:Int)==3)=true:=by rw[beq_iff_eq];omega
   by_cases h120:d9[0]=120
   case neg=>
    have e7:((d9[0].toNat:Int)==120)=false:=by
     rw[beq_eq_false_iff_ne];exact fun h=>h120 (UInt8.toNat_inj.1 (by show d9[0].toNat=120;omega))
    rw[if_neg (fun h=>h120 h.2)]at hnb;have HN:Hid (R= .err 30):=by show _=_;rw[HRR.out,hnb];rfl
    clear hnb hone h3 hh0 hhx h120;go_wp2_with fail
    refine(H1.out _).mono ?_;rintro e w1 ⟨rfl,rfl⟩;go_wp2_with fail
    refine(H2.out _).mono ?_;rintro e w1 ⟨rfl,rfl⟩;go_wp2;refine bodyPost_ret (v:= .tuple #[.agg #[.int .i64 11,.int .i64 (n:Int),.int .i64 ((n+2+j:Nat):Int),.int .i64 0,(.string ⟨#[]⟩)],.int .i64 30]) (by simp[results,Tryz.results166,go_sem]) rfl (.err HN.out (Lx.bel2 _ _ _))
   have e7:((d9[0].toNat:Int)==120)=true:=by rw[h120];rfl
   rw[if_pos ⟨h3,h120⟩]at hnb;obtain⟨X,hX⟩:∃X,Lx.two (Lx.tl d9 1)=X:=⟨_,rfl⟩
   rw[hX]at hnb hhx;by_cases hneg:X<0
   ·have hgi:¬ (0:Int)≤X:=by omega
    have hgd:decide ((0:Int)≤X)=false:=decide_eq_false hgi;have HN:Hid (R= .err 30):=by show _=_;rw[HRR.out,hnb,if_pos hneg]
    clear hnb hone h3 hh0 h120 hX hneg;go_wp2_with fail
    refine(H1.out _).mono ?_;rintro e w1 ⟨rfl,rfl⟩;go_wp2_with fail
    refine(H2.out _).mono ?_;rintro e w1 ⟨rfl,rfl⟩;go_wp2_with fail
    refine(hhx _).mono ?_;rintro e w1 ⟨rfl,rfl⟩;go_wp2;refine bodyPost_ret (v:= .tuple #[.agg #[.int .i64 11,.int .i64 (n:Int),.int .i64 ((n+2+j:Nat):Int),.int .i64 0,(.string ⟨#[]⟩)],.int .i64 30]) (by simp[results,Tryz.results166,go_sem]) rfl (.err HN.out (Lx.bel2 _ _ _))
   ·have hgi:(0:Int)≤X:=by omega
    have HN:Hid (R= .tok ⟨11,X,[]⟩ (Lx.tl s (n+2+j))):=by show _=_;rw[HRR.out,hnb,if_neg hneg]
    clear hnb hone h3 hh0 h120 hX hneg;go_wp2_with fail
    refine(H1.out _).mono ?_;rintro e w1 ⟨rfl,rfl⟩;go_wp2_with fail
    refine(H2.out _).mono ?_;rintro e w1 ⟨rfl,rfl⟩;go_wp2_with fail
    refine(hhx _).mono ?_;rintro e w1 ⟨rfl,rfl⟩;go_wp2_with fail
    refine(hhx _).mono ?_;rintro e w1 ⟨rfl,rfl⟩;go_wp2;refine bodyPost_ret (v:= .tuple #[.agg #[.int .i64 11,.int .i64 (n:Int),.int .i64 ((n+2+j:Nat):Int),.int .i64 X,(.string ⟨#[]⟩)],.int .i64 0]) (by simp[results,Tryz.results166,go_sem]) rfl (.tok HN.out rfl rfl (by omega) (Lx.bel2 _ _ _))
  ·have hini:¬ ((n+2+j:Nat):Int)<(s.size:Int):=by omega
   obtain⟨hj0,HFIN⟩:=fin (fun h=>absurd h hin);clear fin;obtain⟨d9,hd9⟩:∃d9,s.extract (n+2) (n+2+j)=d9:=⟨_,rfl⟩
   obtain⟨hdz,hRR⟩:=HFIN.out d9 hd9;have HRR:=hd hRR;have i1:(n:Int)+2≤((n+2+j:Nat):Int):=by omega
   have i2:((n+2+j:Nat):Int)≤(s.size:Int):=by omega
   have hdp:0<d9.size:=by omega
   have hdpi:(0:Int)<(d9.size:Int):=by omega
   have hdle:d9.size≤1000000:=by omega
   clear hRR hdz;by_cases hone:d9.size=1
   ·have e1:=Lx.str_ne d9 [115,112,97,99,101] 5 rfl (by omega);have e2:=Lx.str_ne d9 [110,101,119,108,105,110,101] 7 rfl (by omega);have e3:=Lx.str_ne d9 [116,97,98] 3 rfl (by omega);have e4:=Lx.str_ne d9 [110,117,108] 3 rfl (by omega);have e5:((d9.size:Int)==1)=true:=by rw[beq_iff_eq];omega
    have hbb:=Lx.b8 d9[0];have hnm:Lx.names d9.data.toList=(d9[0].toNat:Int):=by
     unfold Lx.names;rw[if_pos (by rw[Fx.size_toList];exact hone)];have:=Lx.tl_cons d9 0 hdp;unfold Lx.tl at this;rw[List.drop_zero]at this;rw[this];rfl
    have HN:Hid (R= .tok ⟨11,(d9[0].toNat:Int),[]⟩ (Lx.tl s (n+2+j))):=by show _=_;rw[HRR.out,hnm,if_neg (by omega)]
    clear hnm hone;go_wp2;refine bodyPost_ret (v:= .tuple #[.agg #[.int .i64 11,.int .i64 (n:Int),.int .i64 ((n+2+j:Nat):Int),.int .i64 (d9[0].toNat:Int),(.string ⟨#[]⟩)],.int .i64 0]) (by simp[results,Tryz.results166,go_sem]) rfl (.tok HN.out rfl rfl (by omega) (Lx.bel2 _ _ _))
   have e5:((d9.size:Int)==1)=false:=by rw[beq_eq_false_iff_ne];omega
   have hnb:=Lx.names_bool d9 hone;cases e1:(d9.toList==[115,112,97,99,101])
   case true=>
    have HN:Hid (R= .tok ⟨11,32,[]⟩ (Lx.tl s (n+2+j))):=by show _=_;rw[HRR.out,hnb,e1];rfl
    clear hnb hone;go_wp2;refine bodyPost_ret (v:= .tuple #[.agg #[.int .i64 11,.int .i64 (n:Int),.int .i64 ((n+2+j:Nat):Int),.int .i64 32,(.string ⟨#[]⟩)],.int .i64 0]) (by simp[results,Tryz.results166,go_sem]) rfl (.tok HN.out rfl rfl (by omega) (Lx.bel2 _ _ _))
   cases e2:(d9.toList==[110,101,119,108,105,110,101])
   case true=>
    have HN:Hid (R= .tok ⟨11,10,[]⟩ (Lx.tl s (n+2+j))):=by show _=_;rw[HRR.out,hnb,e1,e2];rfl
    clear hnb hone;go_wp2;refine bodyPost_ret (v:= .tuple #[.agg #[.int .i64 11,.int .i64 (n:Int),.int .i64 ((n+2+j:Nat):Int),.int .i64 10,(.string ⟨#[]⟩)],.int .i64 0]) (by simp[results,Tryz.results166,go_sem]) rfl (.tok HN.out rfl rfl (by omega) (Lx.bel2 _ _ _))
   cases e3:(d9.toList==[116,97,98])
   case true=>
    have HN:Hid (R= .tok ⟨11,9,[]⟩ (Lx.tl s (n+2+j))):=by show _=_;rw[HRR.out,hnb,e1,e2,e3];rfl
    clear hnb hone;go_wp2;refine bodyPost_ret (v:= .tuple #[.agg #[.int .i64 11,.int .i64 (n:Int),.int .i64 ((n+2+j:Nat):Int),.int .i64 9,(.string ⟨#[]⟩)],.int .i64 0]) (by simp[results,Tryz.results166,go_sem]) rfl (.tok HN.out rfl rfl (by omega) (Lx.bel2 _ _ _))
   cases e4:(d9.toList==[110,117,108])
   case true=>
    have HN:Hid (R= .tok ⟨11,0,[]⟩ (Lx.tl s (n+2+j))):=by show _=_;rw[HRR.out,hnb,e1,e2,e3,e4];rfl
    clear hnb hone;go_wp2;refine bodyPost_ret (v:= .tuple #[.agg #[.int .i64 11,.int .i64 (n:Int),.int .i64 ((n+2+j:Nat):Int),.int .i64 0,(.string ⟨#[]⟩)],.int .i64 0]) (by simp[results,Tryz.results166,go_sem]) rfl (.tok HN.out rfl rfl (by omega) (Lx.bel2 _ _ _))
   rw[e1,e2,e3,e4]at hnb;simp only[Bool.false_eq_true,if_false]at hnb;have hh0:d9.data.toList.headD 0=d9[0]:=by
    have:=Lx.tl_cons d9 0 hdp;unfold Lx.tl at this;rw[List.drop_zero]at this;rw[this];rfl
   rw[hh0]at hnb;have hhx:=fun wq=>hexR_any d9 1 wq (by omega) hdp
   by_cases h3:d9.size=3
   case neg=>
    have e6:((d9.size:Int)==3)=false:=by rw[beq_eq_false_iff_ne];omega
    rw[if_neg (fun h=>h3 h.1)]at hnb;have HN:Hid (R= .err 30):=by show _=_;rw[HRR.out,hnb];rfl
    clear hnb hone h3 hh0 hhx;go_wp2;refine bodyPost_ret (v:= .tuple #[.agg #[.int .i64 11,.int .i64 (n:Int),.int .i64 ((n+2+j:Nat):Int),.int .i64 0,(.string ⟨#[]⟩)],.int .i64 30]) (by simp[results,Tryz.results166,go_sem]) rfl (.err HN.out (Lx.bel2 _ _ _))
   have e6:((d9.size:Int)==3)=true:=by rw[beq_iff_eq];omega
   by_cases h120:d9[0]=120
   case neg=>
    have e7:((d9[0].toNat:Int)==120)=false:=by
     rw[beq_eq_false_iff_ne];exact fun h=>h120 (UInt8.toNat_inj.1 (by show d9[0].toNat=120;omega))
    rw[if_neg (fun h=>h120 h.2)]at hnb;have HN:Hid (R= .err 30):=by show _=_;rw[HRR.out,hnb];rfl
    clear hnb hone h3 hh0 hhx h120;go_wp2;refine bodyPost_ret (v:= .tuple #[.agg #[.int .i64 11,.int .i64 (n:Int),.int .i64 ((n+2+j:Nat):Int),.int .i64 0,(.string ⟨#[]⟩)],.int .i64 30]) (by simp[results,Tryz.results166,go_sem]) rfl (.err HN.out (Lx.bel2 _ _ _))
   have e7:((d9[0].toNat:Int)==120)=true:=by rw[h120];rfl
   rw[if_pos ⟨h3,h120⟩]at hnb;obtain⟨X,hX⟩:∃X,Lx.two (Lx.tl d9 1)=X:=⟨_,rfl⟩
   rw[hX]at hnb hhx;by_cases hneg:X<0
   ·have hgi:¬ (0:Int)≤X:=by omega
    have hgd:decide ((0:Int)≤X)=false:=decide_eq_false hgi;have HN:Hid (R= .err 30):=by show _=_;rw[HRR.out,hnb,if_pos hneg]
    clear hnb hone h3 hh0 h120 hX hneg;go_wp2_with fail
    refine(hhx _).mono ?_;rintro e w1 ⟨rfl,rfl⟩;go_wp2;refine bodyPost_ret (v:= .tuple #[.agg #[.int .i64 11,.int .i64 (n:Int),.int .i64 ((n+2+j:Nat):Int),.int .i64 0,(.string ⟨#[]⟩)],.int .i64 30]) (by simp[results,Tryz.results166,go_sem]) rfl (.err HN.out (Lx.bel2 _ _ _))
   ·have hgi:(0:Int)≤X:=by omega
    have HN:Hid (R= .tok ⟨11,X,[]⟩ (Lx.tl s (n+2+j))):=by show _=_;rw[HRR.out,hnb,if_neg hneg]
    clear hnb hone h3 hh0 h120 hX hneg;go_wp2_with fail
    refine(hhx _).mono ?_;rintro e w1 ⟨rfl,rfl⟩;go_wp2_with fail
    refine(hhx _).mono ?_;rintro e w1 ⟨rfl,rfl⟩;go_wp2;refine bodyPost_ret (v:= .tuple #[.agg #[.int .i64 11,.int .i64 (n:Int),.int .i64 ((n+2+j:Nat):Int),.int .i64 X,(.string ⟨#[]⟩)],.int .i64 0]) (by simp[results,Tryz.results166,go_sem]) rfl (.tok HN.out rfl rfl (by omega) (Lx.bel2 _ _ _))
namespace Lx
theorem runW_num(w rest:List UInt8)(h1:w≠[35,102])(h2:w≠[35,116])(h3:w≠[46])(hn:(figure (w.headD 0)||((w.headD 0==45||w.headD 0==43)&&decide (1<w.length)&&figure (pk w 1)))=true):runW w rest=if(Fx.parse w).2=0 then .tok ⟨9,(Fx.parse w).1,[]⟩ rest else if(Fx.parse w).2=5 then .err 30 else .err (Fx.parse w).2:=by
 unfold runW;rw[if_neg h1,if_neg h2,if_neg h3,if_pos hn]
theorem runW_sym(w rest:List UInt8)(h1:w≠[35,102])(h2:w≠[35,116])(h3:w≠[46])(hn:(figure (w.headD 0)||((w.headD 0==45||w.headD 0==43)&&decide (1<w.length)&&figure (pk w 1)))=false):runW w rest=if symbol w then .tok ⟨13,0,w⟩ rest else .err 30:=by
 unfold runW;rw[if_neg h1,if_neg h2,if_neg h3,if_neg (by rw[hn];simp)]
theorem ne_of_beq(d:ByteArray)(l:List UInt8)(h:(d.toList==l)=false):d.data.toList≠l:=by
 rw[ByteArray.toList_eq,beq_eq_false_iff_ne]at h;exact h
theorem eq_of_beq(d:ByteArray)(l:List UInt8)(h:(d.toList==l)=true):d.data.toList=l:=by
 rw[ByteArray.toList_eq,beq_iff_eq]at h;exact h
theorem dmk(d:ByteArray):d=⟨d.data.toList.toArray⟩:=by cases d;simp
end Lx
theorem runR_any(s:ByteArray)(n:Nat)(w:World)(hs:s.size≤1000000)(hn:n<s.size)(h0:Lx.stops s[n]=false)(hz:∀j,(hj:j<s.size)→s[j]≠0):
  Calls Tryz.prog 167 #[.string s,.int .i64 n] w (Lx.TokR s n (Lx.run (Lx.tl s n)) w):=by
 obtain⟨R,hR⟩:∃R,Lx.run (Lx.tl s n)=R:=⟨_,rfl⟩
 rw[hR];have HR0:=hd hR;have HZ:=hd hz;have H0:=hd h0;clear hR hz h0;go_enter Tryz.func167,Tryz.ntmps167;go_wp2_with fail
 go_loop [6] (fun vj=>∃j:Nat,vj= .int .i64 ((n+j:Nat):Int)∧n+j≤s.size∧Hid (∀i,i<j→(h:n+i<s.size)→Lx.stops s[n+i]=false)) (fun vj=>s.size+1 - (intOf vj).toNat)
 case atStart=>exact⟨0,by go_num,by omega,fun i h=>absurd h (by omega)⟩
 case round=>
  obtain⟨j,rfl,hj,HI⟩:=hrel;have fin:((h:n+j<s.size)→Lx.stops s[n+j]=true)→0<j∧Hid (∀d:ByteArray,s.extract n (n+j)=d→d.size=j∧R=Lx.runW d.data.toList (Lx.tl s (n+j))):=by
   intro hout;have hj0:0<j:=by
    rcases Nat.eq_zero_or_pos j with h|h
    ·subst h;have:=hout hn;rw[show Lx.stops s[n+0]=false from H0.out]at this;cases this
    ·exact h
   refine⟨hj0,fun d hd=>⟨by rw[←hd];simp;omega,?_⟩⟩;rw[←HR0.out];refine Lx.run_ext s n j d hd hj (fun i hi=> ?_) ?_
   ·rw[Lx.pk_in s n i (by omega),Lx.ends_stops _ (HZ.out _ _)];exact HI.out i hi (by omega)
   ·by_cases h:n+j<s.size
    ·rw[Lx.pk_in s n j h,Lx.ends_stops _ (HZ.out _ _)];exact hout h
    ·rw[Lx.pk_out s n j (by omega)];rfl
  by_cases hin:n+j<s.size
  ·have hm:=fun wq=>markR_in s (n+j) wq hin (by omega)
   cases hst:Lx.stops s[n+j]
   case false=>
    have HN:Hid (∀i,i<j+1→(h:n+i<s.size)→Lx.stops s[n+i]=false):=by
     intro i hi h;by_cases e:i=j
     ·subst e;exact hst
     ·exact HI.out i (by omega) h
    rw[hst]at hm;have HM:=hd hm;clear fin hst hm;go_wp2_with fail
    refine(HM.out _).mono ?_;rintro e w1 ⟨rfl,rfl⟩;go_wp2
    go_round
    case rel=>exact⟨j+1,by go_num,by omega,HN⟩
    case measure=>simp[intOf];omega
   obtain⟨hj0,HFIN⟩:=fin (fun _=>hst);rw[hst]at hm;have HM:=hd hm;clear fin hst hm;obtain⟨d,hd⟩:∃d,s.extract n (n+j)=d:=⟨_,rfl⟩
   obtain⟨hdz,hRR⟩:=HFIN.out d hd;have HRR:=hd hRR;have i1:(n:Int)≤((n+j:Nat):Int):=by omega
   have i2:((n+j:Nat):Int)≤(s.size:Int):=by omega
   have hdp:0<d.size:=by omega
   have hdpi:(0:Int)<(d.size:Int):=by omega
   have hdle:d.size≤1000000:=by omega
   clear hRR hdz;cases e1:(d.toList==[35,102])
   case true=>
    have e2:(d.toList==[35,116])=false:=by rw[ByteArray.toList_eq,Lx.eq_of_beq d _ e1];rfl
    have HN:Hid (R= .tok ⟨10,0,[]⟩ (Lx.tl s (n+j))):=by show _=_;rw[HRR.out,Lx.eq_of_beq d _ e1];rfl
    go_wp2_with fail
    refine(HM.out _).mono ?_;rintro e w1 ⟨rfl,rfl⟩;go_wp2;refine bodyPost_ret (v:= .tuple #[.agg #[.int .i64 10,.int .i64 (n:Int),.int .i64 ((n+j:Nat):Int),.int .i64 0,.string ⟨#[]⟩],.int .i64 0]) (by simp[results,Tryz.results167,go_sem]) rfl (.tok HN.out rfl rfl hj (Lx.bel2 _ _ _))
   cases e2:(d.toList==[35,116])
   case true=>
    have HN:Hid (R= .tok ⟨10,1,[]⟩ (Lx.tl s (n+j))):=by show _=_;rw[HRR.out,Lx.eq_of_beq d _ e2];rfl
    go_wp2_with fail
    refine(HM.out _).mono ?_;rintro e w1 ⟨rfl,rfl⟩;go_wp2;refine bodyPost_ret (v:= .tuple #[.agg #[.int .i64 10,.int .i64 (n:Int),.int .i64 ((n+j:Nat):Int),.int .i64 1,.string ⟨#[]⟩],.int .i64 0]) (by simp[results,Tryz.results167,go_sem]) rfl (.tok HN.out rfl rfl hj (Lx.bel2 _ _ _))
   cases e3:(d.toList==[46])
   case true=>
    have HN:Hid (R= .tok ⟨8,0,[]⟩ (Lx.tl s (n+j))):=by show _=_;rw[HRR.out,Lx.eq_of_beq d _ e3];rfl
    go_wp2_with fail
    refine(HM.out _).mono ?_;rintro e w1 ⟨rfl,rfl⟩;go_wp2;refine bodyPost_ret (v:= .tuple #[.agg #[.int .i64 8,.int .i64 (n:Int),.int .i64 ((n+j:Nat):Int),.int .i64 0,.string ⟨#[]⟩],.int .i64 0]) (by simp[results,Tryz.results167,go_sem]) rfl (.tok HN.out rfl rfl hj (Lx.bel2 _ _ _))
   have hd0:d.data.toList.headD 0=d[0]:=by
    have:=Lx.tl_cons d 0 hdp;unfold Lx.tl at this;rw[List.drop_zero]at this;rw[this];rfl
   have hnum:=Lx.runW_num d.data.toList (Lx.tl s (n+j)) (Lx.ne_of_beq d _ e1) (Lx.ne_of_beq d _ e2) (Lx.ne_of_beq d _ e3);have hsym:=Lx.runW_sym d.data.toList (Lx.tl s (n+j)) (Lx.ne_of_beq d _ e1) (Lx.ne_of_beq d _ e2) (Lx.ne_of_beq d _ e3);rw[hd0,Fx.size_toList]at hnum hsym;have HP:=hd (fun wq=>rParse_any d wq (by omega));have HS:=hd (fun wq=>SymbolR_any d wq (by omega));have hg0:=fun wq=>digitR_any d[0] wq
   cases f0:Lx.figure d[0]
   case true=>
    have HNUM:Hid (R=if(Fx.parse d.data.toList).2=0 then .tok ⟨9,(Fx.parse d.data.toList).1,[]⟩ (Lx.tl s (n+j))else if(Fx.parse d.data.toList).2=5 then .err 30 else .err (Fx.parse d.data.toList).2):=by
     show _=_;rw[HRR.out,hnum (by rw[f0];rfl)]
    rw[f0]at hg0;have HG0:=hd hg0;clear hnum hsym hg0 f0 hd0;go_wp2_with fail
    refine(HM.out _).mono ?_;rintro e w1 ⟨rfl,rfl⟩;go_wp2_with fail
    refine(HG0.out _).mono ?_;rintro e w1 ⟨rfl,rfl⟩;go_wp2_with fail
    refine(HP.out _).mono ?_;rintro e w1 ⟨rfl,rfl⟩;unfold Fx.R;by_cases p0:(Fx.parse d.data.toList).2=0
    ·have p0b:((Fx.parse d.data.toList).2==5)=false:=by rw[p0];rfl
     have HN:Hid (R= .tok ⟨9,(Fx.parse d.data.toList).1,[]⟩ (Lx.tl s (n+j))):=by show _=_;rw[HNUM.out,if_pos p0]
     obtain⟨q1,q2,hq⟩:∃q1 q2,Fx.parse d.data.toList=(q1,q2):=⟨_,_,rfl⟩
     rw[hq]at p0 p0b HN ⊢;have hq2:q2=0:=p0;subst hq2;clear p0 p0b hq;go_wp2;refine bodyPost_ret (v:= .tuple #[.agg #[.int .i64 9,.int .i64 (n:Int),.int .i64 ((n+j:Nat):Int),.int .i64 q1,.string ⟨#[]⟩],.int .i64 0]) (by simp[results,Tryz.results167,go_sem]) rfl (.tok HN.out rfl rfl hj (Lx.bel2 _ _ _))
    by_cases p5:(Fx.parse d.data.toList).2=5
    ·have HN:Hid (R= .err 30):=by show _=_;rw[HNUM.out,if_neg p0,if_pos p5]
     obtain⟨q1,q2,hq⟩:∃q1 q2,Fx.parse d.data.toList=(q1,q2):=⟨_,_,rfl⟩
     rw[hq]at p0 p5 ⊢;have hq2:q2=5:=p5;subst hq2;clear p0 p5 hq;go_wp2;refine bodyPost_ret (v:= .tuple #[.agg #[.int .i64 9,.int .i64 (n:Int),.int .i64 ((n+j:Nat):Int),.int .i64 q1,.string ⟨#[]⟩],.int .i64 30]) (by simp[results,Tryz.results167,go_sem]) rfl (.err HN.out (Lx.bel2 _ _ _))
    ·have HN:Hid (R= .err (Fx.parse d.data.toList).2):=by show _=_;rw[HNUM.out,if_neg p0,if_neg p5]
     obtain⟨q1,q2,hq⟩:∃q1 q2,Fx.parse d.data.toList=(q1,q2):=⟨_,_,rfl⟩
     rw[hq]at p0 p5 HN ⊢;have hq5:(q2==5)=false:=by rw[beq_eq_false_iff_ne];exact p5
     clear p0 p5 hq;go_wp2;refine bodyPost_ret (v:= .tuple #[.agg #[.int .i64 9,.int .i64 (n:Int),.int .i64 ((n+j:Nat):Int),.int .i64 q1,.string ⟨#[]⟩],.int .i64 q2]) (by simp[results,Tryz.results167,go_sem]) rfl (.err HN.out (Lx.bel2 _ _ _))
   rw[f0]at hg0;have HG0:=hd hg0
   -- no number by a sign: then it is a symbol's, or none
   have symb:(((d[0]==45||d[0]==43)&&decide (1<d.size)&&Lx.figure (Lx.pk d.data.toList 1))=false)→Hid (R=if Lx.symbol d.data.toList then .tok ⟨13,0,d.data.toList⟩ (Lx.tl s (n+j))else .err 30):=by
    intro h;show _=_;rw[HRR.out,hsym (by rw[f0,h];rfl)]
   by_cases hone:d.size≤1
   case pos=>
    have HSY:=symb (by rw[decide_eq_false (show ¬1<d.size by omega)];simp);have honei:¬ (1:Int)<(d.size:Int):=by omega
    clear hnum hsym hg0 f0 hd0 symb;go_wp2_with fail
    refine(HM.out _).mono ?_;rintro e w1 ⟨rfl,rfl⟩;go_wp2_with fail
    refine(HG0.out _).mono ?_;rintro e w1 ⟨rfl,rfl⟩;go_wp2_with fail
    refine(HS.out _).mono ?_;rintro e w1 ⟨rfl,rfl⟩;cases hsy:Lx.symbol d.data.toList
    ·have HN:Hid (R= .err 30):=by show _=_;rw[HSY.out,hsy];rfl
     clear hsy HSY;go_wp2;refine bodyPost_ret (v:= .tuple #[.agg #[.int .i64 0,.int .i64 (n:Int),.int .i64 ((n+j:Nat):Int),.int .i64 0,.string ⟨#[]⟩],.int .i64 30]) (by simp[results,Tryz.results167,go_sem]) rfl (.err HN.out (Lx.bel2 _ _ _))
    ·have HN:Hid (R= .tok ⟨13,0,d.data.toList⟩ (Lx.tl s (n+j))):=by show _=_;rw[HSY.out,hsy];rfl
     clear hsy HSY;go_wp2;refine bodyPost_ret (v:= .tuple #[.agg #[.int .i64 13,.int .i64 (n:Int),.int .i64 ((n+j:Nat):Int),.int .i64 0,.string d],.int .i64 0]) (by simp[results,Tryz.results167,go_sem]) rfl (.tok HN.out (Lx.dmk d) rfl hj (Lx.bel2 _ _ _))
   have honei:(1:Int)<(d.size:Int):=by omega
   have hp1:Lx.pk d.data.toList 1=d[1]:=by
    have:=Lx.pk_in d 0 1 (by omega);unfold Lx.tl at this;rw[List.drop_zero]at this;exact this
   rw[hp1]at hnum symb;have hg1:=fun wq=>digitR_any d[1] wq
   have b45:=Lx.beq_nat d[0] 45 (by omega);have b43:=Lx.beq_nat d[0] 43 (by omega);cases c45:((d[0].toNat:Int)==45)
   case true=>
    have e45:(d[0]==45)=true:=b45.trans c45;cases f1:Lx.figure d[1]
    case true=>
     have HNUM:Hid (R=if(Fx.parse d.data.toList).2=0 then .tok ⟨9,(Fx.parse d.data.toList).1,[]⟩ (Lx.tl s (n+j))else if(Fx.parse d.data.toList).2=5 then .err 30 else .err (Fx.parse d.data.toList).2):=by
      show _=_;rw[HRR.out,hnum (by rw[f0,f1,e45,decide_eq_true (show 1<d.size by omega)];rfl)]
     rw[f1]at hg1;have HG1:=hd hg1;clear hnum hsym hg0 f0 hd0 symb hp1 hg1 b45 b43 e45 f1;go_wp2_with fail
     refine(HM.out _).mono ?_;rintro e w1 ⟨rfl,rfl⟩;go_wp2_with fail
     refine(HG0.out _).mono ?_;rintro e w1 ⟨rfl,rfl⟩;go_wp2_with fail
     refine(HG1.out _).mono ?_;rintro e w1 ⟨rfl,rfl⟩;go_wp2_with fail
     refine(HP.out _).mono ?_;rintro e w1 ⟨rfl,rfl⟩;unfold Fx.R;by_cases p0:(Fx.parse d.data.toList).2=0
     ·have p0b:((Fx.parse d.data.toList).2==5)=false:=by rw[p0];rfl
      have HN:Hid (R= .tok ⟨9,(Fx.parse d.data.toList).1,[]⟩ (Lx.tl s (n+j))):=by show _=_;rw[HNUM.out,if_pos p0]
      obtain⟨q1,q2,hq⟩:∃q1 q2,Fx.parse d.data.toList=(q1,q2):=⟨_,_,rfl⟩
      rw[hq]at p0 p0b HN ⊢;have hq2:q2=0:=p0;subst hq2;clear p0 p0b hq;go_wp2;refine bodyPost_ret (v:= .tuple #[.agg #[.int .i64 9,.int .i64 (n:Int),.int .i64 ((n+j:Nat):Int),.int .i64 q1,.string ⟨#[]⟩],.int .i64 0]) (by simp[results,Tryz.results167,go_sem]) rfl (.tok HN.out rfl rfl hj (Lx.bel2 _ _ _))
     by_cases p5:(Fx.parse d.data.toList).2=5
     ·have HN:Hid (R= .err 30):=by show _=_;rw[HNUM.out,if_neg p0,if_pos p5]
      obtain⟨q1,q2,hq⟩:∃q1 q2,Fx.parse d.data.toList=(q1,q2):=⟨_,_,rfl⟩
      rw[hq]at p0 p5 ⊢;have hq2:q2=5:=p5;subst hq2;clear p0 p5 hq;go_wp2;refine bodyPost_ret (v:= .tuple #[.agg #[.int .i64 9,.int .i64 (n:Int),.int .i64 ((n+j:Nat):Int),.int .i64 q1,.string ⟨#[]⟩],.int .i64 30]) (by simp[results,Tryz.results167,go_sem]) rfl (.err HN.out (Lx.bel2 _ _ _))
     ·have HN:Hid (R= .err (Fx.parse d.data.toList).2):=by show _=_;rw[HNUM.out,if_neg p0,if_neg p5]
      obtain⟨q1,q2,hq⟩:∃q1 q2,Fx.parse d.data.toList=(q1,q2):=⟨_,_,rfl⟩
      rw[hq]at p0 p5 HN ⊢;have hq5:(q2==5)=false:=by rw[beq_eq_false_iff_ne];exact p5
      clear p0 p5 hq;go_wp2;refine bodyPost_ret (v:= .tuple #[.agg #[.int .i64 9,.int .i64 (n:Int),.int .i64 ((n+j:Nat):Int),.int .i64 q1,.string ⟨#[]⟩],.int .i64 q2]) (by simp[results,Tryz.results167,go_sem]) rfl (.err HN.out (Lx.bel2 _ _ _))
    have HSY:=symb (by rw[f1];simp);rw[f1]at hg1;have HG1:=hd hg1;clear hnum hsym hg0 f0 hd0 symb hp1 hg1 b45 b43 e45 f1;go_wp2_with fail
    refine(HM.out _).mono ?_;rintro e w1 ⟨rfl,rfl⟩;go_wp2_with fail
    refine(HG0.out _).mono ?_;rintro e w1 ⟨rfl,rfl⟩;go_wp2_with fail
    refine(HG1.out _).mono ?_;rintro e w1 ⟨rfl,rfl⟩;go_wp2_with fail
    refine(HS.out _).mono ?_;rintro e w1 ⟨rfl,rfl⟩;cases hsy:Lx.symbol d.data.toList
    ·have HN:Hid (R= .err 30):=by show _=_;rw[HSY.out,hsy];rfl
     clear hsy HSY;go_wp2;refine bodyPost_ret (v:= .tuple #[.agg #[.int .i64 0,.int .i64 (n:Int),.int .i64 ((n+j:Nat):Int),.int .i64 0,.string ⟨#[]⟩],.int .i64 30]) (by simp[results,Tryz.results167,go_sem]) rfl (.err HN.out (Lx.bel2 _ _ _))
    ·have HN:Hid (R= .tok ⟨13,0,d.data.toList⟩ (Lx.tl s (n+j))):=by show _=_;rw[HSY.out,hsy];rfl
     clear hsy HSY;go_wp2;refine bodyPost_ret (v:= .tuple #[.agg #[.int .i64 13,.int .i64 (n:Int),.int .i64 ((n+j:Nat):Int),.int .i64 0,.string d],.int .i64 0]) (by simp[results,Tryz.results167,go_sem]) rfl (.tok HN.out (Lx.dmk d) rfl hj (Lx.bel2 _ _ _))
   cases c43:((d[0].toNat:Int)==43)
   case true=>
    have e43:(d[0]==43)=true:=b43.trans c43;cases f1:Lx.figure d[1]
    case true=>
     have HNUM:Hid (R=if(Fx.parse d.data.toList).2=0 then .tok ⟨9,(Fx.parse d.data.toList).1,[]⟩ (Lx.tl s (n+j))else if(Fx.parse d.data.toList).2=5 then .err 30 else .err (Fx.parse d.data.toList).2):=by
      show _=_;rw[HRR.out,hnum (by rw[f0,f1,e43,decide_eq_true (show 1<d.size by omega)];simp)]
     rw[f1]at hg1;have HG1:=hd hg1;clear hnum hsym hg0 f0 hd0 symb hp1 hg1 b45 b43 e43 f1;go_wp2_with fail
     refine(HM.out _).mono ?_;rintro e w1 ⟨rfl,rfl⟩;go_wp2_with fail
     refine(HG0.out _).mono ?_;rintro e w1 ⟨rfl,rfl⟩;go_wp2_with fail
     refine(HG1.out _).mono ?_;rintro e w1 ⟨rfl,rfl⟩;go_wp2_with fail
     refine(HP.out _).mono ?_;rintro e w1 ⟨rfl,rfl⟩;unfold Fx.R;by_cases p0:(Fx.parse d.data.toList).2=0
     ·have p0b:((Fx.parse d.data.toList).2==5)=false:=by rw[p0];rfl
      have HN:Hid (R= .tok ⟨9,(Fx.parse d.data.toList).1,[]⟩ (Lx.tl s (n+j))):=by show _=_;rw[HNUM.out,if_pos p0]
      obtain⟨q1,q2,hq⟩:∃q1 q2,Fx.parse d.data.toList=(q1,q2):=⟨_,_,rfl⟩
      rw[hq]at p0 p0b HN ⊢;have hq2:q2=0:=p0;subst hq2;clear p0 p0b hq;go_wp2;refine bodyPost_ret (v:= .tuple #[.agg #[.int .i64 9,.int .i64 (n:Int),.int .i64 ((n+j:Nat):Int),.int .i64 q1,.string ⟨#[]⟩],.int .i64 0]) (by simp[results,Tryz.results167,go_sem]) rfl (.tok HN.out rfl rfl hj (Lx.bel2 _ _ _))
     by_cases p5:(Fx.parse d.data.toList).2=5
     ·have HN:Hid (R= .err 30):=by show _=_;rw[HNUM.out,if_neg p0,if_pos p5]
      obtain⟨q1,q2,hq⟩:∃q1 q2,Fx.parse d.data.toList=(q1,q2):=⟨_,_,rfl⟩
      rw[hq]at p0 p5 ⊢;have hq2:q2=5:=p5;subst hq2;clear p0 p5 hq;go_wp2;refine bodyPost_ret (v:= .tuple #[.agg #[.int .i64 9,.int .i64 (n:Int),.int .i64 ((n+j:Nat):Int),.int .i64 q1,.string ⟨#[]⟩],.int .i64 30]) (by simp[results,Tryz.results167,go_sem]) rfl (.err HN.out (Lx.bel2 _ _ _))
     ·have HN:Hid (R= .err (Fx.parse d.data.toList).2):=by show _=_;rw[HNUM.out,if_neg p0,if_neg p5]
      obtain⟨q1,q2,hq⟩:∃q1 q2,Fx.parse d.data.toList=(q1,q2):=⟨_,_,rfl⟩
      rw[hq]at p0 p5 HN ⊢;have hq5:(q2==5)=false:=by rw[beq_eq_false_iff_ne];exact p5
      clear p0 p5 hq;go_wp2;refine bodyPost_ret (v:= .tuple #[.agg #[.int .i64 9,.int .i64 (n:Int),.int .i64 ((n+j:Nat):Int),.int .i64 q1,.string ⟨#[]⟩],.int .i64 q2]) (by simp[results,Tryz.results167,go_sem]) rfl (.err HN.out (Lx.bel2 _ _ _))
    have HSY:=symb (by rw[f1];simp);rw[f1]at hg1;have HG1:=hd hg1;clear hnum hsym hg0 f0 hd0 symb hp1 hg1 b45 b43 e43 f1;go_wp2_with fail
    refine(HM.out _).mono ?_;rintro e w1 ⟨rfl,rfl⟩;go_wp2_with fail
    refine(HG0.out _).mono ?_;rintro e w1 ⟨rfl,rfl⟩;go_wp2_with fail
    refine(HG1.out _).mono ?_;rintro e w1 ⟨rfl,rfl⟩;go_wp2_with fail
    refine(HS.out _).mono ?_;rintro e w1 ⟨rfl,rfl⟩;cases hsy:Lx.symbol d.data.toList
    ·have HN:Hid (R= .err 30):=by show _=_;rw[HSY.out,hsy];rfl
     clear hsy HSY;go_wp2;refine bodyPost_ret (v:= .tuple #[.agg #[.int .i64 0,.int .i64 (n:Int),.int .i64 ((n+j:Nat):Int),.int .i64 0,.string ⟨#[]⟩],.int .i64 30]) (by simp[results,Tryz.results167,go_sem]) rfl (.err HN.out (Lx.bel2 _ _ _))
    ·have HN:Hid (R= .tok ⟨13,0,d.data.toList⟩ (Lx.tl s (n+j))):=by show _=_;rw[HSY.out,hsy];rfl
     clear hsy HSY;go_wp2;refine bodyPost_ret (v:= .tuple #[.agg #[.int .i64 13,.int .i64 (n:Int),.int .i64 ((n+j:Nat):Int),.int .i64 0,.string d],.int .i64 0]) (by simp[results,Tryz.results167,go_sem]) rfl (.tok HN.out (Lx.dmk d) rfl hj (Lx.bel2 _ _ _))
   have HSY:=symb (by rw[show(d[0]==45)=false from b45.trans c45,show(d[0]==43)=false from b43.trans c43];rfl);clear hnum hsym hg0 f0 hd0 symb hp1 hg1 b45 b43;go_wp2_with fail
   refine(HM.out _).mono ?_;rintro e w1 ⟨rfl,rfl⟩;go_wp2_with fail
   refine(HG0.out _).mono ?_;rintro e w1 ⟨rfl,rfl⟩;go_wp2_with fail
   refine(HS.out _).mono ?_;rintro e w1 ⟨rfl,rfl⟩;cases hsy:Lx.symbol d.data.toList
   ·have HN:Hid (R= .err 30):=by show _=_;rw[HSY.out,hsy];rfl
    clear hsy HSY;go_wp2;refine bodyPost_ret (v:= .tuple #[.agg #[.int .i64 0,.int .i64 (n:Int),.int .i64 ((n+j:Nat):Int),.int .i64 0,.string ⟨#[]⟩],.int .i64 30]) (by simp[results,Tryz.results167,go_sem]) rfl (.err HN.out (Lx.bel2 _ _ _))
   ·have HN:Hid (R= .tok ⟨13,0,d.data.toList⟩ (Lx.tl s (n+j))):=by show _=_;rw[HSY.out,hsy];rfl
    clear hsy HSY;go_wp2;refine bodyPost_ret (v:= .tuple #[.agg #[.int .i64 13,.int .i64 (n:Int),.int .i64 ((n+j:Nat):Int),.int .i64 0,.string d],.int .i64 0]) (by simp[results,Tryz.results167,go_sem]) rfl (.tok HN.out (Lx.dmk d) rfl hj (Lx.bel2 _ _ _))
  ·have hm:=fun wq=>markR_out s (n+j) wq (by omega) (by omega)
   obtain⟨hj0,HFIN⟩:=fin (fun h=>absurd h hin);have HM:=hd hm;clear fin hm;obtain⟨d,hd⟩:∃d,s.extract n (n+j)=d:=⟨_,rfl⟩
   obtain⟨hdz,hRR⟩:=HFIN.out d hd;have HRR:=hd hRR;have i1:(n:Int)≤((n+j:Nat):Int):=by omega
   have i2:((n+j:Nat):Int)≤(s.size:Int):=by omega
   have hdp:0<d.size:=by omega
   have hdpi:(0:Int)<(d.size:Int):=by omega
   have hdle:d.size≤1000000:=by omega
   clear hRR hdz;cases e1:(d.toList==[35,102])
   case true=>
    have e2:(d.toList==[35,116])=false:=by rw[ByteArray.toList_eq,Lx.eq_of_beq d _ e1];rfl
    have HN:Hid (R= .tok ⟨10,0,[]⟩ (Lx.tl s (n+j))):=by show _=_;rw[HRR.out,Lx.eq_of_beq d _ e1];rfl
    go_wp2_with fail
    refine(HM.out _).mono ?_;rintro e w1 ⟨rfl,rfl⟩;go_wp2;refine bodyPost_ret (v:= .tuple #[.agg #[.int .i64 10,.int .i64 (n:Int),.int .i64 ((n+j:Nat):Int),.int .i64 0,.string ⟨#[]⟩],.int .i64 0]) (by simp[results,Tryz.results167,go_sem]) rfl (.tok HN.out rfl rfl hj (Lx.bel2 _ _ _))
   cases e2:(d.toList==[35,116])
   case true=>
    have HN:Hid (R= .tok ⟨10,1,[]⟩ (Lx.tl s (n+j))):=by show _=_;rw[HRR.out,Lx.eq_of_beq d _ e2];rfl
    go_wp2_with fail
    refine(HM.out _).mono ?_;rintro e w1 ⟨rfl,rfl⟩;go_wp2;refine bodyPost_ret (v:= .tuple #[.agg #[.int .i64 10,.int .i64 (n:Int),.int .i64 ((n+j:Nat):Int),.int .i64 1,.string ⟨#[]⟩],.int .i64 0]) (by simp[results,Tryz.results167,go_sem]) rfl (.tok HN.out rfl rfl hj (Lx.bel2 _ _ _))
   cases e3:(d.toList==[46])
   case true=>
    have HN:Hid (R= .tok ⟨8,0,[]⟩ (Lx.tl s (n+j))):=by show _=_;rw[HRR.out,Lx.eq_of_beq d _ e3];rfl
    go_wp2_with fail
    refine(HM.out _).mono ?_;rintro e w1 ⟨rfl,rfl⟩;go_wp2;refine bodyPost_ret (v:= .tuple #[.agg #[.int .i64 8,.int .i64 (n:Int),.int .i64 ((n+j:Nat):Int),.int .i64 0,.string ⟨#[]⟩],.int .i64 0]) (by simp[results,Tryz.results167,go_sem]) rfl (.tok HN.out rfl rfl hj (Lx.bel2 _ _ _))
   have hd0:d.data.toList.headD 0=d[0]:=by
    have:=Lx.tl_cons d 0 hdp;unfold Lx.tl at this;rw[List.drop_zero]at this;rw[this];rfl
   have hnum:=Lx.runW_num d.data.toList (Lx.tl s (n+j)) (Lx.ne_of_beq d _ e1) (Lx.ne_of_beq d _ e2) (Lx.ne_of_beq d _ e3);have hsym:=Lx.runW_sym d.data.toList (Lx.tl s (n+j)) (Lx.ne_of_beq d _ e1) (Lx.ne_of_beq d _ e2) (Lx.ne_of_beq d _ e3);rw[hd0,Fx.size_toList]at hnum hsym;have HP:=hd (fun wq=>rParse_any d wq (by omega));have HS:=hd (fun wq=>SymbolR_any d wq (by omega));have hg0:=fun wq=>digitR_any d[0] wq
   cases f0:Lx.figure d[0]
   case true=>
    have HNUM:Hid (R=if(Fx.parse d.data.toList).2=0 then .tok ⟨9,(Fx.parse d.data.toList).1,[]⟩ (Lx.tl s (n+j))else if(Fx.parse d.data.toList).2=5 then .err 30 else .err (Fx.parse d.data.toList).2):=by
     show _=_;rw[HRR.out,hnum (by rw[f0];rfl)]
    rw[f0]at hg0;have HG0:=hd hg0;clear hnum hsym hg0 f0 hd0;go_wp2_with fail
    refine(HM.out _).mono ?_;rintro e w1 ⟨rfl,rfl⟩;go_wp2_with fail
    refine(HG0.out _).mono ?_;rintro e w1 ⟨rfl,rfl⟩;go_wp2_with fail
    refine(HP.out _).mono ?_;rintro e w1 ⟨rfl,rfl⟩;unfold Fx.R;by_cases p0:(Fx.parse d.data.toList).2=0
    ·have p0b:((Fx.parse d.data.toList).2==5)=false:=by rw[p0];rfl
     have HN:Hid (R= .tok ⟨9,(Fx.parse d.data.toList).1,[]⟩ (Lx.tl s (n+j))):=by show _=_;rw[HNUM.out,if_pos p0]
     obtain⟨q1,q2,hq⟩:∃q1 q2,Fx.parse d.data.toList=(q1,q2):=⟨_,_,rfl⟩
     rw[hq]at p0 p0b HN ⊢;have hq2:q2=0:=p0;subst hq2;clear p0 p0b hq;go_wp2;refine bodyPost_ret (v:= .tuple #[.agg #[.int .i64 9,.int .i64 (n:Int),.int .i64 ((n+j:Nat):Int),.int .i64 q1,.string ⟨#[]⟩],.int .i64 0]) (by simp[results,Tryz.results167,go_sem]) rfl (.tok HN.out rfl rfl hj (Lx.bel2 _ _ _))
    by_cases p5:(Fx.parse d.data.toList).2=5
    ·have HN:Hid (R= .err 30):=by show _=_;rw[HNUM.out,if_neg p0,if_pos p5]
     obtain⟨q1,q2,hq⟩:∃q1 q2,Fx.parse d.data.toList=(q1,q2):=⟨_,_,rfl⟩
     rw[hq]at p0 p5 ⊢;have hq2:q2=5:=p5;subst hq2;clear p0 p5 hq;go_wp2;refine bodyPost_ret (v:= .tuple #[.agg #[.int .i64 9,.int .i64 (n:Int),.int .i64 ((n+j:Nat):Int),.int .i64 q1,.string ⟨#[]⟩],.int .i64 30]) (by simp[results,Tryz.results167,go_sem]) rfl (.err HN.out (Lx.bel2 _ _ _))
    ·have HN:Hid (R= .err (Fx.parse d.data.toList).2):=by show _=_;rw[HNUM.out,if_neg p0,if_neg p5]
     obtain⟨q1,q2,hq⟩:∃q1 q2,Fx.parse d.data.toList=(q1,q2):=⟨_,_,rfl⟩
     rw[hq]at p0 p5 HN ⊢;have hq5:(q2==5)=false:=by rw[beq_eq_false_iff_ne];exact p5
     clear p0 p5 hq;go_wp2;refine bodyPost_ret (v:= .tuple #[.agg #[.int .i64 9,.int .i64 (n:Int),.int .i64 ((n+j:Nat):Int),.int .i64 q1,.string ⟨#[]⟩],.int .i64 q2]) (by simp[results,Tryz.results167,go_sem]) rfl (.err HN.out (Lx.bel2 _ _ _))
   rw[f0]at hg0;have HG0:=hd hg0
   -- no number by a sign: then it is a symbol's, or none
   have symb:(((d[0]==45||d[0]==43)&&decide (1<d.size)&&Lx.figure (Lx.pk d.data.toList 1))=false)→Hid (R=if Lx.symbol d.data.toList then .tok ⟨13,0,d.data.toList⟩ (Lx.tl s (n+j))else .err 30):=by
    intro h;show _=_;rw[HRR.out,hsym (by rw[f0,h];rfl)]
   by_cases hone:d.size≤1
   case pos=>
    have HSY:=symb (by rw[decide_eq_false (show ¬1<d.size by omega)];simp);have honei:¬ (1:Int)<(d.size:Int):=by omega
    clear hnum hsym hg0 f0 hd0 symb;go_wp2_with fail
    refine(HM.out _).mono ?_;rintro e w1 ⟨rfl,rfl⟩;go_wp2_with fail
    refine(HG0.out _).mono ?_;rintro e w1 ⟨rfl,rfl⟩;go_wp2_with fail
    refine(HS.out _).mono ?_;rintro e w1 ⟨rfl,rfl⟩;cases hsy:Lx.symbol d.data.toList
    ·have HN:Hid (R= .err 30):=by show _=_;rw[HSY.out,hsy];rfl
     clear hsy HSY;go_wp2;refine bodyPost_ret (v:= .tuple #[.agg #[.int .i64 0,.int .i64 (n:Int),.int .i64 ((n+j:Nat):Int),.int .i64 0,.string ⟨#[]⟩],.int .i64 30]) (by simp[results,Tryz.results167,go_sem]) rfl (.err HN.out (Lx.bel2 _ _ _))
    ·have HN:Hid (R= .tok ⟨13,0,d.data.toList⟩ (Lx.tl s (n+j))):=by show _=_;rw[HSY.out,hsy];rfl
     clear hsy HSY;go_wp2;refine bodyPost_ret (v:= .tuple #[.agg #[.int .i64 13,.int .i64 (n:Int),.int .i64 ((n+j:Nat):Int),.int .i64 0,.string d],.int .i64 0]) (by simp[results,Tryz.results167,go_sem]) rfl (.tok HN.out (Lx.dmk d) rfl hj (Lx.bel2 _ _ _))
   have honei:(1:Int)<(d.size:Int):=by omega
   have hp1:Lx.pk d.data.toList 1=d[1]:=by
    have:=Lx.pk_in d 0 1 (by omega);unfold Lx.tl at this;rw[List.drop_zero]at this;exact this
   rw[hp1]at hnum symb;have hg1:=fun wq=>digitR_any d[1] wq
   have b45:=Lx.beq_nat d[0] 45 (by omega);have b43:=Lx.beq_nat d[0] 43 (by omega);cases c45:((d[0].toNat:Int)==45)
   case true=>
    have e45:(d[0]==45)=true:=b45.trans c45;cases f1:Lx.figure d[1]
    case true=>
     have HNUM:Hid (R=if(Fx.parse d.data.toList).2=0 then .tok ⟨9,(Fx.parse d.data.toList).1,[]⟩ (Lx.tl s (n+j))else if(Fx.parse d.data.toList).2=5 then .err 30 else .err (Fx.parse d.data.toList).2):=by
      show _=_;rw[HRR.out,hnum (by rw[f0,f1,e45,decide_eq_true (show 1<d.size by omega)];rfl)]
     rw[f1]at hg1;have HG1:=hd hg1;clear hnum hsym hg0 f0 hd0 symb hp1 hg1 b45 b43 e45 f1;go_wp2_with fail
     refine(HM.out _).mono ?_;rintro e w1 ⟨rfl,rfl⟩;go_wp2_with fail
     refine(HG0.out _).mono ?_;rintro e w1 ⟨rfl,rfl⟩;go_wp2_with fail
     refine(HG1.out _).mono ?_;rintro e w1 ⟨rfl,rfl⟩;go_wp2_with fail
     refine(HP.out _).mono ?_;rintro e w1 ⟨rfl,rfl⟩;unfold Fx.R;by_cases p0:(Fx.parse d.data.toList).2=0
     ·have p0b:((Fx.parse d.data.toList).2==5)=false:=by rw[p0];rfl
      have HN:Hid (R= .tok ⟨9,(Fx.parse d.data.toList).1,[]⟩ (Lx.tl s (n+j))):=by show _=_;rw[HNUM.out,if_pos p0]
      obtain⟨q1,q2,hq⟩:∃q1 q2,Fx.parse d.data.toList=(q1,q2):=⟨_,_,rfl⟩
      rw[hq]at p0 p0b HN ⊢;have hq2:q2=0:=p0;subst hq2;clear p0 p0b hq;go_wp2;refine bodyPost_ret (v:= .tuple #[.agg #[.int .i64 9,.int .i64 (n:Int),.int .i64 ((n+j:Nat):Int),.int .i64 q1,.string ⟨#[]⟩],.int .i64 0]) (by simp[results,Tryz.results167,go_sem]) rfl (.tok HN.out rfl rfl hj (Lx.bel2 _ _ _))
     by_cases p5:(Fx.parse d.data.toList).2=5
     ·have HN:Hid (R= .err 30):=by show _=_;rw[HNUM.out,if_neg p0,if_pos p5]
      obtain⟨q1,q2,hq⟩:∃q1 q2,Fx.parse d.data.toList=(q1,q2):=⟨_,_,rfl⟩
      rw[hq]at p0 p5 ⊢;have hq2:q2=5:=p5;subst hq2;clear p0 p5 hq;go_wp2;refine bodyPost_ret (v:= .tuple #[.agg #[.int .i64 9,.int .i64 (n:Int),.int .i64 ((n+j:Nat):Int),.int .i64 q1,.string ⟨#[]⟩],.int .i64 30]) (by simp[results,Tryz.results167,go_sem]) rfl (.err HN.out (Lx.bel2 _ _ _))
     ·have HN:Hid (R= .err (Fx.parse d.data.toList).2):=by show _=_;rw[HNUM.out,if_neg p0,if_neg p5]
      obtain⟨q1,q2,hq⟩:∃q1 q2,Fx.parse d.data.toList=(q1,q2):=⟨_,_,rfl⟩
      rw[hq]at p0 p5 HN ⊢;have hq5:(q2==5)=false:=by rw[beq_eq_false_iff_ne];exact p5
      clear p0 p5 hq;go_wp2;refine bodyPost_ret (v:= .tuple #[.agg #[.int .i64 9,.int .i64 (n:Int),.int .i64 ((n+j:Nat):Int),.int .i64 q1,.string ⟨#[]⟩],.int .i64 q2]) (by simp[results,Tryz.results167,go_sem]) rfl (.err HN.out (Lx.bel2 _ _ _))
    have HSY:=symb (by rw[f1];simp);rw[f1]at hg1;have HG1:=hd hg1;clear hnum hsym hg0 f0 hd0 symb hp1 hg1 b45 b43 e45 f1;go_wp2_with fail
    refine(HM.out _).mono ?_;rintro e w1 ⟨rfl,rfl⟩;go_wp2_with fail
    refine(HG0.out _).mono ?_;rintro e w1 ⟨rfl,rfl⟩;go_wp2_with fail
    refine(HG1.out _).mono ?_;rintro e w1 ⟨rfl,rfl⟩;go_wp2_with fail
    refine(HS.out _).mono ?_;rintro e w1 ⟨rfl,rfl⟩;cases hsy:Lx.symbol d.data.toList
    ·have HN:Hid (R= .err 30):=by show _=_;rw[HSY.out,hsy];rfl
     clear hsy HSY;go_wp2;refine bodyPost_ret (v:= .tuple #[.agg #[.int .i64 0,.int .i64 (n:Int),.int .i64 ((n+j:Nat):Int),.int .i64 0,.string ⟨#[]⟩],.int .i64 30]) (by simp[results,Tryz.results167,go_sem]) rfl (.err HN.out (Lx.bel2 _ _ _))
    ·have HN:Hid (R= .tok ⟨13,0,d.data.toList⟩ (Lx.tl s (n+j))):=by show _=_;rw[HSY.out,hsy];rfl
     clear hsy HSY;go_wp2;refine bodyPost_ret (v:= .tuple #[.agg #[.int .i64 13,.int .i64 (n:Int),.int .i64 ((n+j:Nat):Int),.int .i64 0,.string d],.int .i64 0]) (by simp[results,Tryz.results167,go_sem]) rfl (.tok HN.out (Lx.dmk d) rfl hj (Lx.bel2 _ _ _))
   cases c43:((d[0].toNat:Int)==43)
   case true=>
    have e43:(d[0]==43)=true:=b43.trans c43;cases f1:Lx.figure d[1]
    case true=>
     have HNUM:Hid (R=if(Fx.parse d.data.toList).2=0 then .tok ⟨9,(Fx.parse d.data.toList).1,[]⟩ (Lx.tl s (n+j))else if(Fx.parse d.data.toList).2=5 then .err 30 else .err (Fx.parse d.data.toList).2):=by
      show _=_;rw[HRR.out,hnum (by rw[f0,f1,e43,decide_eq_true (show 1<d.size by omega)];simp)]
     rw[f1]at hg1;have HG1:=hd hg1;clear hnum hsym hg0 f0 hd0 symb hp1 hg1 b45 b43 e43 f1;go_wp2_with fail
     refine(HM.out _).mono ?_;rintro e w1 ⟨rfl,rfl⟩;go_wp2_with fail
     refine(HG0.out _).mono ?_;rintro e w1 ⟨rfl,rfl⟩;go_wp2_with fail
     refine(HG1.out _).mono ?_;rintro e w1 ⟨rfl,rfl⟩;go_wp2_with fail
     refine(HP.out _).mono ?_;rintro e w1 ⟨rfl,rfl⟩;unfold Fx.R;by_cases p0:(Fx.parse d.data.toList).2=0
     ·have p0b:((Fx.parse d.data.toList).2==5)=false:=by rw[p0];rfl
      have HN:Hid (R= .tok ⟨9,(Fx.parse d.data.toList).1,[]⟩ (Lx.tl s (n+j))):=by show _=_;rw[HNUM.out,if_pos p0]
      obtain⟨q1,q2,hq⟩:∃q1 q2,Fx.parse d.data.toList=(q1,q2):=⟨_,_,rfl⟩
      rw[hq]at p0 p0b HN ⊢;have hq2:q2=0:=p0;subst hq2;clear p0 p0b hq;go_wp2;refine bodyPost_ret (v:= .tuple #[.agg #[.int .i64 9,.int .i64 (n:Int),.int .i64 ((n+j:Nat):Int),.int .i64 q1,.string ⟨#[]⟩],.int .i64 0]) (by simp[results,Tryz.results167,go_sem]) rfl (.tok HN.out rfl rfl hj (Lx.bel2 _ _ _))
     by_cases p5:(Fx.parse d.data.toList).2=5
     ·have HN:Hid (R= .err 30):=by show _=_;rw[HNUM.out,if_neg p0,if_pos p5]
      obtain⟨q1,q2,hq⟩:∃q1 q2,Fx.parse d.data.toList=(q1,q2):=⟨_,_,rfl⟩
      rw[hq]at p0 p5 ⊢;have hq2:q2=5:=p5;subst hq2;clear p0 p5 hq;go_wp2;refine bodyPost_ret (v:= .tuple #[.agg #[.int .i64 9,.int .i64 (n:Int),.int .i64 ((n+j:Nat):Int),.int .i64 q1,.string ⟨#[]⟩],.int .i64 30]) (by simp[results,Tryz.results167,go_sem]) rfl (.err HN.out (Lx.bel2 _ _ _))
     ·have HN:Hid (R= .err (Fx.parse d.data.toList).2):=by show _=_;rw[HNUM.out,if_neg p0,if_neg p5]
      obtain⟨q1,q2,hq⟩:∃q1 q2,Fx.parse d.data.toList=(q1,q2):=⟨_,_,rfl⟩
      rw[hq]at p0 p5 HN ⊢;have hq5:(q2==5)=false:=by rw[beq_eq_false_iff_ne];exact p5
      clear p0 p5 hq;go_wp2;refine bodyPost_ret (v:= .tuple #[.agg #[.int .i64 9,.int .i64 (n:Int),.int .i64 ((n+j:Nat):Int),.int .i64 q1,.string ⟨#[]⟩],.int .i64 q2]) (by simp[results,Tryz.results167,go_sem]) rfl (.err HN.out (Lx.bel2 _ _ _))
    have HSY:=symb (by rw[f1];simp);rw[f1]at hg1;have HG1:=hd hg1;clear hnum hsym hg0 f0 hd0 symb hp1 hg1 b45 b43 e43 f1;go_wp2_with fail
    refine(HM.out _).mono ?_;rintro e w1 ⟨rfl,rfl⟩;go_wp2_with fail
    refine(HG0.out _).mono ?_;rintro e w1 ⟨rfl,rfl⟩;go_wp2_with fail
    refine(HG1.out _).mono ?_;rintro e w1 ⟨rfl,rfl⟩;go_wp2_with fail
    refine(HS.out _).mono ?_;rintro e w1 ⟨rfl,rfl⟩;cases hsy:Lx.symbol d.data.toList
    ·have HN:Hid (R= .err 30):=by show _=_;rw[HSY.out,hsy];rfl
     clear hsy HSY;go_wp2;refine bodyPost_ret (v:= .tuple #[.agg #[.int .i64 0,.int .i64 (n:Int),.int .i64 ((n+j:Nat):Int),.int .i64 0,.string ⟨#[]⟩],.int .i64 30]) (by simp[results,Tryz.results167,go_sem]) rfl (.err HN.out (Lx.bel2 _ _ _))
    ·have HN:Hid (R= .tok ⟨13,0,d.data.toList⟩ (Lx.tl s (n+j))):=by show _=_;rw[HSY.out,hsy];rfl
     clear hsy HSY;go_wp2;refine bodyPost_ret (v:= .tuple #[.agg #[.int .i64 13,.int .i64 (n:Int),.int .i64 ((n+j:Nat):Int),.int .i64 0,.string d],.int .i64 0]) (by simp[results,Tryz.results167,go_sem]) rfl (.tok HN.out (Lx.dmk d) rfl hj (Lx.bel2 _ _ _))
   have HSY:=symb (by rw[show(d[0]==45)=false from b45.trans c45,show(d[0]==43)=false from b43.trans c43];rfl);clear hnum hsym hg0 f0 hd0 symb hp1 hg1 b45 b43;go_wp2_with fail
   refine(HM.out _).mono ?_;rintro e w1 ⟨rfl,rfl⟩;go_wp2_with fail
   refine(HG0.out _).mono ?_;rintro e w1 ⟨rfl,rfl⟩;go_wp2_with fail
   refine(HS.out _).mono ?_;rintro e w1 ⟨rfl,rfl⟩;cases hsy:Lx.symbol d.data.toList
   ·have HN:Hid (R= .err 30):=by show _=_;rw[HSY.out,hsy];rfl
    clear hsy HSY;go_wp2;refine bodyPost_ret (v:= .tuple #[.agg #[.int .i64 0,.int .i64 (n:Int),.int .i64 ((n+j:Nat):Int),.int .i64 0,.string ⟨#[]⟩],.int .i64 30]) (by simp[results,Tryz.results167,go_sem]) rfl (.err HN.out (Lx.bel2 _ _ _))
   ·have HN:Hid (R= .tok ⟨13,0,d.data.toList⟩ (Lx.tl s (n+j))):=by show _=_;rw[HSY.out,hsy];rfl
    clear hsy HSY;go_wp2;refine bodyPost_ret (v:= .tuple #[.agg #[.int .i64 13,.int .i64 (n:Int),.int .i64 ((n+j:Nat):Int),.int .i64 0,.string d],.int .i64 0]) (by simp[results,Tryz.results167,go_sem]) rfl (.tok HN.out (Lx.dmk d) rfl hj (Lx.bel2 _ _ _))
namespace Lx
def good:List UInt8→Bool
 |[]=>true
 |[c]=>c !=92
 |c :: d :: r=>if c==92 then good r else good (d :: r)
termination_by l=>l.length
decreasing_by all_goals (simp;try omega)
theorem good_plain(c:UInt8)(t:List UInt8)(h:(c==92)=false):good (c :: t)=good t:=by
 cases t with
 |nil=>simp only[good];simpa using h
 |cons d r=>rw[good,if_neg (by rw[h];simp)]
theorem good_esc(d:UInt8)(r:List UInt8):good (92 :: d :: r)=good r:=by rw[good];rfl
theorem good_92:good [92]=false:=by rw[good];rfl
theorem strEnd_good:∀(f:Nat) (t b r:List UInt8),t.length≤f→strEnd t=some (b,r)→good b=true∧t=b++34 :: r:=by
 intro f
 induction f with
 |zero=>
  intro t b r hf h;have:t=[]:=List.length_eq_zero_iff.1 (by omega);subst this;simp[strEnd]at h
 |succ f ih=>
  intro t b r hf h
  match t,hf,h with
  |[],_,h=>simp[strEnd]at h
  |[c],_,h=>
   rw[strEnd]at h;split at h
   ·rename_i hc;injection h with h
    injection h with h1 h2
    subst h1;subst h2;have:c=34:=by simpa using hc
    subst this;exact⟨by simp[good],rfl⟩
   ·cases h
  |c :: d :: u,hf,h=>
   rw[strEnd]at h;split at h
   ·rename_i hc;injection h with h
    injection h with h1 h2
    subst h1;subst h2;have:c=34:=by simpa using hc
    subst this;exact⟨by simp[good],rfl⟩
   ·split at h
    ·rename_i hc;have hc2:c=92:=by simpa using hc
     subst hc2
     cases hu:strEnd u with
     |none=>rw[hu]at h;cases h
     |some p=>
      obtain⟨b',r'⟩:=p;rw[hu]at h;injection h with h
      injection h with h1 h2
      subst h1;subst h2;obtain⟨g1,g2⟩:=ih u b' r' (by simp at hf;omega) hu;exact⟨by rw[good_esc];exact g1,by rw[g2];rfl⟩
    ·rename_i hc
     cases hu:strEnd (d :: u)with
     |none=>rw[hu]at h;cases h
     |some p=>
      obtain⟨b',r'⟩:=p;rw[hu]at h;injection h with h
      injection h with h1 h2
      subst h1;subst h2;obtain⟨g1,g2⟩:=ih (d :: u) b' r' (by simp at hf ⊢;omega) hu;exact⟨by rw[good_plain c b' (by simpa using hc)];exact g1,by rw[g2];rfl⟩
theorem hexOf_92:hexOf 92=none:=by decide
theorem two_good(r:List UInt8)(h:0≤two r)(hg:good r=true):good (r.drop 2)=true:=by
 unfold two at h
 match r,h,hg with
 |[],h,_=>simp at h
 |[_],h,_=>simp at h
 |x :: y :: u,h,hg=>
  change (0:Int)≤(match hexOf x,hexOf y with|some a,some b=>(if a≤7 then((16*a+b:Nat):Int)else -1)|_,_=> -1)at h;rcases hx:hexOf x with _|a
  ·rw[hx]at h;simp at h
  ·rcases hy:hexOf y with _|b
   ·rw[hx,hy]at h;simp at h
   ·have n1:(x==92)=false:=by
     rw[beq_eq_false_iff_ne];intro e;rw[e,hexOf_92]at hx;cases hx
    have n2:(y==92)=false:=by
     rw[beq_eq_false_iff_ne];intro e;rw[e,hexOf_92]at hy;cases hy
    rw[good_plain x _ n1,good_plain y _ n2]at hg;exact hg
theorem quoted_92e(t:List UInt8)(h:t≠[]):quoted (92 :: t)=if(esc t).1<0 then none else(quoted (t.drop (esc t).2.toNat)).map (UInt8.ofNat (esc t).1.toNat :: ·):=by
 obtain⟨d,r,rfl⟩:=List.exists_cons_of_ne_nil h;rw[quoted_esc,esc_cons];by_cases h1:d=110
 ·subst h1;rfl
 ·by_cases h2:d=116
  ·subst h2;rfl
  ·by_cases h3:d=92
   ·subst h3;rfl
   ·by_cases h4:d=34
    ·subst h4;rfl
    ·by_cases h5:d=120
     ·subst h5;show(if two r<0 then none else _)=(if two r<0 then none else _)
      rfl
     ·simp[h1,h2,h3,h4,h5]
theorem good_92e(t:List UInt8)(h:t≠[])(hg:good (92 :: t)=true)(he:¬ (esc t).1<0):good (t.drop (esc t).2.toNat)=true:=by
 obtain⟨d,r,rfl⟩:=List.exists_cons_of_ne_nil h;rw[good_esc]at hg;rw[esc_cons]at he ⊢;by_cases h1:d=110
 ·subst h1;exact hg
 ·by_cases h2:d=116
  ·subst h2;exact hg
  ·by_cases h3:d=92
   ·subst h3;exact hg
   ·by_cases h4:d=34
    ·subst h4;exact hg
    ·by_cases h5:d=120
     ·subst h5;have he':¬two r<0:=he;exact two_good r (by omega) hg
     ·simp[h1,h2,h3,h4,h5]at he
theorem esc_len(t:List UInt8)(h:t≠[])(he:¬ (esc t).1<0):1≤(esc t).2∧(esc t).2.toNat≤t.length∧(esc t).1≤255:=by
 obtain⟨d,r,rfl⟩:=List.exists_cons_of_ne_nil h;rw[esc_cons]at he ⊢;by_cases h1:d=110
 ·subst h1;simp
 ·by_cases h2:d=116
  ·subst h2;simp
  ·by_cases h3:d=92
   ·subst h3;simp
   ·by_cases h4:d=34
    ·subst h4;simp
    ·by_cases h5:d=120
     ·subst h5;have he':¬two r<0:=he;obtain⟨l1,l2⟩:=two_range r (by omega);show 1≤(3:Int)∧(3:Int).toNat≤(120 :: r).length∧two r≤255;rw[List.length_cons];exact⟨by decide,by show 3≤_;omega,by omega⟩
     ·simp[h1,h2,h3,h4,h5]at he
end Lx
namespace Lx
theorem put5_bel{n R:Nat}{w a:World}(h:Below n w a)(hR:n≤R)(k a' z m:Int)(x:ByteArray):Below n w (put5 a R k a' z m x):=
 ((((h.setCell (p:=⟨R,0,none⟩) hR _).setCell (p:=⟨R,1,none⟩) hR _).setCell (p:=⟨R,2,none⟩) hR _).setCell (p:=⟨R,3,none⟩) hR _).setCell (p:=⟨R,4,none⟩) hR _
theorem TkAt.bel{w w':World}{T n:Nat}{k a z m:Int}{x:ByteArray}(h:TkAt w T k a z m x)(hb:Below n w w')(hT:T<n):TkAt w' T k a z m x:=
 ⟨(hb.cell (p:=⟨T,0,none⟩) hT).trans h.c0,(hb.cell (p:=⟨T,1,none⟩) hT).trans h.c1,(hb.cell (p:=⟨T,2,none⟩) hT).trans h.c2,(hb.cell (p:=⟨T,3,none⟩) hT).trans h.c3,(hb.cell (p:=⟨T,4,none⟩) hT).trans h.c4,fun j=>(hb.frozen (p:=⟨T,j,none⟩) hT).trans (h.fz j),Nat.lt_of_lt_of_le h.lt hb.size⟩
theorem ext0(s:ByteArray)(m:Nat)(hm:m≤s.size)(i:Nat)(h:i<m):(s.extract 0 m).size=m∧tl (s.extract 0 m) i=s[i] :: tl (s.extract 0 m) (i+1):=by
 have h1:(s.extract 0 m).size=m:=by simp;omega
 refine⟨h1,?_⟩;rw[tl_cons _ i (by omega)]
 congr 1
 rw[ByteArray.getElem_extract];simp
theorem own_form{w:World}{b:Nat}{pv:Value}{ps:List UInt8}(ho:w.ownsRow b 5 1 pv ps.length (ps.map byteV)):∃a c,pv= .slice a ps.length c:=by
 rcases Joins.ownsRow_forms ho with⟨rfl,hz⟩|⟨g,cap,rfl,_⟩
 ·exact⟨none,0,by rw[hz]⟩
 ·exact⟨_,_,rfl⟩
theorem str_none(t:List UInt8)(h:strEnd t.tail=none):str t= .err 31:=by unfold str;rw[h]
theorem str_some(t b r:List UInt8)(h:strEnd t.tail=some (b,r)):str t=(match quoted b with|some q=>if q.length≤256 then .tok ⟨12,0,q⟩ r else .err 30|none=> .err 30):=by unfold str;rw[h];rfl
end Lx
theorem strR_any(s:ByteArray)(n:Nat)(w:World)(hs:s.size≤1000000)(hn:n<s.size):
  Calls Tryz.prog 165 #[.string s,.int .i64 n] w (Lx.TokR s n (Lx.str (Lx.tl s n)) w):=by
 obtain⟨i0,hi,hz0,hz1,hz2⟩:=info_parts Lx.infoU8;obtain⟨RES,hRES⟩:∃RES,Lx.str (Lx.tl s n)=RES:=⟨_,rfl⟩
 rw[hRES];have HRES:=hd hRES;clear hRES;go_enter Tryz.func165,Tryz.ntmps165;go_wp2_with fail
 go_loop [7] (fun vm=>∃m:Nat,vm= .int .i64 m∧n+1≤m∧m≤s.size+1∧Hid (Lx.Way s (n+1) m)) (fun vm=>s.size+2 - (intOf vm).toNat)
 case atStart=>exact⟨n+1,by go_num,by omega,by omega,Lx.Way.start s (n+1)⟩
 case round=>
  obtain⟨m,rfl,hm1,hm2,HW⟩:=hrel;by_cases hms:m<s.size
  case neg=>
   have hmi:¬ (m:Int)<(s.size:Int):=by omega
   have hmj:(s.size:Int)≤(m:Int):=by omega
   have HN:Hid (RES= .err 31):=by
    show _=_;rw[←HRES.out];refine Lx.str_none _ ?_;rw[Lx.tl_tail];have:=HW.out;unfold Lx.Way at this;rw[this,Lx.tl_nil s m (by omega)];simp[Lx.strEnd]
   go_wp2;refine bodyPost_ret (v:= .tuple #[.agg #[.int .i64 12,.int .i64 (n:Int),.int .i64 0,.int .i64 0,.string ⟨#[]⟩],.int .i64 31]) (by simp[results,Tryz.results165,go_sem]) rfl (.err HN.out (Lx.bel2 _ _ _))
  have hmi:(m:Int)<(s.size:Int):=by omega
  have hst:=Lx.strEnd_step s m hms;obtain⟨c,hc⟩:∃c,s[m]=c:=⟨_,rfl⟩
  rw[hc]at hst;have b34:(c==34)=((c.toNat:Int)==34):=Lx.beq_nat c 34 (by omega);have b92:(c==92)=((c.toNat:Int)==92):=Lx.beq_nat c 92 (by omega);cases c34:((c.toNat:Int)==34)
  case false=>
   have n34:((c.toNat:Int) !=34)=true:=by unfold bne;rw[c34];rfl
   rw[if_neg (by rw[b34.trans c34];simp)]at hst;cases c92:((c.toNat:Int)==92)
   case true=>
    rw[if_pos (b92.trans c92)]at hst;have HW2:Hid (Lx.Way s (n+1) (m+2)):=Lx.Way.step 2 HW.out hm1 hst;clear hst b34 b92;go_wp2
    go_round
    case rel=>exact⟨m+2,by go_num,by omega,by omega,HW2⟩
    case measure=>simp[intOf];omega
   case false=>
    rw[if_neg (by rw[b92.trans c92];simp)]at hst;have HW2:Hid (Lx.Way s (n+1) (m+1)):=Lx.Way.step 1 HW.out hm1 hst;clear hst b34 b92;go_wp2
    go_round
    case rel=>exact⟨m+1,by go_num,by omega,by omega,HW2⟩
    case measure=>simp[intOf];omega
  have n34:((c.toNat:Int) !=34)=false:=by unfold bne;rw[c34];rfl
  rw[if_pos (b34.trans c34)]at hst;obtain⟨X,hX⟩:∃X,s.extract 0 m=X:=⟨_,rfl⟩
  have hXs:X.size=m:=by rw[←hX];simp;omega
  have hbody:(Lx.tl s (n+1)).take (m - (n+1))=Lx.tl X (n+1):=by
   unfold Lx.tl;rw[←hX,Lib.extract_data,List.drop_zero,Nat.sub_zero,List.drop_take]
  have hse:Lx.strEnd (Lx.tl s (n+1))=some (Lx.tl X (n+1),Lx.tl s (m+1)):=by
   have:=HW.out;unfold Lx.Way at this;rw[this,hst,←hbody];simp
  have hgood:=(Lx.strEnd_good _ _ _ _ (Nat.le_refl _) hse).1;have hres:RES=(match Lx.quoted (Lx.tl X (n+1))with|some q=>if q.length≤256 then .tok ⟨12,0,q⟩ (Lx.tl s (m+1))else .err 30|none=> .err 30):=by
   rw[←HRES.out];refine Lx.str_some _ _ _ ?_;rw[Lx.tl_tail];exact hse
  have hx0:∀i,(h:i<m)→(h2:i<s.size)→Lx.tl X i=s[i]'h2 :: Lx.tl X (i+1):=fun i h h2=>by have:=(Lx.ext0 s m (Nat.le_of_lt hms) i h).2;rw[hX]at this;exact this
  have HX:=hd hx0;have HRS:=hd hres;have HG0:=hd hgood;have hmj:¬ (s.size:Int)≤(m:Int):=by omega
  have m0:(0:Int)≤(m:Int):=by omega
  have m1:(m:Int)≤(s.size:Int):=by omega
  clear hst b34 b92 hbody hse hgood hres HW HRES c34 hx0;obtain⟨R,hR⟩:∃R,w.heap.size=R:=⟨_,rfl⟩
  obtain⟨w2,hw2⟩:∃w2,(w.alloc (.cells #[.int .i64 0,.int .i64 0,.int .i64 0,.int .i64 0,.string ⟨#[]⟩] 144)).alloc (.cells #[.int .i64 12,.int .i64 (n:Int),.int .i64 ((m:Int)+1),.int .i64 0,.string ⟨#[]⟩] 144)=w2:=⟨_,rfl⟩
  have hb2:Below w.heap.size w w2:=by rw[←hw2];exact Lx.bel2 _ _ _
  have hT:=Lx.TkAt.alloc (w.alloc (.cells #[.int .i64 0,.int .i64 0,.int .i64 0,.int .i64 0,.string ⟨#[]⟩] 144)) 12 n ((m:Int)+1) 0 ⟨#[]⟩ 144;have hRR:=(Lx.TkAt.alloc w 0 0 0 0 ⟨#[]⟩ 144).below ((Below.refl _ (w.alloc (.cells #[.int .i64 0,.int .i64 0,.int .i64 0,.int .i64 0,.string ⟨#[]⟩] 144))).alloc (Nat.le_refl _) (.cells #[.int .i64 12,.int .i64 (n:Int),.int .i64 ((m:Int)+1),.int .i64 0,.string ⟨#[]⟩] 144));rw[hw2]at hT hRR;rw[World.size_alloc,hR]at hT;rw[hR]at hRR hb2;have hsz2:w2.heap.size=R+2:=by rw[←hw2];simp;omega
  have HT2:=hd hT;have HR2:=hd hRR;have HB2:=hd hb2;have HSZ2:=hd hsz2;have HRW:=hd hR;clear hT hRR hb2 hsz2;go_wp2_with fail
  have HXS:=hd hXs;clear hw2 hR hXs hc
  go_loopw [8,9] (fun vb vi wr=>∃(i:Nat) (acc:List UInt8) (bv:Value),vb=bv∧vi= .int .i64 i∧n+1≤i∧i≤m∧acc.length≤i∧Hid (Lx.quoted (Lx.tl X (n+1))=(Lx.quoted (Lx.tl X i)).map (acc++ ·))∧Hid (Lx.good (Lx.tl X i)=true)∧Hid (wr.ownsRow (R+2) 5 1 bv acc.length (acc.map Lx.byteV))∧Hid (Lx.TkAt wr R 0 0 0 0 ⟨#[]⟩)∧Hid (Lx.TkAt wr (R+1) 12 n ((m:Int)+1) 0 ⟨#[]⟩)∧Hid (Below R w wr)∧Hid (R+2≤wr.heap.size)) (fun _ vi _=>m+1 - (intOf vi).toNat)
  case atStart=>exact⟨n+1,[],_,rfl,by go_num,by omega,by omega,by simp,by show _=_;simp,HG0,World.ownsRow_nil _ _ _ _,HR2,HT2,HB2,Nat.le_of_eq HSZ2.out.symm⟩
  case round=>
   obtain⟨i,acc,bv,rfl,rfl,hi1,hi2,hal,HQ,HG,HO,HR1,HT1,HB1,HL⟩:=hrel;have hTR:R≠R+1:=by omega
   by_cases him:i<m
   case neg=>
    obtain rfl:i=m:=by omega
    have hge:¬ (i:Int)<(i:Int):=by omega
    have hq:Lx.quoted (Lx.tl X (n+1))=some acc:=by
     rw[HQ.out,Lx.tl_nil X i (by rw[HXS.out];exact Nat.le_refl _)];simp[Lx.quoted]
    obtain⟨ba,bc,rfl⟩:=Lx.own_form HO.out;by_cases hbig:256<acc.length
    ·have hbigi:256<(acc.length:Int):=by omega
     have HN:Hid (RES= .err 30):=by show _=_;rw[HRS.out,hq];simp only[];rw[if_neg (by omega)]
     clear hq;have u0:=HT1.out.c0;have u1:=HT1.out.c1;have u2:=HT1.out.c2;have u3:=HT1.out.c3;have u4:=HT1.out.c4;have uz:=HT1.out.fz;have r0:=HR1.out.c0;have r1:=HR1.out.c1;have r2:=HR1.out.c2;have r3:=HR1.out.c3;have r4:=HR1.out.c4;have rz:=HR1.out.fz;go_wp2;have HF:=Lx.put5_at HR1.out 12 (n:Int) ((i:Int)+1) 0 ⟨#[]⟩;have HFB:=Lx.put5_bel HB1.out (Nat.le_refl R) 12 (n:Int) ((i:Int)+1) 0 ⟨#[]⟩;obtain⟨F,hF⟩:∃F,Lx.put5 wr R 12 (n:Int) ((i:Int)+1) 0 ⟨#[]⟩=F:=⟨_,rfl⟩
     rw[hF]at HF HFB;unfold Lx.put5 at hF;rw[hF];have f0:=HF.c0;have f1:=HF.c1;have f2:=HF.c2;have f3:=HF.c3;have f4:=HF.c4;exact bodyPost_ret (v:= .tuple #[.agg #[.int .i64 12,.int .i64 (n:Int),.int .i64 ((i:Int)+1),.int .i64 0,.string ⟨#[]⟩],.int .i64 30]) (by simp[results,Tryz.results165,go_sem,f0,f1,f2,f3,f4]) rfl (.err HN.out (by rw[HRW.out];exact HFB))
    have hbigi:¬256<(acc.length:Int):=by omega
    have HN:Hid (RES= .tok ⟨12,0,acc⟩ (Lx.tl s (i+1))):=by show _=_;rw[HRS.out,hq];simp only[];rw[if_pos (by omega)]
    have hcv:=Lx.conv_own acc HO.out;obtain⟨q,hqq⟩:∃q:ByteArray,(⟨acc.toArray⟩:ByteArray)=q:=⟨_,rfl⟩
    rw[hqq]at hcv;have HQQ:=hd hqq;clear hq hqq;have d4:=HT1.out.c4;have t3:=HT1.out.set4 q;have R3:=HR1.out.other (R+1) 4 (.string q) hTR;have u0:=t3.c0;have u1:=t3.c1;have u2:=t3.c2;have u3:=t3.c3;have u4:=t3.c4;have uz:=HT1.out.fz;have r0:=R3.c0;have r1:=R3.c1;have r2:=R3.c2;have r3:=R3.c3;have r4:=R3.c4;have rz:=R3.fz;have HR3:=hd R3;have HB3:=hd (HB1.out.setCell (p:=⟨R+1,4,none⟩) (Nat.le_succ R) (.string q));clear t3 R3;go_wp2;have HF:=Lx.put5_at HR3.out 12 (n:Int) ((i:Int)+1) 0 q;have HFB:=Lx.put5_bel HB3.out (Nat.le_refl R) 12 (n:Int) ((i:Int)+1) 0 q;obtain⟨F,hF⟩:∃F,Lx.put5 (wr.setCell ⟨R+1,4,none⟩ (.string q)) R 12 (n:Int) ((i:Int)+1) 0 q=F:=⟨_,rfl⟩
    rw[hF]at HF HFB;unfold Lx.put5 at hF;rw[hF];have f0:=HF.c0;have f1:=HF.c1;have f2:=HF.c2;have f3:=HF.c3;have f4:=HF.c4;exact bodyPost_ret (v:= .tuple #[.agg #[.int .i64 12,.int .i64 (n:Int),.int .i64 ((i:Int)+1),.int .i64 0,.string q],.int .i64 0]) (by simp[results,Tryz.results165,go_sem,f0,f1,f2,f3,f4]) rfl (.tok HN.out HQQ.out.symm (by omega) (by omega) (by rw[HRW.out];exact HFB))
   have himi:(i:Int)<(m:Int):=by omega
   have his:i<s.size:=by omega
   have hx:=HX.out i him his;obtain⟨c,hc⟩:∃c,s[i]=c:=⟨_,rfl⟩
   rw[hc]at hx;have hcb:=Lx.b8 c;have b92:(c==92)=((c.toNat:Int)==92):=Lx.beq_nat c 92 (by omega);have hg:=HG.out;have hq:=HQ.out;rw[hx]at hg hq;cases c92:((c.toNat:Int)==92)
   case true=>
    have e92:c=92:=by simpa using b92.trans c92
    have hne:Lx.tl X (i+1)≠[]:=by
     intro h;rw[h,e92,Lx.good_92]at hg;cases hg
    have hi1m:i+1<m:=by
     rcases Nat.lt_or_ge (i+1) m with h|h
     ·exact h
     ·exact absurd (Lx.tl_nil X (i+1) (by rw[HXS.out];exact h)) hne
    rw[e92]at hg hq;rw[Lx.quoted_92e _ hne]at hq;have hes:=fun wq=>escapedR_any X (i+1) wq (by rw[HXS.out];omega) (by rw[HXS.out];exact hi1m)
    have hel:=Lx.esc_len _ hne;have hge:=Lx.good_92e _ hne hg;obtain⟨e1,e2,he⟩:∃e1 e2,Lx.esc (Lx.tl X (i+1))=(e1,e2):=⟨_,_,rfl⟩
    rw[he]at hq hes hel hge;simp only[]at hq hes hel hge;by_cases hneg:e1<0
    ·rw[if_pos hneg]at hq;have HN:Hid (RES= .err 30):=by show _=_;rw[HRS.out,hq];rfl
     have HES:=hd hes;clear hg hq hx hes hel hge he hne b92 e92;go_wp2_with fail
     rw[show(i:Int)+1=((i+1:Nat):Int)by omega];refine(HES.out _).mono ?_;rintro e w4 ⟨rfl,rfl⟩;have u0:=HT1.out.c0;have u1:=HT1.out.c1;have u2:=HT1.out.c2;have u3:=HT1.out.c3;have u4:=HT1.out.c4;have uz:=HT1.out.fz;have r0:=HR1.out.c0;have r1:=HR1.out.c1;have r2:=HR1.out.c2;have r3:=HR1.out.c3;have r4:=HR1.out.c4;have rz:=HR1.out.fz;go_wp2;have HF:=Lx.put5_at HR1.out 12 (n:Int) ((m:Int)+1) 0 ⟨#[]⟩;have HFB:=Lx.put5_bel HB1.out (Nat.le_refl R) 12 (n:Int) ((m:Int)+1) 0 ⟨#[]⟩;obtain⟨F,hF⟩:∃F,Lx.put5 wr R 12 (n:Int) ((m:Int)+1) 0 ⟨#[]⟩=F:=⟨_,rfl⟩
     rw[hF]at HF HFB;unfold Lx.put5 at hF;rw[hF];have f0:=HF.c0;have f1:=HF.c1;have f2:=HF.c2;have f3:=HF.c3;have f4:=HF.c4;exact bodyPost_ret (v:= .tuple #[.agg #[.int .i64 12,.int .i64 (n:Int),.int .i64 ((m:Int)+1),.int .i64 0,.string ⟨#[]⟩],.int .i64 30]) (by simp[results,Tryz.results165,go_sem,f0,f1,f2,f3,f4]) rfl (.err HN.out (by rw[HRW.out];exact HFB))
    rw[if_neg hneg]at hq;obtain⟨l1,l2,l3⟩:=hel hneg;have l4:=hge hneg;rw[Lx.tl_len,HXS.out]at l2;obtain⟨f,rfl⟩:∃f:Nat,e2=(f:Int):=⟨e2.toNat,by omega⟩
    rw[Int.toNat_natCast]at hq l2 l4;rw[Lx.tl_drop]at hq l4;have HQ2:Hid (Lx.quoted (Lx.tl X (n+1))=(Lx.quoted (Lx.tl X (i+1+f))).map ((acc++[UInt8.ofNat e1.toNat])++ ·)):=hq.trans (Lx.map_acc acc _ _ _ rfl);have HG2:=hd l4;have HES:=hd hes;have hcn:((UInt8.ofNat e1.toNat).toNat:Int)=e1:=by rw[UInt8.toNat_ofNat'];omega
    have HCN:=hd hcn;have hO:=HO.out;have hszl:=HL.out;have he0:0≤e1:=by omega
    have hne1:¬e1<0:=hneg;clear hg hq hx hes hel hge he hne b92 e92 l4 hcn;go_wp2_with fail
    rw[show(i:Int)+1=((i+1:Nat):Int)by omega];refine(HES.out _).mono ?_;rintro e w4 ⟨rfl,rfl⟩;go_wp2_with(at_builtin;refine wpList_append_own _ rfl _ _ 197 rfl (R+2) 5 i0 (.int .u8 0) 1 1 Tryz.underlying197 hi hz0 hz1 hz2 rfl (by decide) _ _ _ rfl (hO.alloc _) ⟨wr.heap.size,0,none⟩ 1 1 [.int .u8 e1] rfl rfl (cell_one_new _ _ _) (fun x hx=>by simp at hx;subst hx;rfl) (by unfold maxLen;omega) (by omega) (by simp;omega) ?_;intro v' w3 hown' hgrow3 hnil3)
    have hbz:Below (R+2) wr w3:=Below.grown ((Below.refl (R+2) wr).alloc hszl _) hgrow3 (by simp;omega) (fun j hj=>(hO.lt _ hj).1);go_roundw
    case rel=>exact⟨i+1+f,acc++[UInt8.ofNat e1.toNat],_,rfl,by go_num,by omega,by omega,by simp;omega,HQ2,HG2,by show World.ownsRow _ _ _ _ _ _ _;rw[List.length_append,List.map_append,List.map_singleton];unfold Lx.byteV at*;rw[HCN.out];exact hown',HR1.out.bel hbz (by omega),HT1.out.bel hbz (by omega),HB1.out.trans (hbz.mono (by omega)),Nat.le_trans HL.out hbz.size⟩
    case measure=>simp[intOf];omega
   have ne92:(c==92)=false:=b92.trans c92;rw[Lx.good_plain c _ ne92]at hg;rw[Lx.quoted_plain c _ ne92]at hq;have hwt:=fun wq=>blankR_any c wq
   have b32:(c==32)=((c.toNat:Int)==32):=Lx.beq_nat c 32 (by omega);have plain:(Lx.white c&&c !=32)=false→Hid (Lx.quoted (Lx.tl X (n+1))=(Lx.quoted (Lx.tl X (i+1))).map ((acc++[c])++ ·)):=by
    intro h;rw[h]at hq;exact hq.trans (Lx.map_acc acc c _ _ rfl)
   have HG2:=hd hg;cases hw:Lx.white c
   case true=>
    rw[hw]at hwt;cases c32:((c.toNat:Int)==32)
    case false=>
     have n32:((c.toNat:Int) !=32)=true:=by unfold bne;rw[c32];rfl
     have HN:Hid (RES= .err 30):=by
      show _=_;rw[HRS.out,hq,hw,show(c !=32)=true by unfold bne;rw[b32.trans c32];rfl];rfl
     have HWT:=hd hwt;clear hg hq hx hwt b92 b32 plain;go_wp2_with fail
     refine(HWT.out _).mono ?_;rintro e w4 ⟨rfl,rfl⟩;have u0:=HT1.out.c0;have u1:=HT1.out.c1;have u2:=HT1.out.c2;have u3:=HT1.out.c3;have u4:=HT1.out.c4;have uz:=HT1.out.fz;have r0:=HR1.out.c0;have r1:=HR1.out.c1;have r2:=HR1.out.c2;have r3:=HR1.out.c3;have r4:=HR1.out.c4;have rz:=HR1.out.fz;go_wp2;have HF:=Lx.put5_at HR1.out 12 (n:Int) ((m:Int)+1) 0 ⟨#[]⟩;have HFB:=Lx.put5_bel HB1.out (Nat.le_refl R) 12 (n:Int) ((m:Int)+1) 0 ⟨#[]⟩;obtain⟨F,hF⟩:∃F,Lx.put5 wr R 12 (n:Int) ((m:Int)+1) 0 ⟨#[]⟩=F:=⟨_,rfl⟩
     rw[hF]at HF HFB;unfold Lx.put5 at hF;rw[hF];have f0:=HF.c0;have f1:=HF.c1;have f2:=HF.c2;have f3:=HF.c3;have f4:=HF.c4;exact bodyPost_ret (v:= .tuple #[.agg #[.int .i64 12,.int .i64 (n:Int),.int .i64 ((m:Int)+1),.int .i64 0,.string ⟨#[]⟩],.int .i64 30]) (by simp[results,Tryz.results165,go_sem,f0,f1,f2,f3,f4]) rfl (.err HN.out (by rw[HRW.out];exact HFB))
    have n32:((c.toNat:Int) !=32)=false:=by unfold bne;rw[c32];rfl
    have HQ2:=plain (by rw[hw,show(c !=32)=false by unfold bne;rw[b32.trans c32];rfl];rfl);have HWT:=hd hwt;clear hg hq hx hwt b92 b32 plain;have hO:=HO.out;have hszl:=HL.out;go_wp2_with fail
    refine(HWT.out _).mono ?_;rintro e w4 ⟨rfl,rfl⟩;go_wp2_with(at_builtin;refine wpList_append_own _ rfl _ _ 197 rfl (R+2) 5 i0 (.int .u8 0) 1 1 Tryz.underlying197 hi hz0 hz1 hz2 rfl (by decide) _ _ _ rfl (hO.alloc _) ⟨wr.heap.size,0,none⟩ 1 1 [.int .u8 (c.toNat:Int)] rfl rfl (cell_one_new _ _ _) (fun x hx=>by simp at hx;subst hx;rfl) (by unfold maxLen;omega) (by omega) (by simp;omega) ?_;intro v' w3 hown' hgrow3 hnil3)
    have hbz:Below (R+2) wr w3:=Below.grown ((Below.refl (R+2) wr).alloc hszl _) hgrow3 (by simp;omega) (fun j hj=>(hO.lt _ hj).1);go_roundw
    case rel=>exact⟨i+1,acc++[c],_,rfl,by go_num,by omega,by omega,by simp;omega,HQ2,HG2,by show World.ownsRow _ _ _ _ _ _ _;rw[List.length_append,List.map_append];exact hown',HR1.out.bel hbz (by omega),HT1.out.bel hbz (by omega),HB1.out.trans (hbz.mono (by omega)),Nat.le_trans HL.out hbz.size⟩
    case measure=>simp[intOf];omega
   have HQ2:=plain (by rw[hw];rfl);rw[hw]at hwt;have HWT:=hd hwt;clear hg hq hx hwt b92 b32 plain;have hO:=HO.out;have hszl:=HL.out;go_wp2_with fail
   refine(HWT.out _).mono ?_;rintro e w4 ⟨rfl,rfl⟩;go_wp2_with(at_builtin;refine wpList_append_own _ rfl _ _ 197 rfl (R+2) 5 i0 (.int .u8 0) 1 1 Tryz.underlying197 hi hz0 hz1 hz2 rfl (by decide) _ _ _ rfl (hO.alloc _) ⟨wr.heap.size,0,none⟩ 1 1 [.int .u8 (c.toNat:Int)] rfl rfl (cell_one_new _ _ _) (fun x hx=>by simp at hx;subst hx;rfl) (by unfold maxLen;omega) (by omega) (by simp;omega) ?_;intro v' w3 hown' hgrow3 hnil3)
   have hbz:Below (R+2) wr w3:=Below.grown ((Below.refl (R+2) wr).alloc hszl _) hgrow3 (by simp;omega) (fun j hj=>(hO.lt _ hj).1);go_roundw
   case rel=>exact⟨i+1,acc++[c],_,rfl,by go_num,by omega,by omega,by simp;omega,HQ2,HG2,by show World.ownsRow _ _ _ _ _ _ _;rw[List.length_append,List.map_append];exact hown',HR1.out.bel hbz (by omega),HT1.out.bel hbz (by omega),HB1.out.trans (hbz.mono (by omega)),Nat.le_trans HL.out hbz.size⟩
   case measure=>simp[intOf];omega
end Go.Proofs.YtfjmlfbohenmfaaGreat
