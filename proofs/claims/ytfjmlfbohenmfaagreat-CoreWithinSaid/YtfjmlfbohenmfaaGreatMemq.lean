/-
 A block of cells that is known whole: small laws.
-/
import Derived.Test.YtfjmlfbohenmfaaGreatTbKeepq
import Derived.Lib.Hide
import Derived.Lib.Builder
import Derived.Deep.MidRow
namespace Go.Proofs.YtfjmlfbohenmfaaGreat
open Go.RowKit
def Hp(w:World)(B:Nat)(cs:Array Value)(t:TypeId):Prop:=w.heap[B]?=some (.cells cs t (0,0))
theorem Hp.cell{w:World}{B:Nat}{cs:Array Value}{t:TypeId}(h:Hp w B cs t)(i:Nat){v:Value}(hv:cs[i]?=some v):w.cell? ⟨B,i,none⟩=some v:=by
 rw[Lib.cell_of_heap h];exact hv
theorem Hp.frz{w:World}{B:Nat}{cs:Array Value}{t:TypeId}(h:Hp w B cs t)(i:Nat):w.frozen? ⟨B,i,none⟩=false:=Lib.frozen_of_heap h i
theorem Hp.lt{w:World}{B:Nat}{cs:Array Value}{t:TypeId}(h:Hp w B cs t):B<w.heap.size:=(Array.getElem?_eq_some_iff.1 h).1
theorem Hp.keep{S:Nat→Prop}{w w':World}{B:Nat}{cs:Array Value}{t:TypeId}(h:Hp w B cs t)(hk:Keep S w w')(hn:¬S B):Hp w' B cs t:=(hk.block B h.lt hn).trans h
theorem Hp.below{w w':World}{B:Nat}{cs:Array Value}{t:TypeId}(h:Hp w B cs t)(hb:Below w.heap.size w w'):Hp w' B cs t:=(hb.block B h.lt).trans h
theorem Hp.set{w:World}{B:Nat}{cs:Array Value}{t:TypeId}(h:Hp w B cs t)(i:Nat)(v:Value):Hp (w.setCell ⟨B,i,none⟩ v) B (cs.setIfInBounds i v) t:=by
 show((w.heap.modify B _))[B]?=_;rw[Array.getElem?_modify,if_pos rfl,h]
 rfl
theorem Hp.new{w w1:World}{cs:Array Value}{t:TypeId}(h:w.alloc (.cells cs t)=w1):Hp w1 w.heap.size cs t:=by rw[←h];show(w.heap.push _)[w.heap.size]?=_;simp
theorem new_below{w w1:World}{o:Obj}(h:w.alloc o=w1):Below w.heap.size w w1∧w1.heap.size=w.heap.size+1:=⟨by rw[←h];exact(Below.refl _ w).alloc (Nat.le_refl _) o,by rw[←h,World.size_alloc]⟩
theorem set_keep(w:World)(B i:Nat)(v:Value):Keep (fun k=>k=B) w (w.setCell ⟨B,i,none⟩ v):=(Keep.refl (fun k=>k=B) w).setCell rfl _ _
theorem keep_of_below{S:Nat→Prop}{w w':World}(h:Below w.heap.size w w'):Keep S w w':=(Keep.refl S w).below h
theorem Keep.le{S T:Nat→Prop}{w w':World}(h:Keep S w w')(hT:∀k,S k→T k):Keep T w w':=h.mono (fun k _ e=>hT k e)
def set6(w:World)(B:Nat)(a b c d e f:Value):World:=(((((w.setCell ⟨B,0,none⟩ a).setCell ⟨B,1,none⟩ b).setCell ⟨B,2,none⟩ c).setCell ⟨B,3,none⟩ d).setCell ⟨B,4,none⟩ e).setCell ⟨B,5,none⟩ f
theorem set6_keep(w:World)(B:Nat)(a b c d e f:Value):Keep (fun k=>k=B) w (set6 w B a b c d e f):=
 ((((((Keep.refl (fun k=>k=B) w).setCell rfl 0 a).setCell rfl 1 b).setCell rfl 2 c).setCell rfl 3 d).setCell rfl 4 e).setCell rfl 5 f
def set5(w:World)(B:Nat)(a b c d e:Value):World:=((((w.setCell ⟨B,0,none⟩ a).setCell ⟨B,1,none⟩ b).setCell ⟨B,2,none⟩ c).setCell ⟨B,3,none⟩ d).setCell ⟨B,4,none⟩ e
theorem Hp.set5{w:World}{B:Nat}{u0 u1 u2 u3 u4:Value}{t:TypeId}(h:Hp w B #[u0,u1,u2,u3,u4] t)(a b c d e:Value):Hp (set5 w B a b c d e) B #[a,b,c,d,e] t:=
 ((((h.set 0 a).set 1 b).set 2 c).set 3 d).set 4 e
theorem Hp.there{w:World}{B:Nat}{cs:Array Value}{t:TypeId}(h:Hp w B cs t){n:Nat}(hn:n≤cs.size):w.there B 0 n:=fun j hj=>by
 rw[Nat.zero_add];refine⟨?_,h.frz j⟩;rw[h.cell j (Array.getElem?_eq_getElem (by omega))]
 rfl
end Go.Proofs.YtfjmlfbohenmfaaGreat
