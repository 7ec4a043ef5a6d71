/-
 The walk of word.
-/
import Derived.Test.YtfjmlfbohenmfaaGreatLexCharq
import Derived.Test.YtfjmlfbohenmfaaGreatLexRunq
import Derived.Test.YtfjmlfbohenmfaaGreatMinq
namespace Go.Proofs.YtfjmlfbohenmfaaGreat
open Go.RowKit Go.Sort
namespace Lx
theorem TkAt.alloc(w:World)(k a z m:Int)(x:ByteArray)(ty:TypeId):TkAt (w.alloc (.cells #[.int .i64 k,.int .i64 a,.int .i64 z,.int .i64 m,.string x] ty)) w.heap.size k a z m x:=by
 have hh:(w.alloc (.cells #[.int .i64 k,.int .i64 a,.int .i64 z,.int .i64 m,.string x] ty)).heap[w.heap.size]?=some (.cells #[.int .i64 k,.int .i64 a,.int .i64 z,.int .i64 m,.string x] ty):=by
  show(w.heap.push _)[w.heap.size]?=_;simp
 refine⟨?_,?_,?_,?_,?_,fun j=> ?_,?_⟩
 ·unfold World.cell?;rw[hh];rfl
 ·unfold World.cell?;rw[hh];rfl
 ·unfold World.cell?;rw[hh];rfl
 ·unfold World.cell?;rw[hh];rfl
 ·unfold World.cell?;rw[hh];rfl
 ·unfold World.frozen?;rw[hh];simp
 ·simp
theorem TkAt.set1{w:World}{T:Nat}{k a z m:Int}{x:ByteArray}(h:TkAt w T k a z m x)(v:Int):TkAt (w.setCell ⟨T,1,none⟩ (.int .i64 v)) T k v z m x:=
 ⟨by rw[World.cell?_setCell_other _ _ _ _ (by simp)];exact h.c0,World.cell?_setCell_same _ _ _ h.c1,by rw[World.cell?_setCell_other _ _ _ _ (by simp)];exact h.c2,by rw[World.cell?_setCell_other _ _ _ _ (by simp)];exact h.c3,by rw[World.cell?_setCell_other _ _ _ _ (by simp)];exact h.c4,fun j=>by rw[World.frozen?_setCell];exact h.fz j,by simpa[World.setCell]using h.lt⟩
def put5(w:World)(R:Nat)(k a z m:Int)(x:ByteArray):World:=((((w.setCell ⟨R,0,none⟩ (.int .i64 k)).setCell ⟨R,1,none⟩ (.int .i64 a)).setCell ⟨R,2,none⟩ (.int .i64 z)).setCell ⟨R,3,none⟩ (.int .i64 m)).setCell ⟨R,4,none⟩ (.string x)
theorem put5_at{w:World}{R:Nat}{k0 a0 z0 m0:Int}{x0:ByteArray}(h:TkAt w R k0 a0 z0 m0 x0)(k a z m:Int)(x:ByteArray):TkAt (put5 w R k a z m x) R k a z m x:=
 ((((h.set0 k).set1 a).set2 z).set3 m).set4 x
theorem word_eq(t:List UInt8)(sg:Nat×Nat)(h:sign t=sg):word t=if sg.1≠0 then .tok ⟨sg.1,0,[]⟩ (t.drop sg.2)else if pk t 0==34 then str t else if pk t 0==35&&pk t 1==92 then char t else run t:=by
 unfold word;rw[h]
end Lx
end Go.Proofs.YtfjmlfbohenmfaaGreat
