/-
 The walk of str: a string.
-/
import Derived.Test.YtfjmlfbohenmfaaGreatLexQuotedq
import Derived.Lib.QuietBelow
import Derived.Test.YtfjmlfbohenmfaaGreatMinq
namespace Go.Proofs.YtfjmlfbohenmfaaGreat
open Go.RowKit Go.Sort
namespace Lx
structure TkAt(w:World)(T:Nat)(k a z m:Int)(x:ByteArray):Prop where
 c0:w.cell? ⟨T,0,none⟩=some (.int .i64 k)
 c1:w.cell? ⟨T,1,none⟩=some (.int .i64 a)
 c2:w.cell? ⟨T,2,none⟩=some (.int .i64 z)
 c3:w.cell? ⟨T,3,none⟩=some (.int .i64 m)
 c4:w.cell? ⟨T,4,none⟩=some (.string x)
 fz:∀j,w.frozen? ⟨T,j,none⟩=false
 lt:T<w.heap.size
theorem TkAt.below{w w':World}{T:Nat}{k a z m:Int}{x:ByteArray}(h:TkAt w T k a z m x)(hb:Below w.heap.size w w'):TkAt w' T k a z m x:=
 ⟨by rw[hb.cell (p:=⟨T,0,none⟩) h.lt];exact h.c0,by rw[hb.cell (p:=⟨T,1,none⟩) h.lt];exact h.c1,by rw[hb.cell (p:=⟨T,2,none⟩) h.lt];exact h.c2,by rw[hb.cell (p:=⟨T,3,none⟩) h.lt];exact h.c3,by rw[hb.cell (p:=⟨T,4,none⟩) h.lt];exact h.c4,fun j=>by rw[hb.frozen (p:=⟨T,j,none⟩) h.lt];exact h.fz j,Nat.lt_of_lt_of_le h.lt hb.size⟩
theorem TkAt.other{w:World}{T:Nat}{k a z m:Int}{x:ByteArray}(h:TkAt w T k a z m x)(B j:Nat)(v:Value)(hne:T≠B):TkAt (w.setCell ⟨B,j,none⟩ v) T k a z m x:=
 ⟨by rw[World.cell?_setCell_other _ _ _ _ (by simp)];exact h.c0,by rw[World.cell?_setCell_other _ _ _ _ (by simp)];exact h.c1,by rw[World.cell?_setCell_other _ _ _ _ (by simp)];exact h.c2,by rw[World.cell?_setCell_other _ _ _ _ (by simp)];exact h.c3,by rw[World.cell?_setCell_other _ _ _ _ (by simp)];exact h.c4,fun j=>by rw[World.frozen?_setCell];exact h.fz j,by simpa[World.setCell]using h.lt⟩
theorem TkAt.set0{w:World}{T:Nat}{k a z m:Int}{x:ByteArray}(h:TkAt w T k a z m x)(v:Int):TkAt (w.setCell ⟨T,0,none⟩ (.int .i64 v)) T v a z m x:=
 ⟨World.cell?_setCell_same _ _ _ h.c0,by rw[World.cell?_setCell_other _ _ _ _ (by simp)];exact h.c1,by rw[World.cell?_setCell_other _ _ _ _ (by simp)];exact h.c2,by rw[World.cell?_setCell_other _ _ _ _ (by simp)];exact h.c3,by rw[World.cell?_setCell_other _ _ _ _ (by simp)];exact h.c4,fun j=>by rw[World.frozen?_setCell];exact h.fz j,by simpa[World.setCell]using h.lt⟩
theorem TkAt.set2{w:World}{T:Nat}{k a z m:Int}{x:ByteArray}(h:TkAt w T k a z m x)(v:Int):TkAt (w.setCell ⟨T,2,none⟩ (.int .i64 v)) T k a v m x:=
 ⟨by rw[World.cell?_setCell_other _ _ _ _ (by simp)];exact h.c0,by rw[World.cell?_setCell_other _ _ _ _ (by simp)];exact h.c1,World.cell?_setCell_same _ _ _ h.c2,by rw[World.cell?_setCell_other _ _ _ _ (by simp)];exact h.c3,by rw[World.cell?_setCell_other _ _ _ _ (by simp)];exact h.c4,fun j=>by rw[World.frozen?_setCell];exact h.fz j,by simpa[World.setCell]using h.lt⟩
theorem TkAt.set3{w:World}{T:Nat}{k a z m:Int}{x:ByteArray}(h:TkAt w T k a z m x)(v:Int):TkAt (w.setCell ⟨T,3,none⟩ (.int .i64 v)) T k a z v x:=
 ⟨by rw[World.cell?_setCell_other _ _ _ _ (by simp)];exact h.c0,by rw[World.cell?_setCell_other _ _ _ _ (by simp)];exact h.c1,by rw[World.cell?_setCell_other _ _ _ _ (by simp)];exact h.c2,World.cell?_setCell_same _ _ _ h.c3,by rw[World.cell?_setCell_other _ _ _ _ (by simp)];exact h.c4,fun j=>by rw[World.frozen?_setCell];exact h.fz j,by simpa[World.setCell]using h.lt⟩
theorem TkAt.set4{w:World}{T:Nat}{k a z m:Int}{x:ByteArray}(h:TkAt w T k a z m x)(v:ByteArray):TkAt (w.setCell ⟨T,4,none⟩ (.string v)) T k a z m v:=
 ⟨by rw[World.cell?_setCell_other _ _ _ _ (by simp)];exact h.c0,by rw[World.cell?_setCell_other _ _ _ _ (by simp)];exact h.c1,by rw[World.cell?_setCell_other _ _ _ _ (by simp)];exact h.c2,by rw[World.cell?_setCell_other _ _ _ _ (by simp)];exact h.c3,World.cell?_setCell_same _ _ _ h.c4,fun j=>by rw[World.frozen?_setCell];exact h.fz j,by simpa[World.setCell]using h.lt⟩
def Way(s:ByteArray)(b k:Nat):Prop:=strEnd (tl s b)=(strEnd (tl s k)).map fun p=>((tl s b).take (k - b)++p.1,p.2)
theorem tl_drop(s:ByteArray)(b j:Nat):(tl s b).drop j=tl s (b+j):=by
 unfold tl;rw[List.drop_drop]
theorem Way.start(s:ByteArray)(b:Nat):Way s b b:=by
 unfold Way;simp
theorem Way.step{s:ByteArray}{b k:Nat}(j:Nat)(h:Way s b k)(hb:b≤k)(h2:strEnd (tl s k)=(strEnd (tl s (k+j))).map fun p=>((tl s k).take j++p.1,p.2)):Way s b (k+j):=by
 unfold Way at*;rw[h,h2,Option.map_map]
 congr 1
 funext p
 have:(tl s b).take (k+j - b)=(tl s b).take (k - b)++(tl s k).take j:=by
  rw[show k+j - b=(k - b)+j by omega,List.take_add,tl_drop,show b+(k - b)=k by omega]
 simp[this]
theorem strEnd_step(s:ByteArray)(k:Nat)(h:k<s.size):strEnd (tl s k)=if s[k]==34 then some ([],tl s (k+1))else if s[k]==92 then(strEnd (tl s (k+2))).map (fun p=>((tl s k).take 2++p.1,p.2))else(strEnd (tl s (k+1))).map (fun p=>((tl s k).take 1++p.1,p.2)):=by
 rw[tl_cons s k h];by_cases h1:k+1<s.size
 ·rw[tl_cons s (k+1) h1]
  conv=>lhs;rw[strEnd]
  simp
 ·rw[tl_nil s (k+1) (by omega),tl_nil s (k+2) (by omega)]
  conv=>lhs;rw[strEnd]
  split
  ·rfl
  ·simp[strEnd]
end Lx
end Go.Proofs.YtfjmlfbohenmfaaGreat
