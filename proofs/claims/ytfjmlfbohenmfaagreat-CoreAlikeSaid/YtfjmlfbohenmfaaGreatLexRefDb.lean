/-
 The walks of the reference's char and run.
-/
import Derived.Test.YtfjmlfbohenmfaaGreatLexRefCb
import Derived.Test.YtfjmlfbohenmfaaGreatLexCharb
import Derived.Test.YtfjmlfbohenmfaaGreatCoreBBM3
import Derived.Test.YtfjmlfbohenmfaaGreatCoreBBM2
namespace Go.Proofs.YtfjmlfbohenmfaaGreat
open Go.RowKit Go.Sort
namespace Lx
def TokR(s:ByteArray)(n:Nat)(r:Res)(w:World)(e:Ending)(w':World):Prop:=
 ∃(k z m:Int) (x:ByteArray) (cc:Int),e= .returned (.tuple #[.agg #[.int .i64 k,.int .i64 (n:Int),.int .i64 z,.int .i64 m,.string x],.int .i64 cc])∧Below w.heap.size w w'∧
  match r with
  | .err c=>cc=c
  | .tok t rest=>cc=0∧k=t.k∧m=t.n∧x=⟨t.s.toArray⟩∧∃y:Nat,z=(y:Int)∧y≤s.size∧rest=tl s y
theorem TokR.err{s:ByteArray}{n:Nat}{r:Res}{w w':World}{k z m cc:Int}{x:ByteArray}(hr:r= .err cc)(hb:Below w.heap.size w w'):TokR s n r w (.returned (.tuple #[.agg #[.int .i64 k,.int .i64 (n:Int),.int .i64 z,.int .i64 m,.string x],.int .i64 cc])) w':=
 ⟨k,z,m,x,cc,rfl,hb,by rw[hr]⟩
theorem TokR.tok{s:ByteArray}{n y:Nat}{r:Res}{w w':World}{k m:Int}{x:List UInt8}{X:ByteArray}{z:Int}(hr:r= .tok ⟨k,m,x⟩ (tl s y))(hX:X=⟨x.toArray⟩)(hz:z=(y:Int))(hy:y≤s.size)(hb:Below w.heap.size w w'):TokR s n r w (.returned (.tuple #[.agg #[.int .i64 k,.int .i64 (n:Int),.int .i64 z,.int .i64 m,.string X],.int .i64 0])) w':=
 ⟨k,z,m,X,0,rfl,hb,by rw[hr];exact⟨rfl,rfl,rfl,hX,y,hz,hy,rfl⟩⟩
theorem bel2(w:World)(o p:Obj):Below w.heap.size w ((w.alloc o).alloc p):=((Below.refl _ _).alloc (Nat.le_refl _) _).alloc (by simp) _
end Lx
end Go.Proofs.YtfjmlfbohenmfaaGreat
