/-
 The parser: how it lies in memory; next, fail, leaf, stray.
-/
import Derived.Test.YtfjmlfbohenmfaaGreatRdModelq
import Derived.Test.YtfjmlfbohenmfaaGreatMemq
import Derived.Test.YtfjmlfbohenmfaaGreatDtOwnq
namespace Go.Proofs.YtfjmlfbohenmfaaGreat
open Go.RowKit
attribute [local go_sem] Oper.semAt_some
namespace Rd
open Lx
structure Src(w:World)(tb:Nat)(xs:List PTok):Prop where
 lt:tb<w.heap.size
 tok:∀i,(h:i<xs.length)→w.cell? ⟨tb,i*5,none⟩=some (.int .i64 xs[i].t.k)∧w.cell? ⟨tb,i*5+1,none⟩=some (.int .i64 (xs[i].at_:Int))∧w.cell? ⟨tb,i*5+2,none⟩=some (.int .i64 (xs[i].to:Int))∧w.cell? ⟨tb,i*5+3,none⟩=some (.int .i64 xs[i].t.n)∧w.cell? ⟨tb,i*5+4,none⟩=some (.string ⟨xs[i].t.s.toArray⟩)
theorem Src.keep{S:Nat→Prop}{w w':World}{tb:Nat}{xs:List PTok}(h:Src w tb xs)(hk:Keep S w w')(hS:¬S tb):Src w' tb xs:=
 ⟨Nat.lt_of_lt_of_le h.lt hk.size,fun i hi=>by
  obtain⟨h0,h1,h2,h3,h4⟩:=h.tok i hi;exact⟨(hk.cell _ h.lt hS).trans h0,(hk.cell _ h.lt hS).trans h1,(hk.cell _ h.lt hS).trans h2,(hk.cell _ h.lt hS).trans h3,(hk.cell _ h.lt hS).trans h4⟩⟩
theorem Src.below{w w':World}{tb:Nat}{xs:List PTok}(h:Src w tb xs)(hb:Below w.heap.size w w'):Src w' tb xs:=h.keep (S:=fun _=>False) (keep_of_below hb) id
end Rd
end Go.Proofs.YtfjmlfbohenmfaaGreat
