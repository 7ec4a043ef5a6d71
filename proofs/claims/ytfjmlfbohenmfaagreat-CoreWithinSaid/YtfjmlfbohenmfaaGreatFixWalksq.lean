/-
 The walks of the package fix and of shuttleref01: what each function returns.
-/
import Derived.Test.YtfjmlfbohenmfaaGreatRows
import Derived.WalkKit
import Derived.WalkSpells
import Derived.WalkLawsBesides
import Derived.Deep.QuietTactic
import Derived.BigQuiet
import Derived.Lib.Hide
import Derived.Lib.Mul64
import Derived.Laws.Bits64b
namespace Go.Proofs.YtfjmlfbohenmfaaGreat
open Go.RowKit
namespace Fx
def isF(n:Int):Bool:=decide (-1152921504606846976≤n)&&decide (n≤1152921504606846975)
end Fx
namespace Fx
def fitsV(n:Int):Int×Int:=if isF n then(n,0)else(0,10)
theorem isF_mk{a:Int}(h: -1152921504606846976≤a∧a≤1152921504606846975):isF a=true:=by simpa[isF]using h
def signedV(high low:Int)(minus:Bool):Int×Int:=if high≠0∨1152921504606846976<low then(0,10)else fitsV (if minus then -low else low)
def R(p:Int×Int):Value:= .tuple #[.int .i64 p.1,.int .i64 p.2]
theorem R_mk{p:Int×Int}{a b:Int}(h:p=(a,b)):Ending.returned (.tuple #[.int .i64 a,.int .i64 b])= .returned (R p):=by rw[h];rfl
end Fx
namespace Fx
end Fx
namespace Fx
end Fx
namespace Fx
end Fx
end Go.Proofs.YtfjmlfbohenmfaaGreat
