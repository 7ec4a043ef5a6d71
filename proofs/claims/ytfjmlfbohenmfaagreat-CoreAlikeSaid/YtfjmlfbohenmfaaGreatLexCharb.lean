/-
 The walk of names and char: a character.
-/
import Derived.Test.YtfjmlfbohenmfaaGreatCoreBBM2
namespace Go.Proofs.YtfjmlfbohenmfaaGreat
open Go.RowKit Go.Sort
namespace Lx
theorem b8(c:UInt8):0≤(c.toNat:Int)∧(c.toNat:Int)≤255:=by
 have:=c.toNat_lt;omega
end Lx
namespace Lx
theorem run_len(f:UInt8→Bool)(s:ByteArray)(b k:Nat)(hb:b≤k)(hk:k≤s.size)(hin:∀j,b≤j→(h:j<k)→f (s[j]'(by omega))=true)(hout:(h:k<s.size)→f s[k]=false):((tl s b).takeWhile f).length=k - b:=by
 induction hd:k - b generalizing b with
 |zero=>
  have:b=k:=by omega
  subst this;by_cases h:b<s.size
  ·rw[tl_cons s b h,List.takeWhile_cons_of_neg (by rw[hout h];simp)];rfl
  ·rw[tl_nil s b (by omega)];rfl
 |succ d ih=>
  rw[tl_cons s b (by omega),List.takeWhile_cons_of_pos (hin b (Nat.le_refl _) (by omega)),List.length_cons,ih (b+1) (by omega) (fun j h1 h2=>hin j (by omega) h2) (by omega)]
theorem low_int(c:UInt8):low c=(decide (97≤(c.toNat:Int))&&decide ((c.toNat:Int)≤122)):=by
 unfold low;congr 1 <;> (rw[decide_eq_decide];omega)
end Lx
end Go.Proofs.YtfjmlfbohenmfaaGreat
