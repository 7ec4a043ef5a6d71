/-
  LexCharq.
-/
import Derived.Test.YtfjmlfbohenmfaaGreatCoreWithinLawZM2
set_option maxRecDepth 100000
set_option maxHeartbeats 32000000
namespace Go.Proofs.YtfjmlfbohenmfaaGreat
open Go.RowKit Go.Sort
namespace Lx
theorem names_bool(s:ByteArray)(h1:s.size≠1):names s.data.toList=
  if s.toList==[115,112,97,99,101]then 32
  else if s.toList==[110,101,119,108,105,110,101]then 10
  else if s.toList==[116,97,98]then 9
  else if s.toList==[110,117,108]then 0
  else if s.size=3∧s.data.toList.headD 0=120 then two (tl s 1)
  else -1:=by
 unfold names;rw[ByteArray.toList_eq,if_neg (by rw[Fx.size_toList];exact h1),Fx.size_toList];simp only[beq_iff_eq];rw[show s.data.toList.tail=tl s 1 by unfold tl;simp]
theorem b8(c:UInt8):0≤(c.toNat:Int)∧(c.toNat:Int)≤255:=by
 have:=c.toNat_lt;omega
end Lx
namespace Lx
theorem run_len(f:UInt8→Bool)(s:ByteArray)(b k:Nat)(hb:b≤k)(hk:k≤s.size)(hin:∀j,b≤j→(h:j<k)→f (s[j]'(by omega))=true)(hout:(h:k<s.size)→f s[k]=false):((tl s b).takeWhile f).length=k - b:=by
 induction hd:k - b generalizing b with
 |zero=>
  have:b=k:=by omega
  subst this;by_cases h:b<s.size
  ·rw[tl_cons s b h,List.takeWhile_cons_of_neg (by rw[hout h];simp)];rfl
  ·rw[tl_nil s b (by omega)];rfl
 |succ d ih=>
  rw[tl_cons s b (by omega),List.takeWhile_cons_of_pos (hin b (Nat.le_refl _) (by omega)),List.length_cons,ih (b+1) (by omega) (fun j h1 h2=>hin j (by omega) h2) (by omega)]
theorem low_int(c:UInt8):low c=(decide (97≤(c.toNat:Int))&&decide ((c.toNat:Int)≤122)):=by
 unfold low;congr 1 <;> (rw[decide_eq_decide];omega)
end Lx
end Go.Proofs.YtfjmlfbohenmfaaGreat
