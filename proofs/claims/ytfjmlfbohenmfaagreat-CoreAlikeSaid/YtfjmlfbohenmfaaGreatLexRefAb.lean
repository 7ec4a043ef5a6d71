/-
 The walks of the reference's small functions.
-/
import Derived.Test.YtfjmlfbohenmfaaGreatCoreBBM2
namespace Go.Proofs.YtfjmlfbohenmfaaGreat
open Go.RowKit
namespace Lx
def stops(c:UInt8):Bool:=white c||c==40||c==41||c==34||c==59
theorem ends_stops(c:UInt8)(h:c≠0):ends c=stops c:=by
 unfold ends stops;rw[show(c==0)=false by simpa using h]
 rfl
theorem stops_int(c:UInt8):stops c=((((white c||((c.toNat:Int)==40))||((c.toNat:Int)==41))||((c.toNat:Int)==34))||((c.toNat:Int)==59)):=by
 unfold stops;rw[show(c==40)=((c.toNat:Int)==40)from beq_nat c 40 (by omega),show(c==41)=((c.toNat:Int)==41)from beq_nat c 41 (by omega),show(c==34)=((c.toNat:Int)==34)from beq_nat c 34 (by omega),show(c==59)=((c.toNat:Int)==59)from beq_nat c 59 (by omega)]
theorem low_int(c:UInt8):low c=(decide (97≤(c.toNat:Int))&&decide ((c.toNat:Int)≤122)):=by
 unfold low;congr 1
 ·exact decide_eq_decide.2 (by omega)
 ·exact decide_eq_decide.2 (by omega)
end Lx
set_option maxRecDepth 100000 in
theorem blankR_any(c:UInt8)(w:World):
  Calls Tryz.prog 143 #[.int .u8 (c.toNat:Int)] w fun e w'=>e= .returned (.bool (Lx.white c))∧w=w':=by
 go_enter Tryz.func143,Tryz.ntmps143;go_wp2;all_goals (go_ret;exact⟨Lx.b2 (by rw[Lx.white_int];try simp[*]),rfl⟩)
set_option maxRecDepth 100000 in
theorem digitR_any(c:UInt8)(w:World):
  Calls Tryz.prog 174 #[.int .u8 (c.toNat:Int)] w fun e w'=>e= .returned (.bool (Lx.figure c))∧w=w':=by
 go_enter Tryz.func174,Tryz.ntmps174;go_wp2;all_goals (go_ret;exact⟨Lx.b2 (by rw[Lx.fig_int];first|(simp[*];done)|(simp;omega)),rfl⟩)
set_option maxRecDepth 100000 in
theorem markR_in(s:ByteArray)(n:Nat)(w:World)(h:n<s.size)(_hs:s.size≤9223372036854775807):
  Calls Tryz.prog 176 #[.string s,.int .i64 n] w fun e w'=>e= .returned (.bool (Lx.stops s[n]))∧w=w':=by
 have hi:¬ (s.size:Int)≤(n:Int):=by omega
 go_enter Tryz.func176,Tryz.ntmps176;go_wp2_with(go_at_call 143;refine(blankR_any _ _).mono ?_;rintro e w' ⟨rfl,rfl⟩)
 all_goals (go_ret;exact⟨Lx.b2 (by rw[Lx.stops_int];try simp[*]),rfl⟩)
set_option maxRecDepth 100000 in
theorem markR_out(s:ByteArray)(n:Nat)(w:World)(h:s.size≤n)(_hn:n≤9223372036854775807):
  Calls Tryz.prog 176 #[.string s,.int .i64 n] w fun e w'=>e= .returned (.bool true)∧w=w':=by
 have hi:(s.size:Int)≤(n:Int):=by omega
 go_enter Tryz.func176,Tryz.ntmps176;go_wp2;go_ret;exact⟨rfl,rfl⟩
end Go.Proofs.YtfjmlfbohenmfaaGreat
