/-
 Small things for the laws of cores.
-/
import Derived.Test.YtfjmlfbohenmfaaGreatCoAwakeb
import Derived.Test.YtfjmlfbohenmfaaGreatCoreBBM12
import Derived.Test.YtfjmlfbohenmfaaGreatCoOwnb
import Derived.Test.YtfjmlfbohenmfaaGreatCoreBBM7
namespace Go.Proofs.YtfjmlfbohenmfaaGreat
open Go.RowKit
attribute [local go_sem] Oper.semAt_some
namespace Co
theorem El.ofHp{w:World}{B:Nat}{cs:Array Value}{t:TypeId}(h:Hp w B cs t){o:Nat}{c:C}{vm vl vt vp vk:Value}(h0:cs[o]?=some (.int .i64 c.k))(h1:cs[o+1]?=some (.int .i64 c.n))(h2:cs[o+2]?=some (.string c.s))(h3:cs[o+3]?=some (.int .i64 c.d.k))(h4:cs[o+4]?=some (.int .i64 c.d.n))(h5:cs[o+5]?=some (.string c.d.s))(h6:cs[o+6]?=some vm)(h7:cs[o+7]?=some vl)(h8:cs[o+8]?=some vt)(h9:cs[o+9]?=some vp)(h10:cs[o+10]?=some vk):El w B o c vm vl vt vp vk:=
 ⟨h.cell _ h0,h.cell _ h1,h.cell _ h2,h.cell _ h3,h.cell _ h4,h.cell _ h5,h.cell _ h6,h.cell _ h7,h.cell _ h8,h.cell _ h9,h.cell _ h10⟩
theorem putT_len:∀(l:List Nm) (n:Nm),(putT l n).length≤l.length+1
 |[],n=>by rw[putT];simp
 |y :: r,n=>by
  rw[putT];split
  ·simp
  split
  ·simp
  ·have:=putT_len r n;simp only[List.length_cons];omega
theorem foldl_putT_len:∀(l acc:List Nm),(l.foldl putT acc).length≤acc.length+l.length
 |[],acc=>by simp
 |n :: r,acc=>by
  have h1:=foldl_putT_len r (putT acc n);have h2:=putT_len acc n;rw[List.foldl_cons,List.length_cons];omega
theorem globsOf_len:∀l:List C,(globsOf l).length≤l.length
 |[]=>by simp[globsOf]
 |x :: r=>by
  have h:=globsOf_len r;unfold globsOf at h ⊢;rw[List.flatMap_cons,List.length_append,List.length_cons];have h2:(if x.k=3∨x.k=5∨x.k=6 then [x.s.data.toList]else []).length≤1:=by split <;> simp
  omega
theorem globV_len(c:C):(globV c).length≤8192:=by
 have h1:=foldl_putT_len (globsOf (all c)) [];have h2:=globsOf_len (all c);have h3:=all_len c;unfold globV putsT;simp only[List.length_nil]at h1;omega
end Co
namespace Co
end Co
end Go.Proofs.YtfjmlfbohenmfaaGreat
