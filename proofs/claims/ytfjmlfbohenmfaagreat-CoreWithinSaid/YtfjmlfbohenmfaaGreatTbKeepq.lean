/-
 Worlds between which only some blocks may have changed.
-/
import Derived.Test.YtfjmlfbohenmfaaGreatPostq
import Derived.Lib.QuietBelow
import Derived.Lib.Hide
namespace Go.Proofs.YtfjmlfbohenmfaaGreat
open Go.RowKit
structure Keep(S:Nat→Prop)(w w':World):Prop where
 os:w'.os=w.os
 tape:w'.tape=w.tape
 output:w'.output=w.output
 size:w.heap.size≤w'.heap.size
 block:∀k,k<w.heap.size→¬S k→w'.heap[k]?=w.heap[k]?
theorem Keep.refl(S:Nat→Prop)(w:World):Keep S w w:=⟨rfl,rfl,rfl,Nat.le_refl _,fun _ _ _=>rfl⟩
theorem Keep.trans{S:Nat→Prop}{a b c:World}(h:Keep S a b)(k:Keep S b c):Keep S a c:=
 ⟨k.os.trans h.os,k.tape.trans h.tape,k.output.trans h.output,Nat.le_trans h.size k.size,fun i hi hne=>(k.block i (Nat.lt_of_lt_of_le hi h.size) hne).trans (h.block i hi hne)⟩
theorem Keep.setCell{S:Nat→Prop}{a w:World}(h:Keep S a w){B:Nat}(hB:S B)(j:Nat)(v:Value):Keep S a (w.setCell ⟨B,j,none⟩ v):=
 h.trans ⟨rfl,rfl,rfl,by simp[World.setCell],fun k _ hne=>Below.heap_setCell _ _ _ _ (fun e=>hne (by rw[e];exact hB))⟩
theorem Keep.below{S:Nat→Prop}{a w w':World}(h:Keep S a w)(hb:Below w.heap.size w w'):Keep S a w':=
 h.trans ⟨hb.os,hb.tape,hb.output,hb.size,fun k hk _=>hb.block k hk⟩
theorem Keep.alloc{S:Nat→Prop}{a w:World}(h:Keep S a w)(o:Obj):Keep S a (w.alloc o):=h.below ((Below.refl _ _).alloc (Nat.le_refl _) o)
theorem Keep.mono{S T:Nat→Prop}{a w:World}(h:Keep S a w)(hST:∀k,k<a.heap.size→S k→T k):Keep T a w:=⟨h.os,h.tape,h.output,h.size,fun k hk hn=>h.block k hk (fun hs=>hn (hST k hk hs))⟩
theorem Keep.to_below{S:Nat→Prop}{w w':World}{n:Nat}(h:Keep S w w')(hS:∀k,S k→n≤k)(hn:n≤w.heap.size):Below n w w':=
 ⟨h.os,h.tape,h.output,h.size,fun k hk=>h.block k (by omega) (fun hs=>by have:=hS k hs;omega)⟩
theorem Keep.cell{S:Nat→Prop}{w w':World}(h:Keep S w w'){b:Nat}(j:Nat)(hb:b<w.heap.size)(hS:¬S b):w'.cell? ⟨b,j,none⟩=w.cell? ⟨b,j,none⟩:=by
 unfold World.cell?;rw[h.block b hb hS]
theorem Keep.frozen{S:Nat→Prop}{w w':World}(h:Keep S w w'){b:Nat}(j:Nat)(hb:b<w.heap.size)(hS:¬S b):w'.frozen? ⟨b,j,none⟩=w.frozen? ⟨b,j,none⟩:=by
 unfold World.frozen?;rw[h.block b hb hS]
end Go.Proofs.YtfjmlfbohenmfaaGreat
