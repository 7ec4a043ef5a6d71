/-
  code.Clone: a program in memory of its own.
-/
import Derived.Test.YtlckjphnbfahgaaGreatDoorCdCloneA
import Derived.Test.YtlckjphnbfahgaaGreatDoorCdAt
import Derived.Test.YtlckjphnbfahgaaGreatDoorDtEq
import Derived.Deep.RegionLaw
import Derived.Deep.Cut
namespace Go.Proofs.YtlckjphnbfahgaaGreatDoor
open Go.RowKit
attribute [local go_sem] Oper.semAt_some
namespace Cd
/-- how many there are -/
structure Small (p : Prog) : Prop where
  lc : p.codes.length ≤ 4096
  lk : p.consts.length ≤ 4096
  ln : p.names.length ≤ 4096
  li : ∀ c ∈ p.codes, c.ins.length ≤ 4096
/-- a program in memory of its own -/
structure Own (w : World) (base m : Nat) (vc vk vn : Value) (ks : List (Code × Value)) (l : List Dt.D) (ns : List ByteArray) : Prop where
  le : base ≤ m
  cs : CRow w m vc ks
  ds : Dt.Row (fun k => base ≤ k ∧ k < m) w vk l
  nm : NameRow (fun k => base ≤ k ∧ k < m) w vn ns
  no : w.ownsRow base 9 1 vn ns.length (ns.map Value.string) ∧ ∀ k, vn.ownBlock = some k → k < m
theorem nrow_mono {F G : Nat → Prop} {w : World} {v : Value} {l : List ByteArray} (h : NameRow F w v l) (hFG : ∀ b, F b → b < w.heap.size → G b) : NameRow G w v l := by
  obtain ⟨a, c, h1, h2, h3⟩ := h
  refine ⟨a, c, h1, h2, fun hn => ?_⟩
  obtain ⟨b, o, e, hF, hb, hr⟩ := h3 hn
  exact ⟨b, o, e, hFG b hF hb, hb, hr⟩
theorem row_mono {F G : Nat → Prop} {w : World} {v : Value} {l : List Dt.D} (h : Dt.Row F w v l) (hFG : ∀ b, F b → b < w.heap.size → G b) : Dt.Row G w v l := by
  obtain ⟨a, c, h1, h2, h3⟩ := h
  refine ⟨a, c, h1, h2, fun hn => ?_⟩
  obtain ⟨b, o, e, hF, hb, hr⟩ := h3 hn
  exact ⟨b, o, e, hFG b hF hb, hb, Dt.Reps.mono hFG _ hr⟩
theorem box_heap {w w1 : World} {cs : Array Value} {t : TypeId} (h : w.alloc (.cells cs t) = w1) : w1.heap[w.heap.size]? = some (.cells cs t (0, 0)) := by rw [← h]; exact heap_alloc_new w _
theorem hcell {w : World} {b : Nat} {cs : Array Value} {t : TypeId} (h : w.heap[b]? = some (.cells cs t (0, 0))) (i : Nat) : w.cell? ⟨b, i, none⟩ = cs[i]? := by rw [Lib.cell_of_heap h]
theorem hset {w : World} {b i : Nat} {cs : Array Value} {t : TypeId} {v : Value} (h : w.heap[b]? = some (.cells cs t (0, 0))) : (w.setCell ⟨b, i, none⟩ v).heap[b]? = some (.cells (cs.setIfInBounds i v) t (0, 0)) := by
  show ((w.heap.modify b _))[b]? = _
  rw [Array.getElem?_modify, if_pos rfl, h]
  rfl
end Cd
end Go.Proofs.YtlckjphnbfahgaaGreatDoor
