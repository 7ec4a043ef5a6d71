/-
  Short names for what stands often.
-/
import Derived.Test.YtfjmlfbohenmfaaGreatMemq
import Derived.Deep.RegionHeld
import Derived.Deep.RegionHeld3
namespace Go.Proofs.YtfjmlfbohenmfaaGreat
open Go.RowKit
theorem btr {a b c : World} (h : Below a.heap.size a b) (k : Below b.heap.size b c) : Below a.heap.size a c := h.trans (k.mono h.size)
theorem Hp.c4 {w : World} {B : Nat} {a b c d : Value} {t : TypeId} (h : Hp w B #[a, b, c, d] t) : w.cell? ⟨B, 0, none⟩ = some a ∧ w.cell? ⟨B, 1, none⟩ = some b ∧ w.cell? ⟨B, 2, none⟩ = some c ∧ w.cell? ⟨B, 3, none⟩ = some d := ⟨h.cell 0 rfl, h.cell 1 rfl, h.cell 2 rfl, h.cell 3 rfl⟩
theorem Hp.c6 {w : World} {B : Nat} {a b c d e f : Value} {t : TypeId} (h : Hp w B #[a, b, c, d, e, f] t) : w.cell? ⟨B, 0, none⟩ = some a ∧ w.cell? ⟨B, 1, none⟩ = some b ∧ w.cell? ⟨B, 2, none⟩ = some c ∧ w.cell? ⟨B, 3, none⟩ = some d ∧ w.cell? ⟨B, 4, none⟩ = some e ∧ w.cell? ⟨B, 5, none⟩ = some f := ⟨h.cell 0 rfl, h.cell 1 rfl, h.cell 2 rfl, h.cell 3 rfl, h.cell 4 rfl, h.cell 5 rfl⟩
theorem Hp.c11 {w : World} {B : Nat} {a b c d e f g i j k l : Value} {t : TypeId} (h : Hp w B #[a, b, c, d, e, f, g, i, j, k, l] t) : w.cell? ⟨B, 0, none⟩ = some a ∧ w.cell? ⟨B, 1, none⟩ = some b ∧ w.cell? ⟨B, 2, none⟩ = some c ∧ w.cell? ⟨B, 3, none⟩ = some d ∧ w.cell? ⟨B, 4, none⟩ = some e ∧ w.cell? ⟨B, 5, none⟩ = some f ∧ w.cell? ⟨B, 6, none⟩ = some g ∧ w.cell? ⟨B, 7, none⟩ = some i ∧ w.cell? ⟨B, 8, none⟩ = some j ∧ w.cell? ⟨B, 9, none⟩ = some k ∧ w.cell? ⟨B, 10, none⟩ = some l :=
  ⟨h.cell 0 rfl, h.cell 1 rfl, h.cell 2 rfl, h.cell 3 rfl, h.cell 4 rfl, h.cell 5 rfl, h.cell 6 rfl, h.cell 7 rfl, h.cell 8 rfl, h.cell 9 rfl, h.cell 10 rfl⟩
namespace Zm
theorem a {α : Type _} {l : List α} {i : Nat} {x : α} : l.toArray.setIfInBounds i x = (l.set i x).toArray := List.setIfInBounds_toArray ..
theorem b {α : Type _} {x y : α} {l : List α} : (x :: l).set 0 y = y :: l := List.set_cons_zero ..
theorem c {α : Type _} {x y : α} {l : List α} {i : Nat} : (x :: l).set (i + 1) y = x :: l.set i y := List.set_cons_succ ..
variable {P : Program} {ops : Array Oper} {Q : Exit → Act → World → Prop} {md : Region.Mode} {S : World → Prop} {fuel : Nat} {listed : Array Bool} {a : Act} {w : World}
/-- an operation is taken -/
theorem u (i : Nat) {d : Option Tmp} {op : Op} {ty : TypeId} {po : String} {af : Array Edge} {gu : Option (Nat × Bool)} (v : Value) (hi : ops[i]? = some ⟨d, op, ty, po, af, gu⟩) (hv : ∀ w, S w → (execOp a.eval ⟨d, op, ty, po, af, gu⟩).run P w = .ok (.value v) w)
    (h : wpAnyH P md ops Q S fuel (listed.setIfInBounds i true) (a.put d v) w) (hw : Region.wanted ⟨d, op, ty, po, af, gu⟩ (yielded ops a.tmps) = true := by rfl) (hs : Region.noSelect ops = true := by kernel_rfl) (hf : Region.free md ops listed i = true := by kernel_rfl) (hr : (Region.ready md ops listed).contains i = true := by kernel_rfl)
    (hQ : ∀ c a w, Q (.panic c) (a.put d v) w → Q (.panic c) a w := by exact fun _ _ _ h => h) (hS : S w := by assumption) : wpAnyH P md ops Q S (fuel + 1) listed a w := wpAnyH_take hi hs hf hr hQ (.inl ⟨hw, hv⟩) hS h
/-- an operation is left out -/
theorem s (i : Nat) {d : Option Tmp} {op : Op} {ty : TypeId} {po : String} {af : Array Edge} {gu : Option (Nat × Bool)} (hi : ops[i]? = some ⟨d, op, ty, po, af, gu⟩)
    (h : wpAnyH P md ops Q S fuel (listed.setIfInBounds i true) (a.put d undef) w) (hw : Region.wanted ⟨d, op, ty, po, af, gu⟩ (yielded ops a.tmps) = false := by rfl) (hs : Region.noSelect ops = true := by kernel_rfl) (hf : Region.free md ops listed i = true := by kernel_rfl) (hr : (Region.ready md ops listed).contains i = true := by kernel_rfl)
    (hQ : ∀ c a w, Q (.panic c) (a.put d undef) w → Q (.panic c) a w := by exact fun _ _ _ h => h) (hS : S w := by assumption) : wpAnyH P md ops Q S (fuel + 1) listed a w := wpAnyH_take hi hs hf hr hQ (.inr ⟨hw, rfl⟩) hS h
/-- one operation is ready -/
theorem r (i : Nat) {d : Option Tmp} {op : Op} {ty : TypeId} {po : String} {af : Array Edge} {gu : Option (Nat × Bool)} (ho : ops[i]? = some ⟨d, op, ty, po, af, gu⟩)
    (h : ∀ K' : Act → World → Prop, Shut (∀ a w, S w → (S w → wpAnyH P md ops Q S fuel (listed.setIfInBounds i true) a w) → K' a w) → if Region.wanted ⟨d, op, ty, po, af, gu⟩ (yielded ops a.tmps) = true then Oper.wp P ⟨d, op, ty, po, af, gu⟩ a w K' Q else K' (a.put d undef) w)
    (hr : Region.ready md ops listed = [i] := by kernel_rfl) : wpAnyH P md ops Q S (fuel + 1) listed a w := wpAnyH_ready hr (by simp) (AllReadyH.cons ho h AllReadyH.nil)
/-- two operations are ready -/
theorem q (i j : Nat) {d1 : Option Tmp} {op1 : Op} {ty1 : TypeId} {po1 : String} {af1 : Array Edge} {gu1 : Option (Nat × Bool)} {d2 : Option Tmp} {op2 : Op} {ty2 : TypeId} {po2 : String} {af2 : Array Edge} {gu2 : Option (Nat × Bool)} (ho1 : ops[i]? = some ⟨d1, op1, ty1, po1, af1, gu1⟩) (ho2 : ops[j]? = some ⟨d2, op2, ty2, po2, af2, gu2⟩)
    (h1 : ∀ K' : Act → World → Prop, Shut (∀ a w, S w → (S w → wpAnyH P md ops Q S fuel (listed.setIfInBounds i true) a w) → K' a w) → if Region.wanted ⟨d1, op1, ty1, po1, af1, gu1⟩ (yielded ops a.tmps) = true then Oper.wp P ⟨d1, op1, ty1, po1, af1, gu1⟩ a w K' Q else K' (a.put d1 undef) w)
    (h2 : ∀ K' : Act → World → Prop, Shut (∀ a w, S w → (S w → wpAnyH P md ops Q S fuel (listed.setIfInBounds j true) a w) → K' a w) → if Region.wanted ⟨d2, op2, ty2, po2, af2, gu2⟩ (yielded ops a.tmps) = true then Oper.wp P ⟨d2, op2, ty2, po2, af2, gu2⟩ a w K' Q else K' (a.put d2 undef) w)
    (hr : Region.ready md ops listed = [i, j] := by kernel_rfl) : wpAnyH P md ops Q S (fuel + 1) listed a w := wpAnyH_ready hr (by simp) (AllReadyH.cons ho1 h1 (AllReadyH.cons ho2 h2 AllReadyH.nil))
end Zm
theorem hd {p : Prop} (h : p) : Hid p := Lib.hid h
end Go.Proofs.YtfjmlfbohenmfaaGreat
