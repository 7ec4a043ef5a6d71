/-
  code.ops: what an instruction is. (Printed by genCdOps.py.)
-/
import Derived.Test.YtlckjphnbfahgaaGreatDoorCdFlow
import Derived.Test.YtlckjphnbfahgaaGreatDoorPost
import Derived.Laws.Tables
import Derived.Laws.Rows
import Derived.Laws.CopyOwn
import Derived.Great.Walk
import Derived.Deep.DeepCutAuto
namespace Go.Proofs.YtlckjphnbfahgaaGreatDoor
open Go.RowKit
attribute [local go_sem] Oper.semAt_some
namespace Cd
def opRows : List (List UInt8 × Int × Int × Int × Bool × Bool × Bool) := [
  ([], 0, 0, 0, false, false, false),
  ([99, 111, 110, 115, 116], 1, 0, 1, false, false, false),
  ([108, 111, 99, 97, 108], 2, 0, 1, false, false, false),
  ([99, 97, 112, 116], 3, 0, 1, false, false, false),
  ([103, 108, 111, 98, 97, 108], 4, 0, 1, false, false, false),
  ([98, 111, 120], 2, 0, 0, false, false, false),
  ([117, 110, 98, 111, 120], 0, 1, 1, false, false, false),
  ([115, 101, 116, 98, 111, 120], 0, 2, 1, false, false, false),
  ([97, 115, 115, 105, 103, 110], 4, 1, 1, false, false, false),
  ([100, 101, 102, 105, 110, 101], 4, 1, 1, false, false, false),
  ([106, 117, 109, 112], 5, 0, 0, false, false, false),
  ([102, 97, 108, 115, 101], 5, 1, 0, false, false, false),
  ([99, 108, 111, 115, 117, 114, 101], 6, 0, 1, false, true, false),
  ([99, 97, 108, 108], 7, 1, 1, true, false, false),
  ([116, 97, 105, 108], 7, 1, 0, true, false, true),
  ([114, 101, 116, 117, 114, 110], 0, 1, 0, false, false, true),
  ([112, 111, 112], 0, 1, 0, false, false, false)]
def rowCells (r : List UInt8 × Int × Int × Int × Bool × Bool × Bool) : List Value := [.string ⟨r.1.toArray⟩, .int .i64 r.2.1, .int .i64 r.2.2.1, .int .i64 r.2.2.2.1, .bool r.2.2.2.2.1, .bool r.2.2.2.2.2.1, .bool r.2.2.2.2.2.2]
def zeroRow : List UInt8 × Int × Int × Int × Bool × Bool × Bool := ([], 0, 0, 0, false, false, false)
def flatRows (l : List (List UInt8 × Int × Int × Int × Bool × Bool × Bool)) : List Value := l.flatMap rowCells
/-- an instruction's name -/
def nm (n : Int) : ByteArray := if 1 ≤ n ∧ n ≤ 16 then ⟨(opRows.getD n.toNat zeroRow).1.toArray⟩ else ⟨#[]⟩
/-- what an instruction is, as a value -/
def opV (n : Int) : Value := .agg #[.string (nm n), .int .i64 ((op n).a : Int), .int .i64 (op n).needs, .int .i64 (op n).leaves, .bool (op n).pa, .bool (op n).pb, .bool (op n).en]
theorem k_cases {k : Nat} (h1 : 1 ≤ k) (h2 : k ≤ 16) : k = 1 ∨ k = 2 ∨ k = 3 ∨ k = 4 ∨ k = 5 ∨ k = 6 ∨ k = 7 ∨ k = 8 ∨ k = 9 ∨ k = 10 ∨ k = 11 ∨ k = 12 ∨ k = 13 ∨ k = 14 ∨ k = 15 ∨ k = 16 := by omega
theorem rows_at {k : Nat} (h1 : 1 ≤ k) (h2 : k ≤ 16) : ∀ i, i < 7 → (flatRows opRows)[k * 7 + i]? = [Value.string (nm (k : Int)), .int .i64 ((op (k : Int)).a : Int), .int .i64 (op (k : Int)).needs, .int .i64 (op (k : Int)).leaves, .bool (op (k : Int)).pa, .bool (op (k : Int)).pb, .bool (op (k : Int)).en][i]? := by
  intro i hi
  obtain rfl | rfl | rfl | rfl | rfl | rfl | rfl : i = 0 ∨ i = 1 ∨ i = 2 ∨ i = 3 ∨ i = 4 ∨ i = 5 ∨ i = 6 := by omega
  all_goals
    rcases k_cases h1 h2 with rfl | rfl | rfl | rfl | rfl | rfl | rfl | rfl | rfl | rfl | rfl | rfl | rfl | rfl | rfl | rfl
    all_goals rfl
/-- a row of literals built one after another -/
def runBuilds (P : Program) : List Oper → Act → Option Act
  | [], a => some a
  | o :: r, a => match o.guard, o.op with
    | none, .build t parts => match P.built t (parts.map fun (i, x) => (i, a.eval x)).toList with
      | some cells => runBuilds P r (a.put o.dst (.agg cells))
      | none => none
    | _, _ => none
theorem wpList_builds {P : Program} {ops : Array Oper} {Q : Exit → Act → World → Prop} {w : World} (r : List Oper) : ∀ (l : List Oper) (a a' : Act), runBuilds P l a = some a' → wpList P ops Q r a' w → wpList P ops Q (l ++ r) a w
  | [], a, a', h, k => by cases h; exact k
  | o :: l, a, a', h, k => by
    unfold runBuilds at h
    split at h
    · rename_i t parts hg ho
      split at h
      · rename_i cells hc
        exact wpList_buildTo hg t parts ho _ rfl cells hc (wpList_builds r l _ a' h k)
      · cases h
    · cases h
theorem wpList_buildsTo {β : Type} {P : Program} {ops : Array Oper} {Q : Exit → Act → World → Prop} {w : World} (n : Nat) {l : List Oper} {a : Act} (x : Nat) (vx : Value) (g : Act → β) (vy : β)
    (h : (runBuilds P (l.take n) a).map (fun a => (a.eval (.tmp x), g a)) = some (vx, vy))
    (k : ∀ a', a'.eval (.tmp x) = vx → g a' = vy → wpList P ops Q (l.drop n) a' w) : wpList P ops Q l a w := by
  cases hb : runBuilds P (l.take n) a with
  | none => rw [hb] at h; cases h
  | some a' =>
    rw [hb] at h
    simp at h
    have := wpList_builds (l.drop n) (l.take n) a a' hb (k a' h.1 h.2)
    rwa [List.take_append_drop] at this
theorem seven_below {w w2 : World} (h : Below w.heap.size w w2) (a b c d e f g : Value) : Below w.heap.size w (((((((w2.setCell ⟨w.heap.size, 0, none⟩ a).setCell ⟨w.heap.size, 1, none⟩ b).setCell ⟨w.heap.size, 2, none⟩ c).setCell ⟨w.heap.size, 3, none⟩ d).setCell ⟨w.heap.size, 4, none⟩ e).setCell ⟨w.heap.size, 5, none⟩ f).setCell ⟨w.heap.size, 6, none⟩ g) :=
  ((((((h.setCell (p := ⟨w.heap.size, 0, none⟩) (Nat.le_refl _) a).setCell (p := ⟨w.heap.size, 1, none⟩) (Nat.le_refl _) b).setCell (p := ⟨w.heap.size, 2, none⟩) (Nat.le_refl _) c).setCell (p := ⟨w.heap.size, 3, none⟩) (Nat.le_refl _) d).setCell (p := ⟨w.heap.size, 4, none⟩) (Nat.le_refl _) e).setCell (p := ⟨w.heap.size, 5, none⟩) (Nat.le_refl _) f).setCell (p := ⟨w.heap.size, 6, none⟩) (Nat.le_refl _) g
end Cd
set_option maxRecDepth 100000 in
set_option maxHeartbeats 4000000 in
theorem ops_yes (k : Nat) (hk1 : 1 ≤ k) (hk2 : k ≤ 16) (w : World) : Calls Tryz.prog 22 #[.int .i64 (k : Int)] w fun e w' => e = .returned (.tuple #[Cd.opV (k : Int), .bool true]) ∧ Below w.heap.size w w' := by
  have HR := Lib.hid (Cd.rows_at hk1 hk2)
  obtain ⟨w1, hw1⟩ : ∃ w1, w.alloc (.cells #[.string ⟨#[]⟩, .int .i64 0, .int .i64 0, .int .i64 0, .bool false, .bool false, .bool false] 58) = w1 := ⟨_, rfl⟩
  have hb1 : Below w.heap.size w w1 := by rw [← hw1]; exact (Below.refl _ _).alloc (Nat.le_refl _) _
  have hs1 : w1.heap.size = w.heap.size + 1 := by rw [← hw1]; simp
  have hh1 : w1.heap[w.heap.size]? = some (.cells #[.string ⟨#[]⟩, .int .i64 0, .int .i64 0, .int .i64 0, .bool false, .bool false, .bool false] 58 (0, 0)) := by rw [← hw1]; exact heap_alloc_new w _
  have HB1 := Lib.hid hb1
  have HS1 := Lib.hid hs1
  have HH1 := Lib.hid hh1
  clear hb1 hs1 hh1
  go_enter Tryz.func22, Tryz.ntmps22
  go_upto_region 1 with (fail)
  clear hw1
  refine wp_region_list ?_
  refine Cd.wpList_buildsTo 17 21 (.agg (Cd.flatRows Cd.opRows).toArray) (fun a => (a.eval (.tmp 0), a.eval (.tmp 2), a.eval (.tmp 3), a.tmps.size, a.defers)) (.int .i64 (k : Int), .pointer (some ⟨w.heap.size, 0, none⟩), .bool false, 32, []) (by kernel_rfl) ?_
  intro a' h21 hg
  simp only [Prod.mk.injEq] at hg
  obtain ⟨h0, h2, h3, hsz, hdf⟩ := hg
  have hheap : (w1.alloc (.cells (Cd.flatRows (List.replicate 17 Cd.zeroRow)).toArray 76)).heap[w1.heap.size]? = some (.cells (Cd.flatRows (List.replicate 17 Cd.zeroRow)).toArray 76 (0, 0)) := heap_alloc_new w1 _
  change wpList _ _ _ (_ :: _ :: []) a' _
  refine Great.wpList_runTo rfl _ rfl (.pointer (some ⟨w1.heap.size, 0, none⟩)) (w1.alloc (.cells (Cd.flatRows (List.replicate 17 Cd.zeroRow)).toArray 76)) (by kernel_rfl) ?_
  have h4 : (a'.put (some 4) (.pointer (some ⟨w1.heap.size, 0, none⟩))).eval (.tmp 4) = .pointer (some ⟨w1.heap.size, 0, none⟩) := by
    show (a'.tmps.setIfInBounds 4 _).getD 4 undef = _
    simp [hsz]
  have h21' : (a'.put (some 4) (.pointer (some ⟨w1.heap.size, 0, none⟩))).eval (.tmp 21) = .agg (Cd.flatRows Cd.opRows).toArray := by
    rw [← h21]
    show (a'.tmps.setIfInBounds 4 _).getD 21 undef = a'.tmps.getD 21 undef
    simp [Array.getD_eq_getD_getElem?]
  refine wpList_store_row rfl 76 (.tmp 4) (.tmp 21) rfl w1.heap.size (Cd.flatRows Cd.opRows).toArray h4 h21' _ _ hheap (by kernel_rfl) (by kernel_rfl) (by kernel_rfl) ?_
  have hset := setRow_heap (w1.alloc (.cells (Cd.flatRows (List.replicate 17 Cd.zeroRow)).toArray 76)) w1.heap.size _ (Cd.flatRows Cd.opRows).toArray _ _ hheap
  obtain ⟨w2, hw2⟩ : ∃ w2, (w1.alloc (.cells (Cd.flatRows (List.replicate 17 Cd.zeroRow)).toArray 76)).setRow w1.heap.size (Cd.flatRows Cd.opRows).toArray = w2 := ⟨_, rfl⟩
  have hb2 : Below w1.heap.size w1 w2 := by rw [← hw2]; exact below_setRow ((Below.refl _ w1).alloc (Nat.le_refl _) _) (Nat.le_refl _) _
  rw [hw2] at hset ⊢
  refine wpList_nil ?_
  clear hheap hw2
  obtain ⟨⟨l⟩, df⟩ := a'
  simp only at hdf
  subst hdf
  match l, hsz with
  | [x0, x1, x2, x3, x4, x5, x6, x7, x8, x9, x10, x11, x12, x13, x14, x15, x16, x17, x18, x19, x20, x21, x22, x23, x24, x25, x26, x27, x28, x29, x30, x31], _ =>
    have e0 : x0 = .int .i64 (k : Int) := h0
    have e2 : x2 = .pointer (some ⟨w.heap.size, 0, none⟩) := h2
    have e3 : x3 = .bool false := h3
    subst e0 e2 e3
    clear h0 h2 h3 h4 h21 h21'
    simp only [Act.put, List.setIfInBounds_toArray, List.set_cons_zero, List.set_cons_succ]
    rw [HS1.out] at hset ⊢
    have hc : ∀ i v, [Value.string (Cd.nm (k : Int)), .int .i64 ((Cd.op (k : Int)).a : Int), .int .i64 (Cd.op (k : Int)).needs, .int .i64 (Cd.op (k : Int)).leaves, .bool (Cd.op (k : Int)).pa, .bool (Cd.op (k : Int)).pb, .bool (Cd.op (k : Int)).en][i]? = some v → i < 7 → w2.cell? ⟨w.heap.size + 1, k * 7 + i, none⟩ = some v := fun i v hv hi => by
      unfold World.cell?
      rw [hset]
      show (Cd.flatRows Cd.opRows).toArray[k * 7 + i]? = some v
      rw [List.getElem?_toArray, HR.out i hi, hv]
    have c0 : w2.cell? ⟨w.heap.size + 1, k * 7, none⟩ = some (.string (Cd.nm (k : Int))) := hc 0 _ rfl (by omega)
    have c1 := hc 1 _ rfl (by omega)
    have c2 := hc 2 _ rfl (by omega)
    have c3 := hc 3 _ rfl (by omega)
    have c4 := hc 4 _ rfl (by omega)
    have c5 := hc 5 _ rfl (by omega)
    have c6 := hc 6 _ rfl (by omega)
    have hh2 := (hb2.block w.heap.size (by have := HS1.out; omega)).trans HH1.out
    have r : ∀ i v, #[Value.string ⟨#[]⟩, .int .i64 0, .int .i64 0, .int .i64 0, .bool false, .bool false, .bool false][i]? = some v → w2.cell? ⟨w.heap.size, i, none⟩ = some v ∧ w2.frozen? ⟨w.heap.size, i, none⟩ = false := fun i v hv => by
      unfold World.cell? World.frozen?
      rw [hh2]
      exact ⟨hv, by simp⟩
    obtain ⟨r0, f0⟩ := r 0 _ rfl
    obtain ⟨r1, f1⟩ := r 1 _ rfl
    obtain ⟨r2, f2⟩ := r 2 _ rfl
    obtain ⟨r3, f3⟩ := r 3 _ rfl
    obtain ⟨r4, f4⟩ := r 4 _ rfl
    obtain ⟨r5, f5⟩ := r 5 _ rfl
    obtain ⟨r6, f6⟩ := r 6 _ rfl
    have hk1i : ¬ ((k : Int) < 1) := by omega
    have hk2i : ¬ (17 ≤ (k : Int)) := by omega
    have hk3i : (k : Int) < 17 := by omega
    have hk0i : (0 : Int) ≤ (k : Int) := by omega
    have HB2 := Lib.hid (HB1.out.trans (hb2.mono HB1.out.size))
    obtain ⟨o, ho⟩ : ∃ o, o = Cd.op (k : Int) := ⟨_, rfl⟩
    have HO : Hid (Cd.opV (k : Int) = .agg #[.string (Cd.nm (k : Int)), .int .i64 (o.a : Int), .int .i64 o.needs, .int .i64 o.leaves, .bool o.pa, .bool o.pb, .bool o.en]) := by show _ = _; rw [ho]; rfl
    rw [← ho] at c1 c2 c3 c4 c5 c6
    clear hc hset hb2 hh2 r ho hk1 hk2
    go_wp2
    refine bodyPost_ret (v := .tuple #[Cd.opV (k : Int), .bool true]) ?_ rfl ?_
    · rw [HO.out]; simp [results, Tryz.results22, go_sem, r0, r1, r2, r3, r4, r5, r6]
    exact ⟨rfl, Cd.seven_below HB2.out _ _ _ _ _ _ _⟩
set_option maxRecDepth 100000 in
set_option maxHeartbeats 4000000 in
theorem ops_no (n : Int) (hn : n < 1 ∨ 16 < n) (w : World) : Calls Tryz.prog 22 #[.int .i64 n] w fun e w' => e = .returned (.tuple #[Cd.opV n, .bool false]) ∧ Below w.heap.size w w' := by
  have HV : Hid (Cd.opV n = .agg #[.string ⟨#[]⟩, .int .i64 0, .int .i64 0, .int .i64 0, .bool false, .bool false, .bool false]) := by
    show _ = _
    have e : Cd.op n = ⟨0, 0, 0, false, false, false⟩ := by unfold Cd.op; rw [Cd.op_out hn]; rfl
    unfold Cd.opV Cd.nm
    rw [if_neg (by omega), e]
    rfl
  obtain ⟨w1, hw1⟩ : ∃ w1, w.alloc (.cells #[.string ⟨#[]⟩, .int .i64 0, .int .i64 0, .int .i64 0, .bool false, .bool false, .bool false] 58) = w1 := ⟨_, rfl⟩
  have hb1 : Below w.heap.size w w1 := by rw [← hw1]; exact (Below.refl _ _).alloc (Nat.le_refl _) _
  have hs1 : w1.heap.size = w.heap.size + 1 := by rw [← hw1]; simp
  have hh1 : w1.heap[w.heap.size]? = some (.cells #[.string ⟨#[]⟩, .int .i64 0, .int .i64 0, .int .i64 0, .bool false, .bool false, .bool false] 58 (0, 0)) := by rw [← hw1]; exact heap_alloc_new w _
  have HB1 := Lib.hid hb1
  have HS1 := Lib.hid hs1
  have HH1 := Lib.hid hh1
  have HN := Lib.hid hn
  clear hb1 hs1 hh1 hn
  go_enter Tryz.func22, Tryz.ntmps22
  go_upto_region 1 with (fail)
  clear hw1
  refine wp_region_list ?_
  refine Cd.wpList_buildsTo 17 21 (.agg (Cd.flatRows Cd.opRows).toArray) (fun a => (a.eval (.tmp 0), a.eval (.tmp 2), a.eval (.tmp 3), a.tmps.size, a.defers)) (.int .i64 n, .pointer (some ⟨w.heap.size, 0, none⟩), .bool false, 32, []) (by kernel_rfl) ?_
  intro a' h21 hg
  simp only [Prod.mk.injEq] at hg
  obtain ⟨h0, h2, h3, hsz, hdf⟩ := hg
  have hheap : (w1.alloc (.cells (Cd.flatRows (List.replicate 17 Cd.zeroRow)).toArray 76)).heap[w1.heap.size]? = some (.cells (Cd.flatRows (List.replicate 17 Cd.zeroRow)).toArray 76 (0, 0)) := heap_alloc_new w1 _
  change wpList _ _ _ (_ :: _ :: []) a' _
  refine Great.wpList_runTo rfl _ rfl (.pointer (some ⟨w1.heap.size, 0, none⟩)) (w1.alloc (.cells (Cd.flatRows (List.replicate 17 Cd.zeroRow)).toArray 76)) (by kernel_rfl) ?_
  have h4 : (a'.put (some 4) (.pointer (some ⟨w1.heap.size, 0, none⟩))).eval (.tmp 4) = .pointer (some ⟨w1.heap.size, 0, none⟩) := by
    show (a'.tmps.setIfInBounds 4 _).getD 4 undef = _
    simp [hsz]
  have h21' : (a'.put (some 4) (.pointer (some ⟨w1.heap.size, 0, none⟩))).eval (.tmp 21) = .agg (Cd.flatRows Cd.opRows).toArray := by
    rw [← h21]
    show (a'.tmps.setIfInBounds 4 _).getD 21 undef = a'.tmps.getD 21 undef
    simp [Array.getD_eq_getD_getElem?]
  refine wpList_store_row rfl 76 (.tmp 4) (.tmp 21) rfl w1.heap.size (Cd.flatRows Cd.opRows).toArray h4 h21' _ _ hheap (by kernel_rfl) (by kernel_rfl) (by kernel_rfl) ?_
  obtain ⟨w2, hw2⟩ : ∃ w2, (w1.alloc (.cells (Cd.flatRows (List.replicate 17 Cd.zeroRow)).toArray 76)).setRow w1.heap.size (Cd.flatRows Cd.opRows).toArray = w2 := ⟨_, rfl⟩
  have hb2 : Below w1.heap.size w1 w2 := by rw [← hw2]; exact below_setRow ((Below.refl _ w1).alloc (Nat.le_refl _) _) (Nat.le_refl _) _
  rw [hw2]
  refine wpList_nil ?_
  clear hheap hw2
  obtain ⟨⟨l⟩, df⟩ := a'
  simp only at hdf
  subst hdf
  match l, hsz with
  | [x0, x1, x2, x3, x4, x5, x6, x7, x8, x9, x10, x11, x12, x13, x14, x15, x16, x17, x18, x19, x20, x21, x22, x23, x24, x25, x26, x27, x28, x29, x30, x31], _ =>
    have e0 : x0 = .int .i64 n := h0
    have e2 : x2 = .pointer (some ⟨w.heap.size, 0, none⟩) := h2
    have e3 : x3 = .bool false := h3
    subst e0 e2 e3
    clear h0 h2 h3 h4 h21 h21'
    simp only [Act.put, List.setIfInBounds_toArray, List.set_cons_zero, List.set_cons_succ]
    have hh2 := (hb2.block w.heap.size (by have := HS1.out; omega)).trans HH1.out
    have r : ∀ i v, #[Value.string ⟨#[]⟩, .int .i64 0, .int .i64 0, .int .i64 0, .bool false, .bool false, .bool false][i]? = some v → w2.cell? ⟨w.heap.size, i, none⟩ = some v ∧ w2.frozen? ⟨w.heap.size, i, none⟩ = false := fun i v hv => by
      unfold World.cell? World.frozen?
      rw [hh2]
      exact ⟨hv, by simp⟩
    obtain ⟨r0, f0⟩ := r 0 _ rfl
    obtain ⟨r1, f1⟩ := r 1 _ rfl
    obtain ⟨r2, f2⟩ := r 2 _ rfl
    obtain ⟨r3, f3⟩ := r 3 _ rfl
    obtain ⟨r4, f4⟩ := r 4 _ rfl
    obtain ⟨r5, f5⟩ := r 5 _ rfl
    obtain ⟨r6, f6⟩ := r 6 _ rfl
    have HB2 := Lib.hid (HB1.out.trans (hb2.mono HB1.out.size))
    clear hb2 hh2 r
    by_cases hn1 : n < 1
    · have hn1' : decide (n < 1) = true := decide_eq_true hn1
      go_wp2
      refine bodyPost_ret (v := .tuple #[Cd.opV n, .bool false]) ?_ rfl ?_
      · rw [HV.out]; simp [results, Tryz.results22, go_sem, r0, r1, r2, r3, r4, r5, r6]
      exact ⟨rfl, Cd.seven_below HB2.out _ _ _ _ _ _ _⟩
    · have hn2 : 17 ≤ n := by have := HN.out; omega
      have hn1' : decide (n < 1) = false := decide_eq_false hn1
      clear hn1
      go_wp2
      refine bodyPost_ret (v := .tuple #[Cd.opV n, .bool false]) ?_ rfl ?_
      · rw [HV.out]; simp [results, Tryz.results22, go_sem, r0, r1, r2, r3, r4, r5, r6]
      exact ⟨rfl, Cd.seven_below HB2.out _ _ _ _ _ _ _⟩
/-- what an instruction is, at any number -/
theorem ops_any (n : Int) (w : World) : Calls Tryz.prog 22 #[.int .i64 n] w fun e w' => e = .returned (.tuple #[Cd.opV n, .bool (Cd.opT n).isSome]) ∧ Below w.heap.size w w' := by
  by_cases h : n < 1 ∨ 16 < n
  · rw [Cd.op_out h]
    exact ops_no n h w
  · obtain ⟨k, rfl⟩ : ∃ k : Nat, n = (k : Int) := ⟨n.toNat, by omega⟩
    have e : (Cd.opT (k : Int)).isSome = true := by
      rcases Cd.k_cases (k := k) (by omega) (by omega) with rfl | rfl | rfl | rfl | rfl | rfl | rfl | rfl | rfl | rfl | rfl | rfl | rfl | rfl | rfl | rfl
      all_goals rfl
    rw [e]
    exact ops_yes k (by omega) (by omega) w
end Go.Proofs.YtlckjphnbfahgaaGreatDoor
