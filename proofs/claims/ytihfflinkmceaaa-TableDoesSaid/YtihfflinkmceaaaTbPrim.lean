/-
  prim.table, shuttleref12.Rows: the procedures' names. (Printed by genTbPrim.py.)
-/
import Derived.Test.YtihfflinkmceaaaTbMap
import Derived.Laws.Tables
import Derived.Laws.Rows
import Derived.Great.Walk
import Derived.RangeFuncNested
import Derived.Laws.CopyOwn
import Derived.Laws.CopyRow
import Derived.RangeFuncBox
namespace Go.Proofs.Ytihfflinkmceaaa
open Go.RowKit
namespace Tb
/-- the procedures: a number, a name, how many values it takes -/
def prims : List (Nat × List UInt8 × Int × Int) := [
  (0, [43], 0, -1),
  (1, [45], 1, -1),
  (2, [42], 0, -1),
  (3, [113, 117, 111, 116, 105, 101, 110, 116], 2, 2),
  (4, [114, 101, 109, 97, 105, 110, 100, 101, 114], 2, 2),
  (5, [109, 111, 100, 117, 108, 111], 2, 2),
  (6, [61], 1, -1),
  (7, [60], 1, -1),
  (8, [62], 1, -1),
  (9, [60, 61], 1, -1),
  (10, [62, 61], 1, -1),
  (11, [122, 101, 114, 111, 63], 1, 1),
  (12, [110, 111, 116], 1, 1),
  (13, [101, 113, 63], 2, 2),
  (14, [101, 113, 117, 97, 108, 63], 2, 2),
  (15, [99, 111, 110, 115], 2, 2),
  (16, [99, 97, 114], 1, 1),
  (17, [99, 100, 114], 1, 1),
  (18, [115, 101, 116, 45, 99, 97, 114, 33], 2, 2),
  (19, [115, 101, 116, 45, 99, 100, 114, 33], 2, 2),
  (20, [112, 97, 105, 114, 63], 1, 1),
  (21, [110, 117, 108, 108, 63], 1, 1),
  (22, [108, 105, 115, 116], 0, -1),
  (23, [108, 101, 110, 103, 116, 104], 1, 1),
  (24, [97, 112, 112, 101, 110, 100], 0, -1),
  (25, [114, 101, 118, 101, 114, 115, 101], 1, 1),
  (26, [108, 105, 115, 116, 45, 114, 101, 102], 2, 2),
  (27, [118, 101, 99, 116, 111, 114], 0, -1),
  (28, [109, 97, 107, 101, 45, 118, 101, 99, 116, 111, 114], 1, 2),
  (29, [118, 101, 99, 116, 111, 114, 45, 114, 101, 102], 2, 2),
  (30, [118, 101, 99, 116, 111, 114, 45, 115, 101, 116, 33], 3, 3),
  (31, [118, 101, 99, 116, 111, 114, 45, 108, 101, 110, 103, 116, 104], 1, 1),
  (32, [115, 116, 114, 105, 110, 103, 45, 108, 101, 110, 103, 116, 104], 1, 1),
  (33, [115, 116, 114, 105, 110, 103, 45, 114, 101, 102], 2, 2),
  (34, [115, 116, 114, 105, 110, 103, 45, 97, 112, 112, 101, 110, 100], 0, -1),
  (35, [115, 117, 98, 115, 116, 114, 105, 110, 103], 3, 3),
  (36, [115, 116, 114, 105, 110, 103, 61, 63], 2, 2),
  (37, [115, 121, 109, 98, 111, 108, 45, 62, 115, 116, 114, 105, 110, 103], 1, 1),
  (38, [115, 116, 114, 105, 110, 103, 45, 62, 115, 121, 109, 98, 111, 108], 1, 1),
  (39, [110, 117, 109, 98, 101, 114, 45, 62, 115, 116, 114, 105, 110, 103], 1, 1),
  (40, [115, 116, 114, 105, 110, 103, 45, 62, 110, 117, 109, 98, 101, 114], 1, 1),
  (41, [99, 104, 97, 114, 45, 62, 105, 110, 116, 101, 103, 101, 114], 1, 1),
  (42, [105, 110, 116, 101, 103, 101, 114, 45, 62, 99, 104, 97, 114], 1, 1),
  (43, [115, 121, 109, 98, 111, 108, 63], 1, 1),
  (44, [115, 116, 114, 105, 110, 103, 63], 1, 1),
  (45, [110, 117, 109, 98, 101, 114, 63], 1, 1),
  (46, [98, 111, 111, 108, 101, 97, 110, 63], 1, 1),
  (47, [99, 104, 97, 114, 63], 1, 1),
  (48, [112, 114, 111, 99, 101, 100, 117, 114, 101, 63], 1, 1),
  (49, [118, 101, 99, 116, 111, 114, 63], 1, 1),
  (50, [97, 98, 115], 1, 1),
  (51, [109, 105, 110], 1, -1),
  (52, [109, 97, 120], 1, -1),
  (53, [101, 120, 112, 116], 2, 2),
  (54, [103, 99, 100], 0, -1),
  (64, [97, 112, 112, 108, 121], 2, 2),
  (65, [99, 97, 108, 108, 47, 49, 99, 99], 1, 1),
  (66, [101, 114, 114, 111, 114], 1, -1),
  (67, [115, 112, 97, 119, 110], 1, 1),
  (68, [121, 105, 101, 108, 100], 0, 0),
  (69, [106, 111, 105, 110], 1, 1),
  (70, [115, 101, 108, 102], 0, 0),
  (71, [109, 97, 107, 101, 45, 99, 104, 97, 110, 110, 101, 108], 1, 1),
  (72, [115, 101, 110, 100], 2, 2),
  (73, [114, 101, 99, 101, 105, 118, 101], 1, 1),
  (74, [99, 108, 111, 115, 101], 1, 1),
  (75, [109, 97, 107, 101, 45, 109, 117, 116, 101, 120], 0, 0),
  (76, [108, 111, 99, 107], 1, 1),
  (77, [117, 110, 108, 111, 99, 107], 1, 1),
  (78, [109, 97, 107, 101, 45, 99, 111, 110, 100, 105, 116, 105, 111, 110], 0, 0),
  (79, [119, 97, 105, 116], 2, 2),
  (80, [115, 105, 103, 110, 97, 108], 1, 1),
  (81, [98, 114, 111, 97, 100, 99, 97, 115, 116], 1, 1),
  (82, [109, 97, 107, 101, 45, 101, 110, 103, 105, 110, 101], 1, 1),
  (83, [114, 117, 110, 45, 101, 110, 103, 105, 110, 101], 4, 4),
  (84, [100, 105, 115, 112, 108, 97, 121], 1, 1)]
def rowT (n : Nat) : List UInt8 × Int × Int := (prims.find? (·.1 == n)).elim ([], 0, 0) (·.2)
/-- the table's rows, with those of no name -/
def rowsT : List (List UInt8 × Int × Int) := (List.range 85).map rowT
def flatR (l : List (List UInt8 × Int × Int)) : List Value := l.flatMap fun p => [.string ⟨p.1.toArray⟩, .int .i64 p.2.1, .int .i64 p.2.2]
def flatP (l : List (Nat × List UInt8 × Int × Int)) : List Value := l.flatMap fun p => [.int .i64 p.1, .string ⟨p.2.1.toArray⟩, .int .i64 p.2.2.1, .int .i64 p.2.2.2]
/-- a row of literals built one after another -/
def runBuilds (P : Program) : List Oper → Act → Option Act
  | [], a => some a
  | o :: r, a => match o.guard, o.op with
    | none, .build t parts => match P.built t (parts.map fun (i, x) => (i, a.eval x)).toList with
      | some cells => runBuilds P r (a.put o.dst (.agg cells))
      | none => none
    | _, _ => none
theorem wpList_builds {P : Program} {ops : Array Oper} {Q : Exit → Act → World → Prop} {w : World} (r : List Oper) : ∀ (l : List Oper) (a a' : Act), runBuilds P l a = some a' → wpList P ops Q r a' w → wpList P ops Q (l ++ r) a w
  | [], a, a', h, k => by cases h; exact k
  | o :: l, a, a', h, k => by
    unfold runBuilds at h
    split at h
    · rename_i t parts hg ho
      split at h
      · rename_i cells hc
        exact wpList_buildTo hg t parts ho _ rfl cells hc (wpList_builds r l _ a' h k)
      · cases h
    · cases h
theorem wpList_buildsTo {β : Type} {P : Program} {ops : Array Oper} {Q : Exit → Act → World → Prop} {w : World} (n : Nat) {l : List Oper} {a : Act} (x : Nat) (vx : Value) (g : Act → β) (vy : β)
    (h : (runBuilds P (l.take n) a).map (fun a => (a.eval (.tmp x), g a)) = some (vx, vy))
    (k : ∀ a', a'.eval (.tmp x) = vx → g a' = vy → wpList P ops Q (l.drop n) a' w) : wpList P ops Q l a w := by
  cases hb : runBuilds P (l.take n) a with
  | none => rw [hb] at h; cases h
  | some a' =>
    rw [hb] at h
    simp at h
    have := wpList_builds (l.drop n) (l.take n) a a' hb (k a' h.1 h.2)
    rwa [List.take_append_drop] at this
theorem results_cell {P : Program} {fn : Func} {t : Nat} {T : TypeId} (h : fn.results = #[.cell t T]) (tmps : Array Value) (w : World) (a : Addr) {v : Value} (ha : tmps[t]?.getD undef = .pointer (some a)) (hl : (loadVar T a).run P w = .ok v w) :
    (results fn tmps).run P w = .ok v w := by
  simp [results, h, ha, asAddr, hl]
end Tb
set_option maxRecDepth 100000 in
set_option maxHeartbeats 4000000 in
theorem table_any (w : World) : Calls Try.prog 48 #[] w fun e w' => e = .returned (.agg (Tb.flatR Tb.rowsT).toArray) ∧ Below w.heap.size w w' := by
  go_enter Try.func48, Try.ntmps48
  refine wp_seq (wp_region_list ?_)
  refine Great.wpList_runTo rfl _ rfl (.pointer (some ⟨w.heap.size, 0, none⟩)) (w.alloc (.cells (Tb.flatR (List.replicate 85 ([], 0, 0))).toArray 95)) (by kernel_rfl) ?_
  refine wpList_nil ?_
  show Code.wp _ (Code.seq _ _) _ _ _
  refine wp_seq (wp_region_list ?_)
  refine Tb.wpList_buildsTo 77 77 (.agg (Tb.flatR Tb.rowsT).toArray) (fun a => (a.eval (.tmp 0), a.defers)) (.pointer (some ⟨w.heap.size, 0, none⟩), []) (by kernel_rfl) ?_
  intro a' h77 h0
  simp only [Prod.mk.injEq] at h0
  have h00 : a'.eval (.tmp 0) = .pointer (some ⟨w.heap.size, 0, none⟩) := h0.1
  have hheap : (w.alloc (.cells (Tb.flatR (List.replicate 85 ([], 0, 0))).toArray 95)).heap[w.heap.size]? = some (.cells (Tb.flatR (List.replicate 85 ([], 0, 0))).toArray 95 (0, 0)) := World.alloc_heap_new w _
  change wpList _ _ _ (_ :: []) a' _
  refine wpList_store_row rfl 95 (.tmp 0) (.tmp 77) rfl w.heap.size (Tb.flatR Tb.rowsT).toArray h00 h77 _ _ hheap (by kernel_rfl) (by kernel_rfl) (by kernel_rfl) ?_
  refine wpList_nil ?_
  change Code.wp _ Code.ret _ a' _
  refine wp_ret ?_
  refine bodyPost_ret (v := .agg (Tb.flatR Tb.rowsT).toArray) ?_ h0.2 ⟨rfl, ?_⟩
  · have hset := setRow_heap (w.alloc (.cells (Tb.flatR (List.replicate 85 ([], 0, 0))).toArray 95)) w.heap.size _ (Tb.flatR Tb.rowsT).toArray _ _ hheap
    have hl := run_loadVar_row (P := Try.prog) ((w.alloc (.cells (Tb.flatR (List.replicate 85 ([], 0, 0))).toArray 95)).setRow w.heap.size (Tb.flatR Tb.rowsT).toArray) w.heap.size 95 95 (Tb.flatR Tb.rowsT).toArray (0, 0) _ hset Try.underlying95 rfl (by kernel_rfl)
    have h01 : a'.tmps.getD 0 undef = .pointer (some ⟨w.heap.size, 0, none⟩) := h00
    exact Tb.results_cell Try.results48 _ _ _ (by rw [← Array.getD_eq_getD_getElem?]; exact h01) hl
  · exact below_setRow ((Below.refl _ w).alloc (Nat.le_refl _) _) (Nat.le_refl _) _
set_option maxRecDepth 100000 in
set_option maxHeartbeats 4000000 in
theorem Rows_any (w : World) : Calls Try.prog 28 #[] w fun e w' => e = .returned (.slice (some ⟨w.heap.size, 0, none⟩) 76 76) ∧ w' = w.alloc (.cells (Tb.flatP Tb.prims).toArray 74) := by
  go_enter Try.func28, Try.ntmps28
  refine wp_seq (wp_region_list ?_)
  refine Great.wpList_runTo rfl _ rfl (.slice none 0 0) w (by kernel_rfl) ?_
  refine wpList_nil ?_
  show Code.wp _ (Code.seq _ _) _ _ _
  refine wp_seq (wp_region_list ?_)
  refine Tb.wpList_buildsTo 76 1 (.agg #[.int .i64 0, .string ⟨#[43]⟩, .int .i64 0, .int .i64 (-1)]) (fun a => (a.defers, _root_.Go.Program.builtSlice Try.prog 74 76 ((List.range 76).map fun i => (i, a.eval (.tmp (i + 1)))), a.tmps.size)) ([], some (Tb.flatP Tb.prims).toArray, 78) (by kernel_rfl) ?_
  intro a' _ h0
  simp only [Prod.mk.injEq] at h0
  obtain ⟨h1, h2, h3⟩ := h0
  change wpList _ _ _ (_ :: _ :: []) a' _
  refine Great.wpList_buildSliceTo rfl 71 74 76 _ rfl w.heap.size rfl (some 77) rfl Try.underlying71 (Tb.flatP Tb.prims).toArray (Eq.trans (by kernel_rfl) h2) ?_
  have h77 : (a'.put (some 77) (.slice (some ⟨w.heap.size, 0, none⟩) 76 76)).eval (.tmp 77) = .slice (some ⟨w.heap.size, 0, none⟩) 76 76 := by
    show (a'.tmps.setIfInBounds 77 _).getD 77 undef = _
    simp [h3]
  refine wpList_plain rfl fun K hK => ?_
  unfold Oper.wp
  simp only [execOp, Sem.run_pure, h77]
  refine hK _ _ (wpList_nil ?_)
  change Code.wp _ Code.ret _ _ _
  refine wp_ret ?_
  refine bodyPost_ret (v := .slice (some ⟨w.heap.size, 0, none⟩) 76 76) (by rw [results_tmp rfl]; congr 1; show ((a'.tmps.setIfInBounds 77 _).setIfInBounds 0 _).getD 0 undef = _; simp [h3]) h1 ⟨rfl, rfl⟩
end Go.Proofs.Ytihfflinkmceaaa
