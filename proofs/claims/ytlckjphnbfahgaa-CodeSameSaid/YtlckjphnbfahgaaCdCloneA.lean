/-
  slices.Clone of instructions, of texts.
-/
import Derived.Test.YtlckjphnbfahgaaCdCloneP
namespace Go.Proofs.Ytlckjphnbfahgaa
open Go.RowKit
attribute [local go_sem] Oper.semAt_some
set_option maxRecDepth 100000 in
theorem Cd.infoIns : (Try.prog.info? 41).map (fun i => (i.zero, i.size, i.bytes)) = some (some (.agg #[.int .i64 0, .int .i64 0, .int .i64 0]), 3, 24) := by kernel_rfl
set_option maxRecDepth 100000 in
theorem Cd.infoStr : (Try.prog.info? 9).map (fun i => (i.zero, i.size, i.bytes)) = some (some (.string ⟨#[]⟩), 1, 16) := by kernel_rfl
set_option maxRecDepth 100000 in
theorem Cd.infoCode : (Try.prog.info? 39).map (fun i => (i.zero, i.size, i.bytes)) = some (some (.agg #[.int .i64 0, .int .i64 0, .int .i64 0, .int .i64 0, .slice none 0 0]), 5, 56) := by kernel_rfl
set_option maxRecDepth 100000 in
set_option maxHeartbeats 4000000 in
theorem insClone_any {F : Nat → Prop} (v : Value) (l : List Cd.Ins) (w : World) (h : Cd.InsRow F w v l) (hl : l.length ≤ 4096) :
    Calls Try.prog 38 #[v] w fun e w' => ∃ v', e = .returned v' ∧ w'.ownsRow w.heap.size 41 3 v' l.length (Cd.flatI l) ∧ Below w.heap.size w w' := by
  have h0 := h
  obtain ⟨a, c, rfl, hc, hpt⟩ := h
  have hn := Lib.run_eql_slice_nil (P := Try.prog) w 37 41 a l.length c 0 0 Try.underlying37
  cases a with
  | none =>
    have hl0 : l = [] := by
      cases l with
      | nil => rfl
      | cons x r => obtain ⟨b, o, e, _⟩ := hpt (by simp); cases e
    subst hl0
    have hn' : (binOp .eql 37 (.slice none 0 c) (.slice none 0 0)).run Try.prog w = .ok (.bool true) w := hn
    clear hn h0 hpt
    go_enter Try.func38, Try.ntmps38
    go_wp2
    go_ret
    exact ⟨_, rfl, World.ownsRow_nil _ _ _ _, Below.refl _ _⟩
  | some ad =>
    obtain ⟨i1, hi1, hy0, hy1, hy2⟩ := info_parts Cd.infoIns
    have hm1 : 0 + l.length ≤ maxLen := by unfold maxLen; omega
    have hm2 : (0 + l.length) * 24 ≤ 140737488355328 := by omega
    obtain ⟨wA, hwA⟩ : ∃ wA, w.alloc (.cells #[] 41) = wA := ⟨_, rfl⟩
    have hb : Below w.heap.size w wA := by rw [← hwA]; exact (Below.refl _ _).alloc (Nat.le_refl _) _
    have hown : wA.ownsRow w.heap.size 41 3 (.slice (some ⟨w.heap.size, 0, none⟩) 0 0) 0 [] := by rw [← hwA]; exact World.ownsRow_made w #[] 0 (Nat.le_refl _) (by decide) (by simp)
    have hsrc := (h0.below hb).src
    have hln : (Cd.flatI l).length = l.length * 3 := Cd.flat_len Cd.insV 3 (fun _ => rfl) l
    have h1 : ∀ u ∈ Cd.flatI l, u.oneCell' = true := by
      intro u hu
      obtain ⟨x, -, hx⟩ := List.mem_flatMap.1 hu
      simp [Cd.insV] at hx
      rcases hx with rfl | rfl | rfl <;> rfl
    obtain ⟨X, hX⟩ : ∃ X, Cd.flatI l = X := ⟨_, rfl⟩
    rw [hX] at hsrc hln h1
    have HX := Lib.hid hX
    have HO := Lib.hid hown
    have HB := Lib.hid hb
    clear h0 hpt hown hb hX
    go_enter Try.func38, Try.ntmps38
    go_wp2_with (at_builtin; refine Ap.list rfl _ _ 37 rfl w.heap.size 41 i1 (.agg #[.int .i64 0, .int .i64 0, .int .i64 0]) 3 24 Try.underlying37 hi1 hy0 hy1 hy2 rfl (by decide) (.slice (some ⟨w.heap.size, 0, none⟩) 0 0) 0 [] rfl HO.out (.slice (some ad) l.length c) l.length X rfl (.inr ⟨_, _, rfl, hsrc⟩) hln h1 hm1 hm2 HB.out.size ?_; intro v' w5 hown hg hat; obtain ⟨a5, c5, rfl⟩ := Dt.row_form hown)
    go_ret
    simp only [Nat.zero_add, List.nil_append] at hown
    exact ⟨_, rfl, by rw [HX.out]; simpa using hown, Dt.grown_below HB.out hg (Nat.le_refl _) (fun k hk => by cases hk; exact Nat.le_refl _)⟩
set_option maxRecDepth 100000 in
set_option maxHeartbeats 4000000 in
theorem nameClone_any {F : Nat → Prop} (v : Value) (l : List ByteArray) (w : World) (h : Cd.NameRow F w v l) (hl : l.length ≤ 4096) :
    Calls Try.prog 36 #[v] w fun e w' => ∃ v', e = .returned v' ∧ w'.ownsRow w.heap.size 9 1 v' l.length (l.map Value.string) ∧ Below w.heap.size w w' := by
  have h0 := h
  obtain ⟨a, c, rfl, hc, hpt⟩ := h
  have hn := Lib.run_eql_slice_nil (P := Try.prog) w 24 9 a l.length c 0 0 Try.underlying24
  cases a with
  | none =>
    have hl0 : l = [] := by
      cases l with
      | nil => rfl
      | cons x r => obtain ⟨b, o, e, _⟩ := hpt (by simp); cases e
    subst hl0
    have hn' : (binOp .eql 24 (.slice none 0 c) (.slice none 0 0)).run Try.prog w = .ok (.bool true) w := hn
    clear hn h0 hpt
    go_enter Try.func36, Try.ntmps36
    go_wp2
    go_ret
    exact ⟨_, rfl, World.ownsRow_nil _ _ _ _, Below.refl _ _⟩
  | some ad =>
    obtain ⟨i1, hi1, hy0, hy1, hy2⟩ := info_parts Cd.infoStr
    have hm1 : 0 + l.length ≤ maxLen := by unfold maxLen; omega
    have hm2 : (0 + l.length) * 16 ≤ 140737488355328 := by omega
    obtain ⟨wA, hwA⟩ : ∃ wA, w.alloc (.cells #[] 9) = wA := ⟨_, rfl⟩
    have hb : Below w.heap.size w wA := by rw [← hwA]; exact (Below.refl _ _).alloc (Nat.le_refl _) _
    have hown : wA.ownsRow w.heap.size 9 1 (.slice (some ⟨w.heap.size, 0, none⟩) 0 0) 0 [] := by rw [← hwA]; exact World.ownsRow_made w #[] 0 (Nat.le_refl _) (by decide) (by simp)
    have hsrc := (h0.below hb).src
    have hln : (l.map Value.string).length = l.length * 1 := by simp
    have h1 : ∀ u ∈ l.map Value.string, u.oneCell' = true := by
      intro u hu
      obtain ⟨x, -, rfl⟩ := List.mem_map.1 hu
      rfl
    obtain ⟨X, hX⟩ : ∃ X, l.map Value.string = X := ⟨_, rfl⟩
    rw [hX] at hsrc hln h1
    have HX := Lib.hid hX
    have HO := Lib.hid hown
    have HB := Lib.hid hb
    clear h0 hpt hown hb hX
    go_enter Try.func36, Try.ntmps36
    go_wp2_with (at_builtin; refine Ap.list rfl _ _ 24 rfl w.heap.size 9 i1 (.string ⟨#[]⟩) 1 16 Try.underlying24 hi1 hy0 hy1 hy2 rfl (by decide) (.slice (some ⟨w.heap.size, 0, none⟩) 0 0) 0 [] rfl HO.out (.slice (some ad) l.length c) l.length X rfl (.inr ⟨_, _, rfl, hsrc⟩) hln h1 hm1 hm2 HB.out.size ?_; intro v' w5 hown hg hat; obtain ⟨a5, c5, rfl⟩ := Dt.row_form hown)
    go_ret
    simp only [Nat.zero_add, List.nil_append] at hown
    exact ⟨_, rfl, by rw [HX.out]; simpa using hown, Dt.grown_below HB.out hg (Nat.le_refl _) (fun k hk => by cases hk; exact Nat.le_refl _)⟩
end Go.Proofs.Ytlckjphnbfahgaa
