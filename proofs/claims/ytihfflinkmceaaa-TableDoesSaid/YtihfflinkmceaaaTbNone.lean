/-
  A table that no call made: what each function answers.
-/
import Derived.Test.YtihfflinkmceaaaTbTold
namespace Go.Proofs.Ytihfflinkmceaaa
open Go.RowKit Go.Sort Go.Shelf
attribute [local go_sem] Oper.semAt_some
namespace Tb
/-- no table: nil, or one of no shards -/
def NoT (w : World) (p : Option Addr) : Prop := p = none ∨ ∃ b, p = some ⟨b, 0, none⟩ ∧ w.cell? ⟨b, 0, none⟩ = some (.int .i64 0)
theorem NoT.below {w w' : World} {p : Option Addr} (h : NoT w p) (hb : Below w.heap.size w w') : NoT w' p := by
  rcases h with rfl | ⟨b, rfl, h⟩
  · exact .inl rfl
  · exact .inr ⟨b, rfl, (hb.cell (p := ⟨b, 0, none⟩) (block_lt_of_cell h)).trans h⟩
end Tb
set_option maxRecDepth 100000 in
theorem none_no (p : Option Addr) (w : World) (h : Tb.NoT w p) :
    Calls Try.prog 24 #[.pointer p] w fun e w' => e = .returned (.bool true) ∧ w = w' := by
  rcases h with rfl | ⟨b, rfl, h⟩
  · go_enter Try.func24, Try.ntmps24
    go_wp2
    go_ret
    exact ⟨rfl, rfl⟩
  · go_enter Try.func24, Try.ntmps24
    go_wp2
    go_ret
    exact ⟨rfl, rfl⟩
set_option maxRecDepth 100000 in
theorem may_no (p : Option Addr) (s : ByteArray) (w : World) (h : Tb.NoT w p) :
    Calls Try.prog 25 #[.pointer p, .string s] w fun e w' => e = .returned (.int .i64 2) ∧ w = w' := by
  go_enter Try.func25, Try.ntmps25
  go_wp2_with fail
  refine (none_no p w h).mono ?_
  rintro e w2 ⟨rfl, rfl⟩
  go_wp2
  go_ret
  exact ⟨rfl, rfl⟩
set_option maxRecDepth 100000 in
theorem Shard_no (p : Option Addr) (s : ByteArray) (w : World) (h : Tb.NoT w p) :
    Calls Try.prog 10 #[.pointer p, .string s] w fun e w' => e = .returned (.int .i64 0) ∧ w = w' := by
  go_enter Try.func10, Try.ntmps10
  go_wp2_with fail
  refine (none_no p w h).mono ?_
  rintro e w2 ⟨rfl, rfl⟩
  go_wp2
  go_ret
  exact ⟨rfl, rfl⟩
set_option maxRecDepth 100000 in
theorem Len_no (p : Option Addr) (w : World) (h : Tb.NoT w p) :
    Calls Try.prog 15 #[.pointer p] w fun e w' => e = .returned (.int .i64 0) ∧ w = w' := by
  go_enter Try.func15, Try.ntmps15
  go_wp2_with fail
  refine (none_no p w h).mono ?_
  rintro e w2 ⟨rfl, rfl⟩
  go_wp2
  go_ret
  exact ⟨rfl, rfl⟩
set_option maxRecDepth 100000 in
theorem Shards_no (p : Option Addr) (w : World) (h : Tb.NoT w p) :
    Calls Try.prog 20 #[.pointer p] w fun e w' => e = .returned (.int .i64 0) ∧ w = w' := by
  go_enter Try.func20, Try.ntmps20
  go_wp2_with fail
  refine (none_no p w h).mono ?_
  rintro e w2 ⟨rfl, rfl⟩
  go_wp2
  go_ret
  exact ⟨rfl, rfl⟩
set_option maxRecDepth 100000 in
theorem Clone_no (p : Option Addr) (w : World) (h : Tb.NoT w p) :
    Calls Try.prog 21 #[.pointer p] w fun e w' => e = .returned (.pointer none) ∧ w = w' := by
  go_enter Try.func21, Try.ntmps21
  go_wp2_with fail
  refine (none_no p w h).mono ?_
  rintro e w2 ⟨rfl, rfl⟩
  go_wp2
  go_ret
  exact ⟨rfl, rfl⟩
set_option maxRecDepth 100000 in
theorem Get_no (p : Option Addr) (s : ByteArray) (w : World) (h : Tb.NoT w p) :
    Calls Try.prog 14 #[.pointer p, .string s] w fun e w' => e = .returned (.tuple #[.agg #[.int .i64 0, .int .i64 0], .int .i64 0, .int .i64 2]) ∧ Below w.heap.size w w' := by
  obtain ⟨wa, hwa⟩ : ∃ wa, w.alloc (.cells #[.int .i64 0, .int .i64 0] 37) = wa := ⟨_, rfl⟩
  have hba : Below w.heap.size w wa := by rw [← hwa]; exact (Below.refl _ w).alloc (Nat.le_refl _) _
  have hT := Tb.Two.new w
  rw [hwa] at hT
  have hm := may_no p s wa (h.below hba)
  have c0 := hT.c0
  have c1 := hT.c1
  have f0 := hT.f0
  have f1 := hT.f1
  clear h
  go_enter Try.func14, Try.ntmps14
  go_wp2_with fail
  refine hm.mono ?_
  rintro e w2 ⟨rfl, rfl⟩
  clear hm
  go_wp2
  obtain ⟨k0, k1⟩ := hT.set (.int .i64 0) (.int .i64 0)
  have kb := Tb.Two.bel hba (Nat.le_refl _) (.int .i64 0) (.int .i64 0)
  exact bodyPost_ret (v := .tuple #[.agg #[.int .i64 0, .int .i64 0], .int .i64 0, .int .i64 2]) (by simp [results, Try.results14, go_sem, k0, k1]) rfl ⟨rfl, kb⟩
set_option maxRecDepth 100000 in
theorem Define_no (p : Option Addr) (s : ByteArray) (x y : Int) (w : World) (h : Tb.NoT w p) :
    Calls Try.prog 13 #[.pointer p, .string s, .agg #[.int .i64 x, .int .i64 y]] w fun e w' => e = .returned (.tuple #[.int .i64 0, .int .i64 2]) ∧ Below w.heap.size w w' := by
  have hba : Below w.heap.size w (w.alloc (.cells #[.int .i64 x, .int .i64 y] 37)) := (Below.refl _ w).alloc (Nat.le_refl _) _
  have hm := may_no p s _ (h.below hba)
  clear h
  go_enter Try.func13, Try.ntmps13
  go_wp2_with fail
  refine hm.mono ?_
  rintro e w2 ⟨rfl, rfl⟩
  clear hm
  go_wp2
  go_ret2
  exact ⟨rfl, hba⟩
set_option maxRecDepth 100000 in
theorem Assign_no (p : Option Addr) (s : ByteArray) (x y : Int) (w : World) (h : Tb.NoT w p) :
    Calls Try.prog 11 #[.pointer p, .string s, .agg #[.int .i64 x, .int .i64 y]] w fun e w' => e = .returned (.tuple #[.int .i64 0, .int .i64 2]) ∧ Below w.heap.size w w' := by
  have hba : Below w.heap.size w (w.alloc (.cells #[.int .i64 x, .int .i64 y] 37)) := (Below.refl _ w).alloc (Nat.le_refl _) _
  have hm := Get_no p s _ (h.below hba)
  clear h
  go_enter Try.func11, Try.ntmps11
  go_wp2_with fail
  refine hm.mono ?_
  rintro e w2 ⟨rfl, hb2⟩
  clear hm
  have hb3 : Below w2.heap.size w2 (w2.alloc (.cells #[.int .i64 0, .int .i64 0] 37)) := (Below.refl _ w2).alloc (Nat.le_refl _) _
  have hB := (hba.trans (hb2.mono hba.size)).trans (hb3.mono (Nat.le_trans hba.size hb2.size))
  clear hba hb2 hb3
  go_wp2
  go_ret2
  exact ⟨rfl, hB⟩
set_option maxRecDepth 100000 in
theorem All_any (p : Option Addr) (w : World) : Calls Try.prog 19 #[.pointer p] w fun e w' => e = .returned (.func (.func 29) #[] #[.pointer (some ⟨w.heap.size, 0, none⟩)]) ∧ w' = w.alloc (.cells #[.pointer p] 25) := by
  go_enter Try.func19, Try.ntmps19
  go_wp2
  go_ret
  exact ⟨rfl, rfl⟩
set_option maxRecDepth 100000 in
theorem AllN_stops (B Bs : Nat) (p : Option Addr) (w : World) (hl : Bs < w.heap.size) (h0 : w.cell? ⟨Bs, 0, none⟩ = some (.pointer p)) (h : Tb.NoT w p) :
    SeqStopsK Fence.wide 8 Try.prog 29 #[.pointer (some ⟨Bs, 0, none⟩)] Tb.encG (Tb.KpM B) (fun ys => ys = []) (fun pre => pre <+: []) ([] : List (Tb.Nm × Tb.V)).length w := fun l J Jx W hW _ _ _ hJ0 => by
  have h0' := (hW.cell (p := ⟨Bs, 0, none⟩) hl).trans h0
  have hn := none_no p W (h.below hW)
  refine callsIn_of_wp Try.func29 rfl trivial ?_ rfl
  simp only [Try.ntmps29, List.size_toArray, List.length_cons, List.length_nil, Nat.reduceAdd, Nat.reduceSub, Array.replicate_succ, Array.replicate_zero, List.push_toArray, List.append_toArray, List.nil_append, List.cons_append]
  gi_wp2_with (refine ⟨trivial, ?_⟩; gi_at_call 24; refine (callsIn_wide.2 hn).mono ?_; rintro e w2 ⟨rfl, rfl⟩)
  exact bodyPost_ret (results_none rfl _ _ _) rfl ⟨⟨_, rfl⟩, .inl ⟨_, rfl, hJ0⟩⟩
theorem told_no (p : Option Addr) (Bs : Nat) (w : World) (hl : Bs < w.heap.size) (h0 : w.cell? ⟨Bs, 0, none⟩ = some (.pointer p)) (h : Tb.NoT w p) :
    Calls Try.prog 18 #[.func (.func 29) #[] #[.pointer (some ⟨Bs, 0, none⟩)], .int .i64 9] w fun e w' => (∃ a c, e = .returned (.slice a 0 c)) ∧ Below w.heap.size w w' := by
  refine (told_gen Bs [] 9 (by omega) w (by simp) (fun W0 B hb _ _ _ => AllN_stops B Bs p W0 (Nat.lt_of_lt_of_le hl hb.size) ((hb.cell (p := ⟨Bs, 0, none⟩) hl).trans h0) (h.below hb))).mono ?_
  rintro e w' ⟨v, rfl, hr, hb⟩
  obtain ⟨a, c, rfl⟩ := Tb.row_form hr
  exact ⟨⟨a, c, rfl⟩, hb⟩
end Go.Proofs.Ytihfflinkmceaaa
