/-
  shuttleref18.Table: New, Shard, at, Get.
-/
import Derived.Test.YtihfflinkmceaaaTbTell
import Derived.Test.YtihfflinkmceaaaTbSymR
import Derived.Test.YtihfflinkmceaaaApp
import Derived.Sort.Walk0
namespace Go.Proofs.Ytihfflinkmceaaa
open Go.RowKit Go.Maps Go.Sort
namespace Tb
/-- where a name stands, or must -/
def pos (L : List (Nm × V)) (s : Nm) : Nat := (L.takeWhile fun p => decide (p.1 < s)).length
theorem pos_le (L : List (Nm × V)) (s : Nm) : pos L s ≤ L.length := List.Sublist.length_le (List.takeWhile_sublist _)
theorem pos_cons (p : Nm × V) (r : List (Nm × V)) (s : Nm) : pos (p :: r) s = if p.1 < s then pos r s + 1 else 0 := by
  unfold pos
  rw [List.takeWhile_cons]
  by_cases h : p.1 < s
  · simp [h]
  · simp [h]
theorem pos_below (L : List (Nm × V)) (s : Nm) : ∀ k, (h : k < pos L s) → (L[k]'(Nat.lt_of_lt_of_le h (pos_le L s))).1 < s := by
  induction L with
  | nil => intro k h; exact absurd h (by simp [pos])
  | cons p r ih =>
    intro k h
    have hp := pos_cons p r s
    by_cases hlt : p.1 < s
    · rw [if_pos hlt] at hp
      cases k with
      | zero => exact hlt
      | succ k => exact ih k (by omega)
    · rw [if_neg hlt] at hp
      omega
theorem pos_stop (L : List (Nm × V)) (s : Nm) (h : pos L s < L.length) : ¬ L[pos L s].1 < s := by
  induction L with
  | nil => simp at h
  | cons p r ih =>
    have hp := pos_cons p r s
    by_cases hlt : p.1 < s
    · rw [if_pos hlt] at hp
      have h' : pos r s < r.length := by rw [hp] at h; simpa using h
      have := ih h'
      simp only [hp, List.getElem_cons_succ]
      exact this
    · rw [if_neg hlt] at hp
      simp only [hp, List.getElem_cons_zero]
      exact hlt
/-- does it stand there? -/
def isAt (L : List (Nm × V)) (s : Nm) : Bool := if h : pos L s < L.length then decide (L[pos L s].1 = s) else false
theorem look_pos {L : List (Nm × V)} (hr : Rising L) (s : Nm) : (look L s).isSome = isAt L s ∧ ∀ h : pos L s < L.length, isAt L s = true → look L s = some L[pos L s].2 := by
  induction L with
  | nil => exact ⟨rfl, fun h => by simp at h⟩
  | cons p r ih =>
    obtain ⟨a, x⟩ := p
    obtain ⟨h1, h2⟩ := List.pairwise_cons.1 hr
    have hp := pos_cons (a, x) r s
    obtain ⟨i1, i2⟩ := ih h2
    by_cases hlt : a < s
    · rw [if_pos hlt] at hp
      have hne : a ≠ s := fun e => by subst e; exact List.lt_irrefl _ hlt
      have e1 : look ((a, x) :: r) s = look r s := by rw [look, if_neg hne]
      have e2 : isAt ((a, x) :: r) s = isAt r s := by
        unfold isAt
        by_cases h : pos r s < r.length
        · rw [dif_pos h, dif_pos (by rw [hp]; simpa using h)]
          simp only [hp, List.getElem_cons_succ]
        · rw [dif_neg h, dif_neg (by rw [hp]; simpa using h)]
      rw [e1, e2]
      refine ⟨i1, fun h hi => ?_⟩
      have h' : pos r s < r.length := by rw [hp] at h; simpa using h
      rw [i2 h' hi]
      simp only [hp, List.getElem_cons_succ]
    · rw [if_neg hlt] at hp
      have e2 : isAt ((a, x) :: r) s = decide (a = s) := by
        unfold isAt
        rw [dif_pos (by rw [hp]; simp)]
        simp only [hp, List.getElem_cons_zero]
      by_cases e : a = s
      · rw [e2, look, if_pos e, decide_eq_true e]
        exact ⟨rfl, fun h _ => by simp only [hp, List.getElem_cons_zero]⟩
      · have hsa := lt_of_not e hlt
        rw [e2, look, if_neg e, decide_eq_false e, look_none r s (fun p hp => List.lt_trans hsa (h1 p hp))]
        exact ⟨rfl, fun _ h => by cases h⟩
theorem put_pos {L : List (Nm × V)} (hr : Rising L) (s : Nm) (v : V) : put L s v = if isAt L s then L.set (pos L s) (s, v) else L.take (pos L s) ++ [(s, v)] ++ L.drop (pos L s) := by
  induction L with
  | nil => rfl
  | cons p r ih =>
    obtain ⟨a, x⟩ := p
    obtain ⟨h1, h2⟩ := List.pairwise_cons.1 hr
    have hp := pos_cons (a, x) r s
    by_cases hlt : a < s
    · rw [if_pos hlt] at hp
      have hne : a ≠ s := fun e => by subst e; exact List.lt_irrefl _ hlt
      have e2 : isAt ((a, x) :: r) s = isAt r s := by
        unfold isAt
        by_cases h : pos r s < r.length
        · rw [dif_pos h, dif_pos (by rw [hp]; simpa using h)]
          simp only [hp, List.getElem_cons_succ]
        · rw [dif_neg h, dif_neg (by rw [hp]; simpa using h)]
      rw [put, if_neg hne, if_pos hlt, ih h2, e2, hp]
      split <;> simp
    · rw [if_neg hlt] at hp
      have e2 : isAt ((a, x) :: r) s = decide (a = s) := by
        unfold isAt
        rw [dif_pos (by rw [hp]; simp)]
        simp only [hp, List.getElem_cons_zero]
      rw [put, e2, hp]
      by_cases e : a = s
      · rw [if_pos e, decide_eq_true e]; simp
      · rw [if_neg e, if_neg hlt, decide_eq_false e]; simp
/-- the reference's table: a number, a row -/
structure RTab (w : World) (b n : Nat) (v : Value) (L : List (Nm × V)) : Prop where
  c0 : w.cell? ⟨b, 0, none⟩ = some (.int .i64 (n : Int))
  c1 : w.cell? ⟨b, 1, none⟩ = some v
  f1 : w.frozen? ⟨b, 1, none⟩ = false
  row : w.ownsRow 0 49 3 v L.length (flatG L)
  ne : v.ownBlock ≠ some b
  len : L.length ≤ 4096
  rise : Rising L
theorem own_keep {S : Nat → Prop} {w w' : World} {b size n : Nat} {e : TypeId} {v : Value} {xs : List Value} (h : w.ownsRow b e size v n xs) (hc : Keep S w w') (hS : ∀ k, v.ownBlock = some k → ¬ S k) : w'.ownsRow b e size v n xs := by
  obtain ⟨h0, h1⟩ := h
  refine ⟨h0, ?_⟩
  rcases h1 with h1 | ⟨g, cap, cur, e1, e2, e3, e4⟩
  · exact .inl h1
  · refine .inr ⟨g, cap, cur, e1, e2, ?_, e4⟩
    rw [hc.block g (Array.getElem?_eq_some_iff.1 e3).1 (hS g (by rw [e1]; rfl))]
    exact e3
theorem RTab.keep {S : Nat → Prop} {w w' : World} {b n : Nat} {v : Value} {L : List (Nm × V)} (h : RTab w b n v L) (hk : Keep S w w') (hb : ¬ S b) (hv : ∀ k, v.ownBlock = some k → ¬ S k) : RTab w' b n v L := by
  have hl : b < w.heap.size := block_lt_of_cell h.c0
  exact ⟨(hk.cell 0 hl hb).trans h.c0, (hk.cell 1 hl hb).trans h.c1, (hk.frozen 1 hl hb).trans h.f1, own_keep h.row hk hv, h.ne, h.len, h.rise⟩
theorem RTab.below {w w' : World} {b n : Nat} {v : Value} {L : List (Nm × V)} (h : RTab w b n v L) (hb : Below w.heap.size w w') : RTab w' b n v L :=
  h.keep (Keep.of_below hb) (fun h => h) (fun _ _ h => h)
theorem RTab.grow {w : World} {b n : Nat} {v : Value} {L : List (Nm × V)} (h : RTab w b n v L) : GRow w v L := GRow.of_own h.row
end Tb
set_option maxRecDepth 100000 in
theorem RNew_any (n : Nat) (h1 : 1 ≤ n) (h16 : n ≤ 16) (w : World) :
    Calls Try.prog 22 #[.int .i64 (n : Int)] w fun e w' => e = .returned (.tuple #[.pointer (some ⟨w.heap.size, 0, none⟩), .int .i64 0]) ∧ Below w.heap.size w w' ∧ w.heap.size < w'.heap.size ∧ Tb.RTab w' w.heap.size n (.slice none 0 0) [] := by
  have h1i : ¬ (n : Int) < 1 := by omega
  have h16i : ¬ (16 : Int) < (n : Int) := by omega
  have hh := World.alloc_heap_new w (.cells #[.int .i64 (n : Int), .slice none 0 0] 66)
  go_enter Try.func22, Try.ntmps22
  go_wp2
  go_ret2
  refine ⟨rfl, (Below.refl _ w).alloc (Nat.le_refl _) _, by simp, ?_, ?_, ?_, World.ownsRow_nil _ _ _ _, by simp [Value.ownBlock], by simp, List.Pairwise.nil⟩
  · unfold World.cell?; rw [hh]; rfl
  · unfold World.cell?; rw [hh]; rfl
  · unfold World.frozen?; rw [hh]; simp
set_option maxRecDepth 100000 in
theorem RNew_bad (n : Int) (h : n < 1 ∨ 16 < n) (w : World) :
    Calls Try.prog 22 #[.int .i64 n] w fun e w' => e = .returned (.tuple #[.pointer none, .int .i64 1]) ∧ w = w' := by
  by_cases h1 : n < 1
  · go_enter Try.func22, Try.ntmps22
    go_wp2
    go_ret2
    exact ⟨rfl, rfl⟩
  · have h16 : 16 < n := by omega
    go_enter Try.func22, Try.ntmps22
    go_wp2
    go_ret2
    exact ⟨rfl, rfl⟩
set_option maxRecDepth 100000 in
theorem New_bad (n : Int) (h : n < 1 ∨ 16 < n) (w : World) :
    Calls Try.prog 8 #[.int .i64 n] w fun e w' => e = .returned (.tuple #[.pointer none, .int .i64 1]) ∧ w = w' := by
  by_cases h1 : n < 1
  · go_enter Try.func8, Try.ntmps8
    go_wp2
    go_ret2
    exact ⟨rfl, rfl⟩
  · have h16 : 16 < n := by omega
    go_enter Try.func8, Try.ntmps8
    go_wp2
    go_ret2
    exact ⟨rfl, rfl⟩
set_option maxRecDepth 100000 in
set_option maxHeartbeats 1000000 in
theorem RShard_any {b n : Nat} {v : Value} {L : List (Tb.Nm × Tb.V)} (s : ByteArray) (w : World) (h : Tb.RTab w b n v L) (hn : 1 ≤ n) (hs : s.size ≤ 1000) :
    Calls Try.prog 37 #[.pointer (some ⟨b, 0, none⟩), .string s] w fun e w' => e = .returned (.int .i64 (Tb.shard n s.data.toList : Nat)) ∧ w = w' := by
  have h1 := h.c0
  clear h
  go_enter Try.func37, Try.ntmps37
  go_wp2
  go_loop [5, 6] (fun m v => ∃ k : Nat, v = .int .i64 k ∧ k ≤ s.size ∧ m = .int .i64 (Tb.hash (s.data.toList.take k) : Nat)) (fun _ v => s.size - (intOf v).toNat)
  case atStart => exact ⟨0, rfl, by omega, by simp [Tb.hash]⟩
  case round =>
    obtain ⟨k, rfl, hk, rfl⟩ := hrel
    by_cases hlt : k < s.size
    · have hlti : (k : Int) < (s.size : Int) := by omega
      have hst : s.data.toList.take (k + 1) = s.data.toList.take k ++ [s[k]] := by
        rw [List.take_add_one, List.getElem?_eq_getElem (by rw [Fx.size_toList]; exact hlt)]; rfl
      have hh := Tb.hash_snoc (s.data.toList.take k) s[k]
      rw [← hst, Nat.mul_comm] at hh
      have hlt2 := Tb.hash_lt (s.data.toList.take k)
      have hc2 := s[k].toNat_lt
      obtain ⟨a, ha⟩ : ∃ a, a = Tb.hash (s.data.toList.take k) := ⟨_, rfl⟩
      rw [← ha] at hh hlt2 ⊢
      have HH := Lib.hid hh
      clear hh hst ha
      go_wp2
      go_round
      case rel => exact ⟨k + 1, by simp, by omega, by rw [HH.out]; simp⟩
      case measure => simp [intOf]; omega
    · obtain rfl : k = s.size := by omega
      have hta : s.data.toList.take s.size = s.data.toList := by rw [← Fx.size_toList]; exact List.take_length
      rw [hta]
      have HS : Hid (Tb.shard n s.data.toList = Tb.hash s.data.toList % n) := rfl
      obtain ⟨a, ha⟩ : ∃ a, a = Tb.hash s.data.toList := ⟨_, rfl⟩
      rw [← ha] at HS ⊢
      have hni : (0 : Int) < (n : Int) := by omega
      have hnz : ((n : Int) == 0) = false := by simp; omega
      clear ha hta
      go_wp2
      go_ret
      refine ⟨?_, rfl⟩
      rw [HS.out]
      show Ending.returned (.int .i64 ((a : Int) % (n : Int))) = _
      rw [Int.natCast_emod]
set_option maxRecDepth 100000 in
set_option maxHeartbeats 2000000 in
theorem at_any {b n : Nat} {v : Value} {L : List (Tb.Nm × Tb.V)} (s : ByteArray) (w : World) (h : Tb.RTab w b n v L) :
    Calls Try.prog 45 #[.pointer (some ⟨b, 0, none⟩), .string s] w fun e w' => e = .returned (.tuple #[.int .i64 (Tb.pos L s.data.toList : Nat), .bool (Tb.isAt L s.data.toList)]) ∧ ∃ q, w' = w.drewN q := by
  have c1 := h.c1
  have hlen := h.len
  have hg := h.grow
  obtain ⟨p, hp⟩ : ∃ p, p = Tb.pos L s.data.toList := ⟨_, rfl⟩
  have HL : Hid (∀ k, (h : k < L.length) → Op.bytesLess (⟨L[k].1.toArray⟩ : ByteArray).toList s.toList = decide (L[k].1 < s.data.toList)) := fun k hk => by
    rw [bytesLess_eq, Lib.toList_data, Lib.toList_data]
  have HP : Hid (∀ k, (h : k < p) → ∃ h' : k < L.length, L[k].1 < s.data.toList) := fun k hk => ⟨by have := Tb.pos_le L s.data.toList; omega, Tb.pos_below L s.data.toList k (by omega)⟩
  have HQ : Hid (∀ h : p < L.length, ¬ L[p].1 < s.data.toList) := by intro h; subst hp; exact Tb.pos_stop L _ h
  obtain ⟨R, hR⟩ : ∃ R, R = Tb.isAt L s.data.toList := ⟨_, rfl⟩
  have HR : Hid (R = if h : p < L.length then decide (L[p].1 = s.data.toList) else false) := by show _ = _; subst hp; exact hR
  have hpl : p ≤ L.length := by rw [hp]; exact Tb.pos_le _ _
  rw [← hp, ← hR]
  clear h hp hR
  go_enter Try.func45, Try.ntmps45
  go_wp2
  go_loop [6] (fun vi => ∃ k : Nat, vi = .int .i64 k ∧ k ≤ p) (fun vi => p - (intOf vi).toNat)
  case atStart => exact ⟨0, rfl, by omega⟩
  case round =>
    obtain ⟨k, rfl, hk⟩ := hrel
    by_cases hlt : k < p
    · obtain ⟨hkl, hless⟩ := HP.out k hlt
      have hbl := HL.out k hkl
      rw [decide_eq_true hless] at hbl
      have hkli : (k : Int) < (L.length : Int) := by omega
      rcases hg with ⟨_, rfl⟩ | ⟨g, cap, rfl, _, hca⟩
      · simp at hkl
      obtain ⟨a0, _, _⟩ := Tb.GRow.three hca k hkl
      clear hca hless
      obtain ⟨z, hz⟩ : ∃ z, z = (⟨L[k].1.toArray⟩ : ByteArray) := ⟨_, rfl⟩
      rw [← hz] at a0 hbl
      clear hz
      go_wp2
      go_round
      case rel => exact ⟨k + 1, by simp, by omega⟩
      case measure => simp [intOf]; omega
    · obtain rfl : k = p := by omega
      by_cases hkl : k < L.length
      · have hkli : (k : Int) < (L.length : Int) := by omega
        have hbl := HL.out k hkl
        rw [decide_eq_false (HQ.out hkl)] at hbl
        rcases hg with ⟨_, rfl⟩ | ⟨g, cap, rfl, _, hca⟩
        · simp at hkl
        obtain ⟨a0, _, _⟩ := Tb.GRow.three hca k hkl
        clear hca
        have hr := HR.out
        rw [dif_pos hkl] at hr
        obtain ⟨z, hz⟩ : ∃ z, z = (⟨L[k].1.toArray⟩ : ByteArray) := ⟨_, rfl⟩
        have hzz : (z.toList == s.toList) = R := by
          rw [hr, Lib.toList_data, Lib.toList_data, hz]
          by_cases e : L[k].1 = s.data.toList
          · simp [e]
          · rw [decide_eq_false e]; simpa using e
        have hdec : decide ((k : Int) < (L.length : Int)) = true := decide_eq_true hkli
        rw [← hz] at a0 hbl
        clear hz hr
        go_wp2
        go_quiet (fail)
        go_wp2
        go_ret2
        exact ⟨rfl, _, rfl⟩
      · have hkli : ¬ (k : Int) < (L.length : Int) := by omega
        have hdec : decide ((k : Int) < (L.length : Int)) = false := decide_eq_false hkli
        obtain ⟨a, c, rfl⟩ : ∃ a c, v = .slice a L.length c := by
          rcases hg with ⟨rfl, rfl⟩ | ⟨g, cap, rfl, _⟩
          · exact ⟨_, _, rfl⟩
          · exact ⟨_, _, rfl⟩
        have hr := HR.out
        rw [dif_neg hkl] at hr
        subst hr
        clear hg
        go_wp2
        go_quiet (fail)
        go_wp2
        go_ret2
        exact ⟨rfl, _, rfl⟩
end Go.Proofs.Ytihfflinkmceaaa
