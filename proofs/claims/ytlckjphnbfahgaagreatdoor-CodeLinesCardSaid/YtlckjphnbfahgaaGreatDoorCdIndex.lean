/-
  slices.Index over a row of names.
-/
import Derived.Test.YtlckjphnbfahgaaGreatDoorCdModel
namespace Go.Proofs.YtlckjphnbfahgaaGreatDoor
open Go.RowKit
namespace Cd
instance lawfulBytes : LawfulBEq ByteArray where
  eq_of_beq {a b} h := by
    have h2 : (a.data == b.data) = true := h
    cases a; cases b
    rw [beq_iff_eq] at h2
    cases h2
    rfl
  rfl {a} := by
    show (a.data == a.data) = true
    simp
/-- where a name stands first; -1: nowhere -/
def IdxIs (l : List ByteArray) (s : ByteArray) (x : Int) : Prop := (x = -1 ∧ s ∉ l) ∨ ∃ k : Nat, x = k ∧ ∃ h : k < l.length, l[k] = s ∧ s ∉ l.take k
theorem IdxIs.at {l : List ByteArray} {x : Int} {i : Nat} (hi : i < l.length) (h : IdxIs l l[i] x) : (x != (i : Int)) = (l.take i).contains l[i] := by
  rcases h with ⟨_, h⟩ | ⟨k, rfl, hk, h1, h2⟩
  · exact absurd (List.getElem_mem hi) h
  · by_cases hki : k < i
    · have e1 : ((k : Int) != (i : Int)) = true := by simp; omega
      have e2 : l[i] ∈ l.take i := by
        rw [← h1]
        exact List.mem_take_iff_getElem.2 ⟨k, by omega, rfl⟩
      rw [e1]
      exact (List.contains_iff_mem.2 e2).symm
    · by_cases hik : i < k
      · exact absurd (List.mem_take_iff_getElem.2 ⟨i, by omega, rfl⟩) h2
      · obtain rfl : k = i := by omega
        rw [show ((k : Int) != (k : Int)) = false by simp]
        have := mt List.contains_iff_mem.1 h2
        simpa using h2
end Cd
set_option maxRecDepth 100000 in
set_option maxHeartbeats 2000000 in
theorem index_any {F : Nat → Prop} (v : Value) (l : List ByteArray) (s : ByteArray) (w : World) (h : Cd.NameRow F w v l) (hl : l.length ≤ 140737488355328) :
    Calls Tryz.prog 34 #[v, .string s] w fun e w' => (∃ x : Int, e = .returned (.int .i64 x) ∧ Cd.IdxIs l s x) ∧ w = w' := by
  obtain ⟨a, c, rfl, _, hc⟩ := h
  have HC := Lib.hid hc
  clear hc
  go_enter Tryz.func34, Tryz.ntmps34
  go_wp2
  go_loop [8] (fun v => ∃ k : Nat, v = .int .i64 k ∧ k ≤ l.length ∧ Hid (s ∉ l.take k)) (fun v => l.length - (intOf v).toNat)
  case atStart => exact ⟨0, rfl, by omega, by show s ∉ _; simp⟩
  case round =>
    obtain ⟨k, rfl, hk, HR⟩ := hrel
    by_cases hlt : k < l.length
    · have hlti : (k : Int) < (l.length : Int) := by omega
      obtain ⟨b, o, rfl, _, _, hcell⟩ := HC.out (by intro h0; rw [h0] at hlt; simp at hlt)
      have x0 := hcell k hlt
      by_cases hxy : s = l[k]
      · have HN : Hid (Cd.IdxIs l s (k : Int)) := .inr ⟨k, rfl, hlt, hxy.symm, HR.out⟩
        rw [← hxy] at x0
        clear hcell hxy HR
        go_wp2
        go_ret
        exact ⟨⟨_, rfl, HN.out⟩, rfl⟩
      · obtain ⟨y, hy⟩ : ∃ y, l[k] = y := ⟨_, rfl⟩
        rw [hy] at x0 hxy
        have HN : Hid (s ∉ l.take (k + 1)) := by
          show s ∉ _
          rw [List.take_succ_eq_append_getElem hlt, hy]
          intro hm
          rcases List.mem_append.1 hm with hm | hm
          · exact HR.out hm
          · exact hxy (List.mem_singleton.1 hm)
        have b1 : (s.data == y.data) = false := by rw [beq_eq_false_iff_ne]; intro e; apply hxy; cases s; cases y; cases e; rfl
        have b2 : decide (s = y) = false := decide_eq_false hxy
        have b3 : (s == y) = false := b1
        have b4 : (s.toList == y.toList) = false := by
          rw [ByteArray.toList_eq, ByteArray.toList_eq]
          rw [beq_eq_false_iff_ne]
          intro e
          rw [beq_eq_false_iff_ne] at b1
          exact b1 (Array.toList_inj.1 e)
        clear hcell hxy hy HR
        go_wp2
        go_round
        case rel => exact ⟨k + 1, by simp, by omega, HN⟩
        case measure => simp [intOf]; omega
    · have hge : (l.length : Int) ≤ (k : Int) := by omega
      have HN : Hid (s ∉ l) := by have h := HR.out; rw [List.take_of_length_le (by omega)] at h; exact h
      go_wp2
      go_ret
      exact ⟨⟨-1, rfl, .inl ⟨rfl, HN.out⟩⟩, rfl⟩
end Go.Proofs.YtlckjphnbfahgaaGreatDoor
