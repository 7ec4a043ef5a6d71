/-
  The walks of the reference's digits, number and line.
-/
import Derived.Test.YtbaendhagojadaaScParse
import Derived.Test.YtbaendhagojadaaFixTextR
namespace Go.Proofs.Ytbaendhagojadaa
open Go.RowKit Go.Sort
theorem digits25_any (f : Nat) (hf : f ≤ 20) : ∀ (n : Nat) (w : World), n < 10 ^ (f + 1) → n ≤ 1152921504606846976 →
    Calls Try.prog 30 #[.int .i64 n] w fun e w' => e = .returned (.string ⟨(Fx.digF f n).toArray⟩) ∧ Below w.heap.size w w' := by
  induction f with
  | zero =>
    intro n w hn hb
    have h10 : n < 10 := by simpa using hn
    have hc := Fx.conv1 n w
    clear hn
    go_enter Try.func30, Try.ntmps30
    go_wp2
    go_ret
    exact ⟨rfl, (Below.refl _ _).alloc (Nat.le_refl _) _⟩
  | succ f ih =>
    intro n w hn hb
    have hc := Fx.conv1 n w
    by_cases h10 : n < 10
    · have e1 : Hid (Fx.digF (f + 1) n = [Fx.digU n]) := if_pos h10
      clear hn
      go_enter Try.func30, Try.ntmps30
      go_wp2
      go_ret
      exact ⟨by rw [e1.out]; rfl, (Below.refl _ _).alloc (Nat.le_refl _) _⟩
    · have e1 : Hid (Fx.digF (f + 1) n = Fx.digF f (n / 10) ++ [Fx.digU n]) := if_neg h10
      have hn2 : Hid (n / 10 < 10 ^ (f + 1)) := by
        show n / 10 < 10 ^ (f + 1)
        rw [Nat.pow_succ] at hn
        omega
      clear hn
      have IH := Lib.hid (ih (by omega))
      clear ih
      go_enter Try.func30, Try.ntmps30
      go_wp2_with fail
      rw [show ((n : Int) / 10) = ((n / 10 : Nat) : Int) from by omega]
      refine (IH.out (n / 10) _ hn2.out (by omega)).mono ?_; rintro e w1 ⟨rfl, hb1⟩
      have hcat := Fx.cat (Fx.digF f (n / 10)) [Fx.digU n] (by have := Fx.digF_len f (n / 10); omega) (by simp) w1
      go_wp2
      go_ret
      refine ⟨?_, ((Below.refl _ _).alloc (Nat.le_refl _) _).trans (hb1.mono (by simp))⟩
      rw [e1.out]
      rfl
namespace Sc
theorem val_le (s : List UInt8) : ∀ (j k : Nat), j ≤ k → k ≤ s.length → Fx.val (s.take j) ≤ Fx.val (s.take k) := by
  intro j k hjk
  induction k with
  | zero =>
    intro _
    obtain rfl : j = 0 := by omega
    exact Nat.le_refl _
  | succ k ih =>
    intro hk
    by_cases e : j = k + 1
    · rw [e]; exact Nat.le_refl _
    · have := ih (by omega) (by omega)
      rw [List.take_succ_eq_append_getElem (by omega), Fx.val_snoc]
      omega
theorem numR_dig (s : ByteArray) (k : Nat) (hk : k < s.size) (h : Fx.isD s[k] = false) : numR s.data.toList = -1 := by
  apply Classical.byContradiction
  intro hn
  have := (numR_of _ hn).1
  rw [List.all_eq_true] at this
  have h2 := this s[k] (by have h := List.getElem_mem (l := s.data.toList) (n := k) (by rw [Fx.size_toList]; exact hk); exact h)
  rw [h] at h2
  cases h2
theorem numR_big (s : ByteArray) (k : Nat) (hk : k ≤ s.size) (h : 1000000 < Fx.val (s.data.toList.take k)) : numR s.data.toList = -1 := by
  apply Classical.byContradiction
  intro hn
  have h1 := (numR_of _ hn).2.1
  have h2 := val_le s.data.toList k s.size hk (by rw [Fx.size_toList]; exact Nat.le_refl _)
  have hfull : s.data.toList.take s.size = s.data.toList := List.take_of_length_le (by rw [Fx.size_toList]; exact Nat.le_refl _)
  rw [hfull] at h2
  omega
theorem isD_int (c : UInt8) : Fx.isD c = (!(decide ((c.toNat : Int) < 48)) && !(decide (57 < (c.toNat : Int)))) := by
  unfold Fx.isD
  rw [Bool.eq_iff_iff]
  simp
  omega
end Sc
set_option maxRecDepth 100000 in
set_option maxHeartbeats 1000000 in
theorem number25_any (s : ByteArray) (w : World) (hs : s.size ≤ 1000000) :
    Calls Try.prog 25 #[.string s] w fun e w' => e = .returned (.int .i64 (Sc.numR s.data.toList)) ∧ Below w.heap.size w w' := by
  go_enter Try.func25, Try.ntmps25
  go_wp2_with fail
  go_loop [3, 4] (fun vn vi => ∃ k : Nat, vi = .int .i64 k ∧ k ≤ s.size ∧ vn = .int .i64 (Fx.val (s.data.toList.take k)) ∧ Hid (Fx.val (s.data.toList.take k) ≤ 10000009)) (fun _ vi => s.size - (intOf vi).toNat)
  case atStart => exact ⟨0, rfl, by omega, rfl, by show Fx.val (s.data.toList.take 0) ≤ _; simp [Fx.val]⟩
  case round =>
    obtain ⟨k, rfl, hk, rfl, HV⟩ := hrel
    obtain ⟨v, hv⟩ : ∃ v, Fx.val (s.data.toList.take k) = v := ⟨_, rfl⟩
    have hvb := HV.out
    rw [hv] at hvb
    have HVV := Lib.hid hv
    by_cases hlt : k < s.size
    · have hlti : (k : Int) < (s.size : Int) := by omega
      have hst := Fx.val_take s k hlt
      rw [hv] at hst ⊢
      have hD := Sc.isD_int s[k]
      by_cases h1 : (s[k].toNat : Int) < 48
      · have HR := Lib.hid (Sc.numR_dig s k hlt (by rw [hD, decide_eq_true h1]; rfl))
        clear hst hD hv HV
        go_wp2
        go_ret
        exact ⟨by rw [HR.out]; rfl, Below.refl _ _⟩
      by_cases h2 : 57 < (s[k].toNat : Int)
      · have HR := Lib.hid (Sc.numR_dig s k hlt (by rw [hD, decide_eq_true h2]; simp))
        clear hst hD hv HV
        go_wp2
        go_ret
        exact ⟨by rw [HR.out]; rfl, Below.refl _ _⟩
      by_cases h3 : 1000000 < v
      · have HR := Lib.hid (Sc.numR_big s k hk (by rw [HVV.out]; exact h3))
        have h3i : 1000000 < (v : Int) := by omega
        clear hst hD hv HV
        go_wp2
        go_ret
        exact ⟨by rw [HR.out]; rfl, Below.refl _ _⟩
      have h3i : ¬ 1000000 < (v : Int) := by omega
      have HST := Lib.hid hst
      have hb8 := s[k].toNat_lt
      clear hst hD hv HV
      go_wp2
      go_round
      case rel => exact ⟨k + 1, by go_num, by omega, by rw [HST.out]; go_num, by show Fx.val (s.data.toList.take (k + 1)) ≤ _; rw [HST.out]; omega⟩
      case measure => simp [intOf]; omega
    · obtain rfl : k = s.size := by omega
      have hge : ¬ (s.size : Int) < (s.size : Int) := by omega
      have hfull : s.data.toList.take s.size = s.data.toList := List.take_of_length_le (by rw [Fx.size_toList]; exact Nat.le_refl _)
      rw [hv]
      rw [hfull] at hv
      by_cases h3 : 1000000 < v
      · have HR := Lib.hid (Sc.numR_big s s.size (Nat.le_refl _) (by rw [HVV.out]; exact h3))
        have h3i : 1000000 < (v : Int) := by omega
        clear hfull hv HV
        go_wp2
        go_ret
        exact ⟨by rw [HR.out]; rfl, Below.refl _ _⟩
      have h3i : ¬ 1000000 < (v : Int) := by omega
      have hdg := fun wx => digits25_any 20 (by omega) v wx (Nat.lt_of_le_of_lt (show v ≤ 1000000 by omega) (by decide)) (by omega)
      obtain ⟨D, hD⟩ : ∃ D : ByteArray, (⟨(Fx.digF 20 v).toArray⟩ : ByteArray) = D := ⟨_, rfl⟩
      have hDl : D.data.toList = Fx.digF 20 v := by rw [← hD]
      rw [hD] at hdg
      have heq : (D.toList == s.toList) = decide (Fx.digF 20 v = s.data.toList) := by rw [ByteArray.toList_eq, ByteArray.toList_eq, hDl, Bool.eq_iff_iff, beq_iff_eq, decide_eq_true_iff]
      by_cases he : Fx.digF 20 v = s.data.toList
      · have HR : Hid (Sc.numR s.data.toList = v) := by
          show _ = _
          rw [Sc.numR_yes _ (by rw [hv]; omega) (by rw [hv]; exact he), hv]
        have f1 : (D.toList == s.toList) = true := by rw [heq]; exact decide_eq_true he
        have f2 : (D.toList != s.toList) = false := by rw [bne, f1]; rfl
        clear hfull hv HV heq he hD hDl
        go_wp2_with fail
        refine (hdg _).mono ?_
        rintro e w1 ⟨rfl, hb1⟩
        go_wp2
        go_ret
        exact ⟨by rw [HR.out]; rfl, hb1⟩
      · have HR : Hid (Sc.numR s.data.toList = -1) := by
          show _ = _
          apply Classical.byContradiction
          intro hn
          have := (Sc.numR_of _ hn).2.2
          rw [hv] at this
          exact he this
        have f1 : (D.toList == s.toList) = false := by rw [heq]; exact decide_eq_false he
        have f2 : (D.toList != s.toList) = true := by rw [bne, f1]; rfl
        clear hfull hv HV heq he hD hDl
        go_wp2_with fail
        refine (hdg _).mono ?_
        rintro e w1 ⟨rfl, hb1⟩
        go_wp2
        go_ret
        exact ⟨by rw [HR.out]; rfl, hb1⟩
namespace Sc
/-- what the reference's line comes to -/
def LinePost (s : ByteArray) (n : Nat) (w : World) (e : Ending) (w' : World) : Prop :=
  w = w' ∧ ((∃ (a : ByteArray) (m : Nat), (s.data.toList.drop n).contains 10 = true ∧ e = .returned (.tuple #[.string a, .int .i64 m, .bool true]) ∧ a.data.toList = (s.data.toList.drop n).takeWhile (· != 10) ∧ n < m ∧ m ≤ s.size ∧ s.data.toList.drop m = ((s.data.toList.drop n).dropWhile (· != 10)).tail)
    ∨ ((s.data.toList.drop n).contains 10 = false ∧ e = .returned (.tuple #[.string ⟨#[]⟩, .int .i64 n, .bool false])))
end Sc
set_option maxRecDepth 100000 in
set_option maxHeartbeats 1000000 in
theorem line25_any (s : ByteArray) (n : Nat) (w : World) (hs : s.size ≤ 1000000) (hn : n ≤ s.size) :
    Calls Try.prog 21 #[.string s, .int .i64 n] w (Sc.LinePost s n w) := by
  have hdl : (s.data.toList.drop n).length = s.size - n := by rw [List.length_drop, Fx.size_toList]
  rcases Sc.idx_has (s.data.toList.drop n) 10 with ⟨_, h2, h3, _⟩ | ⟨i, _, h2, h3, h4, h5⟩
  · have HN : Hid (∀ j, n ≤ j → (hj : j < s.size) → s[j] ≠ 10) := by
      intro j hnj hj e
      have : (10 : UInt8) ∈ s.data.toList.drop n := by
        rw [List.mem_iff_getElem]
        refine ⟨j - n, by omega, ?_⟩
        rw [List.getElem_drop]
        have e2 : n + (j - n) = j := by omega
        simp only [e2]
        exact e
      rw [List.contains_iff_mem.2 this] at h2
      cases h2
    have HP : Hid (Sc.LinePost s n w (.returned (.tuple #[.string ⟨#[]⟩, .int .i64 n, .bool false])) w) := ⟨rfl, .inr ⟨h2, rfl⟩⟩
    clear h2 h3 hdl
    go_enter Try.func21, Try.ntmps21
    go_wp2_with fail
    go_loop [7] (fun vi => ∃ k : Nat, vi = .int .i64 k ∧ n ≤ k ∧ k ≤ s.size) (fun vi => s.size - (intOf vi).toNat)
    case atStart => exact ⟨n, rfl, Nat.le_refl _, hn⟩
    case round =>
      obtain ⟨k, rfl, hk1, hk2⟩ := hrel
      by_cases hlt : k < s.size
      · have hlti : (k : Int) < (s.size : Int) := by omega
        have h10 := HN.out k hk1 hlt
        have h10i : ((s[k].toNat : Int) == 10) = false := by
          rw [beq_eq_false_iff_ne]
          exact fun h => h10 (UInt8.toNat_inj.1 (by show s[k].toNat = 10; omega))
        clear h10
        go_wp2
        go_round
        case rel => exact ⟨k + 1, by go_num, by omega, by omega⟩
        case measure => simp [intOf]; omega
      · have hge : ¬ (k : Int) < (s.size : Int) := by omega
        go_wp2
        go_ret3
        exact HP.out
  · rw [hdl] at h2
    have HN : Hid (∀ j, n ≤ j → j < n + i → (hj : j < s.size) → s[j] ≠ 10) := by
      intro j hnj hji hj e
      have h6 : s[j] ∈ (s.data.toList.drop n).takeWhile (· != 10) := by
        rw [h4, List.mem_iff_getElem]
        refine ⟨j - n, by rw [List.length_take, hdl]; omega, ?_⟩
        rw [List.getElem_take, List.getElem_drop]
        have e2 : n + (j - n) = j := by omega
        simp only [e2]
        rfl
      have h7 := List.all_eq_true.1 (List.all_takeWhile (p := (· != (10 : UInt8))) (l := s.data.toList.drop n)) _ h6
      rw [e] at h7
      simp at h7
    have hat : s[n + i]'(by omega) = 10 := by
      have h6 : (s.data.toList.drop n)[i]? = some 10 := by
        have h8 : (s.data.toList.drop n).contains 10 = true := h3
        have h9 := List.takeWhile_append_dropWhile (p := (· != (10 : UInt8))) (l := s.data.toList.drop n)
        have hdw : (s.data.toList.drop n).dropWhile (· != 10) = 10 :: (s.data.toList.drop n).drop (i + 1) := by
          cases hd : (s.data.toList.drop n).dropWhile (· != 10) with
          | nil =>
            have := congrArg List.length h9
            rw [hd, h4, List.append_nil, List.length_take] at this
            rw [hdl] at this
            omega
          | cons c r =>
            have hc : (c != 10) = false := by
              have := List.head?_dropWhile_not (· != (10 : UInt8)) (s.data.toList.drop n)
              rw [hd] at this
              simpa using this
            have hc2 : c = 10 := by simpa using hc
            rw [hd] at h5
            rw [List.tail_cons] at h5
            rw [hc2, h5]
        rw [← h9, hdw, h4, List.getElem?_append_right (by rw [List.length_take, hdl]; omega), List.length_take, hdl, show i - min i (s.size - n) = 0 by omega]
        rfl
      rw [List.getElem?_drop, List.getElem?_eq_getElem (by rw [Fx.size_toList]; omega)] at h6
      injection h6
    have HA := Lib.hid hat
    have HP : Hid (Sc.LinePost s n w (.returned (.tuple #[.string (s.extract n (n + i)), .int .i64 ((n + i + 1 : Nat) : Int), .bool true])) w) := by
      refine ⟨rfl, .inl ⟨_, n + i + 1, h3, rfl, ?_, by omega, by omega, ?_⟩⟩
      · rw [h4, Lib.extract_data, show n + i - n = i by omega]
      · rw [h5, List.drop_drop]; rfl
    have hni : n + i < s.size := by omega
    clear h3 h4 h5 hdl hat
    go_enter Try.func21, Try.ntmps21
    go_wp2_with fail
    go_loop [7] (fun vi => ∃ k : Nat, vi = .int .i64 k ∧ n ≤ k ∧ k ≤ n + i) (fun vi => s.size - (intOf vi).toNat)
    case atStart => exact ⟨n, rfl, Nat.le_refl _, by omega⟩
    case round =>
      obtain ⟨k, rfl, hk1, hk2⟩ := hrel
      have hlt : k < s.size := by omega
      have hlti : (k : Int) < (s.size : Int) := by omega
      by_cases hki : k < n + i
      · have h10 := HN.out k hk1 hki hlt
        have h10i : ((s[k].toNat : Int) == 10) = false := by
          rw [beq_eq_false_iff_ne]
          exact fun h => h10 (UInt8.toNat_inj.1 (by show s[k].toNat = 10; omega))
        clear h10
        go_wp2
        go_round
        case rel => exact ⟨k + 1, by go_num, by omega, by omega⟩
        case measure => simp [intOf]; omega
      · obtain rfl : k = n + i := by omega
        have h10i : ((s[n + i].toNat : Int) == 10) = true := by rw [HA.out]; rfl
        go_wp2
        go_ret3
        exact HP.out
end Go.Proofs.Ytbaendhagojadaa
