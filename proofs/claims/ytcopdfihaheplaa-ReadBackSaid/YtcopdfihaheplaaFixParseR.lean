/-
  The walk of shuttleref01.Parse.
-/
import Derived.Test.YtcopdfihaheplaaFixForm
namespace Go.Proofs.Ytcopdfihaheplaa
open Go.RowKit
namespace Fx
theorem parse_over (s : ByteArray) (at_ k : Nat) (hf : form s.data.toList = true) (hd : dig s.data.toList = s.data.toList.drop at_) (hk : k ≤ s.size) (h : 1152921504606846976 < val (pre s at_ k)) : parse s.data.toList = (0, 10) := by
  have := pre_le s at_ k hk
  unfold parse
  rw [if_pos hf, hd]
  split
  · rfl
  · unfold signedV; rw [if_pos (.inr (by omega))]
theorem parse_end (s : ByteArray) (at_ : Nat) (hf : form s.data.toList = true) (hd : dig s.data.toList = s.data.toList.drop at_) (h : val (pre s at_ s.size) ≤ 1152921504606846976) :
    parse s.data.toList = fitsV (if neg s.data.toList then -(val (pre s at_ s.size) : Int) else (val (pre s at_ s.size) : Int)) := by
  rw [pre_end] at h ⊢
  have hlen : (s.data.toList.drop at_).length ≤ 19 := by
    apply Classical.byContradiction
    intro hc
    have h3 : form s.data.toList = true := hf
    unfold form at h3
    rw [hd] at h3
    simp only [Bool.and_eq_true, Bool.not_eq_true', List.isEmpty_eq_false_iff] at h3
    obtain ⟨⟨h4, h5⟩, h6⟩ := h3
    cases hl : s.data.toList.drop at_ with
    | nil => rw [hl] at hc; simp at hc
    | cons c l =>
      rw [hl] at hc h5 h6 h
      have h7 : isD c = true ∧ l.all isD = true := by simpa using h6
      have h8 : 1 < s.data.toList.length := by
        have := congrArg List.length hl
        rw [List.length_drop] at this
        simp only [List.length_cons] at hc this
        omega
      have h9 : c ≠ 48 := by
        intro e
        subst e
        rw [show ((48 :: l).head? == some (48 : UInt8)) = true from rfl, decide_eq_true h8] at h5
        cases h5
      have h10 : 1 ≤ c.toNat - 48 := by
        have := h7.1
        simp [isD] at this
        have : c.toNat ≠ 48 := fun e => h9 (UInt8.toNat_inj.1 (by rw [e]; rfl))
        omega
      have h11 := val_ge c l h10 h7.2
      have h12 : (10 : Nat) ^ 19 ≤ 10 ^ l.length := Nat.pow_le_pow_right (by omega) (by simp at hc; omega)
      have h13 : (10 : Nat) ^ 19 = 10000000000000000000 := by decide
      omega
  unfold parse
  rw [if_pos hf, hd, if_neg (by omega)]
  unfold signedV
  rw [if_neg (by omega)]
end Fx
set_option maxHeartbeats 1000000 in
set_option maxRecDepth 100000 in
theorem rParse_minus (s : ByteArray) (w : World) (h00 : 0 < s.size) (h20 : s.size ≤ 20) (hm : ((s[0].toNat : Int) == 45) = true) (hf : Fx.form s.data.toList = true) (hd : Fx.dig s.data.toList = s.data.toList.drop 1) (hn : Fx.neg s.data.toList = true) (ha : Fx.allFrom s 1 = true) :
    Calls Try.prog 58 #[.string s] w fun e w' => e = .returned (Fx.R (Fx.parse s.data.toList)) ∧ w = w' := by
  have HF := Lib.hid (fun w => Form_any s w (by omega))
  rw [hf] at HF
  have HO := Lib.hid (fun k => Fx.parse_over s 1 k hf hd)
  have HE := Lib.hid (Fx.parse_end s 1 hf hd)
  rw [hn] at HE
  have HD := Lib.hid ((Fx.get_drop s 1).1 ha)
  clear hf hd hn ha
  have hp : 0 < (s.size : Int) := by omega
  go_enter Try.func58, Try.ntmps58
  go_wp2_with (go_at_call 82; refine (HF.out _).mono ?_; rintro e w' ⟨rfl, rfl⟩)
  go_loop [4, 5] (fun n i => ∃ k v : Nat, k ≤ s.size ∧ i = .int .i64 k ∧ n = .int .i64 (-(v : Int)) ∧ v ≤ 1152921504606846976 ∧ Hid (v = Fx.val (Fx.pre s 1 k))) (fun _ i => s.size - (intOf i).toNat)
  case atStart => exact ⟨0, 0, Nat.zero_le _, rfl, rfl, by omega, by show 0 = Fx.val _; simp [Fx.pre, Fx.val]⟩
  case round =>
    obtain ⟨k, v, hk, rfl, rfl, hv, HV⟩ := hrel
    by_cases hlt : k < s.size
    · by_cases hk0 : k = 0
      · subst hk0
        have HV2 : Hid (v = Fx.val (Fx.pre s 1 1)) := by
          show v = _
          rw [HV.out]
          have : Fx.pre s 1 1 = [] := by unfold Fx.pre; rw [List.drop_eq_nil_of_le (by rw [List.length_take]; omega)]
          rw [this]; simp [Fx.pre, Fx.val]
        go_wp2
        go_round
        case rel => exact ⟨1, v, by omega, rfl, rfl, hv, HV2⟩
        case measure => simp [intOf]; omega
      have hka : 1 ≤ k := by omega
      have hD := HD.out k hlt hka
      have hc : 48 ≤ s[k].toNat ∧ s[k].toNat ≤ 57 := by simpa [Fx.isD] using hD
      have hs := Fx.val_snoc (Fx.pre s 1 k) s[k]
      rw [← Fx.pre_snoc s 1 k hlt hka, ← HV.out] at hs
      have HS := Lib.hid hs
      have hc0 : (((s[k].toNat : Nat) : Int) == 45) = false := beq_eq_false_iff_ne.2 (by omega)
      have hc1 : 48 ≤ ((s[k].toNat : Nat) : Int) := by omega
      have hc2 : ((s[k].toNat : Nat) : Int) ≤ 57 := by omega
      clear hs hD hc
      by_cases hov : 115292150460684697 < v
      · have e1 := Lib.hid (HO.out (k + 1) hlt (by rw [HS.out]; omega))
        go_wp2
        go_ret2
        exact ⟨Fx.R_mk e1.out, rfl⟩
      by_cases hov2 : 1152921504606846976 < 10 * v + (s[k].toNat - 48)
      · have e1 := Lib.hid (HO.out (k + 1) hlt (by rw [HS.out]; omega))
        have hv2 : -10 * (v : Int) - (((s[k].toNat : Nat) : Int) - 48) < -1152921504606846976 := by omega
        clear hov2
        go_wp2
        go_ret2
        exact ⟨Fx.R_mk e1.out, rfl⟩
      have hv3 : 10 * v + (s[k].toNat - 48) ≤ 1152921504606846976 := by omega
      have HV3 : Hid (10 * v + (s[k].toNat - 48) = Fx.val (Fx.pre s 1 (k + 1))) := HS.out.symm
      have hv2 : -1152921504606846976 ≤ -10 * (v : Int) - (((s[k].toNat : Nat) : Int) - 48) := by omega
      clear hov2
      go_wp2
      go_round
      case rel => exact ⟨k + 1, 10 * v + (s[k].toNat - 48), by omega, by go_num, congrArg (Value.int .i64) (by omega), hv3, HV3⟩
      case measure => simp [intOf]; omega
    · obtain rfl : k = s.size := by omega
      have hv' : Fx.val (Fx.pre s 1 s.size) ≤ 1152921504606846976 := by rw [← HV.out]; exact hv
      have e1 := Lib.hid (HE.out hv')
      rw [← HV.out] at e1
      have e2 : Hid (Fx.parse s.data.toList = (-(v : Int), 0)) := e1.out.trans (by simp only [if_true]; exact Fx.fitsV_ok (Fx.isF_mk (by omega)))
      go_wp2
      go_ret2
      exact ⟨Fx.R_mk e2.out, rfl⟩
set_option maxHeartbeats 1000000 in
set_option maxRecDepth 100000 in
theorem rParse_plain (s : ByteArray) (w : World) (h00 : 0 < s.size) (h20 : s.size ≤ 20) (hm : ((s[0].toNat : Int) == 45) = false) (hf : Fx.form s.data.toList = true) (hd : Fx.dig s.data.toList = s.data.toList.drop 0) (hn : Fx.neg s.data.toList = false) (ha : Fx.allFrom s 0 = true) :
    Calls Try.prog 58 #[.string s] w fun e w' => e = .returned (Fx.R (Fx.parse s.data.toList)) ∧ w = w' := by
  have HF := Lib.hid (fun w => Form_any s w (by omega))
  rw [hf] at HF
  have HO := Lib.hid (fun k => Fx.parse_over s 0 k hf hd)
  have HE := Lib.hid (Fx.parse_end s 0 hf hd)
  rw [hn] at HE
  have HD := Lib.hid ((Fx.get_drop s 0).1 ha)
  clear hf hd hn ha
  have hp : 0 < (s.size : Int) := by omega
  go_enter Try.func58, Try.ntmps58
  go_wp2_with (go_at_call 82; refine (HF.out _).mono ?_; rintro e w' ⟨rfl, rfl⟩)
  go_loop [4, 5] (fun n i => ∃ k v : Nat, k ≤ s.size ∧ i = .int .i64 k ∧ n = .int .i64 (-(v : Int)) ∧ v ≤ 1152921504606846976 ∧ Hid (v = Fx.val (Fx.pre s 0 k))) (fun _ i => s.size - (intOf i).toNat)
  case atStart => exact ⟨0, 0, Nat.zero_le _, rfl, rfl, by omega, by show 0 = Fx.val _; simp [Fx.pre, Fx.val]⟩
  case round =>
    obtain ⟨k, v, hk, rfl, rfl, hv, HV⟩ := hrel
    by_cases hlt : k < s.size
    · have hka : 0 ≤ k := by omega
      have hD := HD.out k hlt hka
      have hc : 48 ≤ s[k].toNat ∧ s[k].toNat ≤ 57 := by simpa [Fx.isD] using hD
      have hs := Fx.val_snoc (Fx.pre s 0 k) s[k]
      rw [← Fx.pre_snoc s 0 k hlt hka, ← HV.out] at hs
      have HS := Lib.hid hs
      have hc0 : (((s[k].toNat : Nat) : Int) == 45) = false := beq_eq_false_iff_ne.2 (by omega)
      have hc1 : 48 ≤ ((s[k].toNat : Nat) : Int) := by omega
      have hc2 : ((s[k].toNat : Nat) : Int) ≤ 57 := by omega
      clear hs hD hc
      by_cases hov : 115292150460684697 < v
      · have e1 := Lib.hid (HO.out (k + 1) hlt (by rw [HS.out]; omega))
        go_wp2
        go_ret2
        exact ⟨Fx.R_mk e1.out, rfl⟩
      by_cases hov2 : 1152921504606846976 < 10 * v + (s[k].toNat - 48)
      · have e1 := Lib.hid (HO.out (k + 1) hlt (by rw [HS.out]; omega))
        have hv2 : -10 * (v : Int) - (((s[k].toNat : Nat) : Int) - 48) < -1152921504606846976 := by omega
        clear hov2
        go_wp2
        go_ret2
        exact ⟨Fx.R_mk e1.out, rfl⟩
      have hv3 : 10 * v + (s[k].toNat - 48) ≤ 1152921504606846976 := by omega
      have HV3 : Hid (10 * v + (s[k].toNat - 48) = Fx.val (Fx.pre s 0 (k + 1))) := HS.out.symm
      have hv2 : -1152921504606846976 ≤ -10 * (v : Int) - (((s[k].toNat : Nat) : Int) - 48) := by omega
      clear hov2
      go_wp2
      go_round
      case rel => exact ⟨k + 1, 10 * v + (s[k].toNat - 48), by omega, by go_num, congrArg (Value.int .i64) (by omega), hv3, HV3⟩
      case measure => simp [intOf]; omega
    · obtain rfl : k = s.size := by omega
      have hv' : Fx.val (Fx.pre s 0 s.size) ≤ 1152921504606846976 := by rw [← HV.out]; exact hv
      have e1 := Lib.hid (HE.out hv')
      rw [← HV.out] at e1
      have e2 : Hid (Fx.parse s.data.toList = Fx.fitsV v) := e1.out.trans (by simp)
      go_wp2_with (go_at_call 83; refine (got_any _ _).mono ?_; rintro e w' ⟨rfl, rfl⟩)
      go_ret2
      exact ⟨Fx.R_mk e2.out, rfl⟩
set_option maxRecDepth 100000 in
theorem rParse_form (s : ByteArray) (w : World) (hs : s.size ≤ 9223372036854775807) (hf : Fx.form s.data.toList = false) :
    Calls Try.prog 58 #[.string s] w fun e w' => e = .returned (Fx.R (Fx.parse s.data.toList)) ∧ w = w' := by
  have HF := Lib.hid (fun w => Form_any s w hs)
  rw [hf] at HF
  have e1 : Hid (Fx.parse s.data.toList = (0, 5)) := by show _ = _; unfold Fx.parse; rw [hf]; rfl
  clear hf
  go_enter Try.func58, Try.ntmps58
  go_wp2_with (go_at_call 82; refine (HF.out _).mono ?_; rintro e w' ⟨rfl, rfl⟩)
  go_ret2
  exact ⟨Fx.R_mk e1.out, rfl⟩
set_option maxRecDepth 100000 in
theorem rParse_long (s : ByteArray) (w : World) (hs : s.size ≤ 9223372036854775807) (hf : Fx.form s.data.toList = true) (hl : 20 < s.size) :
    Calls Try.prog 58 #[.string s] w fun e w' => e = .returned (Fx.R (Fx.parse s.data.toList)) ∧ w = w' := by
  have HF := Lib.hid (fun w => Form_any s w hs)
  rw [hf] at HF
  have hdl : 19 < (Fx.dig s.data.toList).length := by
    have := Fx.size_toList s
    unfold Fx.dig; split
    · rw [List.length_tail]; omega
    · omega
  have e1 : Hid (Fx.parse s.data.toList = (0, 10)) := by show _ = _; unfold Fx.parse; rw [hf, if_pos rfl, if_pos hdl]
  clear hf hdl
  go_enter Try.func58, Try.ntmps58
  go_wp2_with (go_at_call 82; refine (HF.out _).mono ?_; rintro e w' ⟨rfl, rfl⟩)
  go_ret2
  exact ⟨Fx.R_mk e1.out, rfl⟩
set_option maxRecDepth 100000 in
theorem rParse_any (s : ByteArray) (w : World) (hs : s.size ≤ 9223372036854775807) :
    Calls Try.prog 58 #[.string s] w fun e w' => e = .returned (Fx.R (Fx.parse s.data.toList)) ∧ w = w' := by
  cases hf : Fx.form s.data.toList
  · exact rParse_form s w hs hf
  by_cases hl : 20 < s.size
  · exact rParse_long s w hs hf hl
  have no : Fx.form s.data.toList = false → False := fun h => by rw [hf] at h; cases h
  refine Fx.cases s _ (fun h => ?_) (fun h0 h1 hm hf' => (no hf').elim) (fun h1 hm hz hf' => (no hf').elim) (fun h1 hm hz hf' hd hn => ?_) (fun h0 h1 hz hf' => (no hf').elim) (fun h0 h1 hz hf' hd hn => ?_) (fun h0 hm hz hf' hd hn => ?_)
  · subst h; exact (no (by decide)).elim
  · exact rParse_minus s w (by omega) (by omega) hm hf hd hn (hf'.symm.trans hf)
  · exact rParse_plain s w h0 (by omega) (by have : (s[0].toNat : Int) = 48 := by simpa using hz
                                             rw [this]; decide) hf hd hn (hf'.symm.trans hf)
  · exact rParse_plain s w h0 (by omega) hm hf hd hn (hf'.symm.trans hf)
end Go.Proofs.Ytcopdfihaheplaa
