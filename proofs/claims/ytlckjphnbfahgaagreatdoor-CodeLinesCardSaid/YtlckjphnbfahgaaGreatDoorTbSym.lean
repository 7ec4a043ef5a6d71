/-
  The walk of datum.Symbol (cut out of the Lex texts by genTbSym.py).
-/
import Derived.Test.YtlckjphnbfahgaaGreatDoorPost
import Derived.WalkKit
import Derived.WalkSpells
import Derived.WalkLawsBesides
import Derived.Deep.QuietTactic
import Derived.BigQuiet
import Derived.Lib.Hide
import Derived.Lib.Bytealg
import Derived.Lib.Strings
import Derived.Deep.Draws
import Derived.Laws.BytesArg
namespace Go.Proofs.YtlckjphnbfahgaaGreatDoor
open Go.RowKit
theorem Fx.size_toList (s : ByteArray) : s.data.toList.length = s.size := Array.length_toList
namespace Lx
def figure (c : UInt8) : Bool := decide (48 ≤ c.toNat) && decide (c.toNat ≤ 57)
def low (c : UInt8) : Bool := decide (97 ≤ c.toNat) && decide (c.toNat ≤ 122)

/-- a symbol's text -/
def begins (c : UInt8) : Bool := low c || (decide (65 ≤ c.toNat) && decide (c.toNat ≤ 90)) || [33, 36, 37, 38, 42, 47, 58, 60, 61, 62, 63, 94, 95, 126].contains c
def goes (c : UInt8) : Bool := begins c || figure c || [43, 45, 46, 64].contains c
def symbol (t : List UInt8) : Bool :=
  t == [43] || t == [45] || t == [46, 46, 46] || (!t.isEmpty && decide (t.length ≤ 32) && begins (t.headD 0) && t.all goes)

/-- what is left of a text from a place on -/
def tl (s : ByteArray) (at_ : Nat) : List UInt8 := s.data.toList.drop at_
theorem tl_len (s : ByteArray) (at_ : Nat) : (tl s at_).length = s.size - at_ := by
  unfold tl; rw [List.length_drop, Fx.size_toList]
theorem tl_cons (s : ByteArray) (at_ : Nat) (h : at_ < s.size) : tl s at_ = s[at_] :: tl s (at_ + 1) := by
  unfold tl
  rw [List.drop_eq_getElem_cons (by rw [Fx.size_toList]; exact h)]
  rfl
theorem tl_nil (s : ByteArray) (at_ : Nat) (h : s.size ≤ at_) : tl s at_ = [] := by
  unfold tl
  exact List.drop_eq_nil_of_le (by rw [Fx.size_toList]; exact h)
theorem idx_in (l : List UInt8) (c : UInt8) : decide (0 ≤ Lib.indexByte l c) = l.contains c := by
  induction l with
  | nil => rfl
  | cons b l ih =>
    have hm : Lib.indexByte l c = -1 ∨ 0 ≤ Lib.indexByte l c := by
      clear ih
      induction l with
      | nil => exact .inl rfl
      | cons b l ih =>
        unfold Lib.indexByte
        split
        · exact .inr (by omega)
        · split
          · exact .inl rfl
          · rename_i h; rcases ih with ih | ih
            · rw [ih] at h; exact absurd rfl h
            · exact .inr (by omega)
    unfold Lib.indexByte
    rw [List.contains_cons, ← ih]
    by_cases hb : b = c
    · subst hb; simp
    · have e1 : (b == c) = false := by simpa using hb
      have e2 : (c == b) = false := by simpa using fun h => hb h.symm
      rw [e1, e2]
      rcases hm with hm | hm
      · rw [hm]; simp
      · have e3 : (Lib.indexByte l c == -1) = false := beq_eq_false_iff_ne.2 (by omega)
        rw [e3]
        simp; omega
theorem d_cons (d : ByteArray) (h : 0 < d.size) : d.data.toList = d[0] :: d.data.toList.drop 1 := by
  have := tl_cons d 0 h
  unfold tl at this
  rw [List.drop_zero] at this
  exact this
theorem all_bytes (f g : UInt8 → Bool) (h : ∀ n, n < 256 → f (UInt8.ofNat n) = g (UInt8.ofNat n)) (c : UInt8) : f c = g c := by
  have := h c.toNat c.toNat_lt
  simpa using this
theorem sym_bool (s : ByteArray) : symbol s.data.toList = if s.toList == [43] then true else if s.toList == [45] then true else if s.toList == [46, 46, 46] then true
    else if s.toList.isEmpty then false else if 32 < s.size then false else if begins (s.data.toList.headD 0) then s.data.toList.all goes else false := by
  unfold symbol
  rw [ByteArray.toList_eq, ← Fx.size_toList]
  cases (s.data.toList == [43]) <;> cases (s.data.toList == [45]) <;> cases (s.data.toList == [46, 46, 46]) <;> cases s.data.toList.isEmpty <;> cases begins (s.data.toList.headD 0) <;> simp
  by_cases h : 32 < s.size
  · simp [show ¬ s.size ≤ 32 by omega, h]
  · simp [show s.size ≤ 32 by omega, h]
end Lx
theorem run_IndexByteString (s : ByteArray) (c : UInt8) (w : World) :
    (callFunc 85 #[.string s, .int .u8 (c.toNat : Int)]).run Tryz.prog w = .ok (.value (.int .i64 (Lib.indexByte s.data.toList c))) w := by
  have h := Lib.run_indexByteString (P := Tryz.prog) s (c.toNat : Int) w
  rw [show ((c.toNat : Int)).toNat.toUInt8 = c by simp] at h
  rw [run_callFunc_extern Tryz.func85 (by kernel_rfl) (by kernel_rfl) (by kernel_rfl) (e := Extern.BytealgIndexByte.indexByte) (by kernel_rfl), h]
  rfl
set_option maxRecDepth 100000 in
theorem IndexByte_any (s : ByteArray) (c : UInt8) (w : World) :
    Calls Tryz.prog 51 #[.string s, .int .u8 (c.toNat : Int)] w fun e w' => e = .returned (.int .i64 (Lib.indexByte s.data.toList c)) ∧ w = w' := by
  have h := run_IndexByteString s c w
  go_enter Tryz.func51, Tryz.ntmps51
  go_wp2
  go_ret
  exact ⟨rfl, rfl⟩

theorem Sym_idx (big : ByteArray) (f : UInt8 → Bool) (h : ∀ n, n < 256 → big.data.toList.contains (UInt8.ofNat n) = f (UInt8.ofNat n)) (c : UInt8) (w : World) :
    Calls Tryz.prog 51 #[.string big, .int .u8 (c.toNat : Int)] w fun e w' => ∃ i : Int, e = .returned (.int .i64 i) ∧ decide (0 ≤ i) = f c ∧ w = w' := by
  refine (IndexByte_any big c w).mono ?_
  rintro e w' ⟨rfl, rfl⟩
  exact ⟨_, rfl, by rw [Lx.idx_in]; exact Lx.all_bytes (fun c => big.data.toList.contains c) f h c, rfl⟩
set_option maxRecDepth 100000 in
set_option maxHeartbeats 1000000 in
theorem Symbol_any (s : ByteArray) (w : World) (hs : s.size ≤ 1000000) :
    Calls Tryz.prog 33 #[.string s] w fun e w' => e = .returned (.bool (Lx.symbol s.data.toList)) ∧ w' = w := by
  have HN := Lib.hid (Lx.sym_bool s)
  cases f1 : (s.toList == [43])
  case true =>
    have HR : Hid (Lx.symbol s.data.toList = true) := by show _ = _; rw [HN.out, f1]; rfl
    go_enter Tryz.func33, Tryz.ntmps33
    go_wp2
    go_ret
    exact ⟨by rw [HR.out]; rfl, rfl⟩
  cases f2 : (s.toList == [45])
  case true =>
    have HR : Hid (Lx.symbol s.data.toList = true) := by show _ = _; rw [HN.out, f1, f2]; rfl
    go_enter Tryz.func33, Tryz.ntmps33
    go_wp2
    go_ret
    exact ⟨by rw [HR.out]; rfl, rfl⟩
  cases f3 : (s.toList == [46, 46, 46])
  case true =>
    have HR : Hid (Lx.symbol s.data.toList = true) := by show _ = _; rw [HN.out, f1, f2, f3]; rfl
    go_enter Tryz.func33, Tryz.ntmps33
    go_wp2
    go_ret
    exact ⟨by rw [HR.out]; rfl, rfl⟩
  cases f4 : s.toList.isEmpty
  case true =>
    have HR : Hid (Lx.symbol s.data.toList = false) := by show _ = _; rw [HN.out, f1, f2, f3, f4]; rfl
    go_enter Tryz.func33, Tryz.ntmps33
    go_wp2
    go_ret
    exact ⟨by rw [HR.out]; rfl, rfl⟩
  have HN2 : Hid (Lx.symbol s.data.toList = if 32 < s.size then false else if Lx.begins (s.data.toList.headD 0) then s.data.toList.all Lx.goes else false) := by
    show _ = _; rw [HN.out, f1, f2, f3, f4]; rfl
  clear HN
  have hp : 0 < s.size := by
    apply Classical.byContradiction
    intro h
    have e : s.data.toList = [] := List.eq_nil_of_length_eq_zero (by rw [Fx.size_toList]; omega)
    rw [ByteArray.toList_eq, e] at f4
    simp at f4
  have hp' : 0 < (s.size : Int) := by omega
  by_cases h32 : 32 < s.size
  · have h32i : 32 < (s.size : Int) := by omega
    have HR : Hid (Lx.symbol s.data.toList = false) := HN2.out.trans (if_pos h32)
    go_enter Tryz.func33, Tryz.ntmps33
    go_wp2
    go_ret
    exact ⟨by rw [HR.out]; rfl, rfl⟩
  have h32i : ¬ 32 < (s.size : Int) := by omega
  have hhd : s.data.toList.headD 0 = s[0] := by rw [Lx.d_cons s hp]; rfl
  have HN3 : Hid (Lx.symbol s.data.toList = if Lx.begins s[0] then (Lx.tl s 0).all Lx.goes else false) := by
    show _ = _; rw [HN2.out, if_neg h32, hhd]; rfl
  clear HN2 hhd
  go_enter Tryz.func33, Tryz.ntmps33
  go_wp2_with fail
  refine (Sym_idx _ Lx.begins (by decide +kernel) _ _).mono ?_
  rintro e w1 ⟨i, rfl, hi, rfl⟩
  cases hb : Lx.begins s[0]
  · rw [hb] at hi
    have hi' : i < 0 := by simpa using hi
    clear hi
    have HR : Hid (Lx.symbol s.data.toList = false) := by show _ = _; rw [HN3.out, hb]; rfl
    go_wp2
    go_ret
    exact ⟨by rw [HR.out]; rfl, rfl⟩
  rw [hb] at hi
  have hi' : ¬ i < 0 := by simp at hi; omega
  clear hi
  have HN4 : Hid (Lx.symbol s.data.toList = (Lx.tl s 0).all Lx.goes) := by show _ = _; rw [HN3.out, hb]; rfl
  clear HN3
  go_wp2_with fail
  go_loopw [3, 22] (fun _ v wr => ∃ k : Nat, v = .int .i64 k ∧ k ≤ s.size ∧ Hid (Lx.symbol s.data.toList = (Lx.tl s k).all Lx.goes) ∧ wr = w) (fun _ v _ => s.size - (intOf v).toNat)
  case atStart => exact ⟨0, rfl, by omega, HN4, rfl⟩
  case round =>
    obtain ⟨k, rfl, hk, HM, rfl⟩ := hrel
    by_cases hlt : k < s.size
    case neg =>
      have hge : (s.size : Int) ≤ (k : Int) := by omega
      have HR : Hid (Lx.symbol s.data.toList = true) := by show _ = _; rw [HM.out, Lx.tl_nil s k (by omega)]; rfl
      go_wp2
      go_ret
      exact ⟨by rw [HR.out]; rfl, rfl⟩
    have hlt' : (k : Int) < (s.size : Int) := by omega
    have HM2 : Hid (Lx.symbol s.data.toList = (Lx.goes s[k] && (Lx.tl s (k + 1)).all Lx.goes)) := by
      show _ = _; rw [HM.out, Lx.tl_cons s k hlt, List.all_cons]
    clear HM HN4
    go_wp2_with fail
    refine (Sym_idx _ Lx.goes (by decide +kernel) _ _).mono ?_
    rintro e w1 ⟨i2, rfl, hi2, rfl⟩
    cases hg : Lx.goes s[k]
    · rw [hg] at hi2
      have hi3 : i2 < 0 := by simpa using hi2
      clear hi2
      have HR : Hid (Lx.symbol s.data.toList = false) := by show _ = _; rw [HM2.out, hg]; rfl
      go_wp2
      go_ret
      exact ⟨by rw [HR.out]; rfl, rfl⟩
    · rw [hg] at hi2
      have hi3 : ¬ i2 < 0 := by simp at hi2; omega
      clear hi2
      have HM3 : Hid (Lx.symbol s.data.toList = (Lx.tl s (k + 1)).all Lx.goes) := by show _ = _; rw [HM2.out, hg]; rfl
      clear HM2
      go_wp2
      go_roundw
      case rel => exact ⟨k + 1, by simp, by omega, HM3, trivial⟩
      case measure => simp [intOf]; omega
end Go.Proofs.YtlckjphnbfahgaaGreatDoor
