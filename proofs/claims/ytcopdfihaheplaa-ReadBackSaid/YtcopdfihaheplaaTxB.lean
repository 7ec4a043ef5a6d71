/-
  The walks of pair, escape and letter.
-/
import Derived.Test.YtcopdfihaheplaaTxM
namespace Go.Proofs.Ytcopdfihaheplaa
open Go.RowKit
namespace Tx
theorem b8 (c : UInt8) : 0 ≤ (c.toNat : Int) ∧ (c.toNat : Int) ≤ 255 := by
  have := c.toNat_lt
  omega
theorem enc_small (n : Nat) (h : n < 128) : Utf8.encode (n : Int) = ⟨#[UInt8.ofNat n]⟩ := by
  have : ∀ n, n < 128 → Utf8.encode ((n : Nat) : Int) = ⟨#[UInt8.ofNat n]⟩ := by
    intro n hn
    unfold Utf8.encode
    have hv : Utf8.valid (n : Int) = true := by unfold Utf8.valid; simp; omega
    simp [hv, hn]
  exact this n h
theorem conv2 (a b : UInt8) (w2 : World) (g : Nat) (hw : w2.cell? ⟨g, 0, none⟩ = some (.int .u8 (a.toNat : Int))) (hw' : w2.cell? ⟨g, 1, none⟩ = some (.int .u8 (b.toNat : Int))) :
    (convert 53 9 (.slice (some ⟨g, 0, none⟩) 2 2)).run Try.prog w2 = .ok (.string ⟨#[a, b]⟩) w2 := by
  have h := run_convert_bytes_arg (P := Try.prog) w2 53 5 Try.underlying53 Try.underlying5 g 0 2 2 [(a.toNat : Int), (b.toNat : Int)] rfl (fun i hi => by
    match i, hi with
    | 0, _ => simpa using hw
    | 1, _ => simpa using hw') 9 Try.underlying9
  rw [h]
  simp [strOfNums]
theorem digits_at (d : Nat) (h : d < 16) : (⟨#[48, 49, 50, 51, 52, 53, 54, 55, 56, 57, 97, 98, 99, 100, 101, 102]⟩ : ByteArray).data[d]? = some (fig d) := by
  have : ∀ d, d < 16 → (⟨#[48, 49, 50, 51, 52, 53, 54, 55, 56, 57, 97, 98, 99, 100, 101, 102]⟩ : ByteArray).data[d]? = some (fig d) := by decide
  exact this d h
end Tx
set_option maxRecDepth 100000 in
set_option maxHeartbeats 2000000 in
theorem pair_any (c : Nat) (hc : c < 256) (w : World) :
    Calls Try.prog 100 #[.int .u8 (c : Int)] w fun e w' => e = .returned (.string ⟨(Tx.pairL c).toArray⟩) ∧ Below w.heap.size w w' := by
  obtain ⟨a, ha⟩ : ∃ a, c / 16 = a := ⟨_, rfl⟩
  obtain ⟨b, hb⟩ : ∃ b, c % 16 = b := ⟨_, rfl⟩
  have h1 : a < 16 := by omega
  have h2 : b < 16 := by omega
  have q0 : (c : Int) / 16 = (a : Int) := by omega
  have q1 : (c : Int) % 16 = (b : Int) := by omega
  have HP : Hid (Tx.pairL c = [Tx.fig a, Tx.fig b]) := by show _ = _; unfold Tx.pairL; rw [ha, hb]
  have e1 : ∀ d, d < 16 → (h : d < 16) → (⟨#[48, 49, 50, 51, 52, 53, 54, 55, 56, 57, 97, 98, 99, 100, 101, 102]⟩ : ByteArray)[d] = Tx.fig d := fun d hd h => by
    have := Tx.digits_at d hd
    exact (Array.getElem?_eq_some_iff.1 this).2
  have i1 : (a : Int) < 16 := by omega
  have i2 : (b : Int) < 16 := by omega
  have hcv := Tx.conv2 (Tx.fig a) (Tx.fig b) ((w.alloc (.cells #[.int .u8 ((Tx.fig a).toNat : Int), .int .u8 ((Tx.fig b).toNat : Int)] 5)).drew) w.heap.size (by simp [World.cell?_alloc_new]) (by simp [World.cell?_alloc_new])
  clear ha hb hc
  go_enter Try.func100, Try.ntmps100
  go_wp2
  go_region
  all_goals
    go_wp2
    go_ret
    exact ⟨by rw [HP.out]; rfl, ((Below.refl _ _).alloc (Nat.le_refl _) _).drew⟩
namespace Tx
theorem esc_int (c : UInt8) : escL c = if (c.toNat : Int) == 10 then [92, 110] else if (c.toNat : Int) == 9 then [92, 116] else if (c.toNat : Int) == 34 then [92, 34] else if (c.toNat : Int) == 92 then [92, 92]
    else if decide (32 ≤ (c.toNat : Int)) && decide ((c.toNat : Int) < 127) then [c] else 92 :: 120 :: pairL c.toNat := by
  unfold escL
  rw [show (c == 10) = ((c.toNat : Int) == 10) from Lx.beq_nat c 10 (by omega), show (c == 9) = ((c.toNat : Int) == 9) from Lx.beq_nat c 9 (by omega), show (c == 34) = ((c.toNat : Int) == 34) from Lx.beq_nat c 34 (by omega), show (c == 92) = ((c.toNat : Int) == 92) from Lx.beq_nat c 92 (by omega)]
  rw [show decide (32 ≤ c.toNat) = decide (32 ≤ (c.toNat : Int)) from decide_eq_decide.2 (by omega), show decide (c.toNat < 127) = decide ((c.toNat : Int) < 127) from decide_eq_decide.2 (by omega)]
theorem enc_byte (c : UInt8) (h : (c.toNat : Int) < 128) : Utf8.encode (c.toNat : Int) = ⟨#[c]⟩ := by
  rw [enc_small c.toNat (by omega)]
  simp
theorem cat (x y : List UInt8) (hx : x.length ≤ 1000000) (hy : y.length ≤ 1000000) (w : World) : (Op.stringOp .add ⟨x.toArray⟩ ⟨y.toArray⟩).run Try.prog w = .ok (.string ⟨(x ++ y).toArray⟩) w :=
  run_string_add_lists w x y (by omega) (by omega)
end Tx
set_option maxRecDepth 100000 in
set_option maxHeartbeats 2000000 in
theorem escape_any (c : UInt8) (w : World) :
    Calls Try.prog 81 #[.int .u8 (c.toNat : Int)] w fun e w' => e = .returned (.string ⟨(Tx.escL c).toArray⟩) ∧ Below w.heap.size w w' := by
  have HE := Lib.hid (Tx.esc_int c)
  have hb := Tx.b8 c
  obtain ⟨n, hn⟩ : ∃ n : Int, (c.toNat : Int) = n := ⟨_, rfl⟩
  have HB := Lib.hid (Tx.enc_byte c)
  have HN := Lib.hid hn
  rw [hn] at hb ⊢
  clear hn
  cases f1 : (n == 10)
  case true =>
    have HR : Hid (Tx.escL c = [92, 110]) := by show _ = _; rw [HE.out, HN.out, f1]; rfl
    go_enter Try.func81, Try.ntmps81
    go_wp2
    go_ret
    exact ⟨by rw [HR.out]; rfl, Below.refl _ _⟩
  cases f2 : (n == 9)
  case true =>
    have HR : Hid (Tx.escL c = [92, 116]) := by show _ = _; rw [HE.out, HN.out, f1, f2]; rfl
    go_enter Try.func81, Try.ntmps81
    go_wp2
    go_ret
    exact ⟨by rw [HR.out]; rfl, Below.refl _ _⟩
  cases f3 : (n == 34)
  case true =>
    have HR : Hid (Tx.escL c = [92, 34]) := by show _ = _; rw [HE.out, HN.out, f1, f2, f3]; rfl
    have hX : Utf8.encode n = ⟨#[34]⟩ := by rw [show n = ((34 : Nat) : Int) from by simpa using f3]; exact Tx.enc_small 34 (by omega)
    have hC := Tx.cat [92] [34] (by simp) (by simp)
    go_enter Try.func81, Try.ntmps81
    go_wp2
    go_ret
    exact ⟨by rw [HR.out]; rfl, Below.refl _ _⟩
  cases f4 : (n == 92)
  case true =>
    have HR : Hid (Tx.escL c = [92, 92]) := by show _ = _; rw [HE.out, HN.out, f1, f2, f3, f4]; rfl
    have hX : Utf8.encode n = ⟨#[92]⟩ := by rw [show n = ((92 : Nat) : Int) from by simpa using f4]; exact Tx.enc_small 92 (by omega)
    have hC := Tx.cat [92] [92] (by simp) (by simp)
    go_enter Try.func81, Try.ntmps81
    go_wp2
    go_ret
    exact ⟨by rw [HR.out]; rfl, Below.refl _ _⟩
  by_cases h5 : 32 ≤ n ∧ n < 127
  · obtain ⟨g1, g2⟩ := h5
    have HR : Hid (Tx.escL c = [c]) := by show _ = _; rw [HE.out, HN.out, f1, f2, f3, f4]; simp [g1, g2]
    have hX : Utf8.encode n = ⟨#[c]⟩ := by rw [← HN.out]; exact HB.out (by rw [HN.out]; omega)
    go_enter Try.func81, Try.ntmps81
    go_wp2
    go_ret
    exact ⟨by rw [HR.out]; rfl, Below.refl _ _⟩
  · have g1 : (decide (32 ≤ n) && decide (n < 127)) = false := by simp; omega
    have HR : Hid (Tx.escL c = 92 :: 120 :: Tx.pairL c.toNat) := by show _ = _; rw [HE.out, HN.out, f1, f2, f3, f4, g1]; rfl
    have hp := pair_any c.toNat (by have := c.toNat_lt; omega) w
    rw [HN.out] at hp
    have HC := Tx.cat [92, 120] (Tx.pairL c.toNat) (by simp) (by simp [Tx.pairL])
    go_enter Try.func81, Try.ntmps81
    go_wp2_with (go_at_call 100; refine hp.mono ?_; rintro e w1 ⟨rfl, hb1⟩)
    all_goals
      go_ret
      exact ⟨by rw [HR.out]; rfl, hb1⟩
set_option maxRecDepth 100000 in
set_option maxHeartbeats 2000000 in
theorem letter_any (n : Nat) (hn : n < 128) (w : World) :
    Calls Try.prog 80 #[.int .i64 (n : Int)] w fun e w' => e = .returned (.string ⟨(Tx.letL n).toArray⟩) ∧ Below w.heap.size w w' := by
  have he : Tx.letL n = if n = 32 then [115, 112, 97, 99, 101] else if n = 10 then [110, 101, 119, 108, 105, 110, 101] else if n = 9 then [116, 97, 98] else if n = 0 then [110, 117, 108]
    else if 32 < n ∧ n < 127 then [UInt8.ofNat n] else 120 :: Tx.pairL n := rfl
  have HE := Lib.hid he
  clear he
  by_cases h1 : n = 32
  · have HR : Hid (Tx.letL n = [115, 112, 97, 99, 101]) := by show _ = _; rw [HE.out, if_pos h1]
    have i1 : ((n : Int) == 32) = true := by rw [beq_iff_eq]; omega
    clear h1
    go_enter Try.func80, Try.ntmps80
    go_wp2
    go_ret
    exact ⟨by rw [HR.out]; rfl, Below.refl _ _⟩
  have i1 : ((n : Int) == 32) = false := by rw [beq_eq_false_iff_ne]; omega
  by_cases h2 : n = 10
  · have HR : Hid (Tx.letL n = [110, 101, 119, 108, 105, 110, 101]) := by show _ = _; rw [HE.out, if_neg h1, if_pos h2]
    have i2 : ((n : Int) == 10) = true := by rw [beq_iff_eq]; omega
    clear h1 h2
    go_enter Try.func80, Try.ntmps80
    go_wp2
    go_ret
    exact ⟨by rw [HR.out]; rfl, Below.refl _ _⟩
  have i2 : ((n : Int) == 10) = false := by rw [beq_eq_false_iff_ne]; omega
  by_cases h3 : n = 9
  · have HR : Hid (Tx.letL n = [116, 97, 98]) := by show _ = _; rw [HE.out, if_neg h1, if_neg h2, if_pos h3]
    have i3 : ((n : Int) == 9) = true := by rw [beq_iff_eq]; omega
    clear h1 h2 h3
    go_enter Try.func80, Try.ntmps80
    go_wp2
    go_ret
    exact ⟨by rw [HR.out]; rfl, Below.refl _ _⟩
  have i3 : ((n : Int) == 9) = false := by rw [beq_eq_false_iff_ne]; omega
  by_cases h4 : n = 0
  · have HR : Hid (Tx.letL n = [110, 117, 108]) := by show _ = _; rw [HE.out, if_neg h1, if_neg h2, if_neg h3, if_pos h4]
    have i4 : ((n : Int) == 0) = true := by rw [beq_iff_eq]; omega
    clear h1 h2 h3 h4
    go_enter Try.func80, Try.ntmps80
    go_wp2
    go_ret
    exact ⟨by rw [HR.out]; rfl, Below.refl _ _⟩
  have i4 : ((n : Int) == 0) = false := by rw [beq_eq_false_iff_ne]; omega
  by_cases h5 : 32 < n ∧ n < 127
  · have HR : Hid (Tx.letL n = [UInt8.ofNat n]) := by show _ = _; rw [HE.out, if_neg h1, if_neg h2, if_neg h3, if_neg h4, if_pos h5]
    have g1 : (32 : Int) < (n : Int) := by omega
    have g2 : (n : Int) < 127 := by omega
    have hX := Tx.enc_small n hn
    clear h1 h2 h3 h4 h5
    go_enter Try.func80, Try.ntmps80
    go_wp2
    go_ret
    exact ⟨by rw [HR.out]; rfl, Below.refl _ _⟩
  · have HR : Hid (Tx.letL n = 120 :: Tx.pairL n) := by show _ = _; rw [HE.out, if_neg h1, if_neg h2, if_neg h3, if_neg h4, if_neg h5]
    have HG := Lib.hid h5
    have hp := pair_any n (by omega) w
    have HC := Tx.cat [120] (Tx.pairL n) (by simp) (by simp [Tx.pairL])
    have hm : (n : Int) % 256 = (n : Int) := by omega
    clear h1 h2 h3 h4 h5
    go_enter Try.func80, Try.ntmps80
    go_wp2_with (go_at_call 100; refine hp.mono ?_; rintro e w1 ⟨rfl, hb1⟩)
    all_goals
      first
      | (exfalso; have := HG.out; omega)
      | (go_ret
         exact ⟨by rw [HR.out]; rfl, hb1⟩)
end Go.Proofs.Ytcopdfihaheplaa
