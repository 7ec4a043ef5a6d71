/-
  The walks of Sum and Prod of both packages.
-/
import Derived.Test.YtdiadoahcaoinaaFixText
import Derived.Test.YtdiadoahcaoinaaFixRef
namespace Go.Proofs.Ytdiadoahcaoinaa
open Go.RowKit
namespace Fx
theorem foldV_step (g : Int → Int → Int × Int) (v : Int) (zs : List Int) (k : Nat) (h : k < zs.length) :
    foldV g v (zs.drop k) = if (g v (zs.getD k 0)).2 = 0 then foldV g (g v (zs.getD k 0)).1 (zs.drop (k + 1)) else (0, (g v (zs.getD k 0)).2) := by
  rw [List.drop_eq_getElem_cons h]
  have e : zs.getD k 0 = zs[k] := by simp [List.getD, List.getElem?_eq_getElem h]
  rw [e]
  rfl
theorem foldV_end (g : Int → Int → Int × Int) (v : Int) (zs : List Int) (k : Nat) (h : zs.length ≤ k) : foldV g v (zs.drop k) = (v, 0) := by
  rw [List.drop_eq_nil_of_le h]; rfl
end Fx

theorem add_ok (a b c : Int) (w : World) (h : Fx.add a b = (c, 0)) :
    Calls Try.prog 17 #[.int .i64 a, .int .i64 b] w fun e w' => e = .returned (.tuple #[.int .i64 c, .int .i64 0]) ∧ Below w.heap.size w w' := by
  have := Add_any a b w
  rw [h] at this
  exact this
theorem radd_ok (a b c : Int) (w : World) (h : Fx.add a b = (c, 0)) :
    Calls Try.prog 18 #[.int .i64 a, .int .i64 b] w fun e w' => e = .returned (.tuple #[.int .i64 c, .int .i64 0]) ∧ Below w.heap.size w w' := by
  have := rAdd_any a b w
  rw [h] at this
  exact this
theorem add_bad (a b k : Int) (w : World) (h : Fx.add a b = (0, k)) :
    Calls Try.prog 17 #[.int .i64 a, .int .i64 b] w fun e w' => e = .returned (.tuple #[.int .i64 0, .int .i64 k]) ∧ Below w.heap.size w w' := by
  have := Add_any a b w
  rw [h] at this
  exact this
theorem radd_bad (a b k : Int) (w : World) (h : Fx.add a b = (0, k)) :
    Calls Try.prog 18 #[.int .i64 a, .int .i64 b] w fun e w' => e = .returned (.tuple #[.int .i64 0, .int .i64 k]) ∧ Below w.heap.size w w' := by
  have := rAdd_any a b w
  rw [h] at this
  exact this
theorem Fx.add_cases (a b : Int) : (∃ c, Fx.add a b = (c, 0)) ∨ ∃ k, Fx.add a b = (0, k) ∧ (k != 0) = true := by
  unfold Fx.add Fx.two Fx.fitsV
  split
  · dsimp only
    split
    · exact .inl ⟨_, rfl⟩
    · exact .inr ⟨10, rfl, rfl⟩
  · exact .inr ⟨1, rfl, rfl⟩
theorem foldSum_any (b off len cap : Nat) (zs : List Int) (w : World) (hlen : zs.length = len) (hm : len ≤ 9223372036854775807) (hc : ∀ i, i < len → w.cell? ⟨b, off + i, none⟩ = some (.int .i64 (zs.getD i 0))) (hb : b < w.heap.size) :
    Calls Try.prog 55 #[.int .i64 0, .func (.func 17) #[] #[], .slice (some ⟨b, off, none⟩) len cap] w fun e w' => e = .returned (Fx.R (Fx.foldV Fx.add 0 zs)) ∧ Below w.heap.size w w' := by
  have HC := Lib.hid hc
  have HL := Lib.hid hlen
  clear hc hlen
  go_enter Try.func55, Try.ntmps55
  go_wp2
  go_loopw [0, 9, 10, 11, 14] (fun x _ _ _ i wr => ∃ (k : Nat) (v : Int), k ≤ len ∧ i = .int .i64 k ∧ x = .int .i64 v ∧ Hid (Fx.foldV Fx.add 0 zs = Fx.foldV Fx.add v (zs.drop k)) ∧ Below w.heap.size w wr) (fun _ _ _ _ i _ => len - (intOf i).toNat)
  case atStart => exact ⟨0, 0, Nat.zero_le _, rfl, rfl, rfl, Below.refl _ _⟩
  case round =>
    obtain ⟨k, v, hk, rfl, rfl, hv, hbl⟩ := hrel
    by_cases hlt : k < len
    · have hcell := (hbl.cell (p := ⟨b, off + k, none⟩) hb).trans (HC.out k hlt)
      have hs := Fx.foldV_step Fx.add v zs k (by rw [HL.out]; exact hlt)
      obtain ⟨z, hz⟩ : ∃ z, z = zs.getD k 0 := ⟨_, rfl⟩
      rw [← hz] at hcell hs
      have HS := Lib.hid (hv.out.trans hs)
      clear hs hz
      rcases Fx.add_cases v z with ⟨c, hc⟩ | ⟨e, hc, he⟩
      · have H1 := fun w => add_ok v z c w hc
        have HS2 : Hid (Fx.foldV Fx.add 0 zs = Fx.foldV Fx.add c (zs.drop (k + 1))) := HS.out.trans (by rw [hc]; exact if_pos rfl)
        have HH1 := Lib.hid H1
        clear H1 hc
        go_wp2_with (go_at_call 17; refine (HH1.out _).mono ?_; rintro e w' ⟨rfl, hb2⟩)
        go_roundw
        case rel => exact ⟨k + 1, c, by omega, by go_num, rfl, HS2.out, bchain hbl hb2⟩
        case measure => simp [intOf]; omega
      · have H1 := fun w => add_bad v z e w hc
        have he' : ¬ e = 0 := by simpa using he
        have HS2 : Hid (Fx.foldV Fx.add 0 zs = (0, e)) := HS.out.trans (by rw [hc]; exact if_neg he')
        have HH1 := Lib.hid H1
        clear H1 hc he'
        go_wp2_with (go_at_call 17; refine (HH1.out _).mono ?_; rintro e w' ⟨rfl, hb2⟩)
        go_ret2
        exact ⟨Fx.R_mk HS2.out, bchain hbl hb2⟩
    · have hs := Lib.hid (hv.out.trans (Fx.foldV_end Fx.add v zs k (by rw [HL.out]; omega)))
      go_wp2
      go_ret2
      exact ⟨Fx.R_mk hs.out, hbl⟩
theorem Sum_any (b off len cap : Nat) (zs : List Int) (w : World) (hlen : zs.length = len) (hm : len ≤ 9223372036854775807) (hc : ∀ i, i < len → w.cell? ⟨b, off + i, none⟩ = some (.int .i64 (zs.getD i 0))) (hb : b < w.heap.size) :
    Calls Try.prog 36 #[.slice (some ⟨b, off, none⟩) len cap] w fun e w' => e = .returned (Fx.R (Fx.foldV Fx.add 0 zs)) ∧ Below w.heap.size w w' := by
  have H := Lib.hid (foldSum_any b off len cap zs w hlen hm hc hb)
  clear hlen hc
  go_enter Try.func36, Try.ntmps36
  go_wp2_with fail
  refine H.out.mono ?_; rintro e w1 ⟨rfl, hb1⟩; unfold Fx.R
  go_wp2
  go_ret2
  exact ⟨rfl, hb1⟩
theorem Sum_nil (a : Option Addr) (cap : Nat) (w : World) :
    Calls Try.prog 36 #[.slice a 0 cap] w fun e w' => e = .returned (Fx.R (Fx.foldV Fx.add 0 [])) ∧ Below w.heap.size w w' := by
  have H : Calls Try.prog 55 #[.int .i64 0, .func (.func 17) #[] #[], .slice a 0 cap] w fun e w' => e = .returned (Fx.R (Fx.foldV Fx.add 0 [])) ∧ Below w.heap.size w w' := by
   go_enter Try.func55, Try.ntmps55
   go_wp2
   go_loop [0, 9, 10, 11, 14] (fun x _ _ _ i => i = .int .i64 0 ∧ x = .int .i64 0) (fun _ _ _ _ _ => 0)
   case atStart => exact ⟨rfl, rfl⟩
   case round =>
    obtain ⟨rfl, rfl⟩ := hrel
    go_wp2
    go_ret2
    exact ⟨rfl, Below.refl _ _⟩
  have HH := Lib.hid H
  clear H
  go_enter Try.func36, Try.ntmps36
  go_wp2_with fail
  refine HH.out.mono ?_; rintro e w1 ⟨rfl, hb1⟩; unfold Fx.R
  go_wp2
  go_ret2
  exact ⟨rfl, hb1⟩
theorem rSum_nil (a : Option Addr) (cap : Nat) (w : World) :
    Calls Try.prog 37 #[.slice a 0 cap] w fun e w' => e = .returned (Fx.R (Fx.foldV Fx.add 0 [])) ∧ Below w.heap.size w w' := by
  go_enter Try.func37, Try.ntmps37
  go_wp2
  go_loop [4, 5, 6, 7] (fun x i _ _ => i = .int .i64 0 ∧ x = .int .i64 0) (fun _ _ _ _ => 0)
  case atStart => exact ⟨rfl, rfl⟩
  case round =>
    obtain ⟨rfl, rfl⟩ := hrel
    go_wp2
    go_ret2
    exact ⟨rfl, Below.refl _ _⟩
theorem rSum_any (b off len cap : Nat) (zs : List Int) (w : World) (hlen : zs.length = len) (hm : len ≤ 9223372036854775807) (hc : ∀ i, i < len → w.cell? ⟨b, off + i, none⟩ = some (.int .i64 (zs.getD i 0))) (hb : b < w.heap.size) :
    Calls Try.prog 37 #[.slice (some ⟨b, off, none⟩) len cap] w fun e w' => e = .returned (Fx.R (Fx.foldV Fx.add 0 zs)) ∧ Below w.heap.size w w' := by
  have HC := Lib.hid hc
  have HL := Lib.hid hlen
  clear hc hlen
  go_enter Try.func37, Try.ntmps37
  go_wp2
  go_loopw [4, 5, 6, 7] (fun x i _ _ wr => ∃ (k : Nat) (v : Int), k ≤ len ∧ i = .int .i64 k ∧ x = .int .i64 v ∧ Hid (Fx.foldV Fx.add 0 zs = Fx.foldV Fx.add v (zs.drop k)) ∧ Below w.heap.size w wr) (fun _ i _ _ _ => len - (intOf i).toNat)
  case atStart => exact ⟨0, 0, Nat.zero_le _, rfl, rfl, rfl, Below.refl _ _⟩
  case round =>
    obtain ⟨k, v, hk, rfl, rfl, hv, hbl⟩ := hrel
    by_cases hlt : k < len
    · have hcell := (hbl.cell (p := ⟨b, off + k, none⟩) hb).trans (HC.out k hlt)
      have hs := Fx.foldV_step Fx.add v zs k (by rw [HL.out]; exact hlt)
      obtain ⟨z, hz⟩ : ∃ z, z = zs.getD k 0 := ⟨_, rfl⟩
      rw [← hz] at hcell hs
      have HS := Lib.hid (hv.out.trans hs)
      clear hs hz
      rcases Fx.add_cases v z with ⟨c, hc⟩ | ⟨e, hc, he⟩
      · have H1 := fun w => radd_ok v z c w hc
        have HS2 : Hid (Fx.foldV Fx.add 0 zs = Fx.foldV Fx.add c (zs.drop (k + 1))) := HS.out.trans (by rw [hc]; exact if_pos rfl)
        have HH1 := Lib.hid H1
        clear H1 hc
        go_wp2_with (go_at_call 18; refine (HH1.out _).mono ?_; rintro e w' ⟨rfl, hb2⟩)
        go_roundw
        case rel => exact ⟨k + 1, c, by omega, by go_num, rfl, HS2.out, bchain hbl hb2⟩
        case measure => simp [intOf]; omega
      · have H1 := fun w => radd_bad v z e w hc
        have he' : ¬ e = 0 := by simpa using he
        have HS2 : Hid (Fx.foldV Fx.add 0 zs = (0, e)) := HS.out.trans (by rw [hc]; exact if_neg he')
        have HH1 := Lib.hid H1
        clear H1 hc he'
        go_wp2_with (go_at_call 18; refine (HH1.out _).mono ?_; rintro e w' ⟨rfl, hb2⟩)
        go_ret2
        exact ⟨Fx.R_mk HS2.out, bchain hbl hb2⟩
    · have hs := Lib.hid (hv.out.trans (Fx.foldV_end Fx.add v zs k (by rw [HL.out]; omega)))
      go_wp2
      go_ret2
      exact ⟨Fx.R_mk hs.out, hbl⟩

theorem mul_ok (a b c : Int) (w : World) (h : Fx.mul a b = (c, 0)) :
    Calls Try.prog 35 #[.int .i64 a, .int .i64 b] w fun e w' => e = .returned (.tuple #[.int .i64 c, .int .i64 0]) ∧ Below w.heap.size w w' := by
  have := Mul_any a b w
  rw [h] at this
  exact this
theorem rmul_ok (a b c : Int) (w : World) (h : Fx.mul a b = (c, 0)) :
    Calls Try.prog 40 #[.int .i64 a, .int .i64 b] w fun e w' => e = .returned (.tuple #[.int .i64 c, .int .i64 0]) ∧ Below w.heap.size w w' := by
  have := rMul_any a b w
  rw [h] at this
  exact this
theorem mul_bad (a b k : Int) (w : World) (h : Fx.mul a b = (0, k)) :
    Calls Try.prog 35 #[.int .i64 a, .int .i64 b] w fun e w' => e = .returned (.tuple #[.int .i64 0, .int .i64 k]) ∧ Below w.heap.size w w' := by
  have := Mul_any a b w
  rw [h] at this
  exact this
theorem rmul_bad (a b k : Int) (w : World) (h : Fx.mul a b = (0, k)) :
    Calls Try.prog 40 #[.int .i64 a, .int .i64 b] w fun e w' => e = .returned (.tuple #[.int .i64 0, .int .i64 k]) ∧ Below w.heap.size w w' := by
  have := rMul_any a b w
  rw [h] at this
  exact this
theorem Fx.mul_cases (a b : Int) : (∃ c, Fx.mul a b = (c, 0)) ∨ ∃ k, Fx.mul a b = (0, k) ∧ (k != 0) = true := by
  unfold Fx.mul Fx.two Fx.fitsV
  split
  · dsimp only
    split
    · exact .inl ⟨_, rfl⟩
    · exact .inr ⟨10, rfl, rfl⟩
  · exact .inr ⟨1, rfl, rfl⟩
theorem foldProd_any (b off len cap : Nat) (zs : List Int) (w : World) (hlen : zs.length = len) (hm : len ≤ 9223372036854775807) (hc : ∀ i, i < len → w.cell? ⟨b, off + i, none⟩ = some (.int .i64 (zs.getD i 0))) (hb : b < w.heap.size) :
    Calls Try.prog 55 #[.int .i64 1, .func (.func 35) #[] #[], .slice (some ⟨b, off, none⟩) len cap] w fun e w' => e = .returned (Fx.R (Fx.foldV Fx.mul 1 zs)) ∧ Below w.heap.size w w' := by
  have HC := Lib.hid hc
  have HL := Lib.hid hlen
  clear hc hlen
  go_enter Try.func55, Try.ntmps55
  go_wp2
  go_loopw [0, 9, 10, 11, 14] (fun x _ _ _ i wr => ∃ (k : Nat) (v : Int), k ≤ len ∧ i = .int .i64 k ∧ x = .int .i64 v ∧ Hid (Fx.foldV Fx.mul 1 zs = Fx.foldV Fx.mul v (zs.drop k)) ∧ Below w.heap.size w wr) (fun _ _ _ _ i _ => len - (intOf i).toNat)
  case atStart => exact ⟨0, 1, Nat.zero_le _, rfl, rfl, rfl, Below.refl _ _⟩
  case round =>
    obtain ⟨k, v, hk, rfl, rfl, hv, hbl⟩ := hrel
    by_cases hlt : k < len
    · have hcell := (hbl.cell (p := ⟨b, off + k, none⟩) hb).trans (HC.out k hlt)
      have hs := Fx.foldV_step Fx.mul v zs k (by rw [HL.out]; exact hlt)
      obtain ⟨z, hz⟩ : ∃ z, z = zs.getD k 0 := ⟨_, rfl⟩
      rw [← hz] at hcell hs
      have HS := Lib.hid (hv.out.trans hs)
      clear hs hz
      rcases Fx.mul_cases v z with ⟨c, hc⟩ | ⟨e, hc, he⟩
      · have H1 := fun w => mul_ok v z c w hc
        have HS2 : Hid (Fx.foldV Fx.mul 1 zs = Fx.foldV Fx.mul c (zs.drop (k + 1))) := HS.out.trans (by rw [hc]; exact if_pos rfl)
        have HH1 := Lib.hid H1
        clear H1 hc
        go_wp2_with (go_at_call 35; refine (HH1.out _).mono ?_; rintro e w' ⟨rfl, hb2⟩)
        go_roundw
        case rel => exact ⟨k + 1, c, by omega, by go_num, rfl, HS2.out, bchain hbl hb2⟩
        case measure => simp [intOf]; omega
      · have H1 := fun w => mul_bad v z e w hc
        have he' : ¬ e = 0 := by simpa using he
        have HS2 : Hid (Fx.foldV Fx.mul 1 zs = (0, e)) := HS.out.trans (by rw [hc]; exact if_neg he')
        have HH1 := Lib.hid H1
        clear H1 hc he'
        go_wp2_with (go_at_call 35; refine (HH1.out _).mono ?_; rintro e w' ⟨rfl, hb2⟩)
        go_ret2
        exact ⟨Fx.R_mk HS2.out, bchain hbl hb2⟩
    · have hs := Lib.hid (hv.out.trans (Fx.foldV_end Fx.mul v zs k (by rw [HL.out]; omega)))
      go_wp2
      go_ret2
      exact ⟨Fx.R_mk hs.out, hbl⟩
theorem Prod_any (b off len cap : Nat) (zs : List Int) (w : World) (hlen : zs.length = len) (hm : len ≤ 9223372036854775807) (hc : ∀ i, i < len → w.cell? ⟨b, off + i, none⟩ = some (.int .i64 (zs.getD i 0))) (hb : b < w.heap.size) :
    Calls Try.prog 38 #[.slice (some ⟨b, off, none⟩) len cap] w fun e w' => e = .returned (Fx.R (Fx.foldV Fx.mul 1 zs)) ∧ Below w.heap.size w w' := by
  have H := Lib.hid (foldProd_any b off len cap zs w hlen hm hc hb)
  clear hlen hc
  go_enter Try.func38, Try.ntmps38
  go_wp2_with fail
  refine H.out.mono ?_; rintro e w1 ⟨rfl, hb1⟩; unfold Fx.R
  go_wp2
  go_ret2
  exact ⟨rfl, hb1⟩
theorem Prod_nil (a : Option Addr) (cap : Nat) (w : World) :
    Calls Try.prog 38 #[.slice a 0 cap] w fun e w' => e = .returned (Fx.R (Fx.foldV Fx.mul 1 [])) ∧ Below w.heap.size w w' := by
  have H : Calls Try.prog 55 #[.int .i64 1, .func (.func 35) #[] #[], .slice a 0 cap] w fun e w' => e = .returned (Fx.R (Fx.foldV Fx.mul 1 [])) ∧ Below w.heap.size w w' := by
   go_enter Try.func55, Try.ntmps55
   go_wp2
   go_loop [0, 9, 10, 11, 14] (fun x _ _ _ i => i = .int .i64 0 ∧ x = .int .i64 1) (fun _ _ _ _ _ => 0)
   case atStart => exact ⟨rfl, rfl⟩
   case round =>
    obtain ⟨rfl, rfl⟩ := hrel
    go_wp2
    go_ret2
    exact ⟨rfl, Below.refl _ _⟩
  have HH := Lib.hid H
  clear H
  go_enter Try.func38, Try.ntmps38
  go_wp2_with fail
  refine HH.out.mono ?_; rintro e w1 ⟨rfl, hb1⟩; unfold Fx.R
  go_wp2
  go_ret2
  exact ⟨rfl, hb1⟩
theorem rProd_nil (a : Option Addr) (cap : Nat) (w : World) :
    Calls Try.prog 39 #[.slice a 0 cap] w fun e w' => e = .returned (Fx.R (Fx.foldV Fx.mul 1 [])) ∧ Below w.heap.size w w' := by
  go_enter Try.func39, Try.ntmps39
  go_wp2
  go_loop [4, 5, 6, 7] (fun x i _ _ => i = .int .i64 0 ∧ x = .int .i64 1) (fun _ _ _ _ => 0)
  case atStart => exact ⟨rfl, rfl⟩
  case round =>
    obtain ⟨rfl, rfl⟩ := hrel
    go_wp2
    go_ret2
    exact ⟨rfl, Below.refl _ _⟩
theorem rProd_any (b off len cap : Nat) (zs : List Int) (w : World) (hlen : zs.length = len) (hm : len ≤ 9223372036854775807) (hc : ∀ i, i < len → w.cell? ⟨b, off + i, none⟩ = some (.int .i64 (zs.getD i 0))) (hb : b < w.heap.size) :
    Calls Try.prog 39 #[.slice (some ⟨b, off, none⟩) len cap] w fun e w' => e = .returned (Fx.R (Fx.foldV Fx.mul 1 zs)) ∧ Below w.heap.size w w' := by
  have HC := Lib.hid hc
  have HL := Lib.hid hlen
  clear hc hlen
  go_enter Try.func39, Try.ntmps39
  go_wp2
  go_loopw [4, 5, 6, 7] (fun x i _ _ wr => ∃ (k : Nat) (v : Int), k ≤ len ∧ i = .int .i64 k ∧ x = .int .i64 v ∧ Hid (Fx.foldV Fx.mul 1 zs = Fx.foldV Fx.mul v (zs.drop k)) ∧ Below w.heap.size w wr) (fun _ i _ _ _ => len - (intOf i).toNat)
  case atStart => exact ⟨0, 1, Nat.zero_le _, rfl, rfl, rfl, Below.refl _ _⟩
  case round =>
    obtain ⟨k, v, hk, rfl, rfl, hv, hbl⟩ := hrel
    by_cases hlt : k < len
    · have hcell := (hbl.cell (p := ⟨b, off + k, none⟩) hb).trans (HC.out k hlt)
      have hs := Fx.foldV_step Fx.mul v zs k (by rw [HL.out]; exact hlt)
      obtain ⟨z, hz⟩ : ∃ z, z = zs.getD k 0 := ⟨_, rfl⟩
      rw [← hz] at hcell hs
      have HS := Lib.hid (hv.out.trans hs)
      clear hs hz
      rcases Fx.mul_cases v z with ⟨c, hc⟩ | ⟨e, hc, he⟩
      · have H1 := fun w => rmul_ok v z c w hc
        have HS2 : Hid (Fx.foldV Fx.mul 1 zs = Fx.foldV Fx.mul c (zs.drop (k + 1))) := HS.out.trans (by rw [hc]; exact if_pos rfl)
        have HH1 := Lib.hid H1
        clear H1 hc
        go_wp2_with (go_at_call 40; refine (HH1.out _).mono ?_; rintro e w' ⟨rfl, hb2⟩)
        go_roundw
        case rel => exact ⟨k + 1, c, by omega, by go_num, rfl, HS2.out, bchain hbl hb2⟩
        case measure => simp [intOf]; omega
      · have H1 := fun w => rmul_bad v z e w hc
        have he' : ¬ e = 0 := by simpa using he
        have HS2 : Hid (Fx.foldV Fx.mul 1 zs = (0, e)) := HS.out.trans (by rw [hc]; exact if_neg he')
        have HH1 := Lib.hid H1
        clear H1 hc he'
        go_wp2_with (go_at_call 40; refine (HH1.out _).mono ?_; rintro e w' ⟨rfl, hb2⟩)
        go_ret2
        exact ⟨Fx.R_mk HS2.out, bchain hbl hb2⟩
    · have hs := Lib.hid (hv.out.trans (Fx.foldV_end Fx.mul v zs k (by rw [HL.out]; omega)))
      go_wp2
      go_ret2
      exact ⟨Fx.R_mk hs.out, hbl⟩

end Go.Proofs.Ytdiadoahcaoinaa
