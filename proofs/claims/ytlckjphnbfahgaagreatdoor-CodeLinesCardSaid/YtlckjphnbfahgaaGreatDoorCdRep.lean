/-
  slices.Repeat of one number.
-/
import Derived.Test.YtlckjphnbfahgaaGreatDoorTbKeep
import Derived.IntWalk
import Derived.Lib.Mul64
import Derived.Laws.Bits64b
import Derived.Laws.CopyOwn
import Derived.Deep.Cut
import Derived.Deep.RegionLaw
namespace Go.Proofs.YtlckjphnbfahgaaGreatDoor
open Go.RowKit
namespace Cd
theorem maskN (a : Nat) (ha : a < 18446744073709551616) : bits .and .u64 (a : Int) 4294967295 = ((a % 4294967296 : Nat) : Int) := by
  have h := bits_and_u64_nat a 4294967295 ha (by omega)
  have e : a &&& 4294967295 = a % 4294967296 := Nat.and_two_pow_sub_one_eq_mod a 32
  rw [e] at h
  exact h
theorem divN (a : Nat) : (a : Int) / 4294967296 = ((a / 4294967296 : Nat) : Int) := by omega
theorem mulN (a b : Nat) : (a : Int) * (b : Int) = ((a * b : Nat) : Int) := (Int.natCast_mul a b).symm
theorem addN (a b : Nat) : (a : Int) + (b : Int) = ((a + b : Nat) : Int) := (Int.natCast_add a b).symm
theorem wrapN (a : Nat) (ha : a < 18446744073709551616) : IntKind.u64.wrap (a : Int) = (a : Int) := by rw [IntKind.wrap_u64]; omega
theorem wrapM (a : Nat) : IntKind.u64.wrap (a : Int) = ((a % 18446744073709551616 : Nat) : Int) := by rw [IntKind.wrap_u64]; omega
end Cd
set_option maxHeartbeats 1000000 in
theorem cdMul64 (x y : Nat) (hx : x < 18446744073709551616) (hy : y < 18446744073709551616) (w : World) :
    Calls Tryz.prog 83 #[.int .u64 x, .int .u64 y] w fun e w' => e = .returned (.tuple #[.int .u64 ((x * y / 18446744073709551616 : Nat) : Int), .int .u64 ((x * y % 18446744073709551616 : Nat) : Int)]) ∧ w = w' := by
  obtain ⟨bd, bt, bw, hhi⟩ := Lib.mul64_hi x y hx hy
  have ba := Lib.half_mul_le (a := x / 4294967296) (b := y / 4294967296) (by omega) (by omega)
  have bb := Lib.half_mul_le (a := x / 4294967296) (b := y % 4294967296) (by omega) (by omega)
  have bc := Lib.half_mul_le (a := x % 4294967296) (b := y / 4294967296) (by omega) (by omega)
  have ba' : x / 4294967296 * (y / 4294967296) < 18446744073709551616 := by omega
  have bb' : x / 4294967296 * (y % 4294967296) < 18446744073709551616 := by omega
  have bc' : x % 4294967296 * (y / 4294967296) < 18446744073709551616 := by omega
  have bh1 : x / 4294967296 * (y / 4294967296) + (x / 4294967296 * (y % 4294967296) + x % 4294967296 * (y % 4294967296) / 4294967296) / 4294967296 < 18446744073709551616 := by omega
  have bh : x / 4294967296 * (y / 4294967296) + (x / 4294967296 * (y % 4294967296) + x % 4294967296 * (y % 4294967296) / 4294967296) / 4294967296 + ((x / 4294967296 * (y % 4294967296) + x % 4294967296 * (y % 4294967296) / 4294967296) % 4294967296 + x % 4294967296 * (y / 4294967296)) / 4294967296 < 18446744073709551616 := by omega
  go_enter Tryz.func83, Tryz.ntmps83
  go_wp2
  simp only [Cd.maskN x hx, Cd.maskN y hy, Cd.divN, Cd.mulN, Cd.addN, Cd.wrapN _ bd, Cd.wrapN _ bb', Cd.wrapN _ bt, Cd.maskN _ bt, Cd.wrapN _ bc', Cd.wrapN _ bw, Cd.wrapN _ ba', Cd.wrapN _ bh1, Cd.wrapN _ bh, Cd.wrapM]
  rw [hhi]
  go_ret2
  exact ⟨rfl, rfl⟩
set_option maxRecDepth 100000 in
set_option maxHeartbeats 1000000 in
theorem cdBitsMul (x y : Nat) (hx : x < 18446744073709551616) (hy : y < 18446744073709551616) (w : World) :
    Calls Tryz.prog 65 #[.int .u64 x, .int .u64 y] w fun e w' => e = .returned (.tuple #[.int .u64 ((x * y / 18446744073709551616 : Nat) : Int), .int .u64 ((x * y % 18446744073709551616 : Nat) : Int)]) ∧ w = w' := by
  have hm := cdMul64 x y hx hy w
  obtain ⟨H, hH⟩ : ∃ H : Int, ((x * y / 18446744073709551616 : Nat) : Int) = H := ⟨_, rfl⟩
  obtain ⟨L, hL⟩ : ∃ L : Int, ((x * y % 18446744073709551616 : Nat) : Int) = L := ⟨_, rfl⟩
  have hL0 : 0 ≤ L := by omega
  have hL1 : L < 18446744073709551616 := by omega
  rw [hH, hL] at hm ⊢
  clear hH hL
  go_enter Tryz.func65, Tryz.ntmps65
  go_wp2_with (go_at_call 83; refine hm.mono ?_; rintro e w1 ⟨rfl, rfl⟩)
  go_ret2
  exact ⟨rfl, rfl⟩
namespace Dt
theorem bdrew' {B : Nat} {w w1 : World} (h : Below B w w1) : Below B w w1.drew := h.trans ⟨rfl, rfl, rfl, Nat.le_refl _, fun _ _ => rfl⟩
end Dt
namespace Cd
theorem add0 (g j : Nat) : (⟨g, 0, none⟩ : Addr).add j = ⟨g, j, none⟩ := by
  unfold Addr.add
  split
  · rename_i h0; rw [h0]
  · rw [Nat.zero_add]
theorem cell_rep {w : World} {G n m c : Nat} {t : TypeId} {L : List Value} {v0 : Value} (hL : w.heap[G]? = some (.cells L.toArray t (0, 0))) (hLt : L.take m = List.replicate m v0) (_hLn : L.length = n) (_hmn : m ≤ n) (hc : c ≤ m) (j : Nat) (v : Value) (h : (List.replicate c v0)[j]? = some v) : w.cell? ((⟨G, 0, none⟩ : Addr).add j) = some v := by
  rw [add0]
  rw [List.getElem?_replicate] at h
  split at h
  · rename_i hj
    cases h
    have h2 : (L.take m)[j]? = some v0 := by rw [hLt, List.getElem?_replicate, if_pos (by omega)]
    rw [List.getElem?_take, if_pos (by omega)] at h2
    unfold World.cell?
    rw [hL]
    simpa using h2
  · cases h
theorem splice_rep {L : List Value} {m n c : Nat} {v0 : Value} (hLn : L.length = n) (hmn : m + c ≤ n) (hLt : L.take m = List.replicate m v0) : (splice L m (List.replicate c v0)).length = n ∧ (splice L m (List.replicate c v0)).take (m + c) = List.replicate (m + c) v0 := by
  refine ⟨by rw [length_splice _ _ _ (by rw [List.length_replicate]; omega)]; exact hLn, ?_⟩
  unfold splice
  rw [hLt, ← List.append_assoc, List.replicate_append_replicate, List.take_append_of_le_length (by simp), List.take_of_length_le (by simp)]
end Cd
set_option maxRecDepth 100000 in
theorem Cd.infoI : (Tryz.prog.info? 3).map (fun i => (i.zero, i.size, i.bytes)) = some (some (.int .i64 0), 1, 8) := by kernel_rfl
set_option maxRecDepth 100000 in
set_option maxHeartbeats 4000000 in
theorem repeat_any (n b o : Nat) (hn : 1 ≤ n) (hn2 : n ≤ 4096) (w : World) (hc : w.cell? ⟨b, o, none⟩ = some (.int .i64 (-1))) :
    Calls Tryz.prog 45 #[.slice (some ⟨b, o, none⟩) 1 1, .int .i64 n] w fun e w' => ∃ g, e = .returned (.slice (some ⟨g, 0, none⟩) n n) ∧ w.heap.size ≤ g ∧ w'.heap[g]? = some (.cells (List.replicate n (Value.int .i64 (-1))).toArray 3 (0, 0)) ∧ Below w.heap.size w w' := by
  have hm := cdBitsMul 1 n (by omega) (by omega) w
  rw [show (1 * n / 18446744073709551616 : Nat) = 0 by omega, show (1 * n % 18446744073709551616 : Nat) = n by omega] at hm
  rw [show (((0 : Nat)) : Int) = 0 from rfl, show (((1 : Nat)) : Int) = 1 from rfl] at hm
  have hni : (n : Int) ≤ 4096 := by omega
  have hn0 : (0 : Int) < (n : Int) := by omega
  have hw1 : (n : Int) % 18446744073709551616 = n := by omega
  obtain ⟨i0, hi, hz0, hz1, hz2⟩ := info_parts Cd.infoI
  have hmk := run_makeSlice (P := Tryz.prog) (w := w) 42 3 i0 _ Tryz.underlying42 hi hz0 .i64 .i64 n n (by omega) (Int.le_refl _) (by rw [hz1]; simp; omega) (by rw [hz2]; omega) (by omega)
  have hzl : (madeCells (Value.int .i64 0).cells ((n : Int).toNat * i0.size)).toList.length = n := by rw [Array.length_toList, size_madeCells, hz1]; simp
  obtain ⟨Zs, hZs⟩ : ∃ Zs, madeCells (Value.int .i64 0).cells ((n : Int).toNat * i0.size) = Zs := ⟨_, rfl⟩
  rw [hZs] at hmk hzl
  obtain ⟨w1, hw⟩ : ∃ w1, w.alloc (.cells Zs 3) = w1 := ⟨_, rfl⟩
  have hg : w1.heap[w.heap.size]? = some (.cells Zs 3 (0, 0)) := by rw [← hw]; exact heap_alloc_new w _
  have hb : Below w.heap.size w w1 := by rw [← hw]; exact (Below.refl _ _).alloc (Nat.le_refl _) _
  rw [hw, Int.toNat_natCast] at hmk
  have hsz1 : (Tryz.prog.info? 3).map (·.size) = some 1 := by rw [hi]; simp [hz1]
  have hc1 := (hb.cell (p := ⟨b, o, none⟩) (block_lt_of_cell hc)).trans hc
  obtain ⟨G, hG⟩ : ∃ G, w.heap.size = G := ⟨_, rfl⟩
  rw [hG] at hmk hg hb ⊢
  have HG := Lib.hid hg
  have HB := Lib.hid hb
  have HZ := Lib.hid hzl
  have HSZ := Lib.hid hsz1
  have HC1 := Lib.hid hc1
  clear hi hz0 hz1 hz2 hZs hg hb hzl hsz1 hc hc1
  go_enter Tryz.func45, Tryz.ntmps45
  go_upto_region 7 with (go_at_call 65; refine hm.mono ?_; clear hm; rintro e w9 ⟨rfl, rfl⟩)
  go_step
  go_step
  go_step
  go_step
  go_step
  go_step
  go_step
  refine wpList_copy_splice rfl (.tmp 31) (.tmp 32) 42 42 rfl 3 Tryz.underlying42 HSZ.out _ _ _ _ _ _ rfl rfl G 0 Zs.toList 3 HG.out [.int .i64 (-1)] (by simp only [List.length_singleton, Nat.min_def]; split <;> omega) (fun _ => ⟨rfl, _, rfl, fun j v h => by cases j with | zero => cases h; exact HC1.out | succ j => cases h⟩) (by rw [HZ.out]; simp; omega) (by intro v hv; rw [List.mem_singleton.1 hv]; rfl) G w HB.out (Nat.le_refl _) ?_
  intro w2 HG2 hb2
  have HB2 := Lib.hid hb2
  clear hb2
  have HI : Hid (∃ L : List Value, w2.heap[G]? = some (.cells L.toArray 3 (0, 0)) ∧ L.length = n ∧ L.take 1 = List.replicate 1 (Value.int .i64 (-1))) := by
    refine ⟨splice Zs.toList 0 [.int .i64 (-1)], HG2.out, by rw [length_splice _ _ _ (by rw [HZ.out]; simp; omega)]; exact HZ.out, by simp [splice]⟩
  clear HG2 HG HB HC1 hmk
  go_wp2
  go_loopw [8] (fun v wr => ∃ m : Nat, v = .int .i64 m ∧ 1 ≤ m ∧ m ≤ n ∧ Hid (∃ L : List Value, wr.heap[G]? = some (.cells L.toArray 3 (0, 0)) ∧ L.length = n ∧ L.take m = List.replicate m (Value.int .i64 (-1))) ∧ Hid (Below G w wr)) (fun v _ => n - (intOf v).toNat)
  case atStart => exact ⟨1, rfl, by omega, hn, HI, HB2⟩
  case round =>
    obtain ⟨m, rfl, hm1, hmn, HL, HBR⟩ := hrel
    by_cases hlt : m < n
    · have hlti : (m : Int) < (n : Int) := by omega
      obtain ⟨L, hL, hLn, hLt⟩ := HL.out
      have HLL := Lib.hid hL
      have HLN := Lib.hid hLn
      have HLT := Lib.hid hLt
      obtain ⟨c, hc⟩ : ∃ c, c = Nat.min m (n - m) := ⟨_, rfl⟩
      have hcm : c = min m (n - m) := hc
      have hc0 : 1 ≤ c := by omega
      have hc1 : c ≤ m ∧ c ≤ n - m := by omega
      have hnm : ¬ n = m := by omega
      clear hcm
      have HC := Lib.hid hc
      have HBD : Hid (Below G w wr.drew) := Dt.bdrew' HBR.out
      have HCELL : Hid (∀ (j : Nat) (v : Value), (List.replicate c (Value.int .i64 (-1)))[j]? = some v → wr.drew.cell? ((⟨G, 0, none⟩ : Addr).add j) = some v) := fun j v h => Cd.cell_rep (w := wr.drew) hL hLt hLn hmn hc1.1 j v h
      clear hL hLn hLt HL hc
      go_wp2
      go_region_law (refine step_copy_splice rfl (.tmp 41) (.tmp 44) 42 42 rfl 3 Tryz.underlying42 HSZ.out (some ⟨G, m, none⟩) (some ⟨G, 0, none⟩) (n - m) (n - m) m n (by kernel_rfl) (by kernel_rfl) G m L 3 HLL.out (List.replicate c (.int .i64 (-1))) (by rw [List.length_replicate]; exact HC.out) (fun _ => ⟨rfl, _, rfl, fun j v h => HCELL.out j v h⟩) (by rw [List.length_replicate, HLN.out]; omega) (by intro v hv; rw [(List.mem_replicate.1 hv).2]; rfl) G w HBD.out (Nat.le_refl _) ?_; intro w3 HG3 hb3; rw [List.length_replicate])
      all_goals
        have HB3 := Lib.hid hb3
        have hsp := Cd.splice_rep (c := c) HLN.out (by omega) HLT.out
        have HN : Hid (∃ L : List Value, w3.heap[G]? = some (.cells L.toArray 3 (0, 0)) ∧ L.length = n ∧ L.take (m + c) = List.replicate (m + c) (Value.int .i64 (-1))) := ⟨_, HG3.out, hsp.1, hsp.2⟩
        clear hb3 hsp
        have hwr : IntKind.i64.wrap ((m : Int) + (c : Int)) = ((m + c : Nat) : Int) := by rw [IntKind.wrap_i64]; omega
        go_simp
        go_roundw
        case rel => (repeat apply Exists.intro); exact ⟨⟨m + c, rfl, by omega, by omega, HN, HB3⟩, rfl⟩
        case measure => simp [intOf]; omega
    · have hge : (n : Int) ≤ (m : Int) := by omega
      obtain ⟨L, hL, hLn, hLt⟩ := HL.out
      have HN : Hid (wr.heap[G]? = some (.cells (List.replicate n (Value.int .i64 (-1))).toArray 3 (0, 0))) := by
        show _ = _
        rw [hL]
        obtain rfl : m = n := by omega
        rw [List.take_of_length_le (by omega)] at hLt
        rw [hLt]
      clear hL hLn hLt HL
      go_wp2
      go_ret
      exact ⟨G, rfl, Nat.le_refl _, HN.out, HBR.out⟩
end Go.Proofs.YtlckjphnbfahgaaGreatDoor
