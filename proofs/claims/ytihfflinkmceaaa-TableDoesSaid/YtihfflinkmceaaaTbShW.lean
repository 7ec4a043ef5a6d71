/-
  TableShards: tables of however many shards answer the same.
-/
import Derived.Test.YtihfflinkmceaaaTbMapW
import Derived.Test.YtihfflinkmceaaaTbTell
namespace Go.Proofs.Ytihfflinkmceaaa
open Go.RowKit Go.Maps Go.Sort
namespace Tb
theorem Good.defL {L : List (Nm × V)} (h : Good L) (s : Nm) (v : V) : Good (defL L s v) := by
  unfold Tb.defL
  cases hy : Lx.symbol s
  · exact h
  · rw [if_pos rfl]
    split
    · exact h.put v hy
    · split
      · exact h
      · exact h.put v hy
theorem Good.asL {L : List (Nm × V)} (h : Good L) (s : Nm) (v : V) : Good (asL L s v) := by
  unfold Tb.asL
  split
  · exact h.defL s v
  · exact h
theorem symbol_len {s : Nm} (h : Lx.symbol s = true) : s.length ≤ 32 := by
  unfold Lx.symbol at h
  simp only [Bool.or_eq_true, Bool.and_eq_true, beq_iff_eq, decide_eq_true_eq] at h
  rcases h with ((rfl | rfl) | rfl) | ⟨⟨⟨_, h⟩, _⟩, _⟩
  · decide
  · decide
  · decide
  · exact h
theorem Good.short {L : List (Nm × V)} (h : Good L) (hr : Rising L) : ∀ p ∈ L, p.1.length ≤ 1000 := fun p hp => by
  obtain ⟨k, hk, rfl⟩ := List.mem_iff_getElem.1 hp
  have := symbol_len (h L[k].1 (by rw [look_at hr k hk]; rfl))
  omega
end Tb
set_option maxRecDepth 100000 in
set_option maxHeartbeats 8000000 in
theorem TableShards_walk (sa sb : Int) (l : List Tb.O) (v : Value) (w : World) (ha0 : 0 ≤ sa) (ha : sa ≤ 255) (hb0 : 0 ≤ sb) (hb : sb ≤ 255) (hv : Tb.Row w v l) :
    Calls Try.prog 4 #[.int .u8 sa, .int .u8 sb, v] w fun e w' => e = .returned (.bool true) ∧ Below w.heap.size w w' := by
  obtain ⟨a, c, rfl, hc, hcs⟩ := hv
  have hrow : Tb.Row w (.slice a l.length c) l := ⟨a, c, rfl, hc, hcs⟩
  obtain ⟨n, hn⟩ : ∃ n : Nat, 1 + sa % 16 = (n : Int) := ⟨(1 + sa % 16).toNat, by omega⟩
  have hn1 : 1 ≤ n := by omega
  have hn16 : n ≤ 16 := by omega
  obtain ⟨m, hm⟩ : ∃ m : Nat, 1 + sb % 16 = (m : Int) := ⟨(1 + sb % 16).toNat, by omega⟩
  have hm1 : 1 ≤ m := by omega
  have hm16 : m ≤ 16 := by omega
  have hfew := few_any l a c w hrow
  obtain ⟨M, hM⟩ : ∃ M, M = min l.length 80 := ⟨_, rfl⟩
  have hrow' := hrow.take M (by omega)
  rw [← hM] at hfew
  have hM8 : M ≤ 80 := by omega
  have HROW := Lib.hid hrow'
  have hlen' : (l.take M).length = M := by rw [List.length_take]; omega
  clear hM
  cases hF : Tb.fewL l
  · rw [hF] at hfew
    go_enter Try.func4, Try.ntmps4
    go_wp2_with fail
    refine hfew.mono ?_
    rintro e w1 ⟨rfl, hb1⟩
    unfold Tb.fewV
    clear hfew hrow hrow' hcs
    have HB1 := Lib.hid hb1
    clear hb1
    go_wp2_with fail
    refine (New_any n hn1 hn16 w1).mono ?_
    rintro e w2 ⟨rfl, hb2, _⟩
    have HB2 := Lib.hid (HB1.out.trans (hb2.mono HB1.out.size))
    clear hb2
    go_wp2_with fail
    refine (New_any m hm1 hm16 w2).mono ?_
    rintro e w3 ⟨rfl, hb3, _⟩
    have HB3 := Lib.hid (HB2.out.trans (hb3.mono HB2.out.size))
    clear hb3
    go_wp2_with fail
    refine (awake_any w3).mono ?_
    rintro e w4 ⟨rfl, hb4⟩
    have HB4 := Lib.hid (HB3.out.trans (hb4.mono HB3.out.size))
    clear hb4
    go_wp2_with fail
    refine (awake_any w4).mono ?_
    rintro e w5 ⟨rfl, hb5⟩
    have HB5 := Lib.hid (HB4.out.trans (hb5.mono HB4.out.size))
    clear hb5
    go_wp2
    go_ret
    exact ⟨rfl, HB5.out⟩
  rw [hF] at hfew
  go_enter Try.func4, Try.ntmps4
  go_wp2_with fail
  refine hfew.mono ?_
  rintro e w1 ⟨rfl, hb1⟩
  unfold Tb.fewV
  clear hfew hrow hrow' hcs
  have HB1 := Lib.hid hb1
  clear hb1
  go_wp2_with fail
  refine (New_any n hn1 hn16 w1).mono ?_
  rintro e w2 ⟨rfl, hb2, ht2⟩
  have HB2 := Lib.hid (HB1.out.trans (hb2.mono HB1.out.size))
  have HT2 := Lib.hid ht2
  clear hb2 ht2
  go_wp2_with fail
  refine (New_any m hm1 hm16 w2).mono ?_
  rintro e w3 ⟨rfl, hb3, hu3⟩
  have HB3 := Lib.hid (HB2.out.trans (hb3.mono HB2.out.size))
  have HT3 := Lib.hid (HT2.out.below hb3)
  have HU3 := Lib.hid hu3
  clear hb3 hu3
  go_wp2_with fail
  refine (awake_any w3).mono ?_
  rintro e w5 ⟨rfl, hb4⟩
  have HB5 := Lib.hid (HB3.out.trans (hb4.mono HB3.out.size))
  have HT5 := Lib.hid (HT3.out.below hb4)
  have HU5 := Lib.hid (HU3.out.below hb4)
  obtain ⟨T, hT⟩ : ∃ T, w1.heap.size = T := ⟨_, rfl⟩
  obtain ⟨hi, hhi⟩ : ∃ hi, w2.heap.size = hi := ⟨_, rfl⟩
  obtain ⟨hj, hhj⟩ : ∃ hj, w3.heap.size = hj := ⟨_, rfl⟩
  have hbT := HB1.out.size
  obtain ⟨B, hB⟩ : ∃ B, (fun i => w1.heap.size + 1 + i) = B := ⟨_, rfl⟩
  obtain ⟨C, hC⟩ : ∃ C, (fun i => w2.heap.size + 1 + i) = C := ⟨_, rfl⟩
  rw [hB] at HT5
  rw [hC] at HU5
  rw [hT, hhi] at HT5
  rw [hhi, hhj] at HU5
  rw [hT] at hbT ⊢
  rw [hhi]
  clear hb4 HT2 HT3 HU3 HB1 HB2 HB3 hT hhi hhj hB hC
  go_wp2_with fail
  obtain ⟨l', hl'⟩ : ∃ l', l' = l.take M := ⟨_, rfl⟩
  rw [← hl'] at HROW hlen'
  have HF : Hid (∀ o ∈ l', o.s.size ≤ 1000) := by
    intro o ho
    have h1 : (l.take 80).all (fun o => decide (o.s.size ≤ 1000)) = true := hF
    rw [hl'] at ho
    have h2 := List.all_eq_true.1 h1 o ((List.take_subset_take_left l hM8) ho)
    simpa using h2
  clear hl' hF
  go_loopw [75] (fun vi wr => ∃ (k : Nat) (L : List (Tb.Nm × Tb.V)), vi = .int .i64 k ∧ k ≤ M ∧ Hid (Tb.Tab wr T n T hi B L) ∧ Hid (Tb.Tab wr hi m hi hj C L) ∧ Hid (Tb.Good L) ∧ Hid (Below w.heap.size w wr)) (fun vi _ => M - (intOf vi).toNat)
  case atStart => exact ⟨0, [], rfl, by omega, HT5, HU5, (fun s h => by cases h), HB5⟩
  case round =>
    obtain ⟨k, L, rfl, hk, HT, HU, HGD, HB⟩ := hrel
    clear HT5 HU5 HB5
    by_cases hlt : k < M
    case neg =>
      have hge : (M : Int) ≤ (k : Int) := by omega
      obtain rfl : k = M := by omega
      have HTwr := HT
      have HUwr := HU
      have HBwr := HB
      clear HT HU HB
      have hbwA0 : Below wr.heap.size wr (wr.alloc (.cells #[.pointer (some ⟨T, 0, none⟩)] 25)) := (Below.refl _ wr).alloc (Nat.le_refl _) _
      have hcwA : (wr.alloc (.cells #[.pointer (some ⟨T, 0, none⟩)] 25)).cell? ⟨wr.heap.size, 0, none⟩ = some (.pointer (some ⟨T, 0, none⟩)) := by
        unfold World.cell?; rw [World.alloc_heap_new]; rfl
      go_wp2_with fail
      refine (All_any (some ⟨T, 0, none⟩) wr).mono ?_
      rintro e wA0 ⟨rfl, he⟩
      rw [← he] at hbwA0 hcwA
      clear he
      have HTwA0 := Lib.hid (HTwr.out.below hbwA0)
      have HUwA0 := Lib.hid (HUwr.out.below hbwA0)
      have HBwA0 := Lib.hid (HBwr.out.trans (hbwA0.mono HBwr.out.size))
      have htwA := told_tab wr.heap.size 1048576 (by omega) wA0 HTwA0.out hcwA (HGD.out.short HTwA0.out.rise)
      clear hbwA0 hcwA
      go_wp2_with fail
      refine htwA.mono ?_
      rintro e wA ⟨vwA, rfl, hgwA, hbwA⟩
      have HGwA := Lib.hid hgwA
      have HTwA := Lib.hid (HTwA0.out.below hbwA)
      have HUwA := Lib.hid (HUwA0.out.below hbwA)
      have HBwA := Lib.hid (HBwA0.out.trans (hbwA.mono HBwA0.out.size))
      clear hgwA htwA hbwA HTwA0 HUwA0 HBwA0
      have hbwB0 : Below wA.heap.size wA (wA.alloc (.cells #[.pointer (some ⟨hi, 0, none⟩)] 25)) := (Below.refl _ wA).alloc (Nat.le_refl _) _
      have hcwB : (wA.alloc (.cells #[.pointer (some ⟨hi, 0, none⟩)] 25)).cell? ⟨wA.heap.size, 0, none⟩ = some (.pointer (some ⟨hi, 0, none⟩)) := by
        unfold World.cell?; rw [World.alloc_heap_new]; rfl
      go_wp2_with fail
      refine (All_any (some ⟨hi, 0, none⟩) wA).mono ?_
      rintro e wB0 ⟨rfl, he⟩
      rw [← he] at hbwB0 hcwB
      clear he
      have HTwB0 := Lib.hid (HTwA.out.below hbwB0)
      have HUwB0 := Lib.hid (HUwA.out.below hbwB0)
      have HBwB0 := Lib.hid (HBwA.out.trans (hbwB0.mono HBwA.out.size))
      have htwB := told_tab wA.heap.size 1048576 (by omega) wB0 HUwB0.out hcwB (HGD.out.short HUwB0.out.rise)
      have hbwB0K := Lib.hid hbwB0
      clear hbwB0 hcwB
      go_wp2_with fail
      refine htwB.mono ?_
      rintro e wB ⟨vwB, rfl, hgwB, hbwB⟩
      have HGwA2 := Lib.hid ((HGwA.out.below hbwB0K.out).below hbwB)
      have HGwB := Lib.hid hgwB
      have HTwB := Lib.hid (HTwB0.out.below hbwB)
      have HUwB := Lib.hid (HUwB0.out.below hbwB)
      have HBwB := Lib.hid (HBwB0.out.trans (hbwB.mono HBwB0.out.size))
      have hlen := HTwA.out.len
      rw [List.take_of_length_le (by omega)] at HGwA2 HGwB
      have hE := Equal_any wB vwA vwB L HGwA2.out HGwB.out hlen
      clear hgwB htwB hbwB
      go_wp2_with fail
      refine hE.mono ?_
      rintro e wE ⟨rfl, hbE⟩
      have HTE := Lib.hid (HTwB.out.below hbE)
      have HUE := Lib.hid (HUwB.out.below hbE)
      have HBE := Lib.hid (HBwB.out.trans (hbE.mono HBwB.out.size))
      have hl1 := Len_any wE HTE.out
      have hl2 := Len_any wE HUE.out
      clear hE hbE HTwA HUwA HBwA HTwB HUwB HBwB HTwB0 HUwB0 HBwB0 HGwA HGwA2 HGwB hbwB0K
      go_wp2_with fail
      refine hl1.mono ?_
      rintro e wL ⟨rfl, rfl⟩
      clear hl1
      go_wp2_with fail
      refine hl2.mono ?_
      rintro e wL ⟨rfl, rfl⟩
      clear hl2
      go_wp2
      go_ret
      exact ⟨rfl, HBE.out⟩
    have hlti : (k : Int) < (M : Int) := by omega
    have hll : k < l'.length := by omega
    obtain ⟨t, ht⟩ : ∃ t, l'[k] = t := ⟨_, rfl⟩
    have htz : t.s.size ≤ 1000 := HF.out t (by rw [← ht]; exact List.getElem_mem hll)
    obtain ⟨b, o, rfl, r0, r1, r2⟩ := Tb.Row.at_ (HROW.out.below HB.out) hlen' k hll
    rw [ht] at r0 r1 r2
    obtain ⟨d, s, nn⟩ := t
    simp only at r0 r1 r2 htz
    clear ht
    obtain ⟨X, hX⟩ : ∃ X, wr.heap.size = X := ⟨_, rfl⟩
    have hc3 := Tb.three_new wr (.int .i64 d) (.string s) (.int .i64 nn)
    have hb6 : Below wr.heap.size wr (wr.alloc (.cells #[.int .i64 d, .string s, .int .i64 nn] 33)) := (Below.refl _ wr).alloc (Nat.le_refl _) _
    have hXw6 : X < (wr.alloc (.cells #[.int .i64 d, .string s, .int .i64 nn] 33)).heap.size := by rw [← hX]; simp
    obtain ⟨w6, hw6⟩ : ∃ w6, wr.alloc (.cells #[.int .i64 d, .string s, .int .i64 nn] 33) = w6 := ⟨_, rfl⟩
    rw [hw6] at hc3 hb6 hXw6
    have hhjX : hj ≤ X := by rw [← hX]; exact HU.out.hh
    have hhij : hi < hj := HU.out.lt.2
    have hThi : T < hi := HT.out.lt.2
    rw [hX] at hc3
    obtain ⟨x0, x1, x2⟩ := hc3
    have HTw6 := Lib.hid (HT.out.below hb6)
    have HUw6 := Lib.hid (HU.out.below hb6)
    have HB6 := Lib.hid (HB.out.trans (hb6.mono HB.out.size))
    clear HT HU HB hb6
    by_cases hd1 : d = 1
    · subst hd1
      obtain ⟨⟨rk, re⟩, hr⟩ : ∃ r, r = Tb.asr L s.data.toList := ⟨_, rfl⟩
      have HR : Hid ((rk, re) = Tb.asr L s.data.toList) := hr
      clear hr
      have HMKw6 : Hid (∀ w', Below w6.heap.size w6 w' → w'.cell? ⟨X, 0, none⟩ = some (.int .i64 1) ∧ w'.cell? ⟨X, 1, none⟩ = some (.string s) ∧ w'.cell? ⟨X, 2, none⟩ = some (.int .i64 nn)) := fun w' hb => ⟨(hb.cell (p := ⟨X, 0, none⟩) hXw6).trans x0, (hb.cell (p := ⟨X, 1, none⟩) hXw6).trans x1, (hb.cell (p := ⟨X, 2, none⟩) hXw6).trans x2⟩
      have HMWw6 : Hid (∀ w7 w', Below w6.heap.size w6 w7 → Keep (Tb.Within T hi) w7 w' → w'.cell? ⟨X, 0, none⟩ = some (.int .i64 1) ∧ w'.cell? ⟨X, 1, none⟩ = some (.string s) ∧ w'.cell? ⟨X, 2, none⟩ = some (.int .i64 nn)) := fun w7 w' hb hk => by
        obtain ⟨h0, h1, h2⟩ := HMKw6.out w7 hb
        have hz := Nat.lt_of_lt_of_le hXw6 hb.size
        have hn : ¬ Tb.Within T hi X := fun h => by have := h.2; omega
        exact ⟨(hk.cell 0 hz hn).trans h0, (hk.cell 1 hz hn).trans h1, (hk.cell 2 hz hn).trans h2⟩
      have HAw6 : Hid (∀ w7, Below w6.heap.size w6 w7 → Calls Try.prog 11 #[.pointer (some ⟨T, 0, none⟩), .string s, .agg #[.int .i64 1, .int .i64 nn]] w7 fun e w' => e = .returned (.tuple #[.int .i64 rk, .int .i64 re]) ∧ Tb.Tab w' T n T hi B (Tb.asL L s.data.toList (1, nn)) ∧ Keep (Tb.Within T hi) w7 w') := fun w7 hb => by
        have h := Assign_any s (1, nn) w7 (HTw6.out.below hb) htz
        rw [← HR.out] at h
        exact h
      go_wp2_with fail
      clear hw6
      go_region_held3 (fun w' => w'.cell? ⟨X, 0, none⟩ = some (.int .i64 1) ∧ w'.cell? ⟨X, 1, none⟩ = some (.string s) ∧ w'.cell? ⟨X, 2, none⟩ = some (.int .i64 nn)) (first | exact HMKw6.out _ ((Below.refl _ _).drew) | exact HMWw6.out _ _ (Tb.dr hbw7) hkw8 | exact HMKw6.out _ (Tb.dr hbw7))
        (first | (go_at_call 12; refine (value_any 1 nn s _).mono ?_; rintro e w7 ⟨rfl, hbw7⟩) | (go_at_call 11; refine (HAw6.out _ (Tb.dr hbw7)).mono ?_; rintro e w8 ⟨rfl, htw8, hkw8⟩) | fail)
      all_goals
        have hb7' : Below w6.heap.size w6 w7 := Tb.dr hbw7
        have HTw8 := Lib.hid htw8
        have HUw8 := Lib.hid ((HUw6.out.below hb7').keep hkw8 (fun j h1 _ h => by have := h.2; omega))
        have HB8 := Lib.hid ((HB6.out.trans (hb7'.mono HB6.out.size)).trans (hkw8.to_below (fun j h => Nat.le_trans hbT h.1) (Nat.le_trans HB6.out.size hb7'.size)))
        obtain ⟨y0, y1, y2⟩ := HMWw6.out w7 w8 hb7' hkw8
        have hXw8 : X < w8.heap.size := Nat.lt_of_lt_of_le (Nat.lt_of_lt_of_le hXw6 hb7'.size) hkw8.size
        clear hbw7 hb7' htw8 hkw8 HMKw6 HMWw6 HAw6 HTw6 HUw6 HB6 x0 x1 x2 r0 r1 r2
        have HMKw8 : Hid (∀ w', Below w8.heap.size w8 w' → w'.cell? ⟨X, 0, none⟩ = some (.int .i64 1) ∧ w'.cell? ⟨X, 1, none⟩ = some (.string s) ∧ w'.cell? ⟨X, 2, none⟩ = some (.int .i64 nn)) := fun w' hb => ⟨(hb.cell (p := ⟨X, 0, none⟩) hXw8).trans y0, (hb.cell (p := ⟨X, 1, none⟩) hXw8).trans y1, (hb.cell (p := ⟨X, 2, none⟩) hXw8).trans y2⟩
        have HMWw8 : Hid (∀ w7 w', Below w8.heap.size w8 w7 → Keep (Tb.Within hi hj) w7 w' → w'.cell? ⟨X, 0, none⟩ = some (.int .i64 1) ∧ w'.cell? ⟨X, 1, none⟩ = some (.string s) ∧ w'.cell? ⟨X, 2, none⟩ = some (.int .i64 nn)) := fun w7 w' hb hk => by
          obtain ⟨h0, h1, h2⟩ := HMKw8.out w7 hb
          have hz := Nat.lt_of_lt_of_le hXw8 hb.size
          have hn : ¬ Tb.Within hi hj X := fun h => by have := h.2; omega
          exact ⟨(hk.cell 0 hz hn).trans h0, (hk.cell 1 hz hn).trans h1, (hk.cell 2 hz hn).trans h2⟩
        have HAw8 : Hid (∀ w7, Below w8.heap.size w8 w7 → Calls Try.prog 11 #[.pointer (some ⟨hi, 0, none⟩), .string s, .agg #[.int .i64 1, .int .i64 nn]] w7 fun e w' => e = .returned (.tuple #[.int .i64 rk, .int .i64 re]) ∧ Tb.Tab w' hi m hi hj C (Tb.asL L s.data.toList (1, nn)) ∧ Keep (Tb.Within hi hj) w7 w') := fun w7 hb => by
          have h := Assign_any s (1, nn) w7 (HUw8.out.below hb) htz
          rw [← HR.out] at h
          exact h
        go_wp2_with fail
        skip
        go_region_held3 (fun w' => w'.cell? ⟨X, 0, none⟩ = some (.int .i64 1) ∧ w'.cell? ⟨X, 1, none⟩ = some (.string s) ∧ w'.cell? ⟨X, 2, none⟩ = some (.int .i64 nn)) (first | exact HMKw8.out _ ((Below.refl _ _).drew) | exact HMWw8.out _ _ (Tb.dr hbw9) hkw10 | exact HMKw8.out _ (Tb.dr hbw9))
          (first | (go_at_call 12; refine (value_any 1 nn s _).mono ?_; rintro e w9 ⟨rfl, hbw9⟩) | (go_at_call 11; refine (HAw8.out _ (Tb.dr hbw9)).mono ?_; rintro e w10 ⟨rfl, htw10, hkw10⟩) | fail)
        all_goals
          have hb9' : Below w8.heap.size w8 w9 := Tb.dr hbw9
          have HU10 := Lib.hid htw10
          have HT10 := Lib.hid ((HTw8.out.below hb9').keep hkw10 (fun j _ h1 h => by have := h.1; omega))
          have HB10 := Lib.hid ((HB8.out.trans (hb9'.mono HB8.out.size)).trans (hkw10.to_below (fun j h => by have := h.1; have := HTw8.out.lt; omega) (Nat.le_trans HB8.out.size hb9'.size)))
          have HGD10 : Hid (Tb.Good (Tb.asL L s.data.toList (1, nn))) := HGD.out.asL s.data.toList (1, nn)
          clear hbw9 hb9' htw10 hkw10 HMKw8 HMWw8 HAw8 HTw8 HUw8 HB8 y0 y1 y2 HR HGD
          go_wp2
          go_roundw
          case rel => exact ⟨k + 1, _, by simp, by omega, HT10, HU10, HGD10, HB10⟩
          case measure => simp [intOf]; omega
    have hd1' : (d == 1) = false := by simpa using hd1
    by_cases hd2 : d = 2
    · subst hd2
      obtain ⟨⟨rk, re⟩, hr⟩ : ∃ r, r = Tb.defr L s.data.toList := ⟨_, rfl⟩
      have HR : Hid ((rk, re) = Tb.defr L s.data.toList) := hr
      clear hr
      have HMKw6 : Hid (∀ w', Below w6.heap.size w6 w' → w'.cell? ⟨X, 0, none⟩ = some (.int .i64 2) ∧ w'.cell? ⟨X, 1, none⟩ = some (.string s) ∧ w'.cell? ⟨X, 2, none⟩ = some (.int .i64 nn)) := fun w' hb => ⟨(hb.cell (p := ⟨X, 0, none⟩) hXw6).trans x0, (hb.cell (p := ⟨X, 1, none⟩) hXw6).trans x1, (hb.cell (p := ⟨X, 2, none⟩) hXw6).trans x2⟩
      have HMWw6 : Hid (∀ w7 w', Below w6.heap.size w6 w7 → Keep (Tb.Within T hi) w7 w' → w'.cell? ⟨X, 0, none⟩ = some (.int .i64 2) ∧ w'.cell? ⟨X, 1, none⟩ = some (.string s) ∧ w'.cell? ⟨X, 2, none⟩ = some (.int .i64 nn)) := fun w7 w' hb hk => by
        obtain ⟨h0, h1, h2⟩ := HMKw6.out w7 hb
        have hz := Nat.lt_of_lt_of_le hXw6 hb.size
        have hn : ¬ Tb.Within T hi X := fun h => by have := h.2; omega
        exact ⟨(hk.cell 0 hz hn).trans h0, (hk.cell 1 hz hn).trans h1, (hk.cell 2 hz hn).trans h2⟩
      have HAw6 : Hid (∀ w7, Below w6.heap.size w6 w7 → Calls Try.prog 13 #[.pointer (some ⟨T, 0, none⟩), .string s, .agg #[.int .i64 1, .int .i64 nn]] w7 fun e w' => e = .returned (.tuple #[.int .i64 rk, .int .i64 re]) ∧ Tb.Tab w' T n T hi B (Tb.defL L s.data.toList (1, nn)) ∧ Keep (Tb.Within T hi) w7 w') := fun w7 hb => by
        have h := Define_any s (1, nn) w7 (HTw6.out.below hb) htz
        rw [← HR.out] at h
        exact h
      go_wp2_with fail
      clear hw6
      go_region_held3 (fun w' => w'.cell? ⟨X, 0, none⟩ = some (.int .i64 2) ∧ w'.cell? ⟨X, 1, none⟩ = some (.string s) ∧ w'.cell? ⟨X, 2, none⟩ = some (.int .i64 nn)) (first | exact HMKw6.out _ ((Below.refl _ _).drew) | exact HMWw6.out _ _ (Tb.dr hbw7) hkw8 | exact HMKw6.out _ (Tb.dr hbw7))
        (first | (go_at_call 12; refine (value_any 2 nn s _).mono ?_; rintro e w7 ⟨rfl, hbw7⟩) | (go_at_call 13; refine (HAw6.out _ (Tb.dr hbw7)).mono ?_; rintro e w8 ⟨rfl, htw8, hkw8⟩) | fail)
      all_goals
        have hb7' : Below w6.heap.size w6 w7 := Tb.dr hbw7
        have HTw8 := Lib.hid htw8
        have HUw8 := Lib.hid ((HUw6.out.below hb7').keep hkw8 (fun j h1 _ h => by have := h.2; omega))
        have HB8 := Lib.hid ((HB6.out.trans (hb7'.mono HB6.out.size)).trans (hkw8.to_below (fun j h => Nat.le_trans hbT h.1) (Nat.le_trans HB6.out.size hb7'.size)))
        obtain ⟨y0, y1, y2⟩ := HMWw6.out w7 w8 hb7' hkw8
        have hXw8 : X < w8.heap.size := Nat.lt_of_lt_of_le (Nat.lt_of_lt_of_le hXw6 hb7'.size) hkw8.size
        clear hbw7 hb7' htw8 hkw8 HMKw6 HMWw6 HAw6 HTw6 HUw6 HB6 x0 x1 x2 r0 r1 r2
        have HMKw8 : Hid (∀ w', Below w8.heap.size w8 w' → w'.cell? ⟨X, 0, none⟩ = some (.int .i64 2) ∧ w'.cell? ⟨X, 1, none⟩ = some (.string s) ∧ w'.cell? ⟨X, 2, none⟩ = some (.int .i64 nn)) := fun w' hb => ⟨(hb.cell (p := ⟨X, 0, none⟩) hXw8).trans y0, (hb.cell (p := ⟨X, 1, none⟩) hXw8).trans y1, (hb.cell (p := ⟨X, 2, none⟩) hXw8).trans y2⟩
        have HMWw8 : Hid (∀ w7 w', Below w8.heap.size w8 w7 → Keep (Tb.Within hi hj) w7 w' → w'.cell? ⟨X, 0, none⟩ = some (.int .i64 2) ∧ w'.cell? ⟨X, 1, none⟩ = some (.string s) ∧ w'.cell? ⟨X, 2, none⟩ = some (.int .i64 nn)) := fun w7 w' hb hk => by
          obtain ⟨h0, h1, h2⟩ := HMKw8.out w7 hb
          have hz := Nat.lt_of_lt_of_le hXw8 hb.size
          have hn : ¬ Tb.Within hi hj X := fun h => by have := h.2; omega
          exact ⟨(hk.cell 0 hz hn).trans h0, (hk.cell 1 hz hn).trans h1, (hk.cell 2 hz hn).trans h2⟩
        have HAw8 : Hid (∀ w7, Below w8.heap.size w8 w7 → Calls Try.prog 13 #[.pointer (some ⟨hi, 0, none⟩), .string s, .agg #[.int .i64 1, .int .i64 nn]] w7 fun e w' => e = .returned (.tuple #[.int .i64 rk, .int .i64 re]) ∧ Tb.Tab w' hi m hi hj C (Tb.defL L s.data.toList (1, nn)) ∧ Keep (Tb.Within hi hj) w7 w') := fun w7 hb => by
          have h := Define_any s (1, nn) w7 (HUw8.out.below hb) htz
          rw [← HR.out] at h
          exact h
        go_wp2_with fail
        skip
        go_region_held3 (fun w' => w'.cell? ⟨X, 0, none⟩ = some (.int .i64 2) ∧ w'.cell? ⟨X, 1, none⟩ = some (.string s) ∧ w'.cell? ⟨X, 2, none⟩ = some (.int .i64 nn)) (first | exact HMKw8.out _ ((Below.refl _ _).drew) | exact HMWw8.out _ _ (Tb.dr hbw9) hkw10 | exact HMKw8.out _ (Tb.dr hbw9))
          (first | (go_at_call 12; refine (value_any 2 nn s _).mono ?_; rintro e w9 ⟨rfl, hbw9⟩) | (go_at_call 13; refine (HAw8.out _ (Tb.dr hbw9)).mono ?_; rintro e w10 ⟨rfl, htw10, hkw10⟩) | fail)
        all_goals
          have hb9' : Below w8.heap.size w8 w9 := Tb.dr hbw9
          have HU10 := Lib.hid htw10
          have HT10 := Lib.hid ((HTw8.out.below hb9').keep hkw10 (fun j _ h1 h => by have := h.1; omega))
          have HB10 := Lib.hid ((HB8.out.trans (hb9'.mono HB8.out.size)).trans (hkw10.to_below (fun j h => by have := h.1; have := HTw8.out.lt; omega) (Nat.le_trans HB8.out.size hb9'.size)))
          have HGD10 : Hid (Tb.Good (Tb.defL L s.data.toList (1, nn))) := HGD.out.defL s.data.toList (1, nn)
          clear hbw9 hb9' htw10 hkw10 HMKw8 HMWw8 HAw8 HTw8 HUw8 HB8 y0 y1 y2 HR HGD
          go_wp2
          go_roundw
          case rel => exact ⟨k + 1, _, by simp, by omega, HT10, HU10, HGD10, HB10⟩
          case measure => simp [intOf]; omega
    have hd2' : (d == 2) = false := by simpa using hd2
    have hg1 := Get_any s w6 HTw6.out htz
    obtain ⟨⟨⟨g1, g2⟩, g3, g4⟩, hG⟩ : ∃ g, g = Tb.get L s.data.toList := ⟨_, rfl⟩
    rw [← hG] at hg1
    have HG := Lib.hid hG
    clear hG
    go_wp2_with fail
    clear hw6
    refine hg1.mono ?_
    rintro e wG ⟨rfl, hbG⟩
    have HTG := Lib.hid (HTw6.out.below hbG)
    have HUG := Lib.hid (HUw6.out.below hbG)
    have HBG := Lib.hid (HB6.out.trans (hbG.mono HB6.out.size))
    have x1' := (hbG.cell (p := ⟨X, 1, none⟩) hXw6).trans x1
    have hXG := Nat.lt_of_lt_of_le hXw6 hbG.size
    clear hg1 hbG HTw6 HUw6 HB6 x0 x1 x2 r0 r1 r2
    obtain ⟨p0, p1⟩ := Tb.pair_new wG (.int .i64 g1) (.int .i64 g2)
    have hbA : Below wG.heap.size wG (wG.alloc (.cells #[.int .i64 g1, .int .i64 g2] 37)) := (Below.refl _ wG).alloc (Nat.le_refl _) _
    have hlA : wG.heap.size < (wG.alloc (.cells #[.int .i64 g1, .int .i64 g2] 37)).heap.size := by simp
    obtain ⟨wA, hwA⟩ : ∃ wA, wG.alloc (.cells #[.int .i64 g1, .int .i64 g2] 37) = wA := ⟨_, rfl⟩
    rw [hwA] at hbA p0 p1 hlA
    have HTA := Lib.hid (HTG.out.below hbA)
    have HUA := Lib.hid (HUG.out.below hbA)
    have HBA := Lib.hid (HBG.out.trans (hbA.mono HBG.out.size))
    have x1A := (hbA.cell (p := ⟨X, 1, none⟩) hXG).trans x1'
    have hg2 := Get_any s wA HUA.out htz
    rw [← HG.out] at hg2
    clear hbA HTG HUG HBG x1'
    go_wp2_with fail
    refine hg2.mono ?_
    rintro e wH ⟨rfl, hbH⟩
    have HTH := Lib.hid (HTA.out.below hbH)
    have HUH := Lib.hid (HUA.out.below hbH)
    have HBH := Lib.hid (HBA.out.trans (hbH.mono HBA.out.size))
    have q0 := (hbH.cell (p := ⟨wG.heap.size, 0, none⟩) hlA).trans p0
    have q1 := (hbH.cell (p := ⟨wG.heap.size, 1, none⟩) hlA).trans p1
    have hlH := Nat.lt_of_lt_of_le hlA hbH.size
    clear hg2 hbH HTA HUA HBA p0 p1 hwA x1A
    have hbZ : Below wH.heap.size wH (wH.alloc (.cells #[.int .i64 g1, .int .i64 g2] 37)) := (Below.refl _ wH).alloc (Nat.le_refl _) _
    obtain ⟨z0, z1⟩ := Tb.pair_new wH (.int .i64 g1) (.int .i64 g2)
    obtain ⟨wZ, hwZ⟩ : ∃ wZ, wH.alloc (.cells #[.int .i64 g1, .int .i64 g2] 37) = wZ := ⟨_, rfl⟩
    rw [hwZ] at hbZ z0 z1
    have y0 := (hbZ.cell (p := ⟨wG.heap.size, 0, none⟩) hlH).trans q0
    have y1 := (hbZ.cell (p := ⟨wG.heap.size, 1, none⟩) hlH).trans q1
    have HBZ := Lib.hid (HBH.out.trans (hbZ.mono HBH.out.size))
    have HTZ := Lib.hid (HTH.out.below hbZ)
    have HUZ := Lib.hid (HUH.out.below hbZ)
    clear hbZ q0 q1 HTH HUH HBH
    go_wp2
    go_roundw
    case rel => exact ⟨k + 1, L, by simp, by omega, HTZ, HUZ, HGD, HBZ⟩
    case measure => simp [intOf]; omega
end Go.Proofs.Ytihfflinkmceaaa
