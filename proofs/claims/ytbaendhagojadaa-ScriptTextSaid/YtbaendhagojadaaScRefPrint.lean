/-
  The walks of the reference's Check and Print.
-/
import Derived.Test.YtbaendhagojadaaScPrint
import Derived.Test.YtbaendhagojadaaScRefB
namespace Go.Proofs.Ytbaendhagojadaa
open Go.RowKit Go.Sort
theorem Sc.NumsR.keep {P : Nat → Prop} {w w' : World} {B : Nat} {v : List Int} (h : Sc.NumsR w B v) (hk : Keep P w w') (hB : ¬ P B) : Sc.NumsR w' B v := fun k hk5 => by
  have hl := block_lt_of_cell (h k hk5).1
  exact ⟨(hk.cell _ hl hB).trans (h k hk5).1, (hk.cell _ hl hB).trans (h k hk5).2.1, (hk.cell _ hl hB).trans (h k hk5).2.2.1, (hk.cell _ hl hB).trans (h k hk5).2.2.2⟩
set_option maxRecDepth 100000 in
set_option maxHeartbeats 4000000 in
theorem Check25_any (v0 v1 v2 v3 v4 : Int) (pa : Option Addr) (pc : Nat) (ps : List UInt8) (x : ByteArray) (w : World) (hp : Sc.Bytes w pa ps.length ps) (hl : ps.length ≤ 1000000) (hx : x.size ≤ 1000000) :
    Calls Try.prog 15 #[.agg #[.int .i64 v0, .int .i64 v1, .int .i64 v2, .int .i64 v3, .int .i64 v4, .slice pa ps.length pc, .string x]] w fun e w' => e = .returned (.int .i64 (Sc.chkE ⟨v0, v1, v2, v3, v4, ps, x.data.toList⟩)) ∧ Below w.heap.size w w' := by
  obtain ⟨s, hs⟩ : ∃ s : Sc.Scr, (⟨v0, v1, v2, v3, v4, ps, x.data.toList⟩ : Sc.Scr) = s := ⟨_, rfl⟩
  have HSV : Hid ([v0, v1, v2, v3, v4] = s.v) := by show _ = _; rw [← hs]; rfl
  have HSP : Hid (ps = s.p) := by show _ = _; rw [← hs]
  have HSX : Hid (x.data.toList = s.x) := by show _ = _; rw [← hs]
  have HSW : Hid (v2 = s.w) := by show _ = _; rw [← hs]
  rw [hs]
  clear hs
  obtain ⟨A, hA⟩ : ∃ A, w.heap.size = A := ⟨_, rfl⟩
  obtain ⟨w1, hw1⟩ : ∃ w1, w.alloc (.cells #[.int .i64 v0, .int .i64 v1, .int .i64 v2, .int .i64 v3, .int .i64 v4, .slice pa ps.length pc, .string x] 25) = w1 := ⟨_, rfl⟩
  have z1 := Sc.seven_of w v0 v1 v2 v3 v4 (.slice pa ps.length pc) x 25
  rw [hw1, hA] at z1
  have hb1 : Below A w w1 := by rw [← hw1, ← hA]; exact (Below.refl _ _).alloc (Nat.le_refl _) _
  have hsz1 : w1.heap.size = A + 1 := by rw [← hw1]; simp [hA]
  have f0 : w1.cell? ⟨A, 0, none⟩ = some (.int .i64 v0) := z1.n 0 (by omega)
  have f1 : w1.cell? ⟨A, 1, none⟩ = some (.int .i64 v1) := z1.n 1 (by omega)
  have f2 : w1.cell? ⟨A, 2, none⟩ = some (.int .i64 v2) := z1.n 2 (by omega)
  have f3 : w1.cell? ⟨A, 3, none⟩ = some (.int .i64 v3) := z1.n 3 (by omega)
  have f4 : w1.cell? ⟨A, 4, none⟩ = some (.int .i64 v4) := z1.n 4 (by omega)
  have f5 := z1.c5
  have f6 := z1.c6
  have hN := Numbers25_any v0 v1 v2 v3 v4 pa ps.length pc x w1
  rw [hsz1] at hN
  obtain ⟨wb, hwb⟩ : ∃ wb, w1.alloc (.cells #[.int .i64 v0, .int .i64 v1, .int .i64 v2, .int .i64 v3, .int .i64 v4, .slice pa ps.length pc, .string x] 25) = wb := ⟨_, rfl⟩
  have hszb : wb.heap.size = A + 2 := by rw [← hwb]; simp [hsz1]
  rw [hwb] at hN
  have zn := Sc.numsR_new wb v0 v1 v2 v3 v4
  rw [hszb] at zn
  obtain ⟨w2, hw2⟩ : ∃ w2, wb.alloc (Sc.numsRO v0 v1 v2 v3 v4) = w2 := ⟨_, rfl⟩
  rw [hw2] at zn hN
  have k2 : Keep (fun _ => False) w1 w2 := by rw [← hw2, ← hwb]; exact ((Keep.refl _ _).alloc _).alloc _
  have hsz2 : w2.heap.size = A + 3 := by rw [← hw2]; simp [hszb]
  have HB2 := Lib.hid (hb1.trans (k2.to_below (n := A) (fun _ h => h.elim) (by omega)))
  have HS0 := Lib.hid (z1.keep k2 (fun h => h))
  have HN0 := Lib.hid zn
  have HSZ2 := Lib.hid hsz2
  have HPB := Lib.hid hp
  have HA := Lib.hid hA
  clear z1 hb1 hsz1 zn k2 hw2 hsz2 hp hwb hszb
  go_enter Try.func15, Try.ntmps15
  go_wp2_with fail
  refine hN.mono ?_
  rintro e w3 ⟨rfl, rfl⟩
  clear hw1 hN hA f0 f1 f2 f3 f4 f5 f6
  go_wp2_with fail
  go_loopw [4] (fun vk wr => ∃ k : Nat, vk = .int .i64 k ∧ k ≤ 5 ∧ Hid (Sc.St wr A [v0, v1, v2, v3, v4] (.slice pa ps.length pc) x) ∧ Hid (Sc.NumsR wr (A + 2) [v0, v1, v2, v3, v4]) ∧ Hid (A + 3 ≤ wr.heap.size) ∧ Hid (Below A w wr) ∧ Hid (∀ j, j < k → Sc.may j (s.v.getD j 0) = true)) (fun vk _ => 5 - (intOf vk).toNat)
  case atStart => exact ⟨0, rfl, by omega, HS0, HN0, Nat.le_of_eq HSZ2.out.symm, HB2, fun j hj => absurd hj (by omega)⟩
  case round =>
    obtain ⟨k, rfl, hk, HS1, HN1, HL, HB1, HM⟩ := hrel
    by_cases hlt : k < 5
    case neg =>
      obtain rfl : k = 5 := by omega
      have hge : ¬ ((5 : Nat) : Int) < 5 := by omega
      have c5 := HS1.out.c5
      have c6 := HS1.out.c6
      have c2 : wr.cell? ⟨A, 2, none⟩ = some (.int .i64 v2) := HS1.out.n 2 (by omega)
      by_cases h1 : 400 < ps.length
      · have h1i : (400 : Int) < (ps.length : Int) := by omega
        have HC : Hid (Sc.chkE s = 250) := Sc.chk_len s (.inl (by rw [← HSP.out]; exact h1))
        go_wp2
        go_ret
        exact ⟨by rw [HC.out]; rfl, by rw [HA.out]; exact HB1.out⟩
      have h1i : ¬ (400 : Int) < (ps.length : Int) := by omega
      have h1d : decide ((400 : Int) < (ps.length : Int)) = false := decide_eq_false h1i
      by_cases h2 : 16384 < x.size
      · have h2i : (16384 : Int) < (x.size : Int) := by omega
        have HC : Hid (Sc.chkE s = 250) := Sc.chk_len s (.inr (by rw [← HSX.out, Fx.size_toList]; exact h2))
        go_wp2
        go_ret
        exact ⟨by rw [HC.out]; rfl, by rw [HA.out]; exact HB1.out⟩
      have h2i : ¬ (16384 : Int) < (x.size : Int) := by omega
      obtain ⟨w7, rfl⟩ : ∃ w7, w7 = wr := ⟨_, rfl⟩
      go_wp2_with fail
      go_loopw [5] (fun vi wq => ∃ i q : Nat, vi = .int .i64 i ∧ i ≤ ps.length ∧ wq = w7.drewN q ∧ Hid (∀ j, (hj : j < s.p.length) → j < i → (s.p[j].toNat : Int) < s.w)) (fun vi _ => ps.length - (intOf vi).toNat)
      case atStart => exact ⟨0, 0, rfl, by omega, rfl, fun j _ hj => absurd hj (by omega)⟩
      case round =>
        obtain ⟨i, q, rfl, hi, rfl, HQ⟩ := hrel
        by_cases hlt : i < ps.length
        case neg =>
          have hge2 : ¬ (i : Int) < (ps.length : Int) := by omega
          have HC : Hid (Sc.chkE s = 0) := Sc.chk_ok s HM.out (by rw [← HSP.out]; omega) (by rw [← HSX.out, Fx.size_toList]; omega) (fun j hj => HQ.out j hj (by have := congrArg List.length HSP.out; omega))
          go_wp2
          go_ret
          exact ⟨by rw [HC.out]; rfl, by rw [HA.out]; exact below_drewN HB1.out _⟩
        have hlti : (i : Int) < (ps.length : Int) := by omega
        obtain ⟨g1, o1, rfl, hc1⟩ := HPB.out.2 (by omega)
        have e1 := HB1.out.cell (p := ⟨g1, o1 + i, none⟩) (by rw [← HA.out]; exact block_lt_of_cell (hc1 i hlt)) |>.trans (hc1 i hlt)
        unfold Sc.byteV at e1
        have hu := ps[i].toNat_lt
        have hsl : i < s.p.length := by rw [← HSP.out]; exact hlt
        have hse : ps[i] = s.p[i] := by have h := HSP.out; clear hu e1 hc1; subst h; rfl
        have HSE := Lib.hid hse
        have hi0 : (0 : Int) ≤ (i : Int) := by omega
        clear hc1 hse
        by_cases hb : v2 ≤ (ps[i].toNat : Int)
        · have HC : Hid (Sc.chkE s = 250) := Sc.chk_pick s i hsl (by rw [← HSW.out, ← HSE.out]; exact hb)
          go_wp2_with fail
          go_quiet (fail)
          go_wp2
          go_ret
          exact ⟨by rw [HC.out]; rfl, by rw [HA.out]; exact below_drewN (below_drewN HB1.out _) _⟩
        · have HQ2 : Hid (∀ j, (hj : j < s.p.length) → j < i + 1 → (s.p[j].toNat : Int) < s.w) := by
            intro j hj hji
            by_cases e : j = i
            · subst e; rw [← HSE.out, ← HSW.out]; omega
            · exact HQ.out j hj (by omega)
          go_wp2_with fail
          go_quiet (fail)
          go_wp2
          exact ⟨⟨i + 1, _, by simp, by omega, rfl, HQ2⟩, by simp [intOf]; omega⟩
    have hlti : (k : Int) < 5 := by omega
    have hk0 : (0 : Int) ≤ (k : Int) := by omega
    obtain ⟨m0, m1, m2, m3⟩ := HN1.out k hlt
    rw [HSV.out] at m1
    obtain ⟨m, hm⟩ : ∃ m, s.v.getD k 0 = m := ⟨_, rfl⟩
    rw [hm] at m1
    obtain ⟨lo, hlo⟩ : ∃ lo, Sc.low k = lo := ⟨_, rfl⟩
    obtain ⟨hi, hhi⟩ : ∃ hi, Sc.top k = hi := ⟨_, rfl⟩
    rw [hlo] at m2
    rw [hhi] at m3
    have hmay : (decide (lo ≤ m) && decide (m ≤ hi)) = Sc.may k (s.v.getD k 0) := by rw [hm, ← hlo, ← hhi]; rfl
    have hmm := fun wq => may25_any (Sc.nmB k) m m lo hi wq
    rw [hmay] at hmm
    obtain ⟨f, hf⟩ : ∃ f, Sc.may k (s.v.getD k 0) = f := ⟨_, rfl⟩
    rw [hf] at hmm
    have HF := Lib.hid hf
    have HMK : Hid (∀ w', Below wr.heap.size wr w' → w'.cell? ⟨A + 2, k * 4, none⟩ = some (.string (Sc.nmB k)) ∧ w'.cell? ⟨A + 2, k * 4 + 1, none⟩ = some (.int .i64 m) ∧ w'.cell? ⟨A + 2, k * 4 + 2, none⟩ = some (.int .i64 lo) ∧ w'.cell? ⟨A + 2, k * 4 + 3, none⟩ = some (.int .i64 hi)) := by
      intro w' hb
      exact ⟨(hb.cell (block_lt_of_cell m0)).trans m0, (hb.cell (block_lt_of_cell m1)).trans m1, (hb.cell (block_lt_of_cell m2)).trans m2, (hb.cell (block_lt_of_cell m3)).trans m3⟩
    clear hmay hf hm hlo hhi
    go_wp2_with fail
    go_region_held3 (fun w' => w'.cell? ⟨A + 2, k * 4, none⟩ = some (.string (Sc.nmB k)) ∧ w'.cell? ⟨A + 2, k * 4 + 1, none⟩ = some (.int .i64 m) ∧ w'.cell? ⟨A + 2, k * 4 + 2, none⟩ = some (.int .i64 lo) ∧ w'.cell? ⟨A + 2, k * 4 + 3, none⟩ = some (.int .i64 hi)) (first | exact HMK.out _ ((Below.refl _ _).drew) | exact HMK.out _ (Bd.dr hb5))
      (first | (go_at_call 24; refine (hmm _).mono ?_; rintro e w5 ⟨rfl, hb5⟩))
    have hkk : Keep (fun _ => False) wr w5 := (Keep.refl _ _).below (Bd.dr hb5)
    have HL5 : Hid (A + 3 ≤ w5.heap.size) := Nat.le_trans HL.out hkk.size
    have HB5 : Hid (Below A w w5) := HB1.out.trans (hkk.to_below (fun j h => h.elim) (by have := HL.out; omega))
    have HS5 := Lib.hid (HS1.out.keep hkk (fun h => h))
    have HN5 := Lib.hid (HN1.out.keep hkk (fun h => h))
    clear hb5 hkk m0 m1 m2 m3 HMK hmm
    cases f
    · have HC : Hid (Sc.chkE s = 250) := Sc.chk_num s k hlt HF.out
      go_wp2
      go_ret
      exact ⟨by rw [HC.out]; rfl, by rw [HA.out]; exact HB5.out⟩
    · have HM5 : Hid (∀ j, j < k + 1 → Sc.may j (s.v.getD j 0) = true) := by
        intro j hj
        by_cases e : j = k
        · subst e; exact HF.out
        · exact HM.out j (by omega)
      go_wp2
      go_roundw
      case rel => exact ⟨k + 1, by go_num, by omega, HS5, HN5, HL5, HB5, HM5⟩
      case measure => simp [intOf]; omega
set_option maxRecDepth 100000 in
set_option maxHeartbeats 8000000 in
theorem Print25_any (v0 v1 v2 v3 v4 : Int) (pa : Option Addr) (pc : Nat) (ps : List UInt8) (x : ByteArray) (w : World) (hp : Sc.Bytes w pa ps.length ps) (hl : ps.length ≤ 1000000) (hx : x.size ≤ 1000000) :
    Calls Try.prog 13 #[.agg #[.int .i64 v0, .int .i64 v1, .int .i64 v2, .int .i64 v3, .int .i64 v4, .slice pa ps.length pc, .string x]] w (Sc.PrintPost ⟨v0, v1, v2, v3, v4, ps, x.data.toList⟩ w) := by
  have hC := fun wq (hq : Sc.Bytes wq pa ps.length ps) => Check25_any v0 v1 v2 v3 v4 pa pc ps x wq hq hl hx
  obtain ⟨s, hs⟩ : ∃ s : Sc.Scr, (⟨v0, v1, v2, v3, v4, ps, x.data.toList⟩ : Sc.Scr) = s := ⟨_, rfl⟩
  have HSV : Hid ([v0, v1, v2, v3, v4] = s.v) := by show _ = _; rw [← hs]; rfl
  have HSP : Hid (ps = s.p) := by show _ = _; rw [← hs]
  have HSX : Hid (x.data.toList = s.x) := by show _ = _; rw [← hs]
  rw [hs] at hC ⊢
  clear hs
  obtain ⟨A, hA⟩ : ∃ A, w.heap.size = A := ⟨_, rfl⟩
  obtain ⟨w1, hw1⟩ : ∃ w1, w.alloc (.cells #[.int .i64 v0, .int .i64 v1, .int .i64 v2, .int .i64 v3, .int .i64 v4, .slice pa ps.length pc, .string x] 25) = w1 := ⟨_, rfl⟩
  have z1 := Sc.seven_of w v0 v1 v2 v3 v4 (.slice pa ps.length pc) x 25
  rw [hw1, hA] at z1
  have hb1 : Below A w w1 := by rw [← hw1, ← hA]; exact (Below.refl _ _).alloc (Nat.le_refl _) _
  have hp1 : Sc.Bytes w1 pa ps.length ps := by rw [← hw1]; exact hp.keep ((Keep.refl (fun _ => False) w).alloc _) (fun _ _ h => h)
  have hsz1 : w1.heap.size = A + 1 := by rw [← hw1]; simp [hA]
  have f0 : w1.cell? ⟨A, 0, none⟩ = some (.int .i64 v0) := z1.n 0 (by omega)
  have f1 : w1.cell? ⟨A, 1, none⟩ = some (.int .i64 v1) := z1.n 1 (by omega)
  have f2 : w1.cell? ⟨A, 2, none⟩ = some (.int .i64 v2) := z1.n 2 (by omega)
  have f3 : w1.cell? ⟨A, 3, none⟩ = some (.int .i64 v3) := z1.n 3 (by omega)
  have f4 : w1.cell? ⟨A, 4, none⟩ = some (.int .i64 v4) := z1.n 4 (by omega)
  have f5 := z1.c5
  have f6 := z1.c6
  have hC1 := hC w1 hp1
  have HZ1 := Lib.hid z1
  have HB1 := Lib.hid hb1
  have HP := Lib.hid hp
  have HSZ1 := Lib.hid hsz1
  have HA := Lib.hid hA
  clear hC z1 hb1 hp hp1 hsz1
  rcases Sc.chk_two s with ⟨hce, hck⟩ | ⟨hce, hck⟩
  · rw [hce] at hC1
    have HCK := Lib.hid hck
    clear hce hck
    go_enter Try.func13, Try.ntmps13
    go_wp2_with fail
    refine hC1.mono ?_
    rintro e w2 ⟨rfl, hb2⟩
    have HB2 : Hid (Below w.heap.size w w2) := by show Below _ _ _; rw [HA.out]; exact HB1.out.trans (hb2.mono (by rw [HSZ1.out]; omega))
    clear hC1 hw1 hA f0 f1 f2 f3 f4 f5 f6 hb2
    go_wp2
    go_ret2
    exact .no HCK.out HB2.out
  rw [hce] at hC1
  have HCK := Lib.hid hck
  clear hce hck
  go_enter Try.func13, Try.ntmps13
  go_wp2_with fail
  refine hC1.mono ?_
  rintro e w2 ⟨rfl, hb2⟩
  clear hC1 hw1 hA f0 f1 f2 f3 f4 f5 f6
  obtain ⟨B, hB⟩ : ∃ B, w2.heap.size = B := ⟨_, rfl⟩
  have hAB : A < B := by have := hb2.size; rw [HSZ1.out, hB] at this; omega
  have hb3 : Below A w w2 := HB1.out.trans (hb2.mono (by rw [HSZ1.out]; omega))
  have hz2 : Sc.St w2 A [v0, v1, v2, v3, v4] (.slice pa ps.length pc) x := HZ1.out.keep ((Keep.refl (fun _ => False) _).below hb2) (fun h => h)
  have f0 : w2.cell? ⟨A, 0, none⟩ = some (.int .i64 v0) := hz2.n 0 (by omega)
  have f1 : w2.cell? ⟨A, 1, none⟩ = some (.int .i64 v1) := hz2.n 1 (by omega)
  have f2 : w2.cell? ⟨A, 2, none⟩ = some (.int .i64 v2) := hz2.n 2 (by omega)
  have f3 : w2.cell? ⟨A, 3, none⟩ = some (.int .i64 v3) := hz2.n 3 (by omega)
  have f4 : w2.cell? ⟨A, 4, none⟩ = some (.int .i64 v4) := hz2.n 4 (by omega)
  have f5 := hz2.c5
  have f6 := hz2.c6
  have hN := Numbers25_any v0 v1 v2 v3 v4 pa ps.length pc x w2
  rw [hB] at hN
  obtain ⟨wb, hwb⟩ : ∃ wb, w2.alloc (.cells #[.int .i64 v0, .int .i64 v1, .int .i64 v2, .int .i64 v3, .int .i64 v4, .slice pa ps.length pc, .string x] 25) = wb := ⟨_, rfl⟩
  have hszb : wb.heap.size = B + 1 := by rw [← hwb]; simp [hB]
  rw [hwb] at hN
  have zn := Sc.numsR_new wb v0 v1 v2 v3 v4
  rw [hszb] at zn
  obtain ⟨w4, hw4⟩ : ∃ w4, wb.alloc (Sc.numsRO v0 v1 v2 v3 v4) = w4 := ⟨_, rfl⟩
  rw [hw4] at zn hN
  have k2 : Keep (fun _ => False) w2 w4 := by rw [← hw4, ← hwb]; exact ((Keep.refl _ _).alloc _).alloc _
  have HB4 := Lib.hid (hb3.trans (k2.to_below (n := A) (fun _ h => h.elim) (by omega)))
  have HZ4 := Lib.hid (hz2.keep k2 (fun h => h))
  have HN4 := Lib.hid zn
  have HBB := Lib.hid hB
  have HSB : Hid (A ≤ w4.heap.size) := by have := k2.size; show _ ≤ _; omega
  clear hb2 hb3 zn k2 hw4 hz2 hszb hwb hB
  go_wp2_with fail
  refine hN.mono ?_
  rintro e w5 ⟨rfl, rfl⟩
  clear hN f0 f1 f2 f3 f4 f5 f6
  have HM : Hid (∀ j, j < 5 → Sc.may j (s.v.getD j 0) = true) := fun j hj => by
    have := (Sc.mayAll_iff s.v 0).1 (Sc.check_parts s HCK.out).1 j hj
    rwa [Nat.zero_add] at this
  have hpl : ps.length ≤ 400 := by rw [HSP.out]; exact (Sc.check_parts s HCK.out).2.1
  have hxl : x.size ≤ 16384 := by
    have := (Sc.check_parts s HCK.out).2.2.1
    rw [← HSX.out, Fx.size_toList] at this
    exact this
  go_wp2_with fail
  go_loopw [4, 6] (fun vo vk wr => ∃ (k : Nat) (o : ByteArray), vo = .string o ∧ vk = .int .i64 k ∧ k ≤ 5 ∧ o.size ≤ 100 * k ∧ Hid (o.data.toList = Sc.numsT 0 (s.v.take k)) ∧ Hid (Sc.St wr A [v0, v1, v2, v3, v4] (.slice pa ps.length pc) x) ∧ Hid (Sc.NumsR wr (B + 1) [v0, v1, v2, v3, v4]) ∧ Hid (Below A w wr) ∧ Hid (A ≤ wr.heap.size)) (fun _ vk _ => 5 - (intOf vk).toNat)
  case atStart => exact ⟨0, ⟨#[]⟩, rfl, rfl, by omega, Nat.le_refl 0, rfl, HZ4, HN4, HB4, HSB⟩
  case round =>
    obtain ⟨k, o, rfl, rfl, hk, hol, HT, HZ, HN, HBW, HSA⟩ := hrel
    by_cases hlt : k < 5
    case pos =>
      have hlti : (k : Int) < 5 := by omega
      have hk0 : (0 : Int) ≤ (k : Int) := by omega
      obtain ⟨m0, m1, m2, m3⟩ := HN.out k hlt
      rw [HSV.out] at m1
      have hmm := HM.out k hlt
      obtain ⟨g0, g1⟩ := Sc.may_bd k _ hmm
      obtain ⟨m, hm⟩ : ∃ m : Nat, s.v.getD k 0 = (m : Int) := ⟨(s.v.getD k 0).toNat, by omega⟩
      rw [hm] at m1 g0 g1
      obtain ⟨P, hP⟩ : ∃ P : ByteArray, Sc.nmB k ++ ⟨#[32]⟩ = P := ⟨_, rfl⟩
      obtain ⟨D, hD⟩ : ∃ D : ByteArray, (⟨(Fx.digF 20 m).toArray⟩ : ByteArray) = D := ⟨_, rfl⟩
      obtain ⟨PD, hPD⟩ : ∃ PD : ByteArray, P ++ D = PD := ⟨_, rfl⟩
      obtain ⟨F, hF⟩ : ∃ F : ByteArray, PD ++ ⟨#[10]⟩ = F := ⟨_, rfl⟩
      obtain ⟨O, hO⟩ : ∃ O : ByteArray, o ++ F = O := ⟨_, rfl⟩
      have hdd : Sc.dec (m : Int) = Fx.digF 20 m := Sc.textL_nat m
      have hFl : F.data.toList = Sc.numLine k m := by
        rw [← hF, ← hPD, ← hP, ← hD]; simp [Sc.nmB, Sc.numLine, hdd]
      have s0 := Sc.nmB_size k
      have s1 : P.size = (Sc.nmB k).size + 1 := by rw [← hP]; simp [ByteArray.size_append]; rfl
      have s2 : D.size ≤ 21 := by rw [← hD, ← Fx.size_toList]; show (Fx.digF 20 m).length ≤ 21; rw [← hdd]; exact Sc.dec_len m (by omega)
      have s3 : PD.size = P.size + D.size := by rw [← hPD]; simp [ByteArray.size_append]
      have s4 : F.size = PD.size + 1 := by rw [← hF]; simp [ByteArray.size_append]; rfl
      have s5 : O.size = o.size + F.size := by rw [← hO]; simp [ByteArray.size_append]
      have hFs : F.size ≤ 33 := by omega
      have b1 : ¬ 9223372036854775807 < (Sc.nmB k).size + 1 := by omega
      have b2 : ¬ 9223372036854775807 < P.size + D.size := by omega
      have b3 : ¬ 9223372036854775807 < PD.size + 1 := by omega
      have b4 : ¬ 9223372036854775807 < o.size + F.size := by omega
      have hOs : O.size ≤ 100 * (k + 1) := by omega
      have HT6 : Hid (O.data.toList = Sc.numsT 0 (s.v.take (k + 1))) := by
        show _ = _
        rw [Sc.numsT_take s.v k hlt, hm, ← hFl, ← HT.out, ← hO]; simp
      have hdg := fun wq => digits25_any 20 (Nat.le_refl _) m wq (Nat.lt_of_le_of_lt (show m ≤ 65536 by omega) (by decide)) (by omega)
      rw [hD] at hdg
      have HMK : Hid (∀ w', Below wr.heap.size wr w' → w'.cell? ⟨B + 1, k * 4, none⟩ = some (.string (Sc.nmB k)) ∧ w'.cell? ⟨B + 1, k * 4 + 1, none⟩ = some (.int .i64 (m : Int))) := by
        intro w' hb
        exact ⟨(hb.cell (block_lt_of_cell m0)).trans m0, (hb.cell (block_lt_of_cell m1)).trans m1⟩
      clear hm hmm hdd hFl s1 s3 s4 s5 m2 m3
      go_wp2_with fail
      go_region_held3 (fun w' => w'.cell? ⟨B + 1, k * 4, none⟩ = some (.string (Sc.nmB k)) ∧ w'.cell? ⟨B + 1, k * 4 + 1, none⟩ = some (.int .i64 (m : Int))) (first | exact HMK.out _ ((Below.refl _ _).drew) | exact HMK.out _ (Bd.dr hb5))
        (first | (go_at_call 30; refine (hdg _).mono ?_; rintro e w5 ⟨rfl, hb5⟩))
      have hkk : Keep (fun _ => False) wr w5 := (Keep.refl _ _).below (Bd.dr hb5)
      have HS5 : Hid (A ≤ w5.heap.size) := Nat.le_trans HSA.out hkk.size
      have HB5 : Hid (Below A w w5) := HBW.out.trans (hkk.to_below (fun j h => h.elim) HSA.out)
      have HZ5 := Lib.hid (HZ.out.keep hkk (fun h => h))
      have HN5 := Lib.hid (HN.out.keep hkk (fun h => h))
      clear hb5 hkk m0 m1 HMK hdg
      go_wp2
      go_roundw
      case rel => exact ⟨k + 1, O, rfl, by go_num, by omega, hOs, HT6, HZ5, HN5, HB5, HS5⟩
      case measure => simp [intOf]; omega
    obtain rfl : k = 5 := by omega
    have hge : ¬ ((5 : Nat) : Int) < 5 := by omega
    have HT5 : Hid (o.data.toList = Sc.numsT 0 s.v) := by show _ = _; rw [HT.out]; rfl
    have c5 := HZ.out.c5
    have c6 := HZ.out.c6
    clear HT HN
    by_cases hps : ps = []
    case pos =>
      have hp0 : (ps.length : Int) = 0 := by rw [hps]; rfl
      have hp0' : ¬ (0 : Int) < (ps.length : Int) := by omega
      have HPT : Hid (Sc.picksT s.p = []) := by show _ = _; rw [← HSP.out, hps]; rfl
      have HPS := Lib.hid hps
      clear hps hp0
      obtain ⟨Y, hY⟩ : ∃ Y : ByteArray, (⟨#[112, 114, 111, 103, 114, 97, 109, 10]⟩ : ByteArray) ++ x = Y := ⟨_, rfl⟩
      obtain ⟨Z, hZ⟩ : ∃ Z : ByteArray, o ++ Y = Z := ⟨_, rfl⟩
      have hYs : Y.size = 8 + x.size := by rw [← hY]; simp [ByteArray.size_append]; rfl
      have hZs : Z.size = o.size + Y.size := by rw [← hZ]; simp [ByteArray.size_append]
      have b7 : ¬ 9223372036854775807 < 8 + x.size := by omega
      have b8 : ¬ 9223372036854775807 < o.size + Y.size := by omega
      have hZl : Z.size ≤ 1000000 := by omega
      have hb : Sc.body s = Z.data.toList := by
        rw [← hZ, ← hY]
        unfold Sc.body
        rw [HPT.out, HSX.out.symm]; simp [Sc.program, HT5.out]
      have hbl : (Sc.body s).length = Z.size := by rw [hb, Fx.size_toList]
      have HBL := Lib.hid hb
      have HBLL := Lib.hid hbl
      clear hYs hZs hb hbl
      by_cases hbig : 20000 < Z.size
      · have hbigi : (20000 : Int) < (Z.size : Int) := by omega
        go_wp2
        go_ret2
        exact .long HCK.out (by rw [HBLL.out]; exact hbig) (by rw [HA.out]; exact HBW.out)
      · have hbigi : ¬ (20000 : Int) < (Z.size : Int) := by omega
        go_wp2
        go_ret2
        have := Sc.PrintPost.yes HCK.out (by rw [HBLL.out]; exact hbig) HBL.out (show Below w.heap.size w wr by rw [HA.out]; exact HBW.out)
        rw [Sc.mk_list] at this
        exact this
    have hp1 : 0 < ps.length := by
      rcases Nat.eq_zero_or_pos ps.length with h | h
      · exact absurd (List.length_eq_zero_iff.1 h) hps
      · exact h
    have hp1i : (0 : Int) < (ps.length : Int) := by omega
    obtain ⟨o5, ho5⟩ : ∃ o5 : ByteArray, o ++ ⟨#[112, 105, 99, 107, 115]⟩ = o5 := ⟨_, rfl⟩
    have hs5 : o5.size = o.size + 5 := by rw [← ho5]; simp [ByteArray.size_append]; rfl
    have ht5 : o5.data.toList = o.data.toList ++ Sc.picks5 := by rw [← ho5]; simp; rfl
    have HT55 := Lib.hid ht5
    have b5 : ¬ 9223372036854775807 < o.size + 5 := by omega
    have hs5' : o5.size ≤ 600 := by omega
    clear hps hs5 ht5
    obtain ⟨w7, rfl⟩ : ∃ w7, w7 = wr := ⟨_, rfl⟩
    go_wp2_with fail
    go_loopw [4, 7] (fun vo vi wq => ∃ (i : Nat) (o2 : ByteArray), vo = .string o2 ∧ vi = .int .i64 i ∧ i ≤ ps.length ∧ o2.size ≤ 600 + 30 * i ∧ Hid (o2.data.toList = o.data.toList ++ Sc.picks5 ++ Sc.pickText (ps.take i)) ∧ Hid (Sc.St wq A [v0, v1, v2, v3, v4] (.slice pa ps.length pc) x) ∧ Hid (Below A w wq) ∧ Hid (A ≤ wq.heap.size)) (fun _ vi _ => ps.length - (intOf vi).toNat)
    case atStart => exact ⟨0, o5, rfl, rfl, by omega, by omega, by show _ = _; rw [HT55.out]; simp [Sc.pickText], HZ, HBW, HSA⟩
    case round =>
      obtain ⟨i, o2, rfl, rfl, hi, hl2, HT2, HZ2, HB2, HA2⟩ := hrel
      have d5 := HZ2.out.c5
      have d6 := HZ2.out.c6
      clear c5 c6
      by_cases hlt : i < ps.length
      case pos =>
        have hlti : (i : Int) < (ps.length : Int) := by omega
        have hi0 : (0 : Int) ≤ (i : Int) := by omega
        obtain ⟨g1, o1, rfl, hc1⟩ := HP.out.2 (by omega)
        have e1 := HB2.out.cell (p := ⟨g1, o1 + i, none⟩) (by rw [← HA.out]; exact block_lt_of_cell (hc1 i hlt)) |>.trans (hc1 i hlt)
        unfold Sc.byteV at e1
        have hu := ps[i].toNat_lt
        obtain ⟨u, hu2⟩ : ∃ u : Nat, ps[i].toNat = u := ⟨_, rfl⟩
        have HU := Lib.hid hu2
        rw [hu2] at e1 hu
        obtain ⟨D, hD⟩ : ∃ D : ByteArray, (⟨(Fx.digF 20 u).toArray⟩ : ByteArray) = D := ⟨_, rfl⟩
        obtain ⟨F, hF⟩ : ∃ F : ByteArray, (⟨#[32]⟩ : ByteArray) ++ D = F := ⟨_, rfl⟩
        obtain ⟨O, hO⟩ : ∃ O : ByteArray, o2 ++ F = O := ⟨_, rfl⟩
        have hdd : Sc.dec (u : Int) = Fx.digF 20 u := Sc.textL_nat u
        have s2 : D.size ≤ 21 := by rw [← hD, ← Fx.size_toList]; show (Fx.digF 20 u).length ≤ 21; rw [← hdd]; exact Sc.dec_len u (by omega)
        have s4 : F.size = 1 + D.size := by rw [← hF]; simp [ByteArray.size_append]; rfl
        have s5 : O.size = o2.size + F.size := by rw [← hO]; simp [ByteArray.size_append]
        have hOs : O.size ≤ 600 + 30 * (i + 1) := by omega
        have b2 : ¬ 9223372036854775807 < 1 + D.size := by omega
        have b3 : ¬ 9223372036854775807 < o2.size + F.size := by omega
        have HT7 : Hid (O.data.toList = o.data.toList ++ Sc.picks5 ++ Sc.pickText (ps.take (i + 1))) := by
          show _ = _
          rw [Sc.pickText_take ps i hlt, hu2, hdd, ← hO, ← hF, ← hD]
          simp [HT2.out]
        have hdg := digits25_any 20 (Nat.le_refl _) u wr (Nat.lt_of_le_of_lt (show u ≤ 65536 by omega) (by decide)) (by omega)
        rw [hD] at hdg
        clear hc1 hu2 s4 s5 hge hp1i hdd
        go_wp2_with fail
        refine hdg.mono ?_
        rintro e w6 ⟨rfl, hb6⟩
        have hkk : Keep (fun _ => False) wr w6 := (Keep.refl _ _).below hb6
        have HA6 : Hid (A ≤ w6.heap.size) := Nat.le_trans HA2.out hkk.size
        have HB6 : Hid (Below A w w6) := HB2.out.trans (hkk.to_below (fun j h => h.elim) HA2.out)
        have HZ6 := Lib.hid (HZ2.out.keep hkk (fun h => h))
        clear hdg hb6 hkk e1 d5 d6
        go_wp2
        go_roundw
        case rel => exact ⟨i + 1, O, rfl, by go_num, by omega, hOs, HT7, HZ6, HB6, HA6⟩
        case measure => simp [intOf]; omega
      have hge2 : ¬ (i : Int) < (ps.length : Int) := by omega
      obtain rfl : i = ps.length := by omega
      obtain ⟨o6, ho6⟩ : ∃ o6 : ByteArray, o2 ++ ⟨#[10]⟩ = o6 := ⟨_, rfl⟩
      have hs6 : o6.size = o2.size + 1 := by rw [← ho6]; simp [ByteArray.size_append]; rfl
      have HT3 : Hid (o6.data.toList = o.data.toList ++ Sc.picksT s.p) := by
        show _ = _
        rw [← ho6, HSP.out.symm]
        unfold Sc.picksT
        rw [if_neg (by intro h; rw [h] at hp1; simp at hp1)]
        have := HT2.out
        rw [List.take_of_length_le (Nat.le_refl _)] at this
        simp [this]
      have b6 : ¬ 9223372036854775807 < o2.size + 1 := by omega
      have hol6 : o6.size ≤ 600 + 30 * 400 + 1 := by omega
      clear hs6
      obtain ⟨Y, hY⟩ : ∃ Y : ByteArray, (⟨#[112, 114, 111, 103, 114, 97, 109, 10]⟩ : ByteArray) ++ x = Y := ⟨_, rfl⟩
      obtain ⟨Z, hZ⟩ : ∃ Z : ByteArray, o6 ++ Y = Z := ⟨_, rfl⟩
      have hYs : Y.size = 8 + x.size := by rw [← hY]; simp [ByteArray.size_append]; rfl
      have hZs : Z.size = o6.size + Y.size := by rw [← hZ]; simp [ByteArray.size_append]
      have b7 : ¬ 9223372036854775807 < 8 + x.size := by omega
      have b8 : ¬ 9223372036854775807 < o6.size + Y.size := by omega
      have hZl : Z.size ≤ 1000000 := by omega
      have hb : Sc.body s = Z.data.toList := by
        rw [← hZ, ← hY]
        unfold Sc.body
        have h := HT3.out; rw [HT5.out] at h; simp [Sc.program, h, HSX.out]
      have hbl : (Sc.body s).length = Z.size := by rw [hb, Fx.size_toList]
      have HBL := Lib.hid hb
      have HBLL := Lib.hid hbl
      clear hYs hZs hb hbl
      by_cases hbig : 20000 < Z.size
      · have hbigi : (20000 : Int) < (Z.size : Int) := by omega
        go_wp2
        go_ret2
        exact .long HCK.out (by rw [HBLL.out]; exact hbig) (by rw [HA.out]; exact HB2.out)
      · have hbigi : ¬ (20000 : Int) < (Z.size : Int) := by omega
        go_wp2
        go_ret2
        have := Sc.PrintPost.yes HCK.out (by rw [HBLL.out]; exact hbig) HBL.out (show Below w.heap.size w wr by rw [HA.out]; exact HB2.out)
        rw [Sc.mk_list] at this
        exact this
end Go.Proofs.Ytbaendhagojadaa
