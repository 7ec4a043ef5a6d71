/-
  The walk of script.Check: which scripts may be.
-/
import Derived.Test.YtbaendhagojadaaScPrintP
import Derived.Test.YtbaendhagojadaaScSame
namespace Go.Proofs.Ytbaendhagojadaa
open Go.RowKit Go.Sort
namespace Sc
def chkE (s : Scr) : Int := if check s = true then 0 else 250
theorem mayAll_iff : ∀ (l : List Int) (k : Nat), mayAll k l = true ↔ ∀ j, j < l.length → may (k + j) (l.getD j 0) = true := by
  intro l
  induction l with
  | nil => intro k; simp [mayAll]
  | cons n l ih =>
    intro k
    rw [mayAll, Bool.and_eq_true, ih (k + 1)]
    constructor
    · rintro ⟨h1, h2⟩ j hj
      cases j with
      | zero => simpa using h1
      | succ j =>
        have := h2 j (by simp at hj; omega)
        rw [show k + (j + 1) = k + 1 + j by omega]
        simpa using this
    · intro h
      refine ⟨by simpa using h 0 (by simp), fun j hj => ?_⟩
      have := h (j + 1) (by simp; omega)
      rw [show k + 1 + j = k + (j + 1) by omega]
      simpa using this
theorem chk_no (s : Scr) (h : ¬ check s = true) : chkE s = 250 := by unfold chkE; rw [if_neg h]
theorem chk_yes (s : Scr) (h : check s = true) : chkE s = 0 := by unfold chkE; rw [if_pos h]
theorem chk_num (s : Scr) (k : Nat) (hk : k < 5) (h : may k (s.v.getD k 0) = false) : chkE s = 250 := by
  refine chk_no s (fun hc => ?_)
  have := (mayAll_iff s.v 0).1 (check_parts s hc).1 k hk
  rw [Nat.zero_add, h] at this
  cases this
theorem chk_len (s : Scr) (h : 400 < s.p.length ∨ 16384 < s.x.length) : chkE s = 250 := by
  refine chk_no s (fun hc => ?_)
  obtain ⟨_, h2, h3, _⟩ := check_parts s hc
  omega
theorem chk_pick (s : Scr) (k : Nat) (hk : k < s.p.length) (h : s.w ≤ (s.p[k].toNat : Int)) : chkE s = 250 := by
  refine chk_no s (fun hc => ?_)
  have h4 := (check_parts s hc).2.2.2
  unfold allB at h4
  rw [List.all_eq_true] at h4
  have := h4 s.p[k] (List.getElem_mem hk)
  simp at this
  omega
theorem chk_ok (s : Scr) (h1 : ∀ j, j < 5 → may j (s.v.getD j 0) = true) (h2 : s.p.length ≤ 400) (h3 : s.x.length ≤ 16384) (h4 : ∀ j, (hj : j < s.p.length) → (s.p[j].toNat : Int) < s.w) : chkE s = 0 := by
  refine chk_yes s (check_mk s ⟨(mayAll_iff s.v 0).2 (fun j hj => by rw [Nat.zero_add]; exact h1 j hj), h2, h3, ?_⟩)
  unfold allB
  rw [List.all_eq_true]
  intro b hb
  obtain ⟨j, hj, rfl⟩ := List.getElem_of_mem hb
  exact decide_eq_true (h4 j hj)
end Sc
set_option maxRecDepth 100000 in
set_option maxHeartbeats 4000000 in
theorem Check_any (v0 v1 v2 v3 v4 : Int) (pa : Option Addr) (pc : Nat) (ps : List UInt8) (x : ByteArray) (w : World) (hp : Sc.Bytes w pa ps.length ps) (hl : ps.length ≤ 1000000) (hx : x.size ≤ 1000000) :
    Calls Try.prog 14 #[.agg #[.int .i64 v0, .int .i64 v1, .int .i64 v2, .int .i64 v3, .int .i64 v4, .slice pa ps.length pc, .string x]] w fun e w' => e = .returned (.int .i64 (Sc.chkE ⟨v0, v1, v2, v3, v4, ps, x.data.toList⟩)) ∧ Below w.heap.size w w' := by
  obtain ⟨s, hs⟩ : ∃ s : Sc.Scr, (⟨v0, v1, v2, v3, v4, ps, x.data.toList⟩ : Sc.Scr) = s := ⟨_, rfl⟩
  have HSV : Hid ([v0, v1, v2, v3, v4] = s.v) := by show _ = _; rw [← hs]; rfl
  have HSP : Hid (ps = s.p) := by show _ = _; rw [← hs]
  have HSX : Hid (x.data.toList = s.x) := by show _ = _; rw [← hs]
  have HSW : Hid (v2 = s.w) := by show _ = _; rw [← hs]
  rw [hs]
  clear hs
  obtain ⟨A, hA⟩ : ∃ A, w.heap.size = A := ⟨_, rfl⟩
  obtain ⟨w1, hw1⟩ : ∃ w1, w.alloc (.cells #[.int .i64 v0, .int .i64 v1, .int .i64 v2, .int .i64 v3, .int .i64 v4, .slice pa ps.length pc, .string x] 25) = w1 := ⟨_, rfl⟩
  have z1 := Sc.seven_of w v0 v1 v2 v3 v4 (.slice pa ps.length pc) x 25
  rw [hw1, hA] at z1
  have hb1 : Below A w w1 := by rw [← hw1, ← hA]; exact (Below.refl _ _).alloc (Nat.le_refl _) _
  have hsz1 : w1.heap.size = A + 1 := by rw [← hw1]; simp [hA]
  have hN := numbers_any A w1
  rw [hsz1] at hN
  have zn := Sc.nums_new w1 A
  rw [hsz1] at zn
  have k2 : Keep (fun _ => False) w1 (w1.alloc (Sc.numsO A)).drew := ((Keep.refl _ _).alloc _).below ((Below.refl _ _).drew)
  obtain ⟨w2, hw2⟩ : ∃ w2, (w1.alloc (Sc.numsO A)).drew = w2 := ⟨_, rfl⟩
  have zB : Sc.Nums w2 (A + 1) A := by rw [← hw2]; exact zn
  rw [hw2] at k2 hN
  have hsz2 : w2.heap.size = A + 2 := by rw [← hw2]; show (w1.alloc (Sc.numsO A)).heap.size = _; simp [hsz1]
  have HB2 := Lib.hid (hb1.trans (k2.to_below (n := A) (fun _ h => h.elim) (by omega)))
  have HS0 := Lib.hid (z1.keep k2 (fun h => h))
  have HN0 := Lib.hid zB
  have HSZ2 := Lib.hid hsz2
  have HPB := Lib.hid hp
  have HA := Lib.hid hA
  clear z1 hb1 hsz1 zn k2 hw2 zB hsz2 hp
  go_enter Try.func14, Try.ntmps14
  go_wp2_with fail
  refine hN.mono ?_
  rintro e w3 ⟨rfl, rfl⟩
  clear hw1 hN hA
  go_wp2_with fail
  go_loopw [9] (fun vk wr => ∃ k : Nat, vk = .int .i64 k ∧ k ≤ 5 ∧ Hid (Sc.St wr A [v0, v1, v2, v3, v4] (.slice pa ps.length pc) x) ∧ Hid (Sc.Nums wr (A + 1) A) ∧ Hid (A + 2 ≤ wr.heap.size) ∧ Hid (Below A w wr) ∧ Hid (∀ j, j < k → Sc.may j (s.v.getD j 0) = true)) (fun vk _ => 5 - (intOf vk).toNat)
  case atStart => exact ⟨0, rfl, by omega, HS0, HN0, Nat.le_of_eq HSZ2.out.symm, HB2, fun j hj => absurd hj (by omega)⟩
  case round =>
    obtain ⟨k, rfl, hk, HS1, HN1, HL, HB1, HM⟩ := hrel
    by_cases hlt : k < 5
    case neg =>
      obtain rfl : k = 5 := by omega
      have hge : ¬ ((5 : Nat) : Int) < 5 := by omega
      have c5 := HS1.out.c5
      have c6 := HS1.out.c6
      have c2 : wr.cell? ⟨A, 2, none⟩ = some (.int .i64 v2) := HS1.out.n 2 (by omega)
      by_cases h1 : 400 < ps.length
      · have h1i : (400 : Int) < (ps.length : Int) := by omega
        have HC : Hid (Sc.chkE s = 250) := Sc.chk_len s (.inl (by rw [← HSP.out]; exact h1))
        go_wp2
        go_ret
        exact ⟨by rw [HC.out]; rfl, by rw [HA.out]; exact HB1.out⟩
      have h1i : ¬ (400 : Int) < (ps.length : Int) := by omega
      have h1d : decide ((400 : Int) < (ps.length : Int)) = false := decide_eq_false h1i
      by_cases h2 : 16384 < x.size
      · have h2i : (16384 : Int) < (x.size : Int) := by omega
        have HC : Hid (Sc.chkE s = 250) := Sc.chk_len s (.inr (by rw [← HSX.out, Fx.size_toList]; exact h2))
        go_wp2
        go_ret
        exact ⟨by rw [HC.out]; rfl, by rw [HA.out]; exact HB1.out⟩
      have h2i : ¬ (16384 : Int) < (x.size : Int) := by omega
      go_wp2_with fail
      go_loop [30] (fun vi => ∃ i : Nat, vi = .int .i64 i ∧ i ≤ ps.length ∧ Hid (∀ j, (hj : j < s.p.length) → j < i → (s.p[j].toNat : Int) < s.w)) (fun vi => ps.length - (intOf vi).toNat)
      case atStart => exact ⟨0, rfl, by omega, fun j _ hj => absurd hj (by omega)⟩
      case round =>
        obtain ⟨i, rfl, hi, HQ⟩ := hrel
        by_cases hlt : i < ps.length
        case neg =>
          have hge2 : ¬ (i : Int) < (ps.length : Int) := by omega
          have HC : Hid (Sc.chkE s = 0) := Sc.chk_ok s HM.out (by rw [← HSP.out]; omega) (by rw [← HSX.out, Fx.size_toList]; omega) (fun j hj => HQ.out j hj (by have := congrArg List.length HSP.out; omega))
          go_wp2
          go_ret
          exact ⟨by rw [HC.out]; rfl, by rw [HA.out]; exact HB1.out⟩
        have hlti : (i : Int) < (ps.length : Int) := by omega
        obtain ⟨g1, o1, rfl, hc1⟩ := HPB.out.2 (by omega)
        have e1 := HB1.out.cell (p := ⟨g1, o1 + i, none⟩) (by rw [← HA.out]; exact block_lt_of_cell (hc1 i hlt)) |>.trans (hc1 i hlt)
        unfold Sc.byteV at e1
        have hu := ps[i].toNat_lt
        have hsl : i < s.p.length := by rw [← HSP.out]; exact hlt
        have hse : ps[i] = s.p[i] := by have h := HSP.out; clear hu e1 hc1; subst h; rfl
        have HSE := Lib.hid hse
        clear hc1 hse
        by_cases hb : v2 ≤ (ps[i].toNat : Int)
        · have HC : Hid (Sc.chkE s = 250) := Sc.chk_pick s i hsl (by rw [← HSW.out, ← HSE.out]; exact hb)
          go_wp2
          go_ret
          exact ⟨by rw [HC.out]; rfl, by rw [HA.out]; exact HB1.out⟩
        · have HQ2 : Hid (∀ j, (hj : j < s.p.length) → j < i + 1 → (s.p[j].toNat : Int) < s.w) := by
            intro j hj hji
            by_cases e : j = i
            · subst e; rw [← HSE.out, ← HSW.out]; omega
            · exact HQ.out j hj (by omega)
          go_wp2
          go_round
          case rel => exact ⟨i + 1, by go_num, by omega, HQ2⟩
          case measure => simp [intOf]; omega
    have hlti : (k : Int) < 5 := by omega
    obtain ⟨m0, m1, m2, m3⟩ := HN1.out k hlt
    have hn := HS1.out.n k hlt
    rw [HSV.out] at hn
    have hmay : (decide (Sc.low k ≤ s.v.getD k 0) && decide (s.v.getD k 0 ≤ Sc.top k)) = Sc.may k (s.v.getD k 0) := rfl
    have hm := fun wq (h : wq.cell? ⟨A, k, none⟩ = some (.int .i64 (s.v.getD k 0))) => may_any (Sc.nmB k) A k (s.v.getD k 0) (Sc.low k) (Sc.top k) wq h
    rw [hmay] at hm
    obtain ⟨f, hf⟩ : ∃ f, Sc.may k (s.v.getD k 0) = f := ⟨_, rfl⟩
    rw [hf] at hm
    have ka : Keep (fun _ => False) wr (wr.alloc (.cells #[.string (Sc.nmB k), .pointer (some ⟨A, k, none⟩), .int .i64 (Sc.low k), .int .i64 (Sc.top k)] 44)) := (Keep.refl _ _).alloc _
    have HF := Lib.hid hf
    have HM' := Lib.hid (hm _ ((ka.cell k (by have := HL.out; omega) (fun h => h)).trans hn))
    have HK := Lib.hid ka
    clear hmay hm hf ka hn
    go_wp2_with fail
    refine HM'.out.mono ?_
    rintro e w5 ⟨rfl, hb5⟩
    have hkk := HK.out.below hb5
    have HL5 : Hid (A + 2 ≤ w5.heap.size) := Nat.le_trans HL.out hkk.size
    have HB5 : Hid (Below A w w5) := HB1.out.trans (hkk.to_below (fun j h => h.elim) (by have := HL.out; omega))
    have HS5 := Lib.hid (HS1.out.keep hkk (fun h => h))
    have HN5 := Lib.hid (HN1.out.keep hkk (fun h => h) (by have := HL.out; omega))
    clear hb5 hkk m0 m1 m2 m3
    cases f
    · have HC : Hid (Sc.chkE s = 250) := Sc.chk_num s k hlt HF.out
      go_wp2
      go_ret
      exact ⟨by rw [HC.out]; rfl, by rw [HA.out]; exact HB5.out⟩
    · have HM5 : Hid (∀ j, j < k + 1 → Sc.may j (s.v.getD j 0) = true) := by
        intro j hj
        by_cases e : j = k
        · subst e; exact HF.out
        · exact HM.out j (by omega)
      go_wp2
      go_roundw
      case rel => exact ⟨k + 1, by go_num, by omega, HS5, HN5, HL5, HB5, HM5⟩
      case measure => simp [intOf]; omega
end Go.Proofs.Ytbaendhagojadaa
