/-
  The walks of both Sames, and of small.
-/
import Derived.Test.YtbaendhagojadaaScRefPrint
namespace Go.Proofs.Ytbaendhagojadaa
open Go.RowKit Go.Sort
namespace Sc
def SameP (a b : Scr) : Prop := a.c = b.c ∧ a.s = b.s ∧ a.w = b.w ∧ a.q = b.q ∧ a.t = b.t ∧ a.x = b.x ∧ a.p = b.p
instance (a b : Scr) : Decidable (SameP a b) := by unfold SameP; exact inferInstance
def sameB (a b : Scr) : Bool := decide (SameP a b)
theorem same_yes {a b : Scr} (h : SameP a b) : sameB a b = true := decide_eq_true h
theorem same_no {a b : Scr} (h : ¬ SameP a b) : sameB a b = false := decide_eq_false h
theorem same_refl (a : Scr) : sameB a a = true := same_yes ⟨rfl, rfl, rfl, rfl, rfl, rfl, rfl⟩
theorem bytes_eq (x y : ByteArray) : (x.toList == y.toList) = decide (x.data.toList = y.data.toList) := by
  rw [ByteArray.toList_eq, ByteArray.toList_eq]
  by_cases h : x.data.toList = y.data.toList
  · rw [decide_eq_true h, h]; simp
  · rw [decide_eq_false h]; simpa using h
theorem Bytes.conv {w : World} {a : Option Addr} {ps : List UInt8} (h : Bytes w a ps.length ps) (c : Nat) : (convert 23 9 (.slice a ps.length c)).run Try.prog w = .ok (.string ⟨ps.toArray⟩) w := by
  rcases Nat.eq_zero_or_pos ps.length with h0 | h0
  · obtain rfl : ps = [] := List.length_eq_zero_iff.1 h0
    cases a with
    | none =>
      rw [run_convert_bytes_nil (P := Try.prog) w 23 5 Try.underlying23 Try.underlying5 _ c 9 Try.underlying9]
      rfl
    | some A =>
      have hl : (loadCells A 0).run Try.prog w = .ok #[] w := run_loadCells_list (P := Try.prog) w A [] (fun j v hj => by simp at hj)
      rw [show ([] : List UInt8).length = 0 from rfl, run_convert_bytes_string w 23 9 5 _ 0 c Try.underlying23 Try.underlying5 Try.underlying9, run_bytesToString w _ 0 c [] hl]
      rfl
  · obtain ⟨g, o, rfl, hc⟩ := h.2 h0
    have hr := run_convert_bytes_arg (P := Try.prog) w 23 5 Try.underlying23 Try.underlying5 g o ps.length c (ps.map fun c => (c.toNat : Int)) (by simp) (fun i hi => by
      rw [hc i hi]
      simp [byteV, List.getD, List.getElem?_eq_getElem hi]) 9 Try.underlying9
    rw [hr]
    congr 2
    unfold strOfNums
    congr 1
    apply Array.ext'
    have hm : ∀ l : List UInt8, List.map ((fun n : Int => UInt8.ofNat n.toNat) ∘ fun c : UInt8 => (c.toNat : Int)) l = l := by
      intro l
      induction l with
      | nil => rfl
      | cons b l ih => rw [List.map_cons, ih]; simp
    simp [hm]
end Sc
set_option maxRecDepth 100000 in
theorem small_any (v0 v1 v2 v3 v4 : Int) (a : Option Addr) (c n : Nat) (x : ByteArray) (w : World) (f : Bool) (hf : (decide (n ≤ 2000) && decide (x.size ≤ 40000)) = f) :
    Calls Try.prog 11 #[.agg #[.int .i64 v0, .int .i64 v1, .int .i64 v2, .int .i64 v3, .int .i64 v4, .slice a n c, .string x]] w fun e w' => e = .returned (.bool f) ∧ Below w.heap.size w w' := by
  by_cases h1 : n ≤ 2000
  · have h1i : decide ((n : Int) ≤ 2000) = true := decide_eq_true (by omega)
    by_cases h2 : x.size ≤ 40000
    · have h2i : decide ((x.size : Int) ≤ 40000) = true := decide_eq_true (by omega)
      obtain rfl : f = true := by rw [← hf, decide_eq_true h1, decide_eq_true h2]; rfl
      clear hf
      go_enter Try.func11, Try.ntmps11
      go_wp2
      go_ret
      exact ⟨rfl, (Below.refl _ _).alloc (Nat.le_refl _) _⟩
    · have h2i : decide ((x.size : Int) ≤ 40000) = false := decide_eq_false (by omega)
      obtain rfl : f = false := by rw [← hf, decide_eq_false h2]; simp
      clear hf
      go_enter Try.func11, Try.ntmps11
      go_wp2
      go_ret
      exact ⟨rfl, (Below.refl _ _).alloc (Nat.le_refl _) _⟩
  · have h1i : decide ((n : Int) ≤ 2000) = false := decide_eq_false (by omega)
    obtain rfl : f = false := by rw [← hf, decide_eq_false h1]; rfl
    clear hf
    go_enter Try.func11, Try.ntmps11
    go_wp2
    go_ret
    exact ⟨rfl, (Below.refl _ _).alloc (Nat.le_refl _) _⟩
set_option maxRecDepth 100000 in
set_option maxHeartbeats 8000000 in
theorem Same25_all (v0 v1 v2 v3 v4 r0 r1 r2 r3 r4 : Int) (a b : Option Addr) (c c' : Nat) (ps qs : List UInt8) (x y : ByteArray) (w : World) (ha : Sc.Bytes w a ps.length ps) (hb : Sc.Bytes w b qs.length qs) (hl : ps.length ≤ 1000000) (hl' : qs.length ≤ 1000000) :
    Calls Try.prog 10 #[.agg #[.int .i64 v0, .int .i64 v1, .int .i64 v2, .int .i64 v3, .int .i64 v4, .slice a ps.length c, .string x], .agg #[.int .i64 r0, .int .i64 r1, .int .i64 r2, .int .i64 r3, .int .i64 r4, .slice b qs.length c', .string y]] w fun e w' => e = .returned (.bool (Sc.sameB ⟨v0, v1, v2, v3, v4, ps, x.data.toList⟩ ⟨r0, r1, r2, r3, r4, qs, y.data.toList⟩)) ∧ Below w.heap.size w w' := by
  obtain ⟨s, hs⟩ : ∃ s : Sc.Scr, (⟨v0, v1, v2, v3, v4, ps, x.data.toList⟩ : Sc.Scr) = s := ⟨_, rfl⟩
  obtain ⟨t, ht⟩ : ∃ t : Sc.Scr, (⟨r0, r1, r2, r3, r4, qs, y.data.toList⟩ : Sc.Scr) = t := ⟨_, rfl⟩
  have HIF : Hid (Sc.SameP s t ↔ v0 = r0 ∧ v1 = r1 ∧ v2 = r2 ∧ v3 = r3 ∧ v4 = r4 ∧ x.data.toList = y.data.toList ∧ ps = qs) := by
    show _ ↔ _
    rw [← hs, ← ht]; exact Iff.rfl
  rw [hs, ht]
  clear hs ht
  obtain ⟨W, hW⟩ : ∃ W, w.heap.size = W := ⟨_, rfl⟩
  obtain ⟨w2, hw2⟩ : ∃ w2, (w.alloc (.cells #[.int .i64 v0, .int .i64 v1, .int .i64 v2, .int .i64 v3, .int .i64 v4, .slice a ps.length c, .string x] 25)).alloc (.cells #[.int .i64 r0, .int .i64 r1, .int .i64 r2, .int .i64 r3, .int .i64 r4, .slice b qs.length c', .string y] 25) = w2 := ⟨_, rfl⟩
  have hb2 : Below w.heap.size w w2 := by rw [← hw2]; exact ((Below.refl _ _).alloc (Nat.le_refl _) _).alloc (by simp) _
  have s1 := (Sc.seven_of w v0 v1 v2 v3 v4 (.slice a ps.length c) x 25).keep ((Keep.refl (fun _ => False) _).alloc (.cells #[.int .i64 r0, .int .i64 r1, .int .i64 r2, .int .i64 r3, .int .i64 r4, .slice b qs.length c', .string y] 25)) (fun h => h)
  have s2 := Sc.seven_of (w.alloc (.cells #[.int .i64 v0, .int .i64 v1, .int .i64 v2, .int .i64 v3, .int .i64 v4, .slice a ps.length c, .string x] 25)) r0 r1 r2 r3 r4 (.slice b qs.length c') y 25
  rw [hw2] at s1 s2
  simp only [World.size_alloc] at s1 s2
  rw [hW] at s1 s2
  have hsz2 : w2.heap.size = W + 2 := by rw [← hw2]; simp; omega
  have HA2 : Hid (Sc.Bytes w2 a ps.length ps) := ha.keep ((Keep.refl (fun _ => False) w).below hb2) (fun _ _ h => h)
  have HB2 : Hid (Sc.Bytes w2 b qs.length qs) := hb.keep ((Keep.refl (fun _ => False) w).below hb2) (fun _ _ h => h)
  have HS1 := Lib.hid s1
  have HS2 := Lib.hid s2
  have HB := Lib.hid hb2
  have HSZ := Lib.hid hsz2
  clear ha hb hb2 hsz2
  have p0 : w2.cell? ⟨W, 0, none⟩ = some (.int .i64 v0) := s1.n 0 (by omega)
  have p1 : w2.cell? ⟨W, 1, none⟩ = some (.int .i64 v1) := s1.n 1 (by omega)
  have p2 : w2.cell? ⟨W, 2, none⟩ = some (.int .i64 v2) := s1.n 2 (by omega)
  have p3 : w2.cell? ⟨W, 3, none⟩ = some (.int .i64 v3) := s1.n 3 (by omega)
  have p4 : w2.cell? ⟨W, 4, none⟩ = some (.int .i64 v4) := s1.n 4 (by omega)
  have p5 := s1.c5
  have p6 := s1.c6
  have q0 : w2.cell? ⟨W + 1, 0, none⟩ = some (.int .i64 r0) := s2.n 0 (by omega)
  have q1 : w2.cell? ⟨W + 1, 1, none⟩ = some (.int .i64 r1) := s2.n 1 (by omega)
  have q2 : w2.cell? ⟨W + 1, 2, none⟩ = some (.int .i64 r2) := s2.n 2 (by omega)
  have q3 : w2.cell? ⟨W + 1, 3, none⟩ = some (.int .i64 r3) := s2.n 3 (by omega)
  have q4 : w2.cell? ⟨W + 1, 4, none⟩ = some (.int .i64 r4) := s2.n 4 (by omega)
  have q5 := s2.c5
  have q6 := s2.c6
  clear s1 s2
  by_cases n0 : v0 = r0
  case neg =>
    have h0 : (v0 != r0) = true := by rw [bne_iff_ne]; exact n0
    have HC : Hid (Sc.sameB s t = false) := Sc.same_no (fun h => n0 (HIF.out.1 h).1)
    clear n0
    go_enter Try.func10, Try.ntmps10
    go_wp2
    go_ret
    exact ⟨by rw [HC.out]; rfl, HB.out⟩
  have h0 : (v0 != r0) = false := by rw [bne_eq_false_iff_eq]; exact n0
  have N0 := Lib.hid n0
  clear n0
  by_cases n1 : v1 = r1
  case neg =>
    have h1 : (v1 != r1) = true := by rw [bne_iff_ne]; exact n1
    have HC : Hid (Sc.sameB s t = false) := Sc.same_no (fun h => n1 (HIF.out.1 h).2.1)
    clear n1
    go_enter Try.func10, Try.ntmps10
    go_wp2
    go_ret
    exact ⟨by rw [HC.out]; rfl, HB.out⟩
  have h1 : (v1 != r1) = false := by rw [bne_eq_false_iff_eq]; exact n1
  have N1 := Lib.hid n1
  clear n1
  by_cases n2 : v2 = r2
  case neg =>
    have h2 : (v2 != r2) = true := by rw [bne_iff_ne]; exact n2
    have HC : Hid (Sc.sameB s t = false) := Sc.same_no (fun h => n2 (HIF.out.1 h).2.2.1)
    clear n2
    go_enter Try.func10, Try.ntmps10
    go_wp2
    go_ret
    exact ⟨by rw [HC.out]; rfl, HB.out⟩
  have h2 : (v2 != r2) = false := by rw [bne_eq_false_iff_eq]; exact n2
  have N2 := Lib.hid n2
  clear n2
  by_cases n3 : v3 = r3
  case neg =>
    have h3 : (v3 != r3) = true := by rw [bne_iff_ne]; exact n3
    have HC : Hid (Sc.sameB s t = false) := Sc.same_no (fun h => n3 (HIF.out.1 h).2.2.2.1)
    clear n3
    go_enter Try.func10, Try.ntmps10
    go_wp2
    go_ret
    exact ⟨by rw [HC.out]; rfl, HB.out⟩
  have h3 : (v3 != r3) = false := by rw [bne_eq_false_iff_eq]; exact n3
  have N3 := Lib.hid n3
  clear n3
  by_cases n4 : v4 = r4
  case neg =>
    have h4 : (v4 != r4) = true := by rw [bne_iff_ne]; exact n4
    have HC : Hid (Sc.sameB s t = false) := Sc.same_no (fun h => n4 (HIF.out.1 h).2.2.2.2.1)
    clear n4
    go_enter Try.func10, Try.ntmps10
    go_wp2
    go_ret
    exact ⟨by rw [HC.out]; rfl, HB.out⟩
  have h4 : (v4 != r4) = false := by rw [bne_eq_false_iff_eq]; exact n4
  have N4 := Lib.hid n4
  clear n4
  by_cases n5 : x.data.toList = y.data.toList
  case neg =>
    have h5 : (x.toList == y.toList) = false := by rw [Sc.bytes_eq]; exact decide_eq_false n5
    have h6 : (x.toList != y.toList) = true := by unfold bne; rw [h5]; rfl
    have HC : Hid (Sc.sameB s t = false) := Sc.same_no (fun h => n5 (HIF.out.1 h).2.2.2.2.2.1)
    clear n5
    go_enter Try.func10, Try.ntmps10
    go_wp2
    go_ret
    exact ⟨by rw [HC.out]; rfl, HB.out⟩
  have h5 : (x.toList == y.toList) = true := by rw [Sc.bytes_eq]; exact decide_eq_true n5
  have h6 : (x.toList != y.toList) = false := by unfold bne; rw [h5]; rfl
  have N5 := Lib.hid n5
  clear n5
  by_cases n7 : ps.length = qs.length
  case neg =>
    have h7 : ((ps.length : Int) != (qs.length : Int)) = true := by rw [bne_iff_ne]; omega
    have h8 : (ps.length != qs.length) = true := by rw [bne_iff_ne]; omega
    have HC : Hid (Sc.sameB s t = false) := Sc.same_no (fun h => n7 (by rw [(HIF.out.1 h).2.2.2.2.2.2]))
    clear n7
    go_enter Try.func10, Try.ntmps10
    go_wp2
    go_ret
    exact ⟨by rw [HC.out]; rfl, HB.out⟩
  have h7 : ((ps.length : Int) != (qs.length : Int)) = false := by rw [bne_eq_false_iff_eq]; omega
  have h8 : (ps.length != qs.length) = false := by rw [bne_eq_false_iff_eq]; omega
  have N7 := Lib.hid n7
  have HW := Lib.hid hW
  clear n7
  go_enter Try.func10, Try.ntmps10
  go_wp2_with fail
  clear hw2 hW
  go_loopw [5] (fun vi wr => ∃ k q : Nat, vi = .int .i64 k ∧ k ≤ ps.length ∧ wr = w2.drewN q ∧ Hid (∀ j, (h1 : j < ps.length) → (h2 : j < qs.length) → j < k → ps[j] = qs[j])) (fun vi _ => ps.length - (intOf vi).toNat)
  case atStart => exact ⟨0, 0, rfl, by omega, rfl, fun j _ _ h => absurd h (by omega)⟩
  case round =>
    obtain ⟨k, q, rfl, hk, rfl, HQ⟩ := hrel
    by_cases hlt : k < ps.length
    case neg =>
      have hge : ¬ (k : Int) < (ps.length : Int) := by omega
      have HC : Hid (Sc.sameB s t = true) := Sc.same_yes (HIF.out.2 ⟨N0.out, N1.out, N2.out, N3.out, N4.out, N5.out, List.ext_getElem N7.out (fun j h1 h2 => HQ.out j h1 h2 (by omega))⟩)
      go_wp2
      go_ret
      exact ⟨by rw [HC.out]; rfl, below_drewN HB.out _⟩
    have hlti : (k : Int) < (ps.length : Int) := by omega
    have hlq : k < qs.length := by have := N7.out; omega
    have hlqi : (k : Int) < (qs.length : Int) := by omega
    have hk0 : (0 : Int) ≤ (k : Int) := by omega
    obtain ⟨g1, o1, rfl, hc1⟩ := HA2.out.2 (by omega)
    obtain ⟨g2, o2, rfl, hc2⟩ := HB2.out.2 (by omega)
    have e1 := hc1 k hlt
    have e2 := hc2 k hlq
    unfold Sc.byteV at e1 e2
    clear hc1 hc2
    by_cases hne : ps[k] = qs[k]
    · have HQ2 : Hid (∀ j, (h1 : j < ps.length) → (h2 : j < qs.length) → j < k + 1 → ps[j] = qs[j]) := by
        intro j h1 h2 hj
        by_cases e : j = k
        · subst e; exact hne
        · exact HQ.out j h1 h2 (by omega)
      have hnb : ((ps[k].toNat : Int) != (qs[k].toNat : Int)) = false := by rw [hne]; simp
      have hnn : (ps[k].toNat != qs[k].toNat) = false := by rw [hne]; simp
      clear hne
      go_wp2_with fail
      go_quiet (fail)
      go_wp2
      exact ⟨⟨k + 1, _, by simp, by omega, rfl, HQ2⟩, by simp [intOf]; omega⟩
    · have HC : Hid (Sc.sameB s t = false) := Sc.same_no (fun h => hne (by have e := (HIF.out.1 h).2.2.2.2.2.2; clear HQ hne e1 e2; subst e; rfl))
      have hnt : ps[k].toNat ≠ qs[k].toNat := fun h => hne (UInt8.toNat_inj.1 h)
      have hnb : ((ps[k].toNat : Int) != (qs[k].toNat : Int)) = true := by rw [bne_iff_ne]; omega
      have hnn : (ps[k].toNat != qs[k].toNat) = true := by rw [bne_iff_ne]; exact hnt
      clear hne hnt
      go_wp2_with fail
      go_quiet (fail)
      go_wp2
      go_ret
      exact ⟨by rw [HC.out]; rfl, below_drewN (below_drewN HB.out _) _⟩
set_option maxRecDepth 100000 in
theorem bytesEqual_any (a b : Option Addr) (c c' : Nat) (ps qs : List UInt8) (w : World) (f : Bool) (hf : decide (ps = qs) = f) (ha : Sc.Bytes w a ps.length ps) (hb : Sc.Bytes w b qs.length qs) :
    Calls Try.prog 32 #[.slice a ps.length c, .slice b qs.length c'] w fun e w' => e = .returned (.bool f) ∧ w = w' := by
  have h1 := ha.conv c
  have h2 := hb.conv c'
  obtain ⟨X, hX⟩ : ∃ X : ByteArray, (⟨ps.toArray⟩ : ByteArray) = X := ⟨_, rfl⟩
  obtain ⟨Y, hY⟩ : ∃ Y : ByteArray, (⟨qs.toArray⟩ : ByteArray) = Y := ⟨_, rfl⟩
  have hxy : (X.toList == Y.toList) = f := by rw [Sc.bytes_eq, ← hX, ← hY, ← hf]
  rw [hX] at h1
  rw [hY] at h2
  clear hX hY hf ha hb
  go_enter Try.func32, Try.ntmps32
  go_wp2
  go_ret
  exact ⟨rfl, rfl⟩
set_option maxRecDepth 100000 in
set_option maxHeartbeats 8000000 in
theorem Same_any (v0 v1 v2 v3 v4 r0 r1 r2 r3 r4 : Int) (a b : Option Addr) (c c' : Nat) (ps qs : List UInt8) (x y : ByteArray) (w : World) (ha : Sc.Bytes w a ps.length ps) (hb : Sc.Bytes w b qs.length qs) (hl : ps.length ≤ 1000000) (hl' : qs.length ≤ 1000000) :
    Calls Try.prog 16 #[.agg #[.int .i64 v0, .int .i64 v1, .int .i64 v2, .int .i64 v3, .int .i64 v4, .slice a ps.length c, .string x], .agg #[.int .i64 r0, .int .i64 r1, .int .i64 r2, .int .i64 r3, .int .i64 r4, .slice b qs.length c', .string y]] w fun e w' => e = .returned (.bool (Sc.sameB ⟨v0, v1, v2, v3, v4, ps, x.data.toList⟩ ⟨r0, r1, r2, r3, r4, qs, y.data.toList⟩)) ∧ Below w.heap.size w w' := by
  obtain ⟨s, hs⟩ : ∃ s : Sc.Scr, (⟨v0, v1, v2, v3, v4, ps, x.data.toList⟩ : Sc.Scr) = s := ⟨_, rfl⟩
  obtain ⟨t, ht⟩ : ∃ t : Sc.Scr, (⟨r0, r1, r2, r3, r4, qs, y.data.toList⟩ : Sc.Scr) = t := ⟨_, rfl⟩
  have HIF : Hid (Sc.SameP s t ↔ v0 = r0 ∧ v1 = r1 ∧ v2 = r2 ∧ v3 = r3 ∧ v4 = r4 ∧ x.data.toList = y.data.toList ∧ ps = qs) := by
    show _ ↔ _
    rw [← hs, ← ht]; exact Iff.rfl
  rw [hs, ht]
  clear hs ht
  obtain ⟨W, hW⟩ : ∃ W, w.heap.size = W := ⟨_, rfl⟩
  obtain ⟨w2, hw2⟩ : ∃ w2, (w.alloc (.cells #[.int .i64 v0, .int .i64 v1, .int .i64 v2, .int .i64 v3, .int .i64 v4, .slice a ps.length c, .string x] 25)).alloc (.cells #[.int .i64 r0, .int .i64 r1, .int .i64 r2, .int .i64 r3, .int .i64 r4, .slice b qs.length c', .string y] 25) = w2 := ⟨_, rfl⟩
  have hb2 : Below w.heap.size w w2 := by rw [← hw2]; exact ((Below.refl _ _).alloc (Nat.le_refl _) _).alloc (by simp) _
  have s1 := (Sc.seven_of w v0 v1 v2 v3 v4 (.slice a ps.length c) x 25).keep ((Keep.refl (fun _ => False) _).alloc (.cells #[.int .i64 r0, .int .i64 r1, .int .i64 r2, .int .i64 r3, .int .i64 r4, .slice b qs.length c', .string y] 25)) (fun h => h)
  have s2 := Sc.seven_of (w.alloc (.cells #[.int .i64 v0, .int .i64 v1, .int .i64 v2, .int .i64 v3, .int .i64 v4, .slice a ps.length c, .string x] 25)) r0 r1 r2 r3 r4 (.slice b qs.length c') y 25
  rw [hw2] at s1 s2
  simp only [World.size_alloc] at s1 s2
  rw [hW] at s1 s2
  have hsz2 : w2.heap.size = W + 2 := by rw [← hw2]; simp; omega
  have HA2 : Hid (Sc.Bytes w2 a ps.length ps) := ha.keep ((Keep.refl (fun _ => False) w).below hb2) (fun _ _ h => h)
  have HB2 : Hid (Sc.Bytes w2 b qs.length qs) := hb.keep ((Keep.refl (fun _ => False) w).below hb2) (fun _ _ h => h)
  have HS1 := Lib.hid s1
  have HS2 := Lib.hid s2
  have HB := Lib.hid hb2
  have HSZ := Lib.hid hsz2
  clear ha hb hb2 hsz2
  have hN1 := numbers_any W w2
  rw [HSZ.out] at hN1
  obtain ⟨w3, hw3⟩ : ∃ w3, (w2.alloc (Sc.numsO W)).drew = w3 := ⟨_, rfl⟩
  have zn1 := Sc.nums_new w2 W
  rw [HSZ.out] at zn1
  have k3 : Keep (fun _ => False) w2 w3 := by rw [← hw3]; exact ((Keep.refl _ _).alloc _).below ((Below.refl _ _).drew)
  have zB1 : Sc.Nums w3 (W + 2) W := by rw [← hw3]; exact zn1
  rw [hw3] at hN1
  have hsz3 : w3.heap.size = W + 3 := by rw [← hw3]; show (w2.alloc (Sc.numsO W)).heap.size = _; simp [HSZ.out]
  have hN2 := numbers_any (W + 1) w3
  rw [hsz3] at hN2
  obtain ⟨w4, hw4⟩ : ∃ w4, (w3.alloc (Sc.numsO (W + 1))).drew = w4 := ⟨_, rfl⟩
  have zn2 := Sc.nums_new w3 (W + 1)
  rw [hsz3] at zn2
  have k4 : Keep (fun _ => False) w3 w4 := by rw [← hw4]; exact ((Keep.refl _ _).alloc _).below ((Below.refl _ _).drew)
  have zB2 : Sc.Nums w4 (W + 3) (W + 1) := by rw [← hw4]; exact zn2
  rw [hw4] at hN2
  have k24 := k3.trans k4
  have HN1 := Lib.hid (zB1.keep k4 (fun h => h) (by omega))
  have HN2 := Lib.hid zB2
  have HS1' := Lib.hid (HS1.out.keep k24 (fun h => h))
  have HS2' := Lib.hid (HS2.out.keep k24 (fun h => h))
  have HA4 : Hid (Sc.Bytes w4 a ps.length ps) := HA2.out.keep k24 (fun _ _ h => h)
  have HB4 : Hid (Sc.Bytes w4 b qs.length qs) := HB2.out.keep k24 (fun _ _ h => h)
  have HBW : Hid (Below w.heap.size w w4) := HB.out.trans (k24.to_below (fun _ h => h.elim) HB.out.size)
  clear s1 s2 hw3 zn1 k3 zB1 hsz3 hw4 zn2 k4 zB2 k24 HS1 HS2 HA2 HB2
  go_enter Try.func16, Try.ntmps16
  go_wp2_with fail
  refine hN1.mono ?_
  rintro e w5 ⟨rfl, rfl⟩
  clear hw2 hN1
  go_wp2_with fail
  refine hN2.mono ?_
  rintro e w6 ⟨rfl, rfl⟩
  clear hN2 hW
  go_wp2_with fail
  go_loopw [12] (fun vi wr => ∃ k q : Nat, vi = .int .i64 k ∧ k ≤ 5 ∧ wr = w6.drewN q ∧ Hid (∀ j, j < k → [v0, v1, v2, v3, v4].getD j 0 = [r0, r1, r2, r3, r4].getD j 0)) (fun vi _ => 5 - (intOf vi).toNat)
  case atStart => exact ⟨0, 0, rfl, by omega, rfl, fun j h => absurd h (by omega)⟩
  case round =>
    obtain ⟨k, q, rfl, hk, rfl, HQ⟩ := hrel
    by_cases hlt : k < 5
    case neg =>
      obtain rfl : k = 5 := by omega
      have hge : ¬ ((5 : Nat) : Int) < 5 := by omega
      have p5 := HS1'.out.c5
      have p6 := HS1'.out.c6
      have q5 := HS2'.out.c5
      have q6 := HS2'.out.c6
      have hN : v0 = r0 ∧ v1 = r1 ∧ v2 = r2 ∧ v3 = r3 ∧ v4 = r4 := ⟨by simpa using HQ.out 0 (by omega), by simpa using HQ.out 1 (by omega), by simpa using HQ.out 2 (by omega), by simpa using HQ.out 3 (by omega), by simpa using HQ.out 4 (by omega)⟩
      have HNN := Lib.hid hN
      clear hN
      have heq := fun f hf => bytesEqual_any a b c c' ps qs (w6.drewN q) f hf (HA4.out.keep ((Keep.refl (fun _ => False) _).drew q) (fun _ _ h => h)) (HB4.out.keep ((Keep.refl (fun _ => False) _).drew q) (fun _ _ h => h))
      by_cases n1 : ps = qs
      · have he := heq true (decide_eq_true n1)
        by_cases n5 : x.data.toList = y.data.toList
        · have h5 : (x.toList == y.toList) = true := by rw [Sc.bytes_eq]; exact decide_eq_true n5
          have HC : Hid (Sc.sameB s t = true) := Sc.same_yes (HIF.out.2 ⟨HNN.out.1, HNN.out.2.1, HNN.out.2.2.1, HNN.out.2.2.2.1, HNN.out.2.2.2.2, n5, n1⟩)
          clear n1 n5 heq
          go_wp2_with fail
          refine he.mono ?_
          rintro e w7 ⟨rfl, rfl⟩
          go_wp2
          go_ret
          exact ⟨by rw [HC.out]; rfl, below_drewN HBW.out _⟩
        · have h5 : (x.toList == y.toList) = false := by rw [Sc.bytes_eq]; exact decide_eq_false n5
          have HC : Hid (Sc.sameB s t = false) := Sc.same_no (fun h => n5 (HIF.out.1 h).2.2.2.2.2.1)
          clear n1 n5 heq
          go_wp2_with fail
          refine he.mono ?_
          rintro e w7 ⟨rfl, rfl⟩
          go_wp2
          go_ret
          exact ⟨by rw [HC.out]; rfl, below_drewN HBW.out _⟩
      · have he := heq false (decide_eq_false n1)
        have HC : Hid (Sc.sameB s t = false) := Sc.same_no (fun h => n1 (HIF.out.1 h).2.2.2.2.2.2)
        clear n1 heq
        go_wp2_with fail
        refine he.mono ?_
        rintro e w7 ⟨rfl, rfl⟩
        go_wp2
        go_ret
        exact ⟨by rw [HC.out]; rfl, below_drewN HBW.out _⟩
    have hlti : (k : Int) < 5 := by omega
    have hk0 : (0 : Int) ≤ (k : Int) := by omega
    obtain ⟨_, m1, _, _⟩ := HN1.out k hlt
    obtain ⟨_, m2, _, _⟩ := HN2.out k hlt
    have n1 := HS1'.out.n k hlt
    have n2 := HS2'.out.n k hlt
    obtain ⟨X, hX⟩ : ∃ X, [v0, v1, v2, v3, v4].getD k 0 = X := ⟨_, rfl⟩
    obtain ⟨Y, hY⟩ : ∃ Y, [r0, r1, r2, r3, r4].getD k 0 = Y := ⟨_, rfl⟩
    rw [hX] at n1
    rw [hY] at n2
    by_cases hne : X = Y
    · have HQ2 : Hid (∀ j, j < k + 1 → [v0, v1, v2, v3, v4].getD j 0 = [r0, r1, r2, r3, r4].getD j 0) := by
        intro j hj
        by_cases e : j = k
        · subst e; rw [hX, hY]; exact hne
        · exact HQ.out j (by omega)
      have hnb : (X != Y) = false := by rw [bne_eq_false_iff_eq]; exact hne
      clear hne hX hY
      go_wp2_with fail
      go_quiet (fail)
      go_wp2
      exact ⟨⟨k + 1, _, by simp, by omega, rfl, HQ2⟩, by simp [intOf]; omega⟩
    · have HC : Hid (Sc.sameB s t = false) := Sc.same_no (fun h => hne (by
        obtain ⟨e0, e1, e2, e3, e4, _, _⟩ := HIF.out.1 h
        rw [← hX, ← hY, e0, e1, e2, e3, e4]))
      have hnb : (X != Y) = true := by rw [bne_iff_ne]; exact hne
      clear hne hX hY
      go_wp2_with fail
      go_quiet (fail)
      go_wp2
      go_ret
      exact ⟨by rw [HC.out]; rfl, below_drewN (below_drewN HBW.out _) _⟩
end Go.Proofs.Ytbaendhagojadaa
