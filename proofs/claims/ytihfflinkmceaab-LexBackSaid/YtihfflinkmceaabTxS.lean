/-
  The walks of short and of the law LexTexts.
-/
import Derived.Test.YtihfflinkmceaabTxR
import Derived.Test.YtihfflinkmceaabLexAwake
namespace Go.Proofs.Ytihfflinkmceaab
open Go.RowKit
/-- a word, whole, in a block -/
structure Tx.Tk5 (w : World) (b : Nat) (t : Tx.W) : Prop where
  c0 : w.cell? ⟨b, 0, none⟩ = some (.int .i64 t.k)
  c1 : w.cell? ⟨b, 1, none⟩ = some (.int .i64 t.a)
  c2 : w.cell? ⟨b, 2, none⟩ = some (.int .i64 t.z)
  c3 : w.cell? ⟨b, 3, none⟩ = some (.int .i64 t.n)
  c4 : w.cell? ⟨b, 4, none⟩ = some (.string t.s)
  lt : b < w.heap.size
theorem Tx.Tk5.below {w w' : World} {b : Nat} {t : Tx.W} (h : Tx.Tk5 w b t) (hb : Below w.heap.size w w') : Tx.Tk5 w' b t :=
  ⟨(hb.cell (p := ⟨b, 0, none⟩) h.lt).trans h.c0, (hb.cell (p := ⟨b, 1, none⟩) h.lt).trans h.c1, (hb.cell (p := ⟨b, 2, none⟩) h.lt).trans h.c2, (hb.cell (p := ⟨b, 3, none⟩) h.lt).trans h.c3, (hb.cell (p := ⟨b, 4, none⟩) h.lt).trans h.c4, Nat.lt_of_lt_of_le h.lt hb.size⟩
theorem Tx.tk5 (w : World) (t : Tx.W) : Tx.Tk5 (w.alloc (.cells #[.int .i64 t.k, .int .i64 t.a, .int .i64 t.z, .int .i64 t.n, .string t.s] 35)) w.heap.size t := by
  have hh : (w.alloc (.cells #[.int .i64 t.k, .int .i64 t.a, .int .i64 t.z, .int .i64 t.n, .string t.s] 35)).heap[w.heap.size]? = some (.cells #[.int .i64 t.k, .int .i64 t.a, .int .i64 t.z, .int .i64 t.n, .string t.s] 35 (0, 0)) := by
    show (w.heap.push _)[w.heap.size]? = _
    simp
  exact ⟨by rw [Lib.cell_of_heap hh]; rfl, by rw [Lib.cell_of_heap hh]; rfl, by rw [Lib.cell_of_heap hh]; rfl, by rw [Lib.cell_of_heap hh]; rfl, by rw [Lib.cell_of_heap hh]; rfl, by rw [World.size_alloc]; omega⟩
def Tx.shortL (l : List Tx.W) : Bool := decide (l.length ≤ 4101) && l.all (fun t => decide (t.s.size ≤ 5000))
set_option maxRecDepth 100000 in
set_option maxHeartbeats 4000000 in
theorem short_any (l : List Tx.W) (v : Value) (w : World) (hv : Tx.Row w v l) :
    Calls Try.prog 12 #[v] w fun e w' => e = .returned (.bool (Tx.shortL l)) ∧ Below w.heap.size w w' := by
  obtain ⟨ao, cap, rfl, hcap, hcells⟩ := hv
  obtain ⟨R, hR⟩ : ∃ R, Tx.shortL l = R := ⟨_, rfl⟩
  have h0 : R = (decide (l.length ≤ 4101) && l.all (fun t => decide (t.s.size ≤ 5000))) := hR.symm
  rw [hR]
  clear hR
  by_cases h4 : 4101 < l.length
  · have HR : Hid (R = false) := by show _ = _; rw [h0, decide_eq_false (by omega)]; rfl
    have h4i : (4101 : Int) < (l.length : Int) := by omega
    clear hcells h0 h4
    go_enter Try.func12, Try.ntmps12
    go_wp2
    go_ret
    exact ⟨by rw [HR.out]; rfl, Below.refl _ _⟩
  have h4i : ¬ ((4101 : Int) < (l.length : Int)) := by omega
  have H0 : Hid (R = (l.drop 0).all (fun t => decide (t.s.size ≤ 5000))) := by show _ = _; rw [h0, decide_eq_true (by omega)]; simp
  have HC := Lib.hid hcells
  clear hcells h4 h0
  go_enter Try.func12, Try.ntmps12
  go_wp2_with fail
  go_loopw [10] (fun vi wr => ∃ (k : Nat), vi = .int .i64 k ∧ k ≤ l.length ∧ Hid (R = (l.drop k).all (fun t => decide (t.s.size ≤ 5000))) ∧ Below w.heap.size w wr) (fun vi _ => l.length - (intOf vi).toNat)
  case atStart => exact ⟨0, rfl, by omega, H0, Below.refl _ _⟩
  case round =>
    obtain ⟨k, rfl, hk, HA, hbl⟩ := hrel
    have HB := Lib.hid hbl
    by_cases hlt : k < l.length
    case neg =>
      have hge : (l.length : Int) ≤ (k : Int) := by omega
      have HR : Hid (R = true) := by show _ = _; rw [HA.out, List.drop_eq_nil_of_le (by omega)]; rfl
      clear hbl
      go_wp2
      go_ret
      exact ⟨by rw [HR.out]; rfl, HB.out⟩
    have hlti : (k : Int) < (l.length : Int) := by omega
    have ha := HA.out
    rw [List.drop_eq_getElem_cons hlt, List.all_cons] at ha
    obtain ⟨t, ht⟩ : ∃ t, l[k] = t := ⟨_, rfl⟩
    obtain ⟨b, o, hao, hbw, hcell⟩ := HC.out (by intro h0; rw [h0] at hlt; simp at hlt)
    obtain ⟨c0, c1, c2, c3, c4⟩ := hcell k hlt
    rw [ht] at c0 c1 c2 c3 c4 ha
    subst hao
    have r0 := (hbl.cell (p := ⟨b, o + k * 5, none⟩) hbw).trans c0
    have r1 := (hbl.cell (p := ⟨b, o + k * 5 + 1, none⟩) hbw).trans c1
    have r2 := (hbl.cell (p := ⟨b, o + k * 5 + 2, none⟩) hbw).trans c2
    have r3 := (hbl.cell (p := ⟨b, o + k * 5 + 3, none⟩) hbw).trans c3
    have r4 := (hbl.cell (p := ⟨b, o + k * 5 + 4, none⟩) hbw).trans c4
    clear c0 c1 c2 c3 c4 hcell hbl ht
    by_cases h5 : t.s.size ≤ 5000
    · rw [decide_eq_true h5, Bool.true_and] at ha
      have HN := Lib.hid ha
      have h5i : ¬ ((5000 : Int) < (t.s.size : Int)) := by omega
      clear ha h5
      go_wp2
      go_roundw
      case rel => exact ⟨k + 1, by simp, by omega, HN, HB.out.alloc HB.out.size _⟩
      case measure => simp [intOf]; omega
    · rw [decide_eq_false h5, Bool.false_and] at ha
      have HN := Lib.hid ha
      have h5i : (5000 : Int) < (t.s.size : Int) := by omega
      clear ha h5
      go_wp2
      go_ret
      exact ⟨by rw [HN.out]; rfl, HB.out.alloc HB.out.size _⟩
theorem Tx.JV_form (l : List Tx.W) : ∃ s e, Tx.JV l = .tuple #[.string s, .int .i64 e] := by
  unfold Tx.JV
  split
  · exact ⟨_, _, rfl⟩
  · split
    · exact ⟨_, _, rfl⟩
    · split
      · exact ⟨_, _, rfl⟩
      · exact ⟨_, _, rfl⟩
theorem Tx.V_form (o : Option (List UInt8)) : ∃ s e, Tx.V o = .tuple #[.string s, .int .i64 e] := by
  cases o with
  | none => exact ⟨_, _, rfl⟩
  | some x => exact ⟨_, _, rfl⟩
theorem Tx.Row.len {w : World} {v : Value} {l : List Tx.W} (h : Tx.Row w v l) : ∃ a c, v = .slice a l.length c := by
  obtain ⟨a, c, hv, _⟩ := h
  exact ⟨a, c, hv⟩
set_option maxRecDepth 100000 in
set_option maxHeartbeats 8000000 in
theorem LexTexts_walk (l : List Tx.W) (v : Value) (w : World) (hv : Tx.Row w v l) (hn : ∀ t ∈ l, -9223372036854775808 ≤ t.n ∧ t.n ≤ 9223372036854775807) :
    Calls Try.prog 4 #[v] w fun e w' => e = .returned (.bool true) ∧ Below w.heap.size w w' := by
  have hsh := fun w (h : Tx.Row w v l) => short_any l v w h
  obtain ⟨R, hR⟩ : ∃ R, Tx.shortL l = R := ⟨_, rfl⟩
  rw [hR] at hsh
  cases R with
  | false =>
    have HV := Lib.hid hv
    clear hR hv
    go_enter Try.func4, Try.ntmps4
    go_wp2_with fail
    refine (awake_any _).mono ?_
    rintro e w1 ⟨rfl, hb1⟩
    have HB1 := Lib.hid hb1
    go_wp2_with fail
    refine (hsh _ (HV.out.below HB1.out)).mono ?_
    rintro e w2 ⟨rfl, hb2⟩
    have HB2 := Lib.hid (HB1.out.trans (hb2.mono HB1.out.size))
    go_wp2_with fail
    refine (awake_any _).mono ?_
    rintro e w3 ⟨rfl, hb3⟩
    go_wp2
    go_ret
    exact ⟨rfl, HB2.out.trans (hb3.mono HB2.out.size)⟩
  | true =>
    have hok : ∀ t ∈ l, t.ok := by
      intro t ht
      unfold Tx.shortL at hR
      rw [Bool.and_eq_true, List.all_eq_true] at hR
      have := hR.2 t ht
      rw [decide_eq_true_iff] at this
      exact ⟨by omega, hn t ht⟩
    have HOK := Lib.hid hok
    have HV := Lib.hid hv
    have HJ := fun w (h : Tx.Row w v l) => Join_any l v w h hok
    have HJR := fun w (h : Tx.Row w v l) => JoinR_any l v w h hok
    obtain ⟨S, E, hSE⟩ := Tx.JV_form l
    rw [hSE] at HJ HJR
    obtain ⟨a, c, hvv, hcap, hcells⟩ := hv
    obtain ⟨m, hm⟩ : ∃ m : Nat, min l.length 50 = m := ⟨_, rfl⟩
    have hml : m ≤ l.length := by omega
    have hmi : min (l.length : Int) 50 = (m : Int) := by omega
    have hmx : max (m : Int) 0 = (m : Int) := by omega
    have HC := Lib.hid hcells
    clear hR hn hok hcells hm hSE
    subst hvv
    have HSH := Lib.hid hsh
    have HJ2 := Lib.hid HJ
    have HJR2 := Lib.hid HJR
    clear hsh HJ HJR
    go_enter Try.func4, Try.ntmps4
    go_wp2_with fail
    refine (awake_any _).mono ?_
    rintro e w1 ⟨rfl, hb1⟩
    have HB1 := Lib.hid hb1
    go_wp2_with fail
    refine (HSH.out _ (HV.out.below HB1.out)).mono ?_
    rintro e w2 ⟨rfl, hb2⟩
    have HB2 := Lib.hid (HB1.out.trans (hb2.mono HB1.out.size))
    clear hb1 hb2
    go_wp2_with fail
    go_loopw [27] (fun vi wr => ∃ (k : Nat), vi = .int .i64 k ∧ k ≤ m ∧ Below w.heap.size w wr) (fun vi _ => m - (intOf vi).toNat)
    case atStart => exact ⟨0, rfl, by omega, HB2.out⟩
    case round =>
      obtain ⟨k, rfl, hk, hbl⟩ := hrel
      have HB := Lib.hid hbl
      by_cases hlt : k < m
      case neg =>
        have hge : (m : Int) ≤ (k : Int) := by omega
        clear hbl
        go_wp2_with fail
        refine (HJ2.out _ (HV.out.below HB.out)).mono ?_
        rintro e w3 ⟨rfl, hb3⟩
        have HB3 := Lib.hid (HB.out.trans (hb3.mono HB.out.size))
        go_wp2_with fail
        refine (HJR2.out _ (HV.out.below HB3.out)).mono ?_
        rintro e w4 ⟨rfl, hb4⟩
        have HB4 := Lib.hid (HB3.out.trans (hb4.mono HB3.out.size))
        go_wp2
        go_ret
        exact ⟨by simp, HB4.out⟩
      have hlti : (k : Int) < (m : Int) := by omega
      have hll : k < l.length := by omega
      obtain ⟨t, ht⟩ : ∃ t, l[k] = t := ⟨_, rfl⟩
      have htok : t.ok := HOK.out t (by rw [← ht]; exact List.getElem_mem hll)
      obtain ⟨b, o, hao, hbw, hcell⟩ := HC.out (by intro h0; rw [h0] at hll; simp at hll)
      obtain ⟨c0, c1, c2, c3, c4⟩ := hcell k hll
      rw [ht] at c0 c1 c2 c3 c4
      subst hao
      have r0 := (hbl.cell (p := ⟨b, o + k * 5, none⟩) hbw).trans c0
      have r1 := (hbl.cell (p := ⟨b, o + k * 5 + 1, none⟩) hbw).trans c1
      have r2 := (hbl.cell (p := ⟨b, o + k * 5 + 2, none⟩) hbw).trans c2
      have r3 := (hbl.cell (p := ⟨b, o + k * 5 + 3, none⟩) hbw).trans c3
      have r4 := (hbl.cell (p := ⟨b, o + k * 5 + 4, none⟩) hbw).trans c4
      have hT := fun w => Text_w t w htok
      have hTR := fun w => TextR_w t w htok
      obtain ⟨S2, E2, hS2⟩ := Tx.V_form t.txt
      rw [hS2] at hT hTR
      clear c0 c1 c2 c3 c4 hcell hS2 htok hbl ht
      have hTk := Tx.tk5 wr t
      obtain ⟨w5, hw5⟩ : ∃ w5, wr.alloc (.cells #[.int .i64 t.k, .int .i64 t.a, .int .i64 t.z, .int .i64 t.n, .string t.s] 35) = w5 := ⟨_, rfl⟩
      rw [hw5] at hTk
      have hb5 : Below wr.heap.size wr w5 := by rw [← hw5]; exact (Below.refl _ _).alloc (Nat.le_refl _) _
      have HB5 := Lib.hid (HB.out.trans (hb5.mono HB.out.size))
      have HTk := Lib.hid hTk
      obtain ⟨u0, u1, u2, u3, u4, ul⟩ := hTk
      clear hb5 ul
      go_wp2_with fail
      refine (hT _).mono ?_
      rintro e w6 ⟨rfl, hb6⟩
      have hTk6 := HTk.out.below hb6
      have HB6 := Lib.hid (HB5.out.trans (hb6.mono HB5.out.size))
      obtain ⟨x0, x1, x2, x3, x4, xl⟩ := hTk6
      clear hb6 xl u0 u1 u2 u3 u4 hw5
      go_wp2_with fail
      refine (hTR _).mono ?_
      rintro e w7 ⟨rfl, hb7⟩
      have HB7 := Lib.hid (HB6.out.trans (hb7.mono HB6.out.size))
      clear hb7 x0 x1 x2 x3 x4
      go_wp2
      go_roundw
      case rel => exact ⟨k + 1, by simp, by omega, HB7.out⟩
      case measure => simp [intOf]; omega
end Go.Proofs.Ytihfflinkmceaab
