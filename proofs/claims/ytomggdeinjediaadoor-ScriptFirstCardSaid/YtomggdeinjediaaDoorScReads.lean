/-
  The walks of numbers, may, reads: a line with a number.
-/
import Derived.Test.YtomggdeinjediaaDoorScBase
import Derived.Deep.RegionHeld3
import Derived.RegionTactic
import Derived.BigRegion
namespace Go.Proofs.YtomggdeinjediaaDoor
open Go.RowKit Go.Sort
namespace Sc
/-- a script's five numbers and what else it has, in block S -/
structure St (w : World) (S : Nat) (v : List Int) (p : Value) (x : ByteArray) : Prop where
  n : ∀ k, k < 5 → w.cell? ⟨S, k, none⟩ = some (.int .i64 (v.getD k 0))
  c5 : w.cell? ⟨S, 5, none⟩ = some p
  c6 : w.cell? ⟨S, 6, none⟩ = some (.string x)
  fz : ∀ j, w.frozen? ⟨S, j, none⟩ = false
  lt : S < w.heap.size
theorem St.keep {P : Nat → Prop} {w w' : World} {S : Nat} {v : List Int} {p : Value} {x : ByteArray} (h : St w S v p x) (hk : Keep P w w') (hS : ¬ P S) : St w' S v p x :=
  ⟨fun k hk5 => (hk.cell k h.lt hS).trans (h.n k hk5), (hk.cell 5 h.lt hS).trans h.c5, (hk.cell 6 h.lt hS).trans h.c6, fun j => (hk.frozen j h.lt hS).trans (h.fz j), Nat.lt_of_lt_of_le h.lt hk.size⟩
theorem St.set {w : World} {S : Nat} {v : List Int} {p : Value} {x : ByteArray} (h : St w S v p x) (hv : v.length = 5) (k : Nat) (hk : k < 5) (m : Int) : St (w.setCell ⟨S, k, none⟩ (.int .i64 m)) S (v.set k m) p x := by
  refine ⟨fun j hj => ?_, ?_, ?_, fun j => by rw [World.frozen?_setCell]; exact h.fz j, by simpa [World.setCell] using h.lt⟩
  · by_cases e : j = k
    · subst e
      rw [World.cell?_setCell_same _ _ _ (h.n j hk)]
      rw [List.getD_eq_getElem?_getD, List.getElem?_set_self (by omega)]
      rfl
    · rw [World.cell?_setCell_other _ _ _ _ (by intro h; injection h with _ h; exact e h.symm), h.n j hj]
      rw [List.getD_eq_getElem?_getD, List.getD_eq_getElem?_getD, List.getElem?_set_ne (Ne.symm e)]
  · rw [World.cell?_setCell_other _ _ _ _ (by intro e; injection e with _ e; omega)]; exact h.c5
  · rw [World.cell?_setCell_other _ _ _ _ (by intro e; injection e with _ e; omega)]; exact h.c6
/-- a number's name, as it stands in the program -/
def nmB (k : Nat) : ByteArray := ⟨(nm k).toArray⟩
theorem nmB_size (k : Nat) : (nmB k).size ≤ 10 := by
  unfold nmB nm
  split <;> decide
/-- the numbers of a script, in block B -/
def Nums (w : World) (B S : Nat) : Prop :=
  ∀ k, k < 5 → w.cell? ⟨B, k * 4, none⟩ = some (.string (nmB k)) ∧ w.cell? ⟨B, k * 4 + 1, none⟩ = some (.pointer (some ⟨S, k, none⟩)) ∧ w.cell? ⟨B, k * 4 + 2, none⟩ = some (.int .i64 (low k)) ∧ w.cell? ⟨B, k * 4 + 3, none⟩ = some (.int .i64 (top k))
def numsO (S : Nat) : Obj := .cells #[.string (nmB 0), .pointer (some ⟨S, 0, none⟩), .int .i64 1, .int .i64 65536, .string (nmB 1), .pointer (some ⟨S, 1, none⟩), .int .i64 1, .int .i64 16, .string (nmB 2), .pointer (some ⟨S, 2, none⟩), .int .i64 1, .int .i64 16, .string (nmB 3), .pointer (some ⟨S, 3, none⟩), .int .i64 1, .int .i64 1024, .string (nmB 4), .pointer (some ⟨S, 4, none⟩), .int .i64 0, .int .i64 65536] 42
theorem nums_new (w : World) (S : Nat) : Nums (w.alloc (numsO S)) w.heap.size S := by
  have hh : (w.alloc (numsO S)).heap[w.heap.size]? = some (numsO S) := by
    show (w.heap.push _)[w.heap.size]? = _
    simp
  intro k hk
  unfold World.cell?
  rw [hh]
  match k, hk with
  | 0, _ => exact ⟨rfl, rfl, rfl, rfl⟩
  | 1, _ => exact ⟨rfl, rfl, rfl, rfl⟩
  | 2, _ => exact ⟨rfl, rfl, rfl, rfl⟩
  | 3, _ => exact ⟨rfl, rfl, rfl, rfl⟩
  | 4, _ => exact ⟨rfl, rfl, rfl, rfl⟩
end Sc
set_option maxRecDepth 100000 in
set_option maxHeartbeats 1000000 in
theorem numbers_any (S : Nat) (w : World) :
    Calls Tryd.prog 9 #[.pointer (some ⟨S, 0, none⟩)] w fun e w' => e = .returned (.slice (some ⟨w.heap.size, 0, none⟩) 5 5) ∧ w' = (w.alloc (Sc.numsO S)).drew := by
  go_enter Tryd.func9, Tryd.ntmps9
  go_wp2_with fail
  go_region_held3 (fun _ => True) (trivial) (fail)
  go_wp2
  go_ret
  exact ⟨rfl, rfl⟩
theorem Sc.four_new (w : World) (a b c d : Value) (ty : TypeId) : (w.alloc (.cells #[a, b, c, d] ty)).cell? ⟨w.heap.size, 0, none⟩ = some a ∧ (w.alloc (.cells #[a, b, c, d] ty)).cell? ⟨w.heap.size, 1, none⟩ = some b ∧ (w.alloc (.cells #[a, b, c, d] ty)).cell? ⟨w.heap.size, 2, none⟩ = some c ∧ (w.alloc (.cells #[a, b, c, d] ty)).cell? ⟨w.heap.size, 3, none⟩ = some d := by
  have hh : (w.alloc (.cells #[a, b, c, d] ty)).heap[w.heap.size]? = some (.cells #[a, b, c, d] ty) := by
    show (w.heap.push _)[w.heap.size]? = _
    simp
  unfold World.cell?
  rw [hh]
  exact ⟨rfl, rfl, rfl, rfl⟩
set_option maxRecDepth 100000 in
theorem may_any (x : ByteArray) (S k : Nat) (n lo hi : Int) (w : World) (hc : w.cell? ⟨S, k, none⟩ = some (.int .i64 n)) :
    Calls Tryd.prog 19 #[.agg #[.string x, .pointer (some ⟨S, k, none⟩), .int .i64 lo, .int .i64 hi]] w fun e w' => e = .returned (.bool (decide (lo ≤ n) && decide (n ≤ hi))) ∧ Below w.heap.size w w' := by
  obtain ⟨w1, hw1⟩ : ∃ w1, w.alloc (.cells #[.string x, .pointer (some ⟨S, k, none⟩), .int .i64 lo, .int .i64 hi] 42) = w1 := ⟨_, rfl⟩
  have hb : Below w.heap.size w w1 := by rw [← hw1]; exact (Below.refl _ _).alloc (Nat.le_refl _) _
  obtain ⟨d0, d1, d2, d3⟩ := Sc.four_new w (.string x) (.pointer (some ⟨S, k, none⟩)) (.int .i64 lo) (.int .i64 hi) 42
  rw [hw1] at d0 d1 d2 d3
  have hc1 := (hb.cell (block_lt_of_cell hc)).trans hc
  have HB := Lib.hid hb
  clear hb hc
  by_cases h1 : lo ≤ n
  · have e1 : decide (lo ≤ n) = true := decide_eq_true h1
    rw [e1, Bool.true_and]
    go_enter Tryd.func19, Tryd.ntmps19
    go_wp2_with fail
    clear hw1
    go_quiet (fail)
    go_wp2
    go_ret
    exact ⟨rfl, below_drewN HB.out _⟩
  · have e1 : decide (lo ≤ n) = false := decide_eq_false h1
    rw [e1, Bool.false_and]
    go_enter Tryd.func19, Tryd.ntmps19
    go_wp2_with fail
    clear hw1
    go_quiet (fail)
    go_wp2
    go_ret
    exact ⟨rfl, below_drewN HB.out _⟩
namespace Sc
/-- what reads comes to -/
def ReadsPost (R S k : Nat) (t : List UInt8) (n : Int) (v : List Int) (p : Value) (x : ByteArray) (w : World) (e : Ending) (w' : World) : Prop :=
  Keep (fun j => j = R ∨ j = S) w w' ∧ ((∃ (m : Int) (r : List UInt8) (b a : ByteArray), reads k t = some (m, r) ∧ e = .returned (.bool true) ∧ b.data.toList = r ∧ b.size ≤ t.length ∧ Rd w' R b (n + 1) a ∧ St w' S (v.set k m) p x)
    ∨ (reads k t = none ∧ e = .returned (.bool false) ∧ w'.cell? ⟨R, 1, none⟩ = some (.int .i64 (n + 1))))
theorem line_no (t : List UInt8) (h : t.contains 10 = false) : line t = none := by unfold line; rw [h]; rfl
theorem line_yes (t : List UInt8) (h : t.contains 10 = true) : line t = some (t.takeWhile (· != 10), (t.dropWhile (· != 10)).tail) := by unfold line; rw [h]; rfl
theorem tail_le (t : List UInt8) : (t.dropWhile (· != 10)).tail.length ≤ t.length := by
  have h := (List.dropWhile_sublist (l := t) (· != 10)).length_le
  rw [List.length_tail]
  omega
theorem tw_le (t : List UInt8) : (t.takeWhile (· != 10)).length ≤ t.length := (List.takeWhile_sublist _).length_le
theorem reads_of (k : Nat) (t : List UInt8) (h : t.contains 10 = true) : reads k t =
    if (nm k ++ [32]).isPrefixOf (t.takeWhile (· != 10)) = true then
      (match value ((t.takeWhile (· != 10)).drop (nm k ++ [32]).length) with
      | none => none
      | some n => if may k n then some (n, (t.dropWhile (· != 10)).tail) else none)
    else none := by
  unfold reads
  rw [line_yes t h]
  simp only []
  unfold strip
  by_cases hp : (nm k ++ [32]).isPrefixOf (t.takeWhile (· != 10)) = true
  · rw [if_pos hp, if_pos hp]; rfl
  · rw [if_neg hp, if_neg hp]
end Sc
set_option maxRecDepth 100000 in
set_option maxHeartbeats 2000000 in
theorem reads_any (R S k : Nat) (s l : ByteArray) (n : Int) (v : List Int) (p : Value) (x : ByteArray) (w : World) (hr : Sc.Rd w R s n l) (hst : Sc.St w S v p x) (hRS : R ≠ S) (hv : v.length = 5) (hk : k < 5) (hs : s.size ≤ 1000000) (hn : 0 ≤ n ∧ n ≤ 1000) :
    Calls Tryd.prog 10 #[.pointer (some ⟨R, 0, none⟩), .agg #[.string (Sc.nmB k), .pointer (some ⟨S, k, none⟩), .int .i64 (Sc.low k), .int .i64 (Sc.top k)]] w (Sc.ReadsPost R S k s.data.toList n v p x w) := by
  obtain ⟨X, hX⟩ : ∃ X, w.heap.size = X := ⟨_, rfl⟩
  obtain ⟨w1, hw1⟩ : ∃ w1, w.alloc (.cells #[.string (Sc.nmB k), .pointer (some ⟨S, k, none⟩), .int .i64 (Sc.low k), .int .i64 (Sc.top k)] 42) = w1 := ⟨_, rfl⟩
  have hk1 : Keep (fun j => j = R ∨ j = S) w w1 := by rw [← hw1]; exact (Keep.refl _ _).alloc _
  have hb1 : Keep (fun _ => False) w w1 := by rw [← hw1]; exact (Keep.refl _ _).alloc _
  obtain ⟨d0, d1, d2, d3⟩ := Sc.four_new w (.string (Sc.nmB k)) (.pointer (some ⟨S, k, none⟩)) (.int .i64 (Sc.low k)) (.int .i64 (Sc.top k)) 42
  rw [hw1, hX] at d0 d1 d2 d3
  have hXR : X ≠ R := by have := hr.lt; omega
  have hXS : X ≠ S := by have := hst.lt; omega
  have hX1 := block_lt_of_cell d0
  have hr1 := hr.keep hb1 (fun h => h)
  have hst1 := hst.keep hb1 (fun h => h)
  have hnx := next_any R s l n w1 hr1 hs hn
  have HK1 := Lib.hid hk1
  have HST1 := Lib.hid hst1
  obtain ⟨f, hf⟩ : ∃ f, s.data.toList.contains 10 = f := ⟨_, rfl⟩
  clear hr hst hk1 hb1 hr1 hst1
  go_enter Tryd.func10, Tryd.ntmps10
  go_wp2_with fail
  refine hnx.mono ?_
  rintro e w2 ⟨a, b, rfl, ha, hbl, hrd, hk2⟩
  clear hw1
  have HK2 := Lib.hid (HK1.out.trans (hk2.mono (fun j _ h => .inl h)))
  rw [hf]
  cases f
  · have HN : Hid (Sc.reads k s.data.toList = none) := by show _ = _; unfold Sc.reads; rw [Sc.line_no _ hf]
    have HC := Lib.hid hrd.c1
    clear hf hnx ha hbl hrd hk2
    go_wp2
    go_ret
    exact ⟨HK2.out, .inr ⟨HN.out, rfl, HC.out⟩⟩
  have HN := Lib.hid (Sc.reads_of k s.data.toList hf)
  have h0 := (hk2.cell 0 hX1 hXR).trans d0
  have h1 := (hk2.cell 1 hX1 hXR).trans d1
  have h2 := (hk2.cell 2 hX1 hXR).trans d2
  have h3 := (hk2.cell 3 hX1 hXR).trans d3
  have r2 := hrd.c2
  have HRD := Lib.hid hrd
  have HST2 := Lib.hid (HST1.out.keep hk2 (fun h => hRS h.symm))
  have HA := Lib.hid ha
  have HBL := Lib.hid hbl
  have hX2 := block_lt_of_cell h0
  have has : a.size ≤ 1000000 := by
    have := congrArg List.length ha
    have h2 := Sc.tw_le s.data.toList
    rw [Fx.size_toList] at this h2
    omega
  have hbs : b.size ≤ s.data.toList.length := by
    have := congrArg List.length hbl
    have h2 := Sc.tail_le s.data.toList
    rw [Fx.size_toList] at this
    omega
  obtain ⟨P, hP⟩ : ∃ P : ByteArray, Sc.nmB k ++ ⟨#[32]⟩ = P := ⟨_, rfl⟩
  have hPl : P.data.toList = Sc.nm k ++ [32] := by rw [← hP]; simp [Sc.nmB]
  have q := fun wx => CutPrefix_any a P wx has
  obtain ⟨g, hg⟩ : ∃ g, P.data.toList.isPrefixOf a.data.toList = g := ⟨_, rfl⟩
  rw [hg] at q
  obtain ⟨y, hy⟩ : ∃ y, Sc.restB P a = y := ⟨_, rfl⟩
  have hys : y.size ≤ 1000000 := by rw [← hy]; exact Nat.le_trans (Sc.restB_size P a) has
  rw [hy] at q
  have hns : (Sc.nmB k).size ≤ 10 := Sc.nmB_size k
  have hns2 : ¬ 9223372036854775807 < (Sc.nmB k).size + 1 := by omega
  clear hf hnx ha hbl hrd hk2 d0 d1 d2 d3
  go_wp2_with fail
  go_region_held3 (fun w' => w'.cell? ⟨R, 2, none⟩ = some (.string a) ∧ w'.cell? ⟨X, 0, none⟩ = some (.string (Sc.nmB k))) (go_keep) (first | (go_at_call 17; refine (q _).mono ?_; rintro e w3 ⟨rfl, rfl⟩))
  go_wp2_with fail
  refine (value_any y _ hys).mono ?_
  rintro e w3 ⟨rfl, hw3⟩
  have h0 : w3.cell? ⟨X, 0, none⟩ = some (.string (Sc.nmB k)) := by rw [← hw3]; exact h0
  have h1 : w3.cell? ⟨X, 1, none⟩ = some (.pointer (some ⟨S, k, none⟩)) := by rw [← hw3]; exact h1
  have h2 : w3.cell? ⟨X, 2, none⟩ = some (.int .i64 (Sc.low k)) := by rw [← hw3]; exact h2
  have h3 : w3.cell? ⟨X, 3, none⟩ = some (.int .i64 (Sc.top k)) := by rw [← hw3]; exact h3
  have hb3 : Below w2.heap.size w2 w3 := by rw [← hw3]; exact (Below.refl _ _).drew
  have hk3 : Keep (fun _ => False) w2 w3 := (Keep.refl _ _).below hb3
  have hst3 := HST2.out.keep hk3 (fun h => h)
  have sk := hst3.n k hk
  have sf := hst3.fz
  obtain ⟨n', hn'⟩ : ∃ n', (Fx.parse y.data.toList).1 = n' := ⟨_, rfl⟩
  rw [hn']
  obtain ⟨w4, hw4⟩ : ∃ w4, w3.setCell ⟨S, k, none⟩ (.int .i64 n') = w4 := ⟨_, rfl⟩
  have hst4 : Sc.St w4 S (v.set k n') p x := by rw [← hw4]; exact hst3.set hv k hk n'
  have hk4 : Keep (· = S) w3 w4 := by rw [← hw4]; exact (Keep.refl (· = S) w3).setCell (B := S) rfl k _
  have hr4 := (HRD.out.keep hk3 (fun h => h)).keep hk4 hRS
  have g0 := (hk4.cell 0 (block_lt_of_cell h0) hXS).trans h0
  have g1 := (hk4.cell 1 (block_lt_of_cell h1) hXS).trans h1
  have g2 := (hk4.cell 2 (block_lt_of_cell h2) hXS).trans h2
  have g3 := (hk4.cell 3 (block_lt_of_cell h3) hXS).trans h3
  have g4 : w4.cell? ⟨S, k, none⟩ = some (.int .i64 n') := by rw [← hw4]; exact World.cell?_setCell_same _ _ _ sk
  have HK4 := Lib.hid ((HK2.out.trans (hk3.mono (fun _ _ h => h.elim))).trans (hk4.mono (fun _ _ h => .inr h)))
  have HR4 := Lib.hid hr4
  have HST4 := Lib.hid hst4
  obtain ⟨F, hF⟩ : ∃ F, (Sc.value y.data.toList).isSome = F := ⟨_, rfl⟩
  rw [hF]
  have HN2 : Hid (Sc.reads k s.data.toList = if g = true then (match Sc.value (a.data.toList.drop P.data.toList.length) with | none => none | some n => if Sc.may k n = true then some (n, b.data.toList) else none) else none) := by
    show _ = _
    rw [HN.out, ← HA.out, ← HBL.out, ← hPl, hg]
  clear HN HA HBL hb3 hk3 hst3 hst4 hk4 hr4 HK1 HK2 HST1 HST2 HRD hX1 hX2
  cases g
  · have HZ : Hid (Sc.reads k s.data.toList = none) := HN2.out
    have HC := Lib.hid HR4.out.c1
    clear HN2 q hw3
    go_wp2
    go_ret
    exact ⟨HK4.out, .inr ⟨HZ.out, rfl, HC.out⟩⟩
  have hyl : y.data.toList = a.data.toList.drop P.data.toList.length := by rw [← hy]; exact Sc.restB_yes P a hg
  have HN3 : Hid (Sc.reads k s.data.toList = (match Sc.value y.data.toList with | none => none | some n => if Sc.may k n = true then some (n, b.data.toList) else none)) := by
    show _ = _
    rw [HN2.out, hyl]; rfl
  cases F
  · have hvn : Sc.value y.data.toList = none := by
      cases hv0 : Sc.value y.data.toList with
      | none => rfl
      | some m => rw [hv0] at hF; simp at hF
    have HZ : Hid (Sc.reads k s.data.toList = none) := by show _ = _; rw [HN3.out, hvn]
    have HC := Lib.hid HR4.out.c1
    clear HN2 HN3 q hw3 hyl hvn hF hg
    go_wp2
    go_ret
    exact ⟨HK4.out, .inr ⟨HZ.out, rfl, HC.out⟩⟩
  have hvs : Sc.value y.data.toList = some n' := by
    cases hv0 : Sc.value y.data.toList with
    | none => rw [hv0] at hF; simp at hF
    | some m =>
      unfold Sc.value at hv0
      split at hv0
      · rw [← hv0, hn']
      · simp at hv0
  have HN4 : Hid (Sc.reads k s.data.toList = if Sc.may k n' = true then some (n', b.data.toList) else none) := by
    show _ = _; rw [HN3.out, hvs]
  have hm := may_any (Sc.nmB k) S k n' (Sc.low k) (Sc.top k) w4 g4
  have hmay : (decide (Sc.low k ≤ n') && decide (n' ≤ Sc.top k)) = Sc.may k n' := rfl
  rw [hmay] at hm
  clear HN2 HN3 q hw3 hyl hvs hF hg hn' hmay
  cases hmm : Sc.may k n'
  · rw [hmm] at hm
    have HZ : Hid (Sc.reads k s.data.toList = none) := by show _ = _; rw [HN4.out, hmm]; rfl
    clear hmm HN4
    go_wp2_with fail
    refine hm.mono ?_
    rintro e w5 ⟨rfl, hb5⟩
    have HC := Lib.hid ((hb5.cell (block_lt_of_cell HR4.out.c1)).trans HR4.out.c1)
    have HK5 := Lib.hid (HK4.out.below hb5)
    clear hb5 hm
    go_wp2
    go_ret
    exact ⟨HK5.out, .inr ⟨HZ.out, rfl, HC.out⟩⟩
  · rw [hmm] at hm
    have HZ : Hid (Sc.reads k s.data.toList = some (n', b.data.toList)) := by show _ = _; rw [HN4.out, hmm]; rfl
    clear hmm HN4
    go_wp2_with fail
    refine hm.mono ?_
    rintro e w5 ⟨rfl, hb5⟩
    have hk5 : Keep (fun _ => False) w4 w5 := (Keep.refl _ _).below hb5
    have HK5 := Lib.hid (HK4.out.below hb5)
    have HR5 := Lib.hid (HR4.out.keep hk5 (fun h => h))
    have HST5 := Lib.hid (HST4.out.keep hk5 (fun h => h))
    clear hb5 hm hk5
    go_wp2
    go_ret
    exact ⟨HK5.out, .inl ⟨n', _, b, a, HZ.out, rfl, rfl, hbs, HR5.out, HST5.out⟩⟩
end Go.Proofs.YtomggdeinjediaaDoor
