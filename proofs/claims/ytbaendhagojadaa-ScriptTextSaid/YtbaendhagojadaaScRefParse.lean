/-
  The walk of the reference's Parse.
-/
import Derived.Test.YtbaendhagojadaaScRefB
namespace Go.Proofs.Ytbaendhagojadaa
open Go.RowKit Go.Sort
namespace Sc
theorem numR_noblank (u : List UInt8) (h : numR u ≠ -1) : u.contains 32 = false := by
  have h1 := (numR_of u h).1
  cases hc : u.contains 32
  · rfl
  · rw [List.all_eq_true] at h1
    have := h1 32 (List.contains_iff_mem.1 hc)
    revert this
    decide
theorem low_nn (k : Nat) : 0 ≤ low k := by unfold low; split <;> omega
theorem top_le (k : Nat) : top k ≤ 65536 := by unfold top; split <;> omega
theorem may_bd (k : Nat) (n : Int) (h : may k n = true) : 0 ≤ n ∧ n ≤ 65536 := by
  unfold may at h
  rw [Bool.and_eq_true, decide_eq_true_eq, decide_eq_true_eq] at h
  have := low_nn k
  have := top_le k
  omega
/-- a line with a number, as the reference has it -/
theorem reads_ref (k : Nat) (t : List UInt8) (h : t.contains 10 = true) : reads k t =
    match strip (nm k ++ [32]) (t.takeWhile (· != 10)) with
    | none => none
    | some ws => match cuts ws with
      | [u] => if may k (numR u) = true then some (numR u, (t.dropWhile (· != 10)).tail) else none
      | _ => none := by
  unfold reads
  rw [line_yes t h]
  simp only []
  cases strip (nm k ++ [32]) (t.takeWhile (· != 10)) with
  | none => rfl
  | some ws =>
    simp only []
    by_cases hm : ∃ n, value ws = some n ∧ may k n = true
    · obtain ⟨n, hv, hm⟩ := hm
      obtain ⟨h1, h2, _⟩ := (value_num ws n).1 hv
      have hb := numR_noblank ws (by omega)
      rw [hv, cuts_no ws hb]
      simp only []
      rw [h1]
    · have hl : (match value ws with
        | none => none
        | some n => if may k n = true then some (n, (t.dropWhile (· != 10)).tail) else none) = none := by
        cases hv : value ws with
        | none => rfl
        | some n =>
          simp only []
          rw [if_neg (fun h => hm ⟨n, hv, h⟩)]
      refine Eq.trans hl ?_
      symm
      split
      · rename_i u hu
        by_cases hc : ws.contains 32 = true
        · rw [cuts_yes ws hc] at hu
          injection hu with _ hu
          exact absurd hu (cuts_ne _)
        · rw [cuts_no ws (by simpa using hc)] at hu
          injection hu with hu _
          subst hu
          rw [if_neg]
          intro h2
          have hb := may_bd k _ h2
          exact hm ⟨numR ws, (value_num ws _).2 ⟨rfl, hb.1, by omega⟩, h2⟩
      · rfl
theorem pick_num (wk : Int) (u : List UInt8) (hw : wk ≤ 16) : pick wk u = if 0 ≤ numR u ∧ numR u < wk then some (UInt8.ofNat (numR u).toNat) else none := by
  unfold pick
  cases hv : value u with
  | none =>
    simp only []
    rw [if_neg]
    rintro ⟨h1, h2⟩
    have := (value_num u (numR u)).2 ⟨rfl, h1, by omega⟩
    rw [hv] at this
    cases this
  | some n =>
    obtain ⟨h1, h2, h3⟩ := (value_num u n).1 hv
    simp only []
    rw [h1]
    by_cases hn : n < wk
    · rw [if_pos hn, if_pos ⟨h2, hn⟩]
    · rw [if_neg hn, if_neg (fun h => hn h.2)]
theorem cuts_le : ∀ (t u : List UInt8), u ∈ cuts t → u.length ≤ t.length := by
  intro t
  induction t with
  | nil => intro u hu; simp [cuts] at hu; rw [hu]; simp
  | cons c t ih =>
    intro u hu
    unfold cuts at hu
    split at hu
    · rcases List.mem_cons.1 hu with rfl | hu
      · simp
      · have := ih u hu
        simp only [List.length_cons]; omega
    · split at hu
      · rename_i h; exact absurd h (cuts_ne t)
      · rename_i h r hr
        rcases List.mem_cons.1 hu with rfl | hu
        · have := ih h (by rw [hr]; simp)
          simp only [List.length_cons]; omega
        · have := ih u (by rw [hr]; simp [hu])
          simp only [List.length_cons]; omega
theorem strip_le (p t ws : List UInt8) (h : strip p t = some ws) : ws.length ≤ t.length := by
  unfold strip at h
  split at h
  · injection h with h
    rw [← h, List.length_drop]; omega
  · cases h
theorem cuts_count : ∀ (t : List UInt8), (cuts t).length ≤ t.length + 1 := by
  intro t
  induction t with
  | nil => simp [cuts]
  | cons c t ih =>
    unfold cuts
    split
    · simp only [List.length_cons]; omega
    · split
      · rename_i h; exact absurd h (cuts_ne t)
      · rename_i h r hr
        rw [hr] at ih
        simp only [List.length_cons] at ih ⊢; omega
theorem strip_nil (p : List UInt8) (h : p ≠ []) : strip p [] = none := by
  unfold strip
  rw [if_neg]
  cases p with
  | nil => exact absurd rfl h
  | cons c p => simp
theorem reads_line {k : Nat} {t a : List UInt8} (hc : t.contains 10 = true) (ha : a = t.takeWhile (· != 10)) : (strip (nm k ++ [32]) a = none → reads k t = none) ∧ (∀ ws, strip (nm k ++ [32]) a = some ws → (¬ (∃ u, cuts ws = [u]) → reads k t = none) ∧ (∀ u, cuts ws = [u] → (may k (numR u) = false → reads k t = none) ∧ (may k (numR u) = true → reads k t = some (numR u, (t.dropWhile (· != 10)).tail)))) := by
  rw [reads_ref k t hc, ← ha]
  refine ⟨fun h => by rw [h], fun ws h => ?_⟩
  rw [h]
  simp only []
  refine ⟨fun hn => ?_, fun u hu => ?_⟩
  · split
    · rename_i u hu
      exact absurd ⟨u, hu⟩ hn
    · rfl
  · rw [hu]
    simp only []
    exact ⟨fun hm => by rw [hm]; rfl, fun hm => by rw [hm]; rfl⟩
theorem str_cell {w : World} {b g c : Nat} {L : List (List UInt8)} (ho : w.ownsRow b 9 1 (.slice (some ⟨g, 0, none⟩) L.length c) L.length (L.map strV)) (j : Nat) (hj : j < L.length) : w.cell? ⟨g, j, none⟩ = some (.string ⟨L[j].toArray⟩) := by
  rw [ho.cellAt j (by omega), List.getElem?_map, List.getElem?_eq_getElem hj]
  rfl
theorem str_form {w : World} {b : Nat} {pv : Value} {L : List (List UInt8)} (ho : w.ownsRow b 9 1 pv L.length (L.map strV)) (hL : L ≠ []) : ∃ g c, pv = .slice (some ⟨g, 0, none⟩) L.length c := by
  rcases Joins.ownsRow_forms ho with ⟨rfl, hz⟩ | ⟨g, cap, rfl, _⟩
  · exact absurd (List.eq_nil_of_length_eq_zero hz) hL
  · exact ⟨g, cap, rfl⟩
end Sc
set_option maxRecDepth 100000 in
set_option maxHeartbeats 8000000 in
theorem Parse25_walk (s : ByteArray) (w : World) (hs : s.size ≤ 1000000) :
    Calls Try.prog 9 #[.string s] w (Sc.ParsePost (Sc.parse s.data.toList) w) := by
  by_cases hl : 20000 < s.size
  · have HR : Hid (Sc.parse s.data.toList = .err 0 3) := by show _ = _; unfold Sc.parse; rw [if_pos (by rw [Fx.size_toList]; exact hl)]
    have hli : 20000 < (s.size : Int) := by omega
    go_enter Try.func9, Try.ntmps9
    go_wp2
    refine bodyPost_ret (v := .tuple #[Sc.zeroA, .int .i64 0, .int .i64 3]) (by simp [results, Try.results9, go_sem, Sc.zeroA]) rfl (.no HR.out ((Below.refl _ _).alloc (Nat.le_refl _) _))
  have hli : ¬ 20000 < (s.size : Int) := by omega
  have HR : Hid (Sc.parse s.data.toList = Sc.nums 5 0 [] s.data.toList) := by show _ = _; unfold Sc.parse; rw [if_neg (by rw [Fx.size_toList]; exact hl)]
  obtain ⟨A, hA⟩ : ∃ A, w.heap.size = A := ⟨_, rfl⟩
  obtain ⟨w2, hw2⟩ : ∃ w2, ((w.alloc (.cells #[.int .i64 0, .int .i64 0, .int .i64 0, .int .i64 0, .int .i64 0, .slice none 0 0, .string ⟨#[]⟩] 25)).alloc (.cells #[.int .i64 0, .int .i64 0, .int .i64 0, .int .i64 0, .int .i64 0, .slice none 0 0, .string ⟨#[]⟩] 25)) = w2 := ⟨_, rfl⟩
  have z1 := Sc.seven_new w 25
  have z2 := Sc.seven_new (w.alloc (.cells #[.int .i64 0, .int .i64 0, .int .i64 0, .int .i64 0, .int .i64 0, .slice none 0 0, .string ⟨#[]⟩] 25)) 25
  have z1' := z1.keep ((Keep.refl (fun _ => False) _).alloc (.cells #[.int .i64 0, .int .i64 0, .int .i64 0, .int .i64 0, .int .i64 0, .slice none 0 0, .string ⟨#[]⟩] 25)) (fun h => h)
  rw [hw2] at z1' z2
  simp only [World.size_alloc] at z1' z2
  rw [hA] at z1' z2
  have HB2 : Hid (Below A w w2) := by show Below A w w2; rw [← hw2, ← hA]; exact ((Below.refl _ _).alloc (Nat.le_refl _) _).alloc (by simp) _
  have HSZ2 : Hid (A + 2 ≤ w2.heap.size) := by show A + 2 ≤ _; rw [← hw2]; simp; omega
  have HZ := Lib.hid z1'
  have HS0 := Lib.hid z2
  have HA := Lib.hid hA
  clear z1 z2 z1'
  go_enter Try.func9, Try.ntmps9
  go_wp2_with fail
  clear hw2 hA
  go_loopw [6, 7] (fun va vk wr => ∃ (k m : Nat) (v0 v1 v2 v3 v4 : Int), va = .int .i64 m ∧ vk = .int .i64 k ∧ k ≤ 5 ∧ m ≤ s.size ∧ Hid (Sc.parse s.data.toList = Sc.nums (5 - k) k ([v0, v1, v2, v3, v4].take k) (s.data.toList.drop m)) ∧ Hid (Sc.St wr (A + 1) [v0, v1, v2, v3, v4] (.slice none 0 0) ⟨#[]⟩) ∧ Hid (Sc.St wr A [0, 0, 0, 0, 0] (.slice none 0 0) ⟨#[]⟩) ∧ Hid (A + 2 ≤ wr.heap.size) ∧ Hid (Below A w wr) ∧ Hid (∀ j, j < k → Sc.may j ([v0, v1, v2, v3, v4].getD j 0) = true)) (fun _ vk _ => 5 - (intOf vk).toNat)
  case atStart => exact ⟨0, 0, 0, 0, 0, 0, 0, rfl, rfl, by omega, by omega, by rw [List.drop_zero]; exact HR.out, HS0, HZ, HSZ2, HB2, fun j hj => absurd hj (by omega)⟩
  case round =>
    obtain ⟨k, m, v0, v1, v2, v3, v4, rfl, rfl, hk, hm, HP, HS1, HZ1, HL, HB1, HM⟩ := hrel
    by_cases hlt : k < 5
    case neg =>
      obtain rfl : k = 5 := by omega
      have hge : ¬ ((5 : Nat) : Int) < 5 := by omega
      have HP1 : Hid (Sc.parse s.data.toList = Sc.tailP (Sc.mk [v0, v1, v2, v3, v4]) (s.data.toList.drop m)) := HP.out
      have hln := line25_any s m wr hs hm
      have hnil : ∀ wq : World, (binOp .neq 54 (.slice none 0 0) (.slice none 0 0)).run Try.prog wq = .ok (.bool false) wq := fun wq => run_neq_slice_nil_any wq 54 9 none 0 0 0 0 Try.underlying54
      clear HP
      go_wp2_with fail
      refine hln.mono ?_
      rintro e w1 ⟨rfl, hl1⟩
      rcases hl1 with ⟨a, m2', hc, rfl, ha, hm1, hm2, hdr⟩ | ⟨hc, rfl⟩
      case inr =>
        have HPE : Hid (Sc.parse s.data.toList = .err 6 250) := by
          show _ = _; rw [HP1.out]; unfold Sc.tailP; rw [Sc.line_no _ hc]
        have hwd := fun wq => words25_any ⟨#[]⟩ ⟨#[112, 105, 99, 107, 115]⟩ wq (by decide) (by decide)
        clear hc hln HP1
        go_wp2_with fail
        refine (hwd _).mono ?_
        rintro e w4 ⟨hb4, h4⟩
        rw [Sc.strip_nil _ (by simp)] at h4
        simp only [] at h4
        subst h4
        have hk4 : Keep (fun _ => False) wr w4 := (Keep.refl _ _).below hb4
        have HZ4 := Lib.hid (HZ1.out.keep hk4 (fun h => h))
        have HL4 : Hid (A + 2 ≤ w4.heap.size) := Nat.le_trans HL.out hk4.size
        have HB4 : Hid (Below A w w4) := HB1.out.trans (hk4.to_below (fun j h => h.elim) (by have := HL.out; omega))
        clear hb4 hk4 hwd
        have z0 := HZ4.out.n 0 (by omega)
        have z1 := HZ4.out.n 1 (by omega)
        have z2 := HZ4.out.n 2 (by omega)
        have z3 := HZ4.out.n 3 (by omega)
        have z4 := HZ4.out.n 4 (by omega)
        have z5 := HZ4.out.c5
        have z6 := HZ4.out.c6
        have zf := HZ4.out.fz
        obtain ⟨hp7, hk7⟩ := Sc.put7 HZ4.out 0 0 0 0 0 (.slice none 0 0) ⟨#[]⟩
        obtain ⟨w7, hw7⟩ : ∃ w7, (((((((w4.setCell ⟨A, 0, none⟩ (.int .i64 0)).setCell ⟨A, 1, none⟩ (.int .i64 0)).setCell ⟨A, 2, none⟩ (.int .i64 0)).setCell ⟨A, 3, none⟩ (.int .i64 0)).setCell ⟨A, 4, none⟩ (.int .i64 0)).setCell ⟨A, 5, none⟩ (.slice none 0 0)).setCell ⟨A, 6, none⟩ (.string ⟨#[]⟩)) = w7 := ⟨_, rfl⟩
        rw [hw7] at hp7 hk7
        have HP7 := Lib.hid hp7
        have HB7 : Hid (Below A w w7) := HB4.out.trans (hk7.to_below (fun j h => Nat.le_of_eq h.symm) (by have := HL4.out; omega))
        clear hp7 hk7
        go_wp2
        clear z0 z1 z2 z3 z4 z5 z6 zf
        have z0 : w7.cell? ⟨A, 0, none⟩ = some (.int .i64 0) := HP7.out.n 0 (by omega)
        have z1 : w7.cell? ⟨A, 1, none⟩ = some (.int .i64 0) := HP7.out.n 1 (by omega)
        have z2 : w7.cell? ⟨A, 2, none⟩ = some (.int .i64 0) := HP7.out.n 2 (by omega)
        have z3 : w7.cell? ⟨A, 3, none⟩ = some (.int .i64 0) := HP7.out.n 3 (by omega)
        have z4 : w7.cell? ⟨A, 4, none⟩ = some (.int .i64 0) := HP7.out.n 4 (by omega)
        have z5 := HP7.out.c5
        have z6 := HP7.out.c6
        refine bodyPost_ret (v := .tuple #[Sc.zeroA, .int .i64 (6), .int .i64 250]) (by simp [results, Try.results9, go_sem, Sc.zeroA, z0, z1, z2, z3, z4, z5, z6]) rfl (.no HPE.out (by rw [HA.out]; exact HB7.out))
      have has : a.size ≤ 1000000 := by
        have := congrArg List.length ha
        have h2 := Sc.tw_le (s.data.toList.drop m)
        rw [List.length_drop, Fx.size_toList] at h2
        rw [Fx.size_toList] at this
        omega
      have hP2 : Sc.parse s.data.toList = (match Sc.strip Sc.picksW a.data.toList with
          | none => Sc.last 6 (Sc.mk [v0, v1, v2, v3, v4]) a.data.toList (s.data.toList.drop m2')
          | some ws => match Sc.picks v2 0 (Sc.cuts ws) with
            | none => .err 6 250
            | some ps => match Sc.line (s.data.toList.drop m2') with
              | none => .err 7 250
              | some (l2, r2) => Sc.last 7 { Sc.mk [v0, v1, v2, v3, v4] with p := ps } l2 r2) := by
        rw [HP1.out]; unfold Sc.tailP; rw [Sc.line_yes _ hc, ← ha, ← hdr]; rfl
      have hwk : v2 ≤ 16 := by
        have := HM.out 2 (by omega)
        unfold Sc.may at this
        rw [Bool.and_eq_true, decide_eq_true_eq, decide_eq_true_eq] at this
        exact this.2
      have hwd := fun wq => words25_any a ⟨#[112, 105, 99, 107, 115]⟩ wq has (by decide)
      have HP0 := Lib.hid hP2
      clear hc hln HP1 ha hdr hP2
      go_wp2_with fail
      refine (hwd _).mono ?_
      rintro e w4 ⟨hb4, h4⟩
      have hP2 := HP0.out
      rw [show (⟨#[112, 105, 99, 107, 115]⟩ : ByteArray).data.toList ++ [32] = Sc.picksW from rfl] at h4
      have hk4 : Keep (fun _ => False) wr w4 := (Keep.refl _ _).below hb4
      have HZ4 := Lib.hid (HZ1.out.keep hk4 (fun h => h))
      have HS4 := Lib.hid (HS1.out.keep hk4 (fun h => h))
      have HL4 : Hid (A + 2 ≤ w4.heap.size) := Nat.le_trans HL.out hk4.size
      have HB4 : Hid (Below A w w4) := HB1.out.trans (hk4.to_below (fun j h => h.elim) (by have := HL.out; omega))
      clear hb4 hk4 hwd
      cases hst : Sc.strip Sc.picksW a.data.toList with
      | none =>
        rw [hst] at h4 hP2
        simp only [] at h4 hP2
        subst h4
        have HPL : Hid (Sc.parse s.data.toList = Sc.last 6 (Sc.mk [v0, v1, v2, v3, v4]) a.data.toList (s.data.toList.drop m2')) := hP2
        clear hP2 hst
        have hpr0 : (a.toList == [112, 114, 111, 103, 114, 97, 109]) = decide (a.data.toList = Sc.program) := by rw [ByteArray.toList_eq, Bool.eq_iff_iff, beq_iff_eq, decide_eq_true_iff]; rfl
        have hmi : (m2' : Int) ≤ (s.size : Int) := by omega
        by_cases hpg : a.data.toList = Sc.program
        case neg =>
          have HPE : Hid (Sc.parse s.data.toList = .err (6) 250) := by show _ = _; rw [HPL.out]; exact Sc.last_no (fun h => hpg h.1)
          have hpr : (a.toList == [112, 114, 111, 103, 114, 97, 109]) = false := by rw [hpr0]; exact decide_eq_false hpg
          have hpr2 : (a.toList != [112, 114, 111, 103, 114, 97, 109]) = true := by rw [bne, hpr]; rfl
          clear hpr0 hpg
          have z0 := HZ4.out.n 0 (by omega)
          have z1 := HZ4.out.n 1 (by omega)
          have z2 := HZ4.out.n 2 (by omega)
          have z3 := HZ4.out.n 3 (by omega)
          have z4 := HZ4.out.n 4 (by omega)
          have z5 := HZ4.out.c5
          have z6 := HZ4.out.c6
          have zf := HZ4.out.fz
          obtain ⟨hp7, hk7⟩ := Sc.put7 HZ4.out 0 0 0 0 0 (.slice none 0 0) ⟨#[]⟩
          obtain ⟨w7, hw7⟩ : ∃ w7, (((((((w4.setCell ⟨A, 0, none⟩ (.int .i64 0)).setCell ⟨A, 1, none⟩ (.int .i64 0)).setCell ⟨A, 2, none⟩ (.int .i64 0)).setCell ⟨A, 3, none⟩ (.int .i64 0)).setCell ⟨A, 4, none⟩ (.int .i64 0)).setCell ⟨A, 5, none⟩ (.slice none 0 0)).setCell ⟨A, 6, none⟩ (.string ⟨#[]⟩)) = w7 := ⟨_, rfl⟩
          rw [hw7] at hp7 hk7
          have HP7 := Lib.hid hp7
          have HB7 : Hid (Below A w w7) := HB4.out.trans (hk7.to_below (fun j h => Nat.le_of_eq h.symm) (by have := HL4.out; omega))
          clear hp7 hk7
          go_wp2
          clear z0 z1 z2 z3 z4 z5 z6 zf
          have z0 : w7.cell? ⟨A, 0, none⟩ = some (.int .i64 0) := HP7.out.n 0 (by omega)
          have z1 : w7.cell? ⟨A, 1, none⟩ = some (.int .i64 0) := HP7.out.n 1 (by omega)
          have z2 : w7.cell? ⟨A, 2, none⟩ = some (.int .i64 0) := HP7.out.n 2 (by omega)
          have z3 : w7.cell? ⟨A, 3, none⟩ = some (.int .i64 0) := HP7.out.n 3 (by omega)
          have z4 : w7.cell? ⟨A, 4, none⟩ = some (.int .i64 0) := HP7.out.n 4 (by omega)
          have z5 := HP7.out.c5
          have z6 := HP7.out.c6
          refine bodyPost_ret (v := .tuple #[Sc.zeroA, .int .i64 (6), .int .i64 250]) (by simp [results, Try.results9, go_sem, Sc.zeroA, z0, z1, z2, z3, z4, z5, z6]) rfl (.no HPE.out (by rw [HA.out]; exact HB7.out))
        have hpr : (a.toList == [112, 114, 111, 103, 114, 97, 109]) = true := by rw [hpr0]; exact decide_eq_true hpg
        have hpr2 : (a.toList != [112, 114, 111, 103, 114, 97, 109]) = false := by rw [bne, hpr]; rfl
        have hdlen : (s.data.toList.drop m2').length = s.size - m2' := by rw [List.length_drop, Fx.size_toList]
        by_cases hbig : 16384 < s.size - m2'
        case pos =>
          have HPE : Hid (Sc.parse s.data.toList = .err (6) 250) := by show _ = _; rw [HPL.out]; exact Sc.last_no (fun h => by have := h.2; rw [hdlen] at this; omega)
          have hbigi : 16384 < (s.size : Int) - (m2' : Int) := by omega
          clear hpr0 hpg hbig hdlen
          have z0 := HZ4.out.n 0 (by omega)
          have z1 := HZ4.out.n 1 (by omega)
          have z2 := HZ4.out.n 2 (by omega)
          have z3 := HZ4.out.n 3 (by omega)
          have z4 := HZ4.out.n 4 (by omega)
          have z5 := HZ4.out.c5
          have z6 := HZ4.out.c6
          have zf := HZ4.out.fz
          obtain ⟨hp7, hk7⟩ := Sc.put7 HZ4.out 0 0 0 0 0 (.slice none 0 0) ⟨#[]⟩
          obtain ⟨w7, hw7⟩ : ∃ w7, (((((((w4.setCell ⟨A, 0, none⟩ (.int .i64 0)).setCell ⟨A, 1, none⟩ (.int .i64 0)).setCell ⟨A, 2, none⟩ (.int .i64 0)).setCell ⟨A, 3, none⟩ (.int .i64 0)).setCell ⟨A, 4, none⟩ (.int .i64 0)).setCell ⟨A, 5, none⟩ (.slice none 0 0)).setCell ⟨A, 6, none⟩ (.string ⟨#[]⟩)) = w7 := ⟨_, rfl⟩
          rw [hw7] at hp7 hk7
          have HP7 := Lib.hid hp7
          have HB7 : Hid (Below A w w7) := HB4.out.trans (hk7.to_below (fun j h => Nat.le_of_eq h.symm) (by have := HL4.out; omega))
          clear hp7 hk7
          go_wp2
          clear z0 z1 z2 z3 z4 z5 z6 zf
          have z0 : w7.cell? ⟨A, 0, none⟩ = some (.int .i64 0) := HP7.out.n 0 (by omega)
          have z1 : w7.cell? ⟨A, 1, none⟩ = some (.int .i64 0) := HP7.out.n 1 (by omega)
          have z2 : w7.cell? ⟨A, 2, none⟩ = some (.int .i64 0) := HP7.out.n 2 (by omega)
          have z3 : w7.cell? ⟨A, 3, none⟩ = some (.int .i64 0) := HP7.out.n 3 (by omega)
          have z4 : w7.cell? ⟨A, 4, none⟩ = some (.int .i64 0) := HP7.out.n 4 (by omega)
          have z5 := HP7.out.c5
          have z6 := HP7.out.c6
          refine bodyPost_ret (v := .tuple #[Sc.zeroA, .int .i64 (6), .int .i64 250]) (by simp [results, Try.results9, go_sem, Sc.zeroA, z0, z1, z2, z3, z4, z5, z6]) rfl (.no HPE.out (by rw [HA.out]; exact HB7.out))
        have hbigi : ¬ 16384 < (s.size : Int) - (m2' : Int) := by omega
        obtain ⟨y, hy⟩ : ∃ y, s.extract m2' s.size = y := ⟨_, rfl⟩
        have hyl : y.data.toList = s.data.toList.drop m2' := by rw [← hy]; exact Sc.ext_drop s _
        have HPE : Hid (Sc.parse s.data.toList = .ok ⟨v0, v1, v2, v3, v4, ([] : List UInt8), y.data.toList⟩) := by show _ = _; rw [HPL.out, ← hyl]; exact Sc.last_yes hpg (by rw [hyl, hdlen]; omega)
        obtain ⟨w8, hw8⟩ : ∃ w8, w4.setCell ⟨A + 1, 6, none⟩ (.string y) = w8 := ⟨_, rfl⟩
        have hs8 : Sc.St w8 (A + 1) [v0, v1, v2, v3, v4] (.slice none 0 0) y := by rw [← hw8]; exact HS4.out.set6 y
        have hk8 : Keep (· = A + 1) w4 w8 := by rw [← hw8]; exact (Keep.refl (· = A + 1) w4).setCell (B := A + 1) rfl 6 _
        have hz8 := HZ4.out.keep hk8 (fun h => absurd (show A = A + 1 from h) (by omega))
        have y6 := HS4.out.c6
        have yf := HS4.out.fz
        have x0 : w8.cell? ⟨A + 1, 0, none⟩ = some (.int .i64 v0) := hs8.n 0 (by omega)
        have x1 : w8.cell? ⟨A + 1, 1, none⟩ = some (.int .i64 v1) := hs8.n 1 (by omega)
        have x2 : w8.cell? ⟨A + 1, 2, none⟩ = some (.int .i64 v2) := hs8.n 2 (by omega)
        have x3 : w8.cell? ⟨A + 1, 3, none⟩ = some (.int .i64 v3) := hs8.n 3 (by omega)
        have x4 : w8.cell? ⟨A + 1, 4, none⟩ = some (.int .i64 v4) := hs8.n 4 (by omega)
        have x5 := hs8.c5
        have x6 := hs8.c6
        have z0 := hz8.n 0 (by omega)
        have z1 := hz8.n 1 (by omega)
        have z2 := hz8.n 2 (by omega)
        have z3 := hz8.n 3 (by omega)
        have z4 := hz8.n 4 (by omega)
        have z5 := hz8.c5
        have z6 := hz8.c6
        have zf := hz8.fz
        obtain ⟨hp9, hk9⟩ := Sc.put7 hz8 v0 v1 v2 v3 v4 (.slice none 0 0) y
        obtain ⟨w9, hw9⟩ : ∃ w9, (((((((w8.setCell ⟨A, 0, none⟩ (.int .i64 v0)).setCell ⟨A, 1, none⟩ (.int .i64 v1)).setCell ⟨A, 2, none⟩ (.int .i64 v2)).setCell ⟨A, 3, none⟩ (.int .i64 v3)).setCell ⟨A, 4, none⟩ (.int .i64 v4)).setCell ⟨A, 5, none⟩ (.slice none 0 0)).setCell ⟨A, 6, none⟩ (.string y)) = w9 := ⟨_, rfl⟩
        rw [hw9] at hp9 hk9
        have HP9 := Lib.hid hp9
        have HB9 : Hid (Below A w w9) := (HB4.out.trans (hk8.to_below (fun j h => by have h : j = A + 1 := h; omega) (by have := HL4.out; omega))).trans (hk9.to_below (fun j h => Nat.le_of_eq (Eq.symm h)) (by have := HL4.out; have := hk8.size; omega))
        have HO9 : Hid (w9.ownsRow A 5 1 (.slice none 0 0) (([] : List UInt8)).length ((([] : List UInt8)).map Sc.byteV)) := Sc.own_base (Keep.own (Keep.own (World.ownsRow_nil w4 w4.heap.size 5 1) hk8 (fun j h => by have h : j = A + 1 := h; have := HL4.out; omega)) hk9 (fun j h => by have h : j = A := h; have := HL4.out; omega)) (by have := HL4.out; omega)
        clear hp9 hk9 hs8 hk8 hz8 hpr0 hpg hbig hdlen hyl
        go_wp2
        clear z0 z1 z2 z3 z4 z5 z6 zf
        have z0 : w9.cell? ⟨A, 0, none⟩ = some (.int .i64 v0) := HP9.out.n 0 (by omega)
        have z1 : w9.cell? ⟨A, 1, none⟩ = some (.int .i64 v1) := HP9.out.n 1 (by omega)
        have z2 : w9.cell? ⟨A, 2, none⟩ = some (.int .i64 v2) := HP9.out.n 2 (by omega)
        have z3 : w9.cell? ⟨A, 3, none⟩ = some (.int .i64 v3) := HP9.out.n 3 (by omega)
        have z4 : w9.cell? ⟨A, 4, none⟩ = some (.int .i64 v4) := HP9.out.n 4 (by omega)
        have z5 := HP9.out.c5
        have z6 := HP9.out.c6
        refine bodyPost_ret (v := .tuple #[.agg #[.int .i64 v0, .int .i64 v1, .int .i64 v2, .int .i64 v3, .int .i64 v4, .slice none 0 0, .string y], .int .i64 0, .int .i64 0]) (by simp [results, Try.results9, go_sem, z0, z1, z2, z3, z4, z5, z6]) rfl (.yes HPE.out (by rw [HA.out]; exact HB9.out) (by rw [HA.out]; exact HO9.out))
      | some ws =>
        rw [hst] at h4 hP2
        simp only [] at h4 hP2
        obtain ⟨v, rfl, ho4⟩ := h4
        obtain ⟨g, c, rfl⟩ := Sc.str_form ho4 (Sc.cuts_ne ws)
        have hnn : ∀ wq : World, (binOp .neq 54 (.slice (some ⟨g, 0, none⟩) (Sc.cuts ws).length c) (.slice none 0 0)).run Try.prog wq = .ok (.bool true) wq := fun wq => run_neq_slice_nil_any wq 54 9 (some ⟨g, 0, none⟩) _ _ 0 0 Try.underlying54
        have hgl : wr.heap.size ≤ g := (ho4.lt g rfl).1
        have hgl2 : g < w4.heap.size := block_lt_of_cell (Sc.str_cell ho4 0 (List.length_pos_iff.2 (Sc.cuts_ne ws)))
        have HST : Hid (∀ j, (hj : j < (Sc.cuts ws).length) → w4.cell? ⟨g, j, none⟩ = some (.string ⟨(Sc.cuts ws)[j].toArray⟩)) := fun j hj => Sc.str_cell ho4 j hj
        have HLE : Hid (∀ u, u ∈ Sc.cuts ws → u.length ≤ 1000000) := fun u hu => by
          have h1 := Sc.cuts_le ws u hu
          have h2 := Sc.strip_le _ _ _ hst
          rw [Fx.size_toList] at h2
          omega
        have hCl : (Sc.cuts ws).length ≤ 1000001 := by
          have h1 := Sc.cuts_count ws
          have h2 := Sc.strip_le _ _ _ hst
          rw [Fx.size_toList] at h2
          omega
        obtain ⟨C, hC⟩ : ∃ C, Sc.cuts ws = C := ⟨_, rfl⟩
        rw [hC] at hnn HST HLE hP2 hCl ⊢
        have HP2 := Lib.hid hP2
        clear hP2 hst ho4 hC hnil
        have HBAD : Hid (Sc.picks v2 0 C = none → Sc.parse s.data.toList = .err 6 250) := fun h => by
          have h2 := HP2.out
          rw [h] at h2
          exact h2
        have HGOOD : Hid (∀ ps, Sc.picks v2 0 C = some ps → Sc.parse s.data.toList = (match Sc.line (s.data.toList.drop m2') with
              | none => .err 7 250
              | some (l2, r2) => Sc.last 7 { Sc.mk [v0, v1, v2, v3, v4] with p := ps } l2 r2)) := fun ps h => by
          have h2 := HP2.out
          rw [h] at h2
          exact h2
        have hgA : g ≠ A + 1 := by have := HL.out; omega
        obtain ⟨i0, hi, hz0, hz1, hz2⟩ := info_parts Sc.infoU8
        have hW4 : A + 2 ≤ w4.heap.size := HL4.out
        clear HP0 HP2
        go_wp2_with fail
        go_loopw [19] (fun vi wr => ∃ (j : Nat) (acc : List UInt8) (pv : Value), vi = .int .i64 j ∧ j ≤ C.length ∧ acc.length = j ∧ j ≤ 400 ∧ Hid (Sc.picks v2 0 C = (Sc.picks v2 j (C.drop j)).map (acc ++ ·)) ∧ Hid (Sc.St wr (A + 1) [v0, v1, v2, v3, v4] pv ⟨#[]⟩) ∧ Hid (wr.ownsRow w4.heap.size 5 1 pv acc.length (acc.map Sc.byteV)) ∧ Hid (Keep (· = A + 1) w4 wr)) (fun vi _ => C.length - (intOf vi).toNat)
        case atStart => exact ⟨0, [], _, rfl, by omega, rfl, by omega, by show _ = _; simp, HS4, World.ownsRow_nil _ _ _ _, Keep.refl _ _⟩
        case round =>
          obtain ⟨j, acc, pv, rfl, hj, rfl, hj4, HI, HT, HO, HK⟩ := hrel
          obtain ⟨pa, pc, rfl⟩ := Sc.own_form HO.out
          have HZ5 := Lib.hid (HZ4.out.keep HK.out (fun h => absurd (show A = A + 1 from h) (by omega)))
          have HL5 : Hid (A + 2 ≤ wr.heap.size) := Nat.le_trans HL4.out HK.out.size
          have HB5 : Hid (Below A w wr) := HB4.out.trans (HK.out.to_below (fun j h => by have h : j = A + 1 := h; omega) (by have := HL4.out; omega))
          by_cases hjl : acc.length < C.length
          case neg =>
            have hge : ¬ (acc.length : Int) < (C.length : Int) := by omega
            have hje : acc.length = C.length := by omega
            have HPS : Hid (Sc.picks v2 0 C = some acc) := by
              show _ = _
              rw [HI.out, List.drop_eq_nil_of_le (by omega)]
              simp [Sc.picks]
            have HP3 := Lib.hid (HGOOD.out acc HPS.out)
            have hln2 := line25_any s m2' wr hs hm2
            clear HI HPS HBAD HGOOD hje
            go_wp2_with fail
            refine hln2.mono ?_
            rintro e w6 ⟨rfl, hl2⟩
            rcases hl2 with ⟨b2, m3, hc2, rfl, hb2, hm3, hm4, hdr2⟩ | ⟨hc2, rfl⟩
            case inr =>
              have HPE : Hid (Sc.parse s.data.toList = .err 7 250) := by
                show _ = _; rw [HP3.out, Sc.line_no _ hc2]
              clear hc2 hln2 HP3
              have z0 := HZ5.out.n 0 (by omega)
              have z1 := HZ5.out.n 1 (by omega)
              have z2 := HZ5.out.n 2 (by omega)
              have z3 := HZ5.out.n 3 (by omega)
              have z4 := HZ5.out.n 4 (by omega)
              have z5 := HZ5.out.c5
              have z6 := HZ5.out.c6
              have zf := HZ5.out.fz
              obtain ⟨hp7, hk7⟩ := Sc.put7 HZ5.out 0 0 0 0 0 (.slice none 0 0) ⟨#[]⟩
              obtain ⟨w7, hw7⟩ : ∃ w7, (((((((wr.setCell ⟨A, 0, none⟩ (.int .i64 0)).setCell ⟨A, 1, none⟩ (.int .i64 0)).setCell ⟨A, 2, none⟩ (.int .i64 0)).setCell ⟨A, 3, none⟩ (.int .i64 0)).setCell ⟨A, 4, none⟩ (.int .i64 0)).setCell ⟨A, 5, none⟩ (.slice none 0 0)).setCell ⟨A, 6, none⟩ (.string ⟨#[]⟩)) = w7 := ⟨_, rfl⟩
              rw [hw7] at hp7 hk7
              have HP7 := Lib.hid hp7
              have HB7 : Hid (Below A w w7) := HB5.out.trans (hk7.to_below (fun j h => Nat.le_of_eq h.symm) (by have := HL5.out; omega))
              clear hp7 hk7
              go_wp2
              clear z0 z1 z2 z3 z4 z5 z6 zf
              have z0 : w7.cell? ⟨A, 0, none⟩ = some (.int .i64 0) := HP7.out.n 0 (by omega)
              have z1 : w7.cell? ⟨A, 1, none⟩ = some (.int .i64 0) := HP7.out.n 1 (by omega)
              have z2 : w7.cell? ⟨A, 2, none⟩ = some (.int .i64 0) := HP7.out.n 2 (by omega)
              have z3 : w7.cell? ⟨A, 3, none⟩ = some (.int .i64 0) := HP7.out.n 3 (by omega)
              have z4 : w7.cell? ⟨A, 4, none⟩ = some (.int .i64 0) := HP7.out.n 4 (by omega)
              have z5 := HP7.out.c5
              have z6 := HP7.out.c6
              refine bodyPost_ret (v := .tuple #[Sc.zeroA, .int .i64 (7), .int .i64 250]) (by simp [results, Try.results9, go_sem, Sc.zeroA, z0, z1, z2, z3, z4, z5, z6]) rfl (.no HPE.out (by rw [HA.out]; exact HB7.out))
            have HPL : Hid (Sc.parse s.data.toList = Sc.last 7 { Sc.mk [v0, v1, v2, v3, v4] with p := acc } b2.data.toList (s.data.toList.drop m3)) := by
              show _ = _; rw [HP3.out, Sc.line_yes _ hc2, ← hb2, ← hdr2]
            clear hc2 hln2 HP3 hb2 hdr2
            have hpr0 : (b2.toList == [112, 114, 111, 103, 114, 97, 109]) = decide (b2.data.toList = Sc.program) := by rw [ByteArray.toList_eq, Bool.eq_iff_iff, beq_iff_eq, decide_eq_true_iff]; rfl
            have hmi : (m3 : Int) ≤ (s.size : Int) := by omega
            by_cases hpg : b2.data.toList = Sc.program
            case neg =>
              have HPE : Hid (Sc.parse s.data.toList = .err (7) 250) := by show _ = _; rw [HPL.out]; exact Sc.last_no (fun h => hpg h.1)
              have hpr : (b2.toList == [112, 114, 111, 103, 114, 97, 109]) = false := by rw [hpr0]; exact decide_eq_false hpg
              have hpr2 : (b2.toList != [112, 114, 111, 103, 114, 97, 109]) = true := by rw [bne, hpr]; rfl
              clear hpr0 hpg
              have z0 := HZ5.out.n 0 (by omega)
              have z1 := HZ5.out.n 1 (by omega)
              have z2 := HZ5.out.n 2 (by omega)
              have z3 := HZ5.out.n 3 (by omega)
              have z4 := HZ5.out.n 4 (by omega)
              have z5 := HZ5.out.c5
              have z6 := HZ5.out.c6
              have zf := HZ5.out.fz
              obtain ⟨hp7, hk7⟩ := Sc.put7 HZ5.out 0 0 0 0 0 (.slice none 0 0) ⟨#[]⟩
              obtain ⟨w7, hw7⟩ : ∃ w7, (((((((wr.setCell ⟨A, 0, none⟩ (.int .i64 0)).setCell ⟨A, 1, none⟩ (.int .i64 0)).setCell ⟨A, 2, none⟩ (.int .i64 0)).setCell ⟨A, 3, none⟩ (.int .i64 0)).setCell ⟨A, 4, none⟩ (.int .i64 0)).setCell ⟨A, 5, none⟩ (.slice none 0 0)).setCell ⟨A, 6, none⟩ (.string ⟨#[]⟩)) = w7 := ⟨_, rfl⟩
              rw [hw7] at hp7 hk7
              have HP7 := Lib.hid hp7
              have HB7 : Hid (Below A w w7) := HB5.out.trans (hk7.to_below (fun j h => Nat.le_of_eq h.symm) (by have := HL5.out; omega))
              clear hp7 hk7
              go_wp2
              clear z0 z1 z2 z3 z4 z5 z6 zf
              have z0 : w7.cell? ⟨A, 0, none⟩ = some (.int .i64 0) := HP7.out.n 0 (by omega)
              have z1 : w7.cell? ⟨A, 1, none⟩ = some (.int .i64 0) := HP7.out.n 1 (by omega)
              have z2 : w7.cell? ⟨A, 2, none⟩ = some (.int .i64 0) := HP7.out.n 2 (by omega)
              have z3 : w7.cell? ⟨A, 3, none⟩ = some (.int .i64 0) := HP7.out.n 3 (by omega)
              have z4 : w7.cell? ⟨A, 4, none⟩ = some (.int .i64 0) := HP7.out.n 4 (by omega)
              have z5 := HP7.out.c5
              have z6 := HP7.out.c6
              refine bodyPost_ret (v := .tuple #[Sc.zeroA, .int .i64 (7), .int .i64 250]) (by simp [results, Try.results9, go_sem, Sc.zeroA, z0, z1, z2, z3, z4, z5, z6]) rfl (.no HPE.out (by rw [HA.out]; exact HB7.out))
            have hpr : (b2.toList == [112, 114, 111, 103, 114, 97, 109]) = true := by rw [hpr0]; exact decide_eq_true hpg
            have hpr2 : (b2.toList != [112, 114, 111, 103, 114, 97, 109]) = false := by rw [bne, hpr]; rfl
            have hdlen : (s.data.toList.drop m3).length = s.size - m3 := by rw [List.length_drop, Fx.size_toList]
            by_cases hbig : 16384 < s.size - m3
            case pos =>
              have HPE : Hid (Sc.parse s.data.toList = .err (7) 250) := by show _ = _; rw [HPL.out]; exact Sc.last_no (fun h => by have := h.2; rw [hdlen] at this; omega)
              have hbigi : 16384 < (s.size : Int) - (m3 : Int) := by omega
              clear hpr0 hpg hbig hdlen
              have z0 := HZ5.out.n 0 (by omega)
              have z1 := HZ5.out.n 1 (by omega)
              have z2 := HZ5.out.n 2 (by omega)
              have z3 := HZ5.out.n 3 (by omega)
              have z4 := HZ5.out.n 4 (by omega)
              have z5 := HZ5.out.c5
              have z6 := HZ5.out.c6
              have zf := HZ5.out.fz
              obtain ⟨hp7, hk7⟩ := Sc.put7 HZ5.out 0 0 0 0 0 (.slice none 0 0) ⟨#[]⟩
              obtain ⟨w7, hw7⟩ : ∃ w7, (((((((wr.setCell ⟨A, 0, none⟩ (.int .i64 0)).setCell ⟨A, 1, none⟩ (.int .i64 0)).setCell ⟨A, 2, none⟩ (.int .i64 0)).setCell ⟨A, 3, none⟩ (.int .i64 0)).setCell ⟨A, 4, none⟩ (.int .i64 0)).setCell ⟨A, 5, none⟩ (.slice none 0 0)).setCell ⟨A, 6, none⟩ (.string ⟨#[]⟩)) = w7 := ⟨_, rfl⟩
              rw [hw7] at hp7 hk7
              have HP7 := Lib.hid hp7
              have HB7 : Hid (Below A w w7) := HB5.out.trans (hk7.to_below (fun j h => Nat.le_of_eq h.symm) (by have := HL5.out; omega))
              clear hp7 hk7
              go_wp2
              clear z0 z1 z2 z3 z4 z5 z6 zf
              have z0 : w7.cell? ⟨A, 0, none⟩ = some (.int .i64 0) := HP7.out.n 0 (by omega)
              have z1 : w7.cell? ⟨A, 1, none⟩ = some (.int .i64 0) := HP7.out.n 1 (by omega)
              have z2 : w7.cell? ⟨A, 2, none⟩ = some (.int .i64 0) := HP7.out.n 2 (by omega)
              have z3 : w7.cell? ⟨A, 3, none⟩ = some (.int .i64 0) := HP7.out.n 3 (by omega)
              have z4 : w7.cell? ⟨A, 4, none⟩ = some (.int .i64 0) := HP7.out.n 4 (by omega)
              have z5 := HP7.out.c5
              have z6 := HP7.out.c6
              refine bodyPost_ret (v := .tuple #[Sc.zeroA, .int .i64 (7), .int .i64 250]) (by simp [results, Try.results9, go_sem, Sc.zeroA, z0, z1, z2, z3, z4, z5, z6]) rfl (.no HPE.out (by rw [HA.out]; exact HB7.out))
            have hbigi : ¬ 16384 < (s.size : Int) - (m3 : Int) := by omega
            obtain ⟨y, hy⟩ : ∃ y, s.extract m3 s.size = y := ⟨_, rfl⟩
            have hyl : y.data.toList = s.data.toList.drop m3 := by rw [← hy]; exact Sc.ext_drop s _
            have HPE : Hid (Sc.parse s.data.toList = .ok ⟨v0, v1, v2, v3, v4, acc, y.data.toList⟩) := by show _ = _; rw [HPL.out, ← hyl]; exact Sc.last_yes hpg (by rw [hyl, hdlen]; omega)
            obtain ⟨w8, hw8⟩ : ∃ w8, wr.setCell ⟨A + 1, 6, none⟩ (.string y) = w8 := ⟨_, rfl⟩
            have hs8 : Sc.St w8 (A + 1) [v0, v1, v2, v3, v4] (.slice pa acc.length pc) y := by rw [← hw8]; exact HT.out.set6 y
            have hk8 : Keep (· = A + 1) wr w8 := by rw [← hw8]; exact (Keep.refl (· = A + 1) wr).setCell (B := A + 1) rfl 6 _
            have hz8 := HZ5.out.keep hk8 (fun h => absurd (show A = A + 1 from h) (by omega))
            have y6 := HT.out.c6
            have yf := HT.out.fz
            have x0 : w8.cell? ⟨A + 1, 0, none⟩ = some (.int .i64 v0) := hs8.n 0 (by omega)
            have x1 : w8.cell? ⟨A + 1, 1, none⟩ = some (.int .i64 v1) := hs8.n 1 (by omega)
            have x2 : w8.cell? ⟨A + 1, 2, none⟩ = some (.int .i64 v2) := hs8.n 2 (by omega)
            have x3 : w8.cell? ⟨A + 1, 3, none⟩ = some (.int .i64 v3) := hs8.n 3 (by omega)
            have x4 : w8.cell? ⟨A + 1, 4, none⟩ = some (.int .i64 v4) := hs8.n 4 (by omega)
            have x5 := hs8.c5
            have x6 := hs8.c6
            have z0 := hz8.n 0 (by omega)
            have z1 := hz8.n 1 (by omega)
            have z2 := hz8.n 2 (by omega)
            have z3 := hz8.n 3 (by omega)
            have z4 := hz8.n 4 (by omega)
            have z5 := hz8.c5
            have z6 := hz8.c6
            have zf := hz8.fz
            obtain ⟨hp9, hk9⟩ := Sc.put7 hz8 v0 v1 v2 v3 v4 (.slice pa acc.length pc) y
            obtain ⟨w9, hw9⟩ : ∃ w9, (((((((w8.setCell ⟨A, 0, none⟩ (.int .i64 v0)).setCell ⟨A, 1, none⟩ (.int .i64 v1)).setCell ⟨A, 2, none⟩ (.int .i64 v2)).setCell ⟨A, 3, none⟩ (.int .i64 v3)).setCell ⟨A, 4, none⟩ (.int .i64 v4)).setCell ⟨A, 5, none⟩ (.slice pa acc.length pc)).setCell ⟨A, 6, none⟩ (.string y)) = w9 := ⟨_, rfl⟩
            rw [hw9] at hp9 hk9
            have HP9 := Lib.hid hp9
            have HB9 : Hid (Below A w w9) := (HB5.out.trans (hk8.to_below (fun j h => by have h : j = A + 1 := h; omega) (by have := HL5.out; omega))).trans (hk9.to_below (fun j h => Nat.le_of_eq (Eq.symm h)) (by have := HL5.out; have := hk8.size; omega))
            have HO9 : Hid (w9.ownsRow A 5 1 (.slice pa acc.length pc) (acc).length ((acc).map Sc.byteV)) := Sc.own_base (Keep.own (Keep.own (HO.out) hk8 (fun j h => by have h : j = A + 1 := h; have := HL4.out; omega)) hk9 (fun j h => by have h : j = A := h; have := HL4.out; omega)) (by have := HL4.out; omega)
            clear hp9 hk9 hs8 hk8 hz8 hpr0 hpg hbig hdlen hyl
            go_wp2
            clear z0 z1 z2 z3 z4 z5 z6 zf
            have z0 : w9.cell? ⟨A, 0, none⟩ = some (.int .i64 v0) := HP9.out.n 0 (by omega)
            have z1 : w9.cell? ⟨A, 1, none⟩ = some (.int .i64 v1) := HP9.out.n 1 (by omega)
            have z2 : w9.cell? ⟨A, 2, none⟩ = some (.int .i64 v2) := HP9.out.n 2 (by omega)
            have z3 : w9.cell? ⟨A, 3, none⟩ = some (.int .i64 v3) := HP9.out.n 3 (by omega)
            have z4 : w9.cell? ⟨A, 4, none⟩ = some (.int .i64 v4) := HP9.out.n 4 (by omega)
            have z5 := HP9.out.c5
            have z6 := HP9.out.c6
            refine bodyPost_ret (v := .tuple #[.agg #[.int .i64 v0, .int .i64 v1, .int .i64 v2, .int .i64 v3, .int .i64 v4, .slice pa acc.length pc, .string y], .int .i64 0, .int .i64 0]) (by simp [results, Try.results9, go_sem, z0, z1, z2, z3, z4, z5, z6]) rfl (.yes HPE.out (by rw [HA.out]; exact HB9.out) (by rw [HA.out]; exact HO9.out))
          have hjli : (acc.length : Int) < (C.length : Int) := by omega
          obtain ⟨u, hu⟩ : ∃ u, C[acc.length] = u := ⟨_, rfl⟩
          have hcu := HST.out acc.length hjl
          rw [hu] at hcu
          have hus := HLE.out u (by rw [← hu]; exact List.getElem_mem _)
          obtain ⟨U, hU⟩ : ∃ U : ByteArray, (⟨u.toArray⟩ : ByteArray) = U := ⟨_, rfl⟩
          rw [hU] at hcu
          have hUl : U.data.toList = u := by rw [← hU]
          have hUs : U.size ≤ 1000000 := by rw [← Fx.size_toList, hUl]; exact hus
          have hcu2 : wr.cell? ⟨g, acc.length, none⟩ = some (.string U) := (HK.out.cell acc.length hgl2 hgA).trans hcu
          have hnum := fun wq => number25_any U wq hUs
          have hpk := Sc.pick_num v2 u hwk
          rw [hUl] at hnum
          obtain ⟨N, hN⟩ : ∃ N, Sc.numR u = N := ⟨_, rfl⟩
          rw [hN] at hnum hpk
          have hI := HI.out
          rw [List.drop_eq_getElem_cons hjl, hu] at hI
          have HNO : Hid (Sc.pick v2 u = none ∨ 400 ≤ acc.length → Sc.parse s.data.toList = .err 6 250) := fun h => HBAD.out (by rw [hI, Sc.picks_none _ _ _ _ h]; rfl)
          have HYES : Hid (∀ b, Sc.pick v2 u = some b → ¬ 400 ≤ acc.length → Sc.picks v2 0 C = (Sc.picks v2 (acc.length + 1) (C.drop (acc.length + 1))).map ((acc ++ [b]) ++ ·)) := fun b h1 h2 => by
            rw [hI, Sc.picks_some _ _ _ _ b h1 h2, Option.map_map]
            congr 1
            funext l
            simp
          clear hI hu hcu hus hU hUl hN HI
          go_wp2_with fail
          refine (hnum _).mono ?_
          rintro e w6 ⟨rfl, hb6⟩
          have hk6 : Keep (fun _ => False) wr w6 := (Keep.refl _ _).below hb6
          have HK6 := Lib.hid (HK.out.below hb6)
          have HZ6 := Lib.hid (HZ5.out.keep hk6 (fun h => h))
          have HT6 := Lib.hid (HT.out.keep hk6 (fun h => h))
          have HO6 := Lib.hid (Keep.own HO.out hk6 (fun _ h => h.elim))
          have HL6 : Hid (A + 2 ≤ w6.heap.size) := Nat.le_trans HL5.out hk6.size
          have HB6 : Hid (Below A w w6) := HB5.out.trans (hk6.to_below (fun j h => h.elim) (by have := HL5.out; omega))
          have s2 : w6.cell? ⟨A + 1, 2, none⟩ = some (.int .i64 v2) := HT6.out.n 2 (by omega)
          have s5 := HT6.out.c5
          have sf := HT6.out.fz
          clear hb6 hk6 hnum hcu2
          by_cases hN0 : 0 ≤ N
          case neg =>
            have HPE : Hid (Sc.parse s.data.toList = .err 6 250) := HNO.out (.inl (by rw [hpk, if_neg (fun h => hN0 h.1)]))
            clear hpk HNO HYES
            have z0 := HZ6.out.n 0 (by omega)
            have z1 := HZ6.out.n 1 (by omega)
            have z2 := HZ6.out.n 2 (by omega)
            have z3 := HZ6.out.n 3 (by omega)
            have z4 := HZ6.out.n 4 (by omega)
            have z5 := HZ6.out.c5
            have z6 := HZ6.out.c6
            have zf := HZ6.out.fz
            obtain ⟨hp7, hk7⟩ := Sc.put7 HZ6.out 0 0 0 0 0 (.slice none 0 0) ⟨#[]⟩
            obtain ⟨w7, hw7⟩ : ∃ w7, (((((((w6.setCell ⟨A, 0, none⟩ (.int .i64 0)).setCell ⟨A, 1, none⟩ (.int .i64 0)).setCell ⟨A, 2, none⟩ (.int .i64 0)).setCell ⟨A, 3, none⟩ (.int .i64 0)).setCell ⟨A, 4, none⟩ (.int .i64 0)).setCell ⟨A, 5, none⟩ (.slice none 0 0)).setCell ⟨A, 6, none⟩ (.string ⟨#[]⟩)) = w7 := ⟨_, rfl⟩
            rw [hw7] at hp7 hk7
            have HP7 := Lib.hid hp7
            have HB7 : Hid (Below A w w7) := HB6.out.trans (hk7.to_below (fun j h => Nat.le_of_eq h.symm) (by have := HL6.out; omega))
            clear hp7 hk7
            go_wp2
            clear z0 z1 z2 z3 z4 z5 z6 zf
            have z0 : w7.cell? ⟨A, 0, none⟩ = some (.int .i64 0) := HP7.out.n 0 (by omega)
            have z1 : w7.cell? ⟨A, 1, none⟩ = some (.int .i64 0) := HP7.out.n 1 (by omega)
            have z2 : w7.cell? ⟨A, 2, none⟩ = some (.int .i64 0) := HP7.out.n 2 (by omega)
            have z3 : w7.cell? ⟨A, 3, none⟩ = some (.int .i64 0) := HP7.out.n 3 (by omega)
            have z4 : w7.cell? ⟨A, 4, none⟩ = some (.int .i64 0) := HP7.out.n 4 (by omega)
            have z5 := HP7.out.c5
            have z6 := HP7.out.c6
            refine bodyPost_ret (v := .tuple #[Sc.zeroA, .int .i64 (6), .int .i64 250]) (by simp [results, Try.results9, go_sem, Sc.zeroA, z0, z1, z2, z3, z4, z5, z6]) rfl (.no HPE.out (by rw [HA.out]; exact HB7.out))
          by_cases hNv : N < v2
          case neg =>
            have HPE : Hid (Sc.parse s.data.toList = .err 6 250) := HNO.out (.inl (by rw [hpk, if_neg (fun h => hNv h.2)]))
            clear hpk HNO HYES
            have z0 := HZ6.out.n 0 (by omega)
            have z1 := HZ6.out.n 1 (by omega)
            have z2 := HZ6.out.n 2 (by omega)
            have z3 := HZ6.out.n 3 (by omega)
            have z4 := HZ6.out.n 4 (by omega)
            have z5 := HZ6.out.c5
            have z6 := HZ6.out.c6
            have zf := HZ6.out.fz
            obtain ⟨hp7, hk7⟩ := Sc.put7 HZ6.out 0 0 0 0 0 (.slice none 0 0) ⟨#[]⟩
            obtain ⟨w7, hw7⟩ : ∃ w7, (((((((w6.setCell ⟨A, 0, none⟩ (.int .i64 0)).setCell ⟨A, 1, none⟩ (.int .i64 0)).setCell ⟨A, 2, none⟩ (.int .i64 0)).setCell ⟨A, 3, none⟩ (.int .i64 0)).setCell ⟨A, 4, none⟩ (.int .i64 0)).setCell ⟨A, 5, none⟩ (.slice none 0 0)).setCell ⟨A, 6, none⟩ (.string ⟨#[]⟩)) = w7 := ⟨_, rfl⟩
            rw [hw7] at hp7 hk7
            have HP7 := Lib.hid hp7
            have HB7 : Hid (Below A w w7) := HB6.out.trans (hk7.to_below (fun j h => Nat.le_of_eq h.symm) (by have := HL6.out; omega))
            clear hp7 hk7
            go_wp2
            clear z0 z1 z2 z3 z4 z5 z6 zf
            have z0 : w7.cell? ⟨A, 0, none⟩ = some (.int .i64 0) := HP7.out.n 0 (by omega)
            have z1 : w7.cell? ⟨A, 1, none⟩ = some (.int .i64 0) := HP7.out.n 1 (by omega)
            have z2 : w7.cell? ⟨A, 2, none⟩ = some (.int .i64 0) := HP7.out.n 2 (by omega)
            have z3 : w7.cell? ⟨A, 3, none⟩ = some (.int .i64 0) := HP7.out.n 3 (by omega)
            have z4 : w7.cell? ⟨A, 4, none⟩ = some (.int .i64 0) := HP7.out.n 4 (by omega)
            have z5 := HP7.out.c5
            have z6 := HP7.out.c6
            refine bodyPost_ret (v := .tuple #[Sc.zeroA, .int .i64 (6), .int .i64 250]) (by simp [results, Try.results9, go_sem, Sc.zeroA, z0, z1, z2, z3, z4, z5, z6]) rfl (.no HPE.out (by rw [HA.out]; exact HB7.out))
          rw [if_pos ⟨hN0, hNv⟩] at hpk
          by_cases h400 : 400 ≤ acc.length
          case pos =>
            have HPE : Hid (Sc.parse s.data.toList = .err 6 250) := HNO.out (.inr h400)
            have h400i : 400 ≤ (acc.length : Int) := by omega
            clear hpk HNO HYES
            have z0 := HZ6.out.n 0 (by omega)
            have z1 := HZ6.out.n 1 (by omega)
            have z2 := HZ6.out.n 2 (by omega)
            have z3 := HZ6.out.n 3 (by omega)
            have z4 := HZ6.out.n 4 (by omega)
            have z5 := HZ6.out.c5
            have z6 := HZ6.out.c6
            have zf := HZ6.out.fz
            obtain ⟨hp7, hk7⟩ := Sc.put7 HZ6.out 0 0 0 0 0 (.slice none 0 0) ⟨#[]⟩
            obtain ⟨w7, hw7⟩ : ∃ w7, (((((((w6.setCell ⟨A, 0, none⟩ (.int .i64 0)).setCell ⟨A, 1, none⟩ (.int .i64 0)).setCell ⟨A, 2, none⟩ (.int .i64 0)).setCell ⟨A, 3, none⟩ (.int .i64 0)).setCell ⟨A, 4, none⟩ (.int .i64 0)).setCell ⟨A, 5, none⟩ (.slice none 0 0)).setCell ⟨A, 6, none⟩ (.string ⟨#[]⟩)) = w7 := ⟨_, rfl⟩
            rw [hw7] at hp7 hk7
            have HP7 := Lib.hid hp7
            have HB7 : Hid (Below A w w7) := HB6.out.trans (hk7.to_below (fun j h => Nat.le_of_eq h.symm) (by have := HL6.out; omega))
            clear hp7 hk7
            go_wp2
            clear z0 z1 z2 z3 z4 z5 z6 zf
            have z0 : w7.cell? ⟨A, 0, none⟩ = some (.int .i64 0) := HP7.out.n 0 (by omega)
            have z1 : w7.cell? ⟨A, 1, none⟩ = some (.int .i64 0) := HP7.out.n 1 (by omega)
            have z2 : w7.cell? ⟨A, 2, none⟩ = some (.int .i64 0) := HP7.out.n 2 (by omega)
            have z3 : w7.cell? ⟨A, 3, none⟩ = some (.int .i64 0) := HP7.out.n 3 (by omega)
            have z4 : w7.cell? ⟨A, 4, none⟩ = some (.int .i64 0) := HP7.out.n 4 (by omega)
            have z5 := HP7.out.c5
            have z6 := HP7.out.c6
            refine bodyPost_ret (v := .tuple #[Sc.zeroA, .int .i64 (6), .int .i64 250]) (by simp [results, Try.results9, go_sem, Sc.zeroA, z0, z1, z2, z3, z4, z5, z6]) rfl (.no HPE.out (by rw [HA.out]; exact HB7.out))
          have h400i : ¬ 400 ≤ (acc.length : Int) := by omega
          have HNew := Lib.hid (HYES.out _ hpk h400)
          have hbv : Sc.byteV (UInt8.ofNat N.toNat) = .int .u8 N := by
            unfold Sc.byteV
            congr 1
            rw [UInt8.toNat_ofNat']
            omega
          have HBV := Lib.hid hbv
          have hcv : IntKind.u8.wrap N = N := by rw [IntKind.wrap_u8]; omega
          have hKs := HK6.out.size
          clear hpk HNO HYES hbv
          go_wp2_with (at_builtin; refine wpList_append_own _ rfl _ _ 23 rfl w4.heap.size 5 i0 (.int .u8 0) 1 1 Try.underlying23 hi hz0 hz1 hz2 rfl (by decide) _ _ _ rfl (HO6.out.alloc _) ⟨w6.heap.size, 0, none⟩ 1 1 [.int .u8 N] rfl rfl (cell_one_new _ _ _) (fun x hx => by simp at hx; subst hx; rfl) (by unfold maxLen; omega) (by omega) (by simp; omega) ?_; intro v' w5 hown' hgrow3 hnil3; rcases Joins.ownsRow_forms hown' with ⟨rfl, hz⟩ | ⟨g', cap', rfl, _⟩; exact absurd hz (by simp); have hb5 : Below w4.heap.size w6 w5 := Below.grown ((Below.refl w4.heap.size w6).alloc hKs _) hgrow3 (by simp; omega) (fun j hj => (HO6.out.lt _ hj).1); have ht5 := HT6.out.below2 hb5 (by omega); have q5 := ht5.c5; have f5 := ht5.fz; have HT5 := Lib.hid ht5; have HBB := Lib.hid hb5; have HOW := Lib.hid hown'; clear ht5 hb5 hown' hgrow3 hnil3)
          go_roundw
          case rel =>
            refine ⟨acc.length + 1, acc ++ [UInt8.ofNat N.toNat], _, by go_num, by omega, by rw [List.length_append, List.length_singleton], by omega, HNew, HT5.out.set5 _, ?_, (HK6.out.below2 HBB.out).setCell (B := A + 1) rfl 5 _⟩
            show World.ownsRow _ _ _ _ _ _ _
            rw [List.length_append, List.length_singleton, List.map_append, List.map_singleton, HBV.out]
            exact Keep.own HOW.out ((Keep.refl (· = A + 1) w5).setCell (B := A + 1) rfl 5 _) (fun k hk => by have h : k = A + 1 := hk; omega)
          case measure => simp [intOf]; omega
    have hlti : (k : Int) < 5 := by omega
    have hln := line25_any s m wr hs hm
    have n0 : wr.cell? ⟨A + 1, 0, none⟩ = some (.int .i64 v0) := HS1.out.n 0 (by omega)
    have n1 : wr.cell? ⟨A + 1, 1, none⟩ = some (.int .i64 v1) := HS1.out.n 1 (by omega)
    have n2 : wr.cell? ⟨A + 1, 2, none⟩ = some (.int .i64 v2) := HS1.out.n 2 (by omega)
    have n3 : wr.cell? ⟨A + 1, 3, none⟩ = some (.int .i64 v3) := HS1.out.n 3 (by omega)
    have n4 : wr.cell? ⟨A + 1, 4, none⟩ = some (.int .i64 v4) := HS1.out.n 4 (by omega)
    have n5 := HS1.out.c5
    have n6 := HS1.out.c6
    obtain ⟨W, hW⟩ : ∃ W, wr.heap.size = W := ⟨_, rfl⟩
    have hNm := Numbers25_any v0 v1 v2 v3 v4 none 0 0 ⟨#[]⟩ wr
    rw [hW] at hNm
    obtain ⟨wn, hwn⟩ : ∃ wn, (wr.alloc (.cells #[.int .i64 v0, .int .i64 v1, .int .i64 v2, .int .i64 v3, .int .i64 v4, .slice none 0 0, .string ⟨#[]⟩] 25)).alloc (Sc.numsRO v0 v1 v2 v3 v4) = wn := ⟨_, rfl⟩
    have hNR := Sc.numsR_new (wr.alloc (.cells #[.int .i64 v0, .int .i64 v1, .int .i64 v2, .int .i64 v3, .int .i64 v4, .slice none 0 0, .string ⟨#[]⟩] 25)) v0 v1 v2 v3 v4
    rw [hwn] at hNm hNR
    simp only [World.size_alloc] at hNR
    rw [hW] at hNR
    have kn : Keep (fun _ => False) wr wn := by rw [← hwn]; exact ((Keep.refl _ _).alloc _).alloc _
    have hWn : wn.heap.size = W + 2 := by rw [← hwn]; simp; omega
    obtain ⟨m0, m1, m2, m3⟩ := hNR k hlt
    obtain ⟨nk, hnk⟩ : ∃ nk, [v0, v1, v2, v3, v4].getD k 0 = nk := ⟨_, rfl⟩
    rw [hnk] at m1
    obtain ⟨wx, hwx⟩ : ∃ wx, wn.alloc (.cells #[.string (Sc.nmB k), .int .i64 nk, .int .i64 (Sc.low k), .int .i64 (Sc.top k)] 51) = wx := ⟨_, rfl⟩
    obtain ⟨x0, x1, x2, x3⟩ := Sc.four_new wn (.string (Sc.nmB k)) (.int .i64 nk) (.int .i64 (Sc.low k)) (.int .i64 (Sc.top k)) 51
    rw [hwx, hWn] at x0 x1 x2 x3
    have kx : Keep (fun _ => False) wr wx := by rw [← hwx]; exact kn.alloc _
    have hWx : wx.heap.size = W + 3 := by rw [← hwx]; simp; omega
    have HKX := Lib.hid kx
    have HWL : Hid (A + 2 ≤ W) := by show A + 2 ≤ W; rw [← hW]; exact HL.out
    clear hnk hNR kn kx
    go_wp2_with fail
    refine hln.mono ?_
    rintro e w1 ⟨rfl, hl1⟩
    rcases hl1 with ⟨a, m2', hc, rfl, ha, hm1, hm2, hdr⟩ | ⟨hc, rfl⟩
    · have hrl := Sc.reads_line (k := k) hc ha
      have has : a.size ≤ 1000000 := by
        have := congrArg List.length ha
        have h2 := Sc.tw_le (s.data.toList.drop m)
        rw [List.length_drop, Fx.size_toList] at h2
        rw [Fx.size_toList] at this
        omega
      have hwd := fun wq => words25_any a (Sc.nmB k) wq has (Sc.nmB_size k)
      have HRL := Lib.hid hrl
      have HDR := Lib.hid hdr
      have HPN : Hid (Sc.reads k (s.data.toList.drop m) = none → Sc.parse s.data.toList = .err ((k : Int) + 1) 250) := fun h => by
        rw [HP.out, Sc.nums_no _ k _ _ h (by omega)]
      clear hc hln ha hdr hrl
      go_wp2_with fail
      refine hNm.mono ?_
      rintro e w3 ⟨rfl, rfl⟩
      clear hwn hW n0 n1 n2 n3 n4 n5 n6
      go_wp2_with fail
      refine (hwd _).mono ?_
      rintro e w4 ⟨hb4, h4⟩
      have hk4 : Keep (fun _ => False) wr w4 := HKX.out.below hb4
      have HZ4 := Lib.hid (HZ1.out.keep hk4 (fun h => h))
      have HS4 := Lib.hid (HS1.out.keep hk4 (fun h => h))
      have HL4 : Hid (A + 2 ≤ w4.heap.size) := Nat.le_trans HL.out hk4.size
      have HB4 : Hid (Below A w w4) := HB1.out.trans (hk4.to_below (fun j h => h.elim) (by have := HL.out; omega))
      have y0 := (hb4.cell (block_lt_of_cell x0)).trans x0
      have y1 := (hb4.cell (block_lt_of_cell x1)).trans x1
      have y2 := (hb4.cell (block_lt_of_cell x2)).trans x2
      have y3 := (hb4.cell (block_lt_of_cell x3)).trans x3
      clear hb4 hk4 hwd hwx m0 m1 m2 m3 x0 x1 x2 x3 hNm hWn
      rw [show (Sc.nmB k).data.toList ++ [32] = Sc.nm k ++ [32] from rfl] at h4
      cases hst : Sc.strip (Sc.nm k ++ [32]) a.data.toList with
      | none =>
        rw [hst] at h4
        simp only [] at h4
        subst h4
        have HPE : Hid (Sc.parse s.data.toList = .err ((k : Int) + 1) 250) := HPN.out (HRL.out.1 hst)
        clear hst
        go_wp2_with fail
        go_quiet (fail)
        have HZ5 : Hid (Sc.St (w4.drewN nq) A [0, 0, 0, 0, 0] (.slice none 0 0) ⟨#[]⟩) := HZ4.out.drew nq
        have HB5 : Hid (Below A w (w4.drewN nq)) := below_drewN HB4.out nq
        obtain ⟨w5, hw5⟩ : ∃ w5, w4.drewN nq = w5 := ⟨_, rfl⟩
        have HL5 : Hid (A + 2 ≤ w5.heap.size) := by show A + 2 ≤ _; rw [← hw5]; exact HL4.out
        rw [hw5] at HZ5 HB5 ⊢
        clear hw5
        have z0 := HZ5.out.n 0 (by omega)
        have z1 := HZ5.out.n 1 (by omega)
        have z2 := HZ5.out.n 2 (by omega)
        have z3 := HZ5.out.n 3 (by omega)
        have z4 := HZ5.out.n 4 (by omega)
        have z5 := HZ5.out.c5
        have z6 := HZ5.out.c6
        have zf := HZ5.out.fz
        obtain ⟨hp7, hk7⟩ := Sc.put7 HZ5.out 0 0 0 0 0 (.slice none 0 0) ⟨#[]⟩
        obtain ⟨w7, hw7⟩ : ∃ w7, (((((((w5.setCell ⟨A, 0, none⟩ (.int .i64 0)).setCell ⟨A, 1, none⟩ (.int .i64 0)).setCell ⟨A, 2, none⟩ (.int .i64 0)).setCell ⟨A, 3, none⟩ (.int .i64 0)).setCell ⟨A, 4, none⟩ (.int .i64 0)).setCell ⟨A, 5, none⟩ (.slice none 0 0)).setCell ⟨A, 6, none⟩ (.string ⟨#[]⟩)) = w7 := ⟨_, rfl⟩
        rw [hw7] at hp7 hk7
        have HP7 := Lib.hid hp7
        have HB7 : Hid (Below A w w7) := HB5.out.trans (hk7.to_below (fun j h => Nat.le_of_eq h.symm) (by have := HL5.out; omega))
        clear hp7 hk7
        go_wp2
        clear z0 z1 z2 z3 z4 z5 z6 zf
        have z0 : w7.cell? ⟨A, 0, none⟩ = some (.int .i64 0) := HP7.out.n 0 (by omega)
        have z1 : w7.cell? ⟨A, 1, none⟩ = some (.int .i64 0) := HP7.out.n 1 (by omega)
        have z2 : w7.cell? ⟨A, 2, none⟩ = some (.int .i64 0) := HP7.out.n 2 (by omega)
        have z3 : w7.cell? ⟨A, 3, none⟩ = some (.int .i64 0) := HP7.out.n 3 (by omega)
        have z4 : w7.cell? ⟨A, 4, none⟩ = some (.int .i64 0) := HP7.out.n 4 (by omega)
        have z5 := HP7.out.c5
        have z6 := HP7.out.c6
        refine bodyPost_ret (v := .tuple #[Sc.zeroA, .int .i64 ((k : Int) + 1), .int .i64 250]) (by simp [results, Try.results9, go_sem, Sc.zeroA, z0, z1, z2, z3, z4, z5, z6]) rfl (.no HPE.out (by rw [HA.out]; exact HB7.out))
      | some ws =>
        rw [hst] at h4
        simp only [] at h4
        obtain ⟨v, rfl, ho4⟩ := h4
        obtain ⟨g, c, rfl⟩ := Sc.str_form ho4 (Sc.cuts_ne ws)
        have hrw := HRL.out.2 ws hst
        by_cases h1 : ∃ u, Sc.cuts ws = [u]
        case neg =>
          have HPE : Hid (Sc.parse s.data.toList = .err ((k : Int) + 1) 250) := HPN.out (hrw.1 h1)
          have hl1 : (((Sc.cuts ws).length : Int) == 1) = false := by
            rw [beq_eq_false_iff_ne]
            intro h
            apply h1
            match hcu : Sc.cuts ws, h with
            | [u], _ => exact ⟨u, rfl⟩
            | [], h => simp at h
            | _ :: _ :: _, h => simp at h; omega
          have hl2 : (((Sc.cuts ws).length : Int) != 1) = true := by rw [bne, hl1]; rfl
          clear hst hrw h1 ho4
          go_wp2_with fail
          go_quiet (fail)
          have HZ5 : Hid (Sc.St (w4.drewN nq) A [0, 0, 0, 0, 0] (.slice none 0 0) ⟨#[]⟩) := HZ4.out.drew nq
          have HB5 : Hid (Below A w (w4.drewN nq)) := below_drewN HB4.out nq
          obtain ⟨w5, hw5⟩ : ∃ w5, w4.drewN nq = w5 := ⟨_, rfl⟩
          have HL5 : Hid (A + 2 ≤ w5.heap.size) := by show A + 2 ≤ _; rw [← hw5]; exact HL4.out
          rw [hw5] at HZ5 HB5 ⊢
          clear hw5
          have z0 := HZ5.out.n 0 (by omega)
          have z1 := HZ5.out.n 1 (by omega)
          have z2 := HZ5.out.n 2 (by omega)
          have z3 := HZ5.out.n 3 (by omega)
          have z4 := HZ5.out.n 4 (by omega)
          have z5 := HZ5.out.c5
          have z6 := HZ5.out.c6
          have zf := HZ5.out.fz
          obtain ⟨hp7, hk7⟩ := Sc.put7 HZ5.out 0 0 0 0 0 (.slice none 0 0) ⟨#[]⟩
          obtain ⟨w7, hw7⟩ : ∃ w7, (((((((w5.setCell ⟨A, 0, none⟩ (.int .i64 0)).setCell ⟨A, 1, none⟩ (.int .i64 0)).setCell ⟨A, 2, none⟩ (.int .i64 0)).setCell ⟨A, 3, none⟩ (.int .i64 0)).setCell ⟨A, 4, none⟩ (.int .i64 0)).setCell ⟨A, 5, none⟩ (.slice none 0 0)).setCell ⟨A, 6, none⟩ (.string ⟨#[]⟩)) = w7 := ⟨_, rfl⟩
          rw [hw7] at hp7 hk7
          have HP7 := Lib.hid hp7
          have HB7 : Hid (Below A w w7) := HB5.out.trans (hk7.to_below (fun j h => Nat.le_of_eq h.symm) (by have := HL5.out; omega))
          clear hp7 hk7
          go_wp2
          clear z0 z1 z2 z3 z4 z5 z6 zf
          have z0 : w7.cell? ⟨A, 0, none⟩ = some (.int .i64 0) := HP7.out.n 0 (by omega)
          have z1 : w7.cell? ⟨A, 1, none⟩ = some (.int .i64 0) := HP7.out.n 1 (by omega)
          have z2 : w7.cell? ⟨A, 2, none⟩ = some (.int .i64 0) := HP7.out.n 2 (by omega)
          have z3 : w7.cell? ⟨A, 3, none⟩ = some (.int .i64 0) := HP7.out.n 3 (by omega)
          have z4 : w7.cell? ⟨A, 4, none⟩ = some (.int .i64 0) := HP7.out.n 4 (by omega)
          have z5 := HP7.out.c5
          have z6 := HP7.out.c6
          refine bodyPost_ret (v := .tuple #[Sc.zeroA, .int .i64 ((k : Int) + 1), .int .i64 250]) (by simp [results, Try.results9, go_sem, Sc.zeroA, z0, z1, z2, z3, z4, z5, z6]) rfl (.no HPE.out (by rw [HA.out]; exact HB7.out))
        obtain ⟨u, hu⟩ := h1
        have hru := hrw.2 u hu
        have hc0 := Sc.str_cell ho4 0 (by rw [hu]; simp)
        simp only [hu, List.getElem_cons_zero] at hc0
        have hus : u.length ≤ 1000000 := by
          have h1 := Sc.cuts_le ws u (by rw [hu]; simp)
          have h2 := Sc.strip_le _ _ _ hst
          rw [Fx.size_toList] at h2
          omega
        obtain ⟨U, hU⟩ : ∃ U : ByteArray, (⟨u.toArray⟩ : ByteArray) = U := ⟨_, rfl⟩
        rw [hU] at hc0
        have hUl : U.data.toList = u := by rw [← hU]
        have hUs : U.size ≤ 1000000 := by rw [← Fx.size_toList, hUl]; exact hus
        rw [← hUl] at hru
        rw [hu, List.length_singleton]
        obtain ⟨N, hN⟩ : ∃ N, Sc.numR U.data.toList = N := ⟨_, rfl⟩
        rw [hN] at hru
        have cN : ∀ d os, Calls Try.prog 25 #[.string U] (grow (redrawn w4 d) os) fun e w'' => e = .returned (.int .i64 N) ∧ ∃ p : Regrown, w'' = grow (redrawn w4 p.d) p.os := fun d os => Calls.regrown_of (by have := number25_any U (grow (redrawn w4 d) os) hUs; rw [hN] at this; exact this)
        have cM : ∀ d os, Calls Try.prog 24 #[.agg #[.string (Sc.nmB k), .int .i64 nk, .int .i64 (Sc.low k), .int .i64 (Sc.top k)], .int .i64 N] (grow (redrawn w4 d) os) fun e w'' => e = .returned (.bool (Sc.may k N)) ∧ ∃ p : Regrown, w'' = grow (redrawn w4 p.d) p.os := fun d os => Calls.regrown_of (may25_any _ _ _ _ _ _)
        have e0 := fun d os => cell_regrown y0 d os
        have e1 := fun d os => cell_regrown y1 d os
        have e2 := fun d os => cell_regrown y2 d os
        have e3 := fun d os => cell_regrown y3 d os
        have e4 := fun d os => cell_regrown hc0 d os
        have HRU := Lib.hid hru
        have hnum := fun wq => number25_any U wq hUs
        rw [hN] at hnum
        clear hst hrw hru hu hU hUl hN ho4
        obtain ⟨mb, hmb⟩ : ∃ mb, Sc.may k N = mb := ⟨_, rfl⟩
        rw [hmb] at cM HRU
        go_wp2_with fail
        refine wp_region_quiet_below (by kernel_rfl) (by kernel_rfl) ?_
        repeat (go_big_quiet_step (first | exact cN _ _ | exact cM _ _))
        refine wpQuiet_nil ?_
        intro _ hw'
        obtain ⟨⟨dq, osq⟩, hw''⟩ := hw'
        subst hw''
        have hbq := below_regrown w4 dq osq
        obtain ⟨w5, hw5⟩ : ∃ w5, grow (redrawn w4 dq) osq = w5 := ⟨_, rfl⟩
        have g4 := e4 dq osq
        rw [hw5] at hbq g4 ⊢
        have hk5 : Keep (fun _ => False) w4 w5 := (Keep.refl _ _).below hbq
        have HZ5 := Lib.hid (HZ4.out.keep hk5 (fun h => h))
        have HS5 := Lib.hid (HS4.out.keep hk5 (fun h => h))
        have HL5 : Hid (A + 2 ≤ w5.heap.size) := Nat.le_trans HL4.out hk5.size
        have HB5 : Hid (Below A w w5) := HB4.out.trans (hk5.to_below (fun j h => h.elim) (by have := HL4.out; omega))
        clear hw5 hbq hk5 cN cM e0 e1 e2 e3 e4 y0 y1 y2 y3 hc0
        cases mb
        · have HPE : Hid (Sc.parse s.data.toList = .err ((k : Int) + 1) 250) := HPN.out (HRU.out.1 rfl)
          clear hmb hnum
          have z0 := HZ5.out.n 0 (by omega)
          have z1 := HZ5.out.n 1 (by omega)
          have z2 := HZ5.out.n 2 (by omega)
          have z3 := HZ5.out.n 3 (by omega)
          have z4 := HZ5.out.n 4 (by omega)
          have z5 := HZ5.out.c5
          have z6 := HZ5.out.c6
          have zf := HZ5.out.fz
          obtain ⟨hp7, hk7⟩ := Sc.put7 HZ5.out 0 0 0 0 0 (.slice none 0 0) ⟨#[]⟩
          obtain ⟨w7, hw7⟩ : ∃ w7, (((((((w5.setCell ⟨A, 0, none⟩ (.int .i64 0)).setCell ⟨A, 1, none⟩ (.int .i64 0)).setCell ⟨A, 2, none⟩ (.int .i64 0)).setCell ⟨A, 3, none⟩ (.int .i64 0)).setCell ⟨A, 4, none⟩ (.int .i64 0)).setCell ⟨A, 5, none⟩ (.slice none 0 0)).setCell ⟨A, 6, none⟩ (.string ⟨#[]⟩)) = w7 := ⟨_, rfl⟩
          rw [hw7] at hp7 hk7
          have HP7 := Lib.hid hp7
          have HB7 : Hid (Below A w w7) := HB5.out.trans (hk7.to_below (fun j h => Nat.le_of_eq h.symm) (by have := HL5.out; omega))
          clear hp7 hk7
          go_wp2
          clear z0 z1 z2 z3 z4 z5 z6 zf
          have z0 : w7.cell? ⟨A, 0, none⟩ = some (.int .i64 0) := HP7.out.n 0 (by omega)
          have z1 : w7.cell? ⟨A, 1, none⟩ = some (.int .i64 0) := HP7.out.n 1 (by omega)
          have z2 : w7.cell? ⟨A, 2, none⟩ = some (.int .i64 0) := HP7.out.n 2 (by omega)
          have z3 : w7.cell? ⟨A, 3, none⟩ = some (.int .i64 0) := HP7.out.n 3 (by omega)
          have z4 : w7.cell? ⟨A, 4, none⟩ = some (.int .i64 0) := HP7.out.n 4 (by omega)
          have z5 := HP7.out.c5
          have z6 := HP7.out.c6
          refine bodyPost_ret (v := .tuple #[Sc.zeroA, .int .i64 ((k : Int) + 1), .int .i64 250]) (by simp [results, Try.results9, go_sem, Sc.zeroA, z0, z1, z2, z3, z4, z5, z6]) rfl (.no HPE.out (by rw [HA.out]; exact HB7.out))
        have hre := HRU.out.2 rfl
        have HRE := Lib.hid hre
        clear hre
        go_wp2_with fail
        refine (hnum _).mono ?_
        rintro e w6 ⟨rfl, hb6⟩
        have hk6 : Keep (fun _ => False) w5 w6 := (Keep.refl _ _).below hb6
        have HZ6 := Lib.hid (HZ5.out.keep hk6 (fun h => h))
        have HS6 := Lib.hid (HS5.out.keep hk6 (fun h => h))
        have HL6 : Hid (A + 2 ≤ w6.heap.size) := Nat.le_trans HL5.out hk6.size
        have HB6 : Hid (Below A w w6) := HB5.out.trans (hk6.to_below (fun j h => h.elim) (by have := HL5.out; omega))
        have HPK : Hid (Sc.parse s.data.toList = Sc.nums (5 - (k + 1)) (k + 1) (([v0, v1, v2, v3, v4].set k N).take (k + 1)) (s.data.toList.drop m2')) := by
          show _ = _; rw [HP.out, Sc.nums_ok k _ N _ _ HRE.out hlt rfl, HDR.out]
        have HMK : Hid (∀ j, j < k + 1 → Sc.may j (([v0, v1, v2, v3, v4].set k N).getD j 0) = true) := Sc.may_set _ k N hlt rfl HM.out hmb
        have t0 : w6.cell? ⟨A + 1, 0, none⟩ = some (.int .i64 v0) := HS6.out.n 0 (by omega)
        have t1 : w6.cell? ⟨A + 1, 1, none⟩ = some (.int .i64 v1) := HS6.out.n 1 (by omega)
        have t2 : w6.cell? ⟨A + 1, 2, none⟩ = some (.int .i64 v2) := HS6.out.n 2 (by omega)
        have t3 : w6.cell? ⟨A + 1, 3, none⟩ = some (.int .i64 v3) := HS6.out.n 3 (by omega)
        have t4 : w6.cell? ⟨A + 1, 4, none⟩ = some (.int .i64 v4) := HS6.out.n 4 (by omega)
        have tf := HS6.out.fz
        clear hb6 hk6 hnum HRU HRE HDR HP HM HPN HRL hmb
        have hk5c : k = 0 ∨ k = 1 ∨ k = 2 ∨ k = 3 ∨ k = 4 := by omega
        clear hk hlt
        rcases hk5c with rfl | rfl | rfl | rfl | rfl
        · have hs6 : Hid (Sc.St (w6.setCell ⟨A + 1, 0, none⟩ (.int .i64 N)) (A + 1) [N, v1, v2, v3, v4] (.slice none 0 0) ⟨#[]⟩) := HS6.out.set rfl 0 (by omega) N
          have hk7 : Keep (· = A + 1) w6 (w6.setCell ⟨A + 1, 0, none⟩ (.int .i64 N)) := (Keep.refl (· = A + 1) w6).setCell (B := A + 1) rfl 0 _
          have HZ7 := Lib.hid (HZ6.out.keep hk7 (fun h => absurd (show A = A + 1 from h) (by omega)))
          have HB7 : Hid (Below A w (w6.setCell ⟨A + 1, 0, none⟩ (.int .i64 N))) := HB6.out.trans (hk7.to_below (fun j h => by have h : j = A + 1 := h; omega) (by have := HL6.out; omega))
          have HL7 : Hid (A + 2 ≤ (w6.setCell ⟨A + 1, 0, none⟩ (.int .i64 N)).heap.size) := Nat.le_trans HL6.out hk7.size
          have HP7 : Hid (Sc.parse s.data.toList = Sc.nums (5 - 1) 1 ([N, v1, v2, v3, v4].take 1) (s.data.toList.drop m2')) := HPK.out
          have HM7 : Hid (∀ i, i < 1 → Sc.may i ([N, v1, v2, v3, v4].getD i 0) = true) := HMK.out
          clear hk7 HPK HMK
          go_wp2
          go_roundw
          case rel => exact ⟨1, m2', N, v1, v2, v3, v4, rfl, by first | rfl | go_num, by omega, hm2, HP7, hs6, HZ7, HL7, HB7, HM7⟩
          case measure => simp [intOf]
        · have hs6 : Hid (Sc.St (w6.setCell ⟨A + 1, 1, none⟩ (.int .i64 N)) (A + 1) [v0, N, v2, v3, v4] (.slice none 0 0) ⟨#[]⟩) := HS6.out.set rfl 1 (by omega) N
          have hk7 : Keep (· = A + 1) w6 (w6.setCell ⟨A + 1, 1, none⟩ (.int .i64 N)) := (Keep.refl (· = A + 1) w6).setCell (B := A + 1) rfl 1 _
          have HZ7 := Lib.hid (HZ6.out.keep hk7 (fun h => absurd (show A = A + 1 from h) (by omega)))
          have HB7 : Hid (Below A w (w6.setCell ⟨A + 1, 1, none⟩ (.int .i64 N))) := HB6.out.trans (hk7.to_below (fun j h => by have h : j = A + 1 := h; omega) (by have := HL6.out; omega))
          have HL7 : Hid (A + 2 ≤ (w6.setCell ⟨A + 1, 1, none⟩ (.int .i64 N)).heap.size) := Nat.le_trans HL6.out hk7.size
          have HP7 : Hid (Sc.parse s.data.toList = Sc.nums (5 - 2) 2 ([v0, N, v2, v3, v4].take 2) (s.data.toList.drop m2')) := HPK.out
          have HM7 : Hid (∀ i, i < 2 → Sc.may i ([v0, N, v2, v3, v4].getD i 0) = true) := HMK.out
          clear hk7 HPK HMK
          go_wp2
          go_roundw
          case rel => exact ⟨2, m2', v0, N, v2, v3, v4, rfl, by first | rfl | go_num, by omega, hm2, HP7, hs6, HZ7, HL7, HB7, HM7⟩
          case measure => simp [intOf]
        · have hs6 : Hid (Sc.St (w6.setCell ⟨A + 1, 2, none⟩ (.int .i64 N)) (A + 1) [v0, v1, N, v3, v4] (.slice none 0 0) ⟨#[]⟩) := HS6.out.set rfl 2 (by omega) N
          have hk7 : Keep (· = A + 1) w6 (w6.setCell ⟨A + 1, 2, none⟩ (.int .i64 N)) := (Keep.refl (· = A + 1) w6).setCell (B := A + 1) rfl 2 _
          have HZ7 := Lib.hid (HZ6.out.keep hk7 (fun h => absurd (show A = A + 1 from h) (by omega)))
          have HB7 : Hid (Below A w (w6.setCell ⟨A + 1, 2, none⟩ (.int .i64 N))) := HB6.out.trans (hk7.to_below (fun j h => by have h : j = A + 1 := h; omega) (by have := HL6.out; omega))
          have HL7 : Hid (A + 2 ≤ (w6.setCell ⟨A + 1, 2, none⟩ (.int .i64 N)).heap.size) := Nat.le_trans HL6.out hk7.size
          have HP7 : Hid (Sc.parse s.data.toList = Sc.nums (5 - 3) 3 ([v0, v1, N, v3, v4].take 3) (s.data.toList.drop m2')) := HPK.out
          have HM7 : Hid (∀ i, i < 3 → Sc.may i ([v0, v1, N, v3, v4].getD i 0) = true) := HMK.out
          clear hk7 HPK HMK
          go_wp2
          go_roundw
          case rel => exact ⟨3, m2', v0, v1, N, v3, v4, rfl, by first | rfl | go_num, by omega, hm2, HP7, hs6, HZ7, HL7, HB7, HM7⟩
          case measure => simp [intOf]
        · have hs6 : Hid (Sc.St (w6.setCell ⟨A + 1, 3, none⟩ (.int .i64 N)) (A + 1) [v0, v1, v2, N, v4] (.slice none 0 0) ⟨#[]⟩) := HS6.out.set rfl 3 (by omega) N
          have hk7 : Keep (· = A + 1) w6 (w6.setCell ⟨A + 1, 3, none⟩ (.int .i64 N)) := (Keep.refl (· = A + 1) w6).setCell (B := A + 1) rfl 3 _
          have HZ7 := Lib.hid (HZ6.out.keep hk7 (fun h => absurd (show A = A + 1 from h) (by omega)))
          have HB7 : Hid (Below A w (w6.setCell ⟨A + 1, 3, none⟩ (.int .i64 N))) := HB6.out.trans (hk7.to_below (fun j h => by have h : j = A + 1 := h; omega) (by have := HL6.out; omega))
          have HL7 : Hid (A + 2 ≤ (w6.setCell ⟨A + 1, 3, none⟩ (.int .i64 N)).heap.size) := Nat.le_trans HL6.out hk7.size
          have HP7 : Hid (Sc.parse s.data.toList = Sc.nums (5 - 4) 4 ([v0, v1, v2, N, v4].take 4) (s.data.toList.drop m2')) := HPK.out
          have HM7 : Hid (∀ i, i < 4 → Sc.may i ([v0, v1, v2, N, v4].getD i 0) = true) := HMK.out
          clear hk7 HPK HMK
          go_wp2
          go_roundw
          case rel => exact ⟨4, m2', v0, v1, v2, N, v4, rfl, by first | rfl | go_num, by omega, hm2, HP7, hs6, HZ7, HL7, HB7, HM7⟩
          case measure => simp [intOf]
        · have hs6 : Hid (Sc.St (w6.setCell ⟨A + 1, 4, none⟩ (.int .i64 N)) (A + 1) [v0, v1, v2, v3, N] (.slice none 0 0) ⟨#[]⟩) := HS6.out.set rfl 4 (by omega) N
          have hk7 : Keep (· = A + 1) w6 (w6.setCell ⟨A + 1, 4, none⟩ (.int .i64 N)) := (Keep.refl (· = A + 1) w6).setCell (B := A + 1) rfl 4 _
          have HZ7 := Lib.hid (HZ6.out.keep hk7 (fun h => absurd (show A = A + 1 from h) (by omega)))
          have HB7 : Hid (Below A w (w6.setCell ⟨A + 1, 4, none⟩ (.int .i64 N))) := HB6.out.trans (hk7.to_below (fun j h => by have h : j = A + 1 := h; omega) (by have := HL6.out; omega))
          have HL7 : Hid (A + 2 ≤ (w6.setCell ⟨A + 1, 4, none⟩ (.int .i64 N)).heap.size) := Nat.le_trans HL6.out hk7.size
          have HP7 : Hid (Sc.parse s.data.toList = Sc.nums (5 - 5) 5 ([v0, v1, v2, v3, N].take 5) (s.data.toList.drop m2')) := HPK.out
          have HM7 : Hid (∀ i, i < 5 → Sc.may i ([v0, v1, v2, v3, N].getD i 0) = true) := HMK.out
          clear hk7 HPK HMK
          go_wp2
          go_roundw
          case rel => exact ⟨5, m2', v0, v1, v2, v3, N, rfl, by first | rfl | go_num, by omega, hm2, HP7, hs6, HZ7, HL7, HB7, HM7⟩
          case measure => simp [intOf]
    · have HPE : Hid (Sc.parse s.data.toList = .err ((k : Int) + 1) 250) := by
        show _ = _
        rw [HP.out, Sc.nums_no _ k _ _ (by unfold Sc.reads; rw [Sc.line_no _ hc]) (by omega)]
      have hwd := fun wq => words25_any ⟨#[]⟩ (Sc.nmB k) wq (by decide) (Sc.nmB_size k)
      clear hc hln
      go_wp2_with fail
      refine hNm.mono ?_
      rintro e w3 ⟨rfl, rfl⟩
      clear hwn hW n0 n1 n2 n3 n4 n5 n6
      go_wp2_with fail
      refine (hwd _).mono ?_
      rintro e w4 ⟨hb4, h4⟩
      rw [Sc.strip_nil _ (by simp)] at h4
      simp only [] at h4
      subst h4
      have hk4 : Keep (fun _ => False) wr w4 := HKX.out.below hb4
      have HZ4 := Lib.hid (HZ1.out.keep hk4 (fun h => h))
      have HL4 : Hid (A + 2 ≤ w4.heap.size) := Nat.le_trans HL.out hk4.size
      have HB4 : Hid (Below A w w4) := HB1.out.trans (hk4.to_below (fun j h => h.elim) (by have := HL.out; omega))
      clear hb4 hk4 hwd hwx m0 m1 m2 m3 x0 x1 x2 x3 hNm hWn hWx
      go_wp2_with fail
      go_quiet (fail)
      have HZ5 : Hid (Sc.St (w4.drewN nq) A [0, 0, 0, 0, 0] (.slice none 0 0) ⟨#[]⟩) := HZ4.out.drew nq
      have HB5 : Hid (Below A w (w4.drewN nq)) := below_drewN HB4.out nq
      obtain ⟨w5, hw5⟩ : ∃ w5, w4.drewN nq = w5 := ⟨_, rfl⟩
      have HL5 : Hid (A + 2 ≤ w5.heap.size) := by show A + 2 ≤ _; rw [← hw5]; exact HL4.out
      rw [hw5] at HZ5 HB5 ⊢
      clear hw5
      have z0 := HZ5.out.n 0 (by omega)
      have z1 := HZ5.out.n 1 (by omega)
      have z2 := HZ5.out.n 2 (by omega)
      have z3 := HZ5.out.n 3 (by omega)
      have z4 := HZ5.out.n 4 (by omega)
      have z5 := HZ5.out.c5
      have z6 := HZ5.out.c6
      have zf := HZ5.out.fz
      obtain ⟨hp7, hk7⟩ := Sc.put7 HZ5.out 0 0 0 0 0 (.slice none 0 0) ⟨#[]⟩
      obtain ⟨w7, hw7⟩ : ∃ w7, (((((((w5.setCell ⟨A, 0, none⟩ (.int .i64 0)).setCell ⟨A, 1, none⟩ (.int .i64 0)).setCell ⟨A, 2, none⟩ (.int .i64 0)).setCell ⟨A, 3, none⟩ (.int .i64 0)).setCell ⟨A, 4, none⟩ (.int .i64 0)).setCell ⟨A, 5, none⟩ (.slice none 0 0)).setCell ⟨A, 6, none⟩ (.string ⟨#[]⟩)) = w7 := ⟨_, rfl⟩
      rw [hw7] at hp7 hk7
      have HP7 := Lib.hid hp7
      have HB7 : Hid (Below A w w7) := HB5.out.trans (hk7.to_below (fun j h => Nat.le_of_eq h.symm) (by have := HL5.out; omega))
      clear hp7 hk7
      go_wp2
      clear z0 z1 z2 z3 z4 z5 z6 zf
      have z0 : w7.cell? ⟨A, 0, none⟩ = some (.int .i64 0) := HP7.out.n 0 (by omega)
      have z1 : w7.cell? ⟨A, 1, none⟩ = some (.int .i64 0) := HP7.out.n 1 (by omega)
      have z2 : w7.cell? ⟨A, 2, none⟩ = some (.int .i64 0) := HP7.out.n 2 (by omega)
      have z3 : w7.cell? ⟨A, 3, none⟩ = some (.int .i64 0) := HP7.out.n 3 (by omega)
      have z4 : w7.cell? ⟨A, 4, none⟩ = some (.int .i64 0) := HP7.out.n 4 (by omega)
      have z5 := HP7.out.c5
      have z6 := HP7.out.c6
      refine bodyPost_ret (v := .tuple #[Sc.zeroA, .int .i64 ((k : Int) + 1), .int .i64 250]) (by simp [results, Try.results9, go_sem, Sc.zeroA, z0, z1, z2, z3, z4, z5, z6]) rfl (.no HPE.out (by rw [HA.out]; exact HB7.out))
end Go.Proofs.Ytbaendhagojadaa
