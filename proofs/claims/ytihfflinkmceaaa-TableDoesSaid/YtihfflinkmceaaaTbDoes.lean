/-
  shuttlelaw18.does: an act with both answers the same.
-/
import Derived.Test.YtihfflinkmceaaaTbRefC
import Derived.Test.YtihfflinkmceaaaTbClone
import Derived.Test.YtihfflinkmceaaaTbShW
namespace Go.Proofs.Ytihfflinkmceaaa
open Go.RowKit Go.Maps Go.Sort
namespace Tb
/-- what is held behind an act -/
def doL (d : Int) (L : List (Nm × V)) (s : Nm) (n : Int) : List (Nm × V) := if d = 1 then asL L s (1, n) else if d = 2 then defL L s (1, n) else L
theorem Good.doL {L : List (Nm × V)} (h : Good L) (d : Int) (s : Nm) (n : Int) : Good (doL d L s n) := by
  unfold Tb.doL
  split
  · exact h.asL s _
  · split
    · exact h.defL s _
    · exact h
/-- the blocks of both -/
def DS (lo hi b : Nat) (u : Value) (k : Nat) : Prop := Within lo hi k ∨ RB b u k
theorem hl6 {A B C D E F : Prop} (h : A ∧ B ∧ C ∧ D ∧ E ∧ Hid F) : F := h.2.2.2.2.2.out
theorem own_lt {w : World} {base size n : Nat} {e : TypeId} {v : Value} {xs : List Value} (h : w.ownsRow base e size v n xs) : ∀ k, v.ownBlock = some k → k < w.heap.size := by
  intro k hk
  rcases h.2 with ⟨rfl, _⟩ | ⟨g, cap, cur, rfl, _, e3, _⟩
  · cases hk
  · have : g = k := by cases hk; rfl
    subst this
    exact (Array.getElem?_eq_some_iff.1 e3).1
end Tb
set_option maxRecDepth 100000 in
set_option maxHeartbeats 8000000 in
theorem does_any {T n lo hi b : Nat} {B : Nat → Nat} {u : Value} {L : List (Tb.Nm × Tb.V)} (d nn : Int) (s : ByteArray) (w : World) (ht : Tb.Tab w T n lo hi B L) (hu : Tb.RTab w b n u L) (hdb : ¬ Tb.Within lo hi b) (hdu : ∀ k, u.ownBlock = some k → ¬ Tb.Within lo hi k) (hs : s.size ≤ 1000) :
    Calls Try.prog 23 #[.pointer (some ⟨T, 0, none⟩), .pointer (some ⟨b, 0, none⟩), .agg #[.int .i64 d, .string s, .int .i64 nn]] w fun e w' =>
      e = .returned (.bool true) ∧ ∃ u', Tb.Tab w' T n lo hi B (Tb.doL d L s.data.toList nn) ∧ Tb.RTab w' b n u' (Tb.doL d L s.data.toList nn) ∧ Keep (Tb.DS lo hi b u) w w' ∧ Tb.RV w u u' := by
  have hn1 := ht.n1
  have HDB := Lib.hid hdb
  have HDU := Lib.hid hdu
  have HDT : Hid (∀ k, lo ≤ k → k < hi → ¬ Tb.RB b u k) := fun k h1 h2 h => by
    rcases h with rfl | h
    · exact hdb ⟨h1, h2⟩
    · exact hdu k h ⟨h1, h2⟩
  obtain ⟨X, hX⟩ : ∃ X, w.heap.size = X := ⟨_, rfl⟩
  have hhiX : hi ≤ X := by rw [← hX]; exact ht.hh
  have HXR : Hid (¬ Tb.RB b u X) := by
    show ¬ _
    rw [← hX]
    rintro (h | h)
    · have : b < w.heap.size := block_lt_of_cell hu.c0
      omega
    · have := Tb.own_lt hu.row _ h
      omega
  have hc3 := Tb.three_new w (.int .i64 d) (.string s) (.int .i64 nn)
  have hb6 : Below w.heap.size w (w.alloc (.cells #[.int .i64 d, .string s, .int .i64 nn] 33)) := (Below.refl _ w).alloc (Nat.le_refl _) _
  have hXw6 : X < (w.alloc (.cells #[.int .i64 d, .string s, .int .i64 nn] 33)).heap.size := by rw [← hX]; simp
  obtain ⟨w6, hw6⟩ : ∃ w6, w.alloc (.cells #[.int .i64 d, .string s, .int .i64 nn] 33) = w6 := ⟨_, rfl⟩
  rw [hw6] at hc3 hb6 hXw6
  rw [hX] at hc3
  obtain ⟨x0, x1, x2⟩ := hc3
  have HTw6 := Lib.hid (ht.below hb6)
  have HUw6 := Lib.hid (hu.below hb6)
  have HK6 : Hid (Keep (Tb.DS lo hi b u) w w6) := (Tb.Keep.of_below hb6).mono (fun _ _ h => h.elim)
  clear ht hu hb6 hdb hdu
  by_cases hd1 : d = 1
  · subst hd1
    have HE : Hid (Tb.doL 1 L s.data.toList nn = Tb.asL L s.data.toList (1, nn)) := if_pos rfl
    rw [HE.out]
    obtain ⟨⟨rk, re⟩, hr⟩ : ∃ r, r = Tb.asr L s.data.toList := ⟨_, rfl⟩
    have HR : Hid ((rk, re) = Tb.asr L s.data.toList) := hr
    clear hr
    go_enter Try.func23, Try.ntmps23
    have HMKw6 : Hid (∀ w', Below w6.heap.size w6 w' → w'.cell? ⟨X, 0, none⟩ = some (.int .i64 1) ∧ w'.cell? ⟨X, 1, none⟩ = some (.string s) ∧ w'.cell? ⟨X, 2, none⟩ = some (.int .i64 nn)) := fun w' hb => ⟨(hb.cell (p := ⟨X, 0, none⟩) hXw6).trans x0, (hb.cell (p := ⟨X, 1, none⟩) hXw6).trans x1, (hb.cell (p := ⟨X, 2, none⟩) hXw6).trans x2⟩
    have HMWw6 : Hid (∀ w7 w', Below w6.heap.size w6 w7 → Keep (Tb.Within lo hi) w7 w' → w'.cell? ⟨X, 0, none⟩ = some (.int .i64 1) ∧ w'.cell? ⟨X, 1, none⟩ = some (.string s) ∧ w'.cell? ⟨X, 2, none⟩ = some (.int .i64 nn)) := fun w7 w' hb hk => by
      obtain ⟨h0, h1, h2⟩ := HMKw6.out w7 hb
      have hz := Nat.lt_of_lt_of_le hXw6 hb.size
      have hn : ¬ (Tb.Within lo hi) X := fun h => by have := h.2; omega
      exact ⟨(hk.cell 0 hz hn).trans h0, (hk.cell 1 hz hn).trans h1, (hk.cell 2 hz hn).trans h2⟩
    have HAw6 : Hid (∀ w7, Below w6.heap.size w6 w7 → Calls Try.prog 11 #[.pointer (some ⟨T, 0, none⟩), .string s, .agg #[.int .i64 1, .int .i64 nn]] w7 fun e w' => e = .returned (.tuple #[.int .i64 rk, .int .i64 re]) ∧ Tb.Tab w' T n lo hi B (Tb.asL L s.data.toList (1, nn)) ∧ Keep (Tb.Within lo hi) w7 w') := fun w7 hb => by
      have h := Assign_any s (1, nn) w7 (HTw6.out.below hb) hs
      rw [← HR.out] at h
      exact h
    go_wp2_with fail
    clear hw6
    go_region_held3 (fun w' => w'.cell? ⟨X, 0, none⟩ = some (.int .i64 1) ∧ w'.cell? ⟨X, 1, none⟩ = some (.string s) ∧ w'.cell? ⟨X, 2, none⟩ = some (.int .i64 nn)) (first | exact HMKw6.out _ ((Below.refl _ _).drew) | exact HMWw6.out _ _ (Tb.dr hbw7) hkw8 | exact HMKw6.out _ (Tb.dr hbw7))
      (first | (go_at_call 12; refine (value_any 1 nn s _).mono ?_; rintro e w7 ⟨rfl, hbw7⟩) | (go_at_call 11; refine (HAw6.out _ (Tb.dr hbw7)).mono ?_; rintro e w8 ⟨rfl, htw8, hkw8⟩) | fail)
    all_goals
      have hb7' : Below w6.heap.size w6 w7 := Tb.dr hbw7
      have HTw8 := Lib.hid htw8
      have HUw8 := Lib.hid ((HUw6.out.below hb7').keep hkw8 HDB.out HDU.out)
      have HK8 : Hid (Keep (Tb.DS lo hi b u) w w8) := Keep.trans (Keep.trans HK6.out ((Tb.Keep.of_below hb7').mono (fun _ _ h => h.elim))) (hkw8.mono (fun _ _ h => .inl h))
      obtain ⟨y0, y1, y2⟩ := HMWw6.out w7 w8 hb7' hkw8
      have hXw8 : X < w8.heap.size := Nat.lt_of_lt_of_le (Nat.lt_of_lt_of_le hXw6 hb7'.size) hkw8.size
      clear hbw7 hb7' htw8 hkw8 HMKw6 HMWw6 HAw6 HTw6 HUw6 HK6 x0 x1 x2
      have HMKw8 : Hid (∀ w', Below w8.heap.size w8 w' → w'.cell? ⟨X, 0, none⟩ = some (.int .i64 1) ∧ w'.cell? ⟨X, 1, none⟩ = some (.string s) ∧ w'.cell? ⟨X, 2, none⟩ = some (.int .i64 nn)) := fun w' hb => ⟨(hb.cell (p := ⟨X, 0, none⟩) hXw8).trans y0, (hb.cell (p := ⟨X, 1, none⟩) hXw8).trans y1, (hb.cell (p := ⟨X, 2, none⟩) hXw8).trans y2⟩
      have HMWw8 : Hid (∀ w7 w', Below w8.heap.size w8 w7 → Keep (Tb.RB b u) w7 w' → w'.cell? ⟨X, 0, none⟩ = some (.int .i64 1) ∧ w'.cell? ⟨X, 1, none⟩ = some (.string s) ∧ w'.cell? ⟨X, 2, none⟩ = some (.int .i64 nn)) := fun w7 w' hb hk => by
        obtain ⟨h0, h1, h2⟩ := HMKw8.out w7 hb
        have hz := Nat.lt_of_lt_of_le hXw8 hb.size
        have hn : ¬ (Tb.RB b u) X := HXR.out
        exact ⟨(hk.cell 0 hz hn).trans h0, (hk.cell 1 hz hn).trans h1, (hk.cell 2 hz hn).trans h2⟩
      have HAw8 : Hid (∀ w7, Below w8.heap.size w8 w7 → Calls Try.prog 34 #[.pointer (some ⟨b, 0, none⟩), .string s, .agg #[.int .i64 1, .int .i64 nn]] w7 fun e w' => e = .returned (.tuple #[.int .i64 rk, .int .i64 re]) ∧ ∃ u', Tb.RTab w' b n u' (Tb.asL L s.data.toList (1, nn)) ∧ Keep (Tb.RB b u) w7 w' ∧ Tb.RV w7 u u') := fun w7 hb => by
        have h := RAssign_any s (1, nn) w7 (HUw8.out.below hb) hs
        rw [← HR.out] at h
        exact h
      go_wp2_with fail
      skip
      go_region_held3 (fun w' => w'.cell? ⟨X, 0, none⟩ = some (.int .i64 1) ∧ w'.cell? ⟨X, 1, none⟩ = some (.string s) ∧ w'.cell? ⟨X, 2, none⟩ = some (.int .i64 nn)) (first | exact HMKw8.out _ ((Below.refl _ _).drew) | exact HMWw8.out _ _ (Tb.dr hbw9) hkw10 | exact HMKw8.out _ (Tb.dr hbw9))
        (first | (go_at_call 12; refine (value_any 1 nn s _).mono ?_; rintro e w9 ⟨rfl, hbw9⟩) | (go_at_call 34; refine (HAw8.out _ (Tb.dr hbw9)).mono ?_; rintro e w10 ⟨rfl, u', htw10, hkw10, hvw10⟩) | fail)
      all_goals
        have hb9' : Below w8.heap.size w8 w9 := Tb.dr hbw9
        have HU10 := Lib.hid htw10
        have HT10 := Lib.hid ((HTw8.out.below hb9').keep hkw10 HDT.out)
        have HK10 : Hid (Keep (Tb.DS lo hi b u) w w10) := Keep.trans (Keep.trans HK8.out ((Tb.Keep.of_below hb9').mono (fun _ _ h => h.elim))) (hkw10.mono (fun _ _ h => .inr h))
        have HV10 : Hid (Tb.RV w u u') := fun k hk => (hvw10 k hk).imp id (fun h => Nat.le_trans HK8.out.size (Nat.le_trans hb9'.size h))
        clear hbw9 hb9' htw10 hkw10 hvw10 HMKw8 HMWw8 HAw8 HTw8 HUw8 HK8 y0 y1 y2 HR
        go_wp2
        go_ret
        exact ⟨rfl, u', HT10.out, HU10.out, HK10.out, HV10.out⟩
  have hd1' : (d == 1) = false := by simpa using hd1
  by_cases hd2 : d = 2
  · subst hd2
    have HE : Hid (Tb.doL 2 L s.data.toList nn = Tb.defL L s.data.toList (1, nn)) := by show _ = _; unfold Tb.doL; rw [if_neg hd1, if_pos rfl]
    rw [HE.out]
    obtain ⟨⟨rk, re⟩, hr⟩ : ∃ r, r = Tb.defr L s.data.toList := ⟨_, rfl⟩
    have HR : Hid ((rk, re) = Tb.defr L s.data.toList) := hr
    clear hr
    go_enter Try.func23, Try.ntmps23
    have HMKw6 : Hid (∀ w', Below w6.heap.size w6 w' → w'.cell? ⟨X, 0, none⟩ = some (.int .i64 2) ∧ w'.cell? ⟨X, 1, none⟩ = some (.string s) ∧ w'.cell? ⟨X, 2, none⟩ = some (.int .i64 nn)) := fun w' hb => ⟨(hb.cell (p := ⟨X, 0, none⟩) hXw6).trans x0, (hb.cell (p := ⟨X, 1, none⟩) hXw6).trans x1, (hb.cell (p := ⟨X, 2, none⟩) hXw6).trans x2⟩
    have HMWw6 : Hid (∀ w7 w', Below w6.heap.size w6 w7 → Keep (Tb.Within lo hi) w7 w' → w'.cell? ⟨X, 0, none⟩ = some (.int .i64 2) ∧ w'.cell? ⟨X, 1, none⟩ = some (.string s) ∧ w'.cell? ⟨X, 2, none⟩ = some (.int .i64 nn)) := fun w7 w' hb hk => by
      obtain ⟨h0, h1, h2⟩ := HMKw6.out w7 hb
      have hz := Nat.lt_of_lt_of_le hXw6 hb.size
      have hn : ¬ (Tb.Within lo hi) X := fun h => by have := h.2; omega
      exact ⟨(hk.cell 0 hz hn).trans h0, (hk.cell 1 hz hn).trans h1, (hk.cell 2 hz hn).trans h2⟩
    have HAw6 : Hid (∀ w7, Below w6.heap.size w6 w7 → Calls Try.prog 13 #[.pointer (some ⟨T, 0, none⟩), .string s, .agg #[.int .i64 1, .int .i64 nn]] w7 fun e w' => e = .returned (.tuple #[.int .i64 rk, .int .i64 re]) ∧ Tb.Tab w' T n lo hi B (Tb.defL L s.data.toList (1, nn)) ∧ Keep (Tb.Within lo hi) w7 w') := fun w7 hb => by
      have h := Define_any s (1, nn) w7 (HTw6.out.below hb) hs
      rw [← HR.out] at h
      exact h
    go_wp2_with fail
    clear hw6
    go_region_held3 (fun w' => w'.cell? ⟨X, 0, none⟩ = some (.int .i64 2) ∧ w'.cell? ⟨X, 1, none⟩ = some (.string s) ∧ w'.cell? ⟨X, 2, none⟩ = some (.int .i64 nn)) (first | exact HMKw6.out _ ((Below.refl _ _).drew) | exact HMWw6.out _ _ (Tb.dr hbw7) hkw8 | exact HMKw6.out _ (Tb.dr hbw7))
      (first | (go_at_call 12; refine (value_any 2 nn s _).mono ?_; rintro e w7 ⟨rfl, hbw7⟩) | (go_at_call 13; refine (HAw6.out _ (Tb.dr hbw7)).mono ?_; rintro e w8 ⟨rfl, htw8, hkw8⟩) | fail)
    all_goals
      have hb7' : Below w6.heap.size w6 w7 := Tb.dr hbw7
      have HTw8 := Lib.hid htw8
      have HUw8 := Lib.hid ((HUw6.out.below hb7').keep hkw8 HDB.out HDU.out)
      have HK8 : Hid (Keep (Tb.DS lo hi b u) w w8) := Keep.trans (Keep.trans HK6.out ((Tb.Keep.of_below hb7').mono (fun _ _ h => h.elim))) (hkw8.mono (fun _ _ h => .inl h))
      obtain ⟨y0, y1, y2⟩ := HMWw6.out w7 w8 hb7' hkw8
      have hXw8 : X < w8.heap.size := Nat.lt_of_lt_of_le (Nat.lt_of_lt_of_le hXw6 hb7'.size) hkw8.size
      clear hbw7 hb7' htw8 hkw8 HMKw6 HMWw6 HAw6 HTw6 HUw6 HK6 x0 x1 x2
      have HMKw8 : Hid (∀ w', Below w8.heap.size w8 w' → w'.cell? ⟨X, 0, none⟩ = some (.int .i64 2) ∧ w'.cell? ⟨X, 1, none⟩ = some (.string s) ∧ w'.cell? ⟨X, 2, none⟩ = some (.int .i64 nn)) := fun w' hb => ⟨(hb.cell (p := ⟨X, 0, none⟩) hXw8).trans y0, (hb.cell (p := ⟨X, 1, none⟩) hXw8).trans y1, (hb.cell (p := ⟨X, 2, none⟩) hXw8).trans y2⟩
      have HMWw8 : Hid (∀ w7 w', Below w8.heap.size w8 w7 → Keep (Tb.RB b u) w7 w' → w'.cell? ⟨X, 0, none⟩ = some (.int .i64 2) ∧ w'.cell? ⟨X, 1, none⟩ = some (.string s) ∧ w'.cell? ⟨X, 2, none⟩ = some (.int .i64 nn)) := fun w7 w' hb hk => by
        obtain ⟨h0, h1, h2⟩ := HMKw8.out w7 hb
        have hz := Nat.lt_of_lt_of_le hXw8 hb.size
        have hn : ¬ (Tb.RB b u) X := HXR.out
        exact ⟨(hk.cell 0 hz hn).trans h0, (hk.cell 1 hz hn).trans h1, (hk.cell 2 hz hn).trans h2⟩
      have HAw8 : Hid (∀ w7, Below w8.heap.size w8 w7 → Calls Try.prog 35 #[.pointer (some ⟨b, 0, none⟩), .string s, .agg #[.int .i64 1, .int .i64 nn]] w7 fun e w' => e = .returned (.tuple #[.int .i64 rk, .int .i64 re]) ∧ ∃ u', Tb.RTab w' b n u' (Tb.defL L s.data.toList (1, nn)) ∧ Keep (Tb.RB b u) w7 w' ∧ Tb.RV w7 u u') := fun w7 hb => by
        have h := RDefine_any s (1, nn) w7 (HUw8.out.below hb) hs
        rw [← HR.out] at h
        exact h
      go_wp2_with fail
      skip
      go_region_held3 (fun w' => w'.cell? ⟨X, 0, none⟩ = some (.int .i64 2) ∧ w'.cell? ⟨X, 1, none⟩ = some (.string s) ∧ w'.cell? ⟨X, 2, none⟩ = some (.int .i64 nn)) (first | exact HMKw8.out _ ((Below.refl _ _).drew) | exact HMWw8.out _ _ (Tb.dr hbw9) hkw10 | exact HMKw8.out _ (Tb.dr hbw9))
        (first | (go_at_call 12; refine (value_any 2 nn s _).mono ?_; rintro e w9 ⟨rfl, hbw9⟩) | (go_at_call 35; refine (HAw8.out _ (Tb.dr hbw9)).mono ?_; rintro e w10 ⟨rfl, u', htw10, hkw10, hvw10⟩) | fail)
      all_goals
        have hb9' : Below w8.heap.size w8 w9 := Tb.dr hbw9
        have HU10 := Lib.hid htw10
        have HT10 := Lib.hid ((HTw8.out.below hb9').keep hkw10 HDT.out)
        have HK10 : Hid (Keep (Tb.DS lo hi b u) w w10) := Keep.trans (Keep.trans HK8.out ((Tb.Keep.of_below hb9').mono (fun _ _ h => h.elim))) (hkw10.mono (fun _ _ h => .inr h))
        have HV10 : Hid (Tb.RV w u u') := fun k hk => (hvw10 k hk).imp id (fun h => Nat.le_trans HK8.out.size (Nat.le_trans hb9'.size h))
        clear hbw9 hb9' htw10 hkw10 hvw10 HMKw8 HMWw8 HAw8 HTw8 HUw8 HK8 y0 y1 y2 HR
        go_wp2
        go_ret
        exact ⟨rfl, u', HT10.out, HU10.out, HK10.out, HV10.out⟩
  have hd2' : (d == 2) = false := by simpa using hd2
  have HE : Hid (Tb.doL d L s.data.toList nn = L) := by show _ = _; unfold Tb.doL; rw [if_neg hd1, if_neg hd2]
  rw [HE.out]
  clear HE hd1 hd2
  have hg1 := Get_any s w6 HTw6.out hs
  obtain ⟨⟨⟨g1, g2⟩, g3, g4⟩, hG⟩ : ∃ g, g = Tb.get L s.data.toList := ⟨_, rfl⟩
  rw [← hG] at hg1
  have HG := Lib.hid hG
  clear hG
  go_enter Try.func23, Try.ntmps23
  go_wp2_with fail
  clear hw6
  refine hg1.mono ?_
  rintro e wG ⟨rfl, hbG⟩
  have HTG := Lib.hid (HTw6.out.below hbG)
  have HUG := Lib.hid (HUw6.out.below hbG)
  have HKG : Hid (Keep (Tb.DS lo hi b u) w wG) := Keep.trans HK6.out ((Tb.Keep.of_below hbG).mono (fun _ _ h => h.elim))
  have x1' := (hbG.cell (p := ⟨X, 1, none⟩) hXw6).trans x1
  have hXG := Nat.lt_of_lt_of_le hXw6 hbG.size
  clear hg1 hbG HTw6 HUw6 HK6 x0 x1 x2
  obtain ⟨p0, p1⟩ := Tb.pair_new wG (.int .i64 g1) (.int .i64 g2)
  have hbA : Below wG.heap.size wG (wG.alloc (.cells #[.int .i64 g1, .int .i64 g2] 37)) := (Below.refl _ wG).alloc (Nat.le_refl _) _
  have hlA : wG.heap.size < (wG.alloc (.cells #[.int .i64 g1, .int .i64 g2] 37)).heap.size := by simp
  obtain ⟨wA, hwA⟩ : ∃ wA, wG.alloc (.cells #[.int .i64 g1, .int .i64 g2] 37) = wA := ⟨_, rfl⟩
  rw [hwA] at hbA p0 p1 hlA
  obtain ⟨G, hGs⟩ : ∃ G, wG.heap.size = G := ⟨_, rfl⟩
  rw [hGs] at p0 p1 hlA
  have HTA := Lib.hid (HTG.out.below hbA)
  have HUA := Lib.hid (HUG.out.below hbA)
  have HKA : Hid (Keep (Tb.DS lo hi b u) w wA) := Keep.trans HKG.out ((Tb.Keep.of_below hbA).mono (fun _ _ h => h.elim))
  have x1A := (hbA.cell (p := ⟨X, 1, none⟩) hXG).trans x1'
  have hXA := Nat.lt_of_lt_of_le hXG hbA.size
  have hg2 := RGet_any s wA HUA.out hs
  rw [← HG.out] at hg2
  clear hbA HTG HUG HKG x1'
  go_wp2_with fail
  clear hGs hwA
  refine hg2.mono ?_
  rintro e wH ⟨rfl, hbH⟩
  have HTH := Lib.hid (HTA.out.below hbH)
  have HUH := Lib.hid (HUA.out.below hbH)
  have HKH : Hid (Keep (Tb.DS lo hi b u) w wH) := Keep.trans HKA.out ((Tb.Keep.of_below hbH).mono (fun _ _ h => h.elim))
  have q0 := (hbH.cell (p := ⟨G, 0, none⟩) hlA).trans p0
  have q1 := (hbH.cell (p := ⟨G, 1, none⟩) hlA).trans p1
  have hlH := Nat.lt_of_lt_of_le hlA hbH.size
  have x1H := (hbH.cell (p := ⟨X, 1, none⟩) hXA).trans x1A
  have hXH := Nat.lt_of_lt_of_le hXA hbH.size
  clear hg2 hbH HTA HUA HKA p0 p1 x1A
  have hbZ : Below wH.heap.size wH (wH.alloc (.cells #[.int .i64 g1, .int .i64 g2] 37)) := (Below.refl _ wH).alloc (Nat.le_refl _) _
  obtain ⟨z0, z1⟩ := Tb.pair_new wH (.int .i64 g1) (.int .i64 g2)
  have hlZ : wH.heap.size < (wH.alloc (.cells #[.int .i64 g1, .int .i64 g2] 37)).heap.size := by simp
  obtain ⟨wZ, hwZ⟩ : ∃ wZ, wH.alloc (.cells #[.int .i64 g1, .int .i64 g2] 37) = wZ := ⟨_, rfl⟩
  rw [hwZ] at hbZ z0 z1 hlZ
  obtain ⟨H, hHs⟩ : ∃ H, wH.heap.size = H := ⟨_, rfl⟩
  have y0 := (hbZ.cell (p := ⟨G, 0, none⟩) hlH).trans q0
  have y1 := (hbZ.cell (p := ⟨G, 1, none⟩) hlH).trans q1
  have x1Z := (hbZ.cell (p := ⟨X, 1, none⟩) hXH).trans x1H
  have hGZ := Nat.lt_of_lt_of_le hlH hbZ.size
  have hXZ := Nat.lt_of_lt_of_le hXH hbZ.size
  have HKZ : Hid (Keep (Tb.DS lo hi b u) w wZ) := Keep.trans HKH.out ((Tb.Keep.of_below hbZ).mono (fun _ _ h => h.elim))
  have HTZ := Lib.hid (HTH.out.below hbZ)
  have HUZ := Lib.hid (HUH.out.below hbZ)
  rw [hHs] at z0 z1 hlZ
  clear hbZ q0 q1 HTH HUH HKH x1H
  have HK : Hid (∀ w', Below wZ.heap.size wZ w' → w'.cell? ⟨G, 0, none⟩ = some (.int .i64 g1) ∧ w'.cell? ⟨G, 1, none⟩ = some (.int .i64 g2) ∧ w'.cell? ⟨H, 0, none⟩ = some (.int .i64 g1) ∧ w'.cell? ⟨H, 1, none⟩ = some (.int .i64 g2) ∧ w'.cell? ⟨X, 1, none⟩ = some (.string s) ∧ Hid (Below wZ.heap.size wZ w')) := fun w' hb =>
    ⟨(hb.cell (p := ⟨G, 0, none⟩) hGZ).trans y0, (hb.cell (p := ⟨G, 1, none⟩) hGZ).trans y1, (hb.cell (p := ⟨H, 0, none⟩) hlZ).trans z0, (hb.cell (p := ⟨H, 1, none⟩) hlZ).trans z1, (hb.cell (p := ⟨X, 1, none⟩) hXZ).trans x1Z, hb⟩
  have HS1 : Hid (∀ w', Below wZ.heap.size wZ w' → Calls Try.prog 10 #[.pointer (some ⟨T, 0, none⟩), .string s] w' fun e w'' => e = .returned (.int .i64 (Tb.shard n s.data.toList : Nat)) ∧ Below wZ.heap.size wZ w'') := fun w' hb => by
    have ht := HTZ.out.below hb
    refine (Shard_any T n s w' ht.c0 hn1 ht.n16 (Nat.lt_of_lt_of_le ht.lt.2 ht.hh) hs).mono ?_
    rintro e w'' ⟨rfl, h2⟩
    exact ⟨rfl, hb.trans (h2.mono hb.size)⟩
  have HS2 : Hid (∀ w', Below wZ.heap.size wZ w' → Calls Try.prog 37 #[.pointer (some ⟨b, 0, none⟩), .string s] w' fun e w'' => e = .returned (.int .i64 (Tb.shard n s.data.toList : Nat)) ∧ w' = w'') := fun w' hb =>
    RShard_any s w' (HUZ.out.below hb) hn1 hs
  obtain ⟨sh, hsh⟩ : ∃ sh, sh = Tb.shard n s.data.toList := ⟨_, rfl⟩
  rw [← hsh] at HS1 HS2
  clear hsh
  go_wp2_with fail
  clear hHs hwZ
  go_region_held3 (fun w' => w'.cell? ⟨G, 0, none⟩ = some (.int .i64 g1) ∧ w'.cell? ⟨G, 1, none⟩ = some (.int .i64 g2) ∧ w'.cell? ⟨H, 0, none⟩ = some (.int .i64 g1) ∧ w'.cell? ⟨H, 1, none⟩ = some (.int .i64 g2) ∧ w'.cell? ⟨X, 1, none⟩ = some (.string s) ∧ Hid (Below wZ.heap.size wZ w'))
    (first | assumption | exact HK.out _ ((Below.refl _ _).drew) | exact HK.out _ hbS)
    (first | (go_at_call 10; refine (HS1.out _ (Tb.hl6 (by assumption))).mono ?_; rintro e wS ⟨rfl, hbS⟩) | (go_at_call 37; refine (HS2.out _ (Tb.hl6 (by assumption))).mono ?_; rintro e wR ⟨rfl, rfl⟩) | fail)
  all_goals
    have hbF := Tb.hl6 (by assumption)
    go_wp2
    go_ret
    exact ⟨rfl, u, HTZ.out.below hbF, HUZ.out.below hbF, Keep.trans HKZ.out ((Tb.Keep.of_below hbF).mono (fun _ _ h => h.elim)), fun k hk => .inl hk⟩
end Go.Proofs.Ytihfflinkmceaaa
