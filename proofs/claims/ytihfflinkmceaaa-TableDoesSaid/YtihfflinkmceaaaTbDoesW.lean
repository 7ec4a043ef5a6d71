/-
  TableDoes: whatever is got, assigned and defined: each answer, and all that was defined, are the document's.
-/
import Derived.Test.YtihfflinkmceaaaTbDoes
namespace Go.Proofs.Ytihfflinkmceaaa
open Go.RowKit Go.Maps Go.Sort
namespace Tb
/-- between two acts: both tables, apart from each other and from what came in -/
structure St (w wr : World) (n b T lo hi : Nat) (B : Nat → Nat) (u : Value) (L : List (Nm × V)) : Prop where
  tab : Tab wr T n lo hi B L
  rt : RTab wr b n u L
  db : ¬ Within lo hi b
  du : ∀ k, u.ownBlock = some k → ¬ Within lo hi k
  good : Good L
  bel : Below w.heap.size w wr
  glo : w.heap.size ≤ lo
  gb : w.heap.size ≤ b
  gu : ∀ k, u.ownBlock = some k → w.heap.size ≤ k
theorem St.below {w wr w' : World} {n b T lo hi : Nat} {B : Nat → Nat} {u : Value} {L : List (Nm × V)} (h : St w wr n b T lo hi B u L) (hb : Below wr.heap.size wr w') : St w w' n b T lo hi B u L :=
  ⟨h.tab.below hb, h.rt.below hb, h.db, h.du, h.good, h.bel.trans (hb.mono h.bel.size), h.glo, h.gb, h.gu⟩
theorem St.act {w wr w' : World} {n b T lo hi : Nat} {B : Nat → Nat} {u u' : Value} {L L' : List (Nm × V)} (h : St w wr n b T lo hi B u L) (ht : Tab w' T n lo hi B L') (hu : RTab w' b n u' L') (hk : Keep (DS lo hi b u) wr w') (hv : RV wr u u') (hG : Good L') : St w w' n b T lo hi B u' L' := by
  have hh := h.tab.hh
  refine ⟨ht, hu, h.db, fun k hk' => ?_, hG, h.bel.trans (hk.to_below (fun k hS => ?_) h.bel.size), h.glo, h.gb, fun k hk' => ?_⟩
  · rcases hv k hk' with h1 | h1
    · exact h.du k h1
    · exact fun hc => by have := hc.2; omega
  · rcases hS with hS | rfl | hS
    · exact Nat.le_trans h.glo hS.1
    · exact h.gb
    · exact h.gu k hS
  · rcases hv k hk' with h1 | h1
    · exact h.gu k h1
    · exact Nat.le_trans h.bel.size h1
theorem St.not_new {w wr : World} {n b T lo hi : Nat} {B : Nat → Nat} {u : Value} {L : List (Nm × V)} (h : St w wr n b T lo hi B u L) : ¬ DS lo hi b u wr.heap.size := by
  have hh := h.tab.hh
  rintro (hS | hS | hS)
  · have := hS.2; omega
  · have : b < wr.heap.size := block_lt_of_cell h.rt.c0
    omega
  · have := own_lt h.rt.row _ hS
    omega
/-- the clone takes the table's place; what is done with the old one meanwhile -/
theorem St.clone {w wr wc w' : World} {n b T lo hi : Nat} {B B' : Nat → Nat} {u : Value} {L : List (Nm × V)} (h : St w wr n b T lo hi B u L) (hb : Below wr.heap.size wr wc) (ht : Tab wc wr.heap.size n wr.heap.size wc.heap.size B' L) (hk : Keep (Within lo hi) wc w') : St w w' n b wr.heap.size wr.heap.size wc.heap.size B' u L := by
  have hh := h.tab.hh
  have hbl : b < wr.heap.size := block_lt_of_cell h.rt.c0
  refine ⟨ht.keep hk (fun k h1 _ h2 => by have := h2.2; omega), (h.rt.below hb).keep hk h.db h.du, fun hc => by have := hc.1; omega, fun k hk' hc => ?_, h.good, ?_, h.bel.size, h.gb, h.gu⟩
  · have := own_lt h.rt.row k hk'
    have := hc.1
    omega
  · exact (h.bel.trans (hb.mono h.bel.size)).trans (hk.to_below (fun k hS => Nat.le_trans h.glo hS.1) (Nat.le_trans h.bel.size hb.size))
theorem held_mono {P : Program} {md : Region.Mode} {ops : Array Oper} {Q : Exit → Act → World → Prop} {S S' : World → Prop} (hS : ∀ w, S' w → S w) : ∀ (fuel : Nat) (listed : Array Bool) (a : Act) (w : World), wpAnyH P md ops Q S' fuel listed a w → wpAnyH P md ops Q S fuel listed a w
  | 0, _, _, _, h => h
  | fuel + 1, _, _, _, h => ⟨h.1, fun i hi => wpOp_mono (fun a' w' h' => ⟨hS w' h'.1, held_mono hS fuel _ a' w' h'.2⟩) (h.2 i hi)⟩
theorem hl2 {A D : Prop} (h : A ∧ Hid D) : D := h.2.out
theorem newBox {w w' : World} {v : Value} {t : TypeId} (h : w' = w.alloc (.cells #[v] t)) : w'.cell? ⟨w.heap.size, 0, none⟩ = some v := by
  rw [h]; unfold World.cell?; rw [World.alloc_heap_new]; rfl
theorem GRow.take {w : World} {a : Option Addr} {c : Nat} {L : List (Nm × V)} (h : GRow w (.slice a L.length c) L) (m : Nat) (hm : m ≤ L.length) : GRow w (.slice a m c) (L.take m) := by
  rcases h with ⟨h1, rfl⟩ | ⟨g, cap, h1, h2, h3⟩
  · cases h1
    obtain rfl : m = 0 := by simpa using hm
    exact .inl ⟨rfl, rfl⟩
  · cases h1
    refine .inr ⟨g, c, by rw [List.length_take]; congr 1; omega, h2, fun j u hj => h3 j u ?_⟩
    rw [flatG_take] at hj
    obtain ⟨hj1, _⟩ := List.getElem?_eq_some_iff.1 hj
    rw [List.length_take] at hj1
    rw [List.getElem?_take_of_lt (by omega)] at hj
    exact hj
end Tb
set_option maxRecDepth 100000 in
set_option maxHeartbeats 8000000 in
theorem TableDoes_walk (sh : Int) (l : List Tb.O) (v : Value) (w : World) (hv : Tb.Row w v l) :
    Calls Try.prog 6 #[.int .i64 sh, v] w fun e w' => e = .returned (.bool true) ∧ Below w.heap.size w w' := by
  obtain ⟨a, c, rfl, hc, hcs⟩ := hv
  have hrow : Tb.Row w (.slice a l.length c) l := ⟨a, c, rfl, hc, hcs⟩
  have hfew := few_any l a c w hrow
  obtain ⟨m, hm⟩ : ∃ m, m = min l.length 80 := ⟨_, rfl⟩
  have hrow' := hrow.take m (by omega)
  rw [← hm] at hfew
  have hm8 : m ≤ 80 := by omega
  have HROW := Lib.hid hrow'
  have hlen' : (l.take m).length = m := by rw [List.length_take]; omega
  clear hm
  by_cases hbad : sh < 1 ∨ 16 < sh
  · have HBAD := Lib.hid hbad
    clear hbad
    cases hF : Tb.fewL l
    all_goals
      rw [hF] at hfew
      go_enter Try.func6, Try.ntmps6
      go_wp2_with fail
      refine hfew.mono ?_
      rintro e w1 ⟨rfl, hb1⟩
      unfold Tb.fewV
      clear hfew hrow hrow' hcs
      have HB1 := Lib.hid hb1
      clear hb1
      go_wp2_with fail
      refine (New_bad sh HBAD.out w1).mono ?_
      rintro e w2 ⟨rfl, rfl⟩
      go_wp2_with fail
      refine (RNew_bad sh HBAD.out w1).mono ?_
      rintro e w2 ⟨rfl, rfl⟩
      go_wp2_with fail
      refine (awake_any w1).mono ?_
      rintro e w4 ⟨rfl, hb4⟩
      have HB4 := Lib.hid (HB1.out.trans (hb4.mono HB1.out.size))
      clear hb4
      go_wp2
      go_ret
      exact ⟨rfl, HB4.out⟩
  obtain ⟨n, hn⟩ : ∃ n : Nat, sh = (n : Int) := ⟨sh.toNat, by omega⟩
  have hn1 : 1 ≤ n := by omega
  have hn16 : n ≤ 16 := by omega
  clear hbad
  subst hn
  cases hF : Tb.fewL l
  · rw [hF] at hfew
    go_enter Try.func6, Try.ntmps6
    go_wp2_with fail
    refine hfew.mono ?_
    rintro e w1 ⟨rfl, hb1⟩
    unfold Tb.fewV
    clear hfew hrow hrow' hcs
    have HB1 := Lib.hid hb1
    clear hb1
    go_wp2_with fail
    refine (New_any n hn1 hn16 w1).mono ?_
    rintro e w2 ⟨rfl, hb2, _⟩
    have HB2 := Lib.hid (HB1.out.trans (hb2.mono HB1.out.size))
    clear hb2
    go_wp2_with fail
    refine (RNew_any n hn1 hn16 w2).mono ?_
    rintro e w3 ⟨rfl, hb3, _, _⟩
    have HB3 := Lib.hid (HB2.out.trans (hb3.mono HB2.out.size))
    clear hb3
    go_wp2_with fail
    refine (awake_any w3).mono ?_
    rintro e w4 ⟨rfl, hb4⟩
    have HB4 := Lib.hid (HB3.out.trans (hb4.mono HB3.out.size))
    clear hb4
    go_wp2
    go_ret
    exact ⟨rfl, HB4.out⟩
  rw [hF] at hfew
  go_enter Try.func6, Try.ntmps6
  go_wp2_with fail
  refine hfew.mono ?_
  rintro e w1 ⟨rfl, hb1⟩
  unfold Tb.fewV
  clear hfew hrow hrow' hcs
  have HB1 := Lib.hid hb1
  clear hb1
  go_wp2_with fail
  refine (New_any n hn1 hn16 w1).mono ?_
  rintro e w2 ⟨rfl, hb2, ht2⟩
  have HB2 := Lib.hid (HB1.out.trans (hb2.mono HB1.out.size))
  have HT2 := Lib.hid ht2
  have hs2 := hb2.size
  clear hb2 ht2
  go_wp2_with fail
  refine (RNew_any n hn1 hn16 w2).mono ?_
  rintro e w3 ⟨rfl, hb3, hl3, hr3⟩
  have HB3 := Lib.hid (HB2.out.trans (hb3.mono HB2.out.size))
  have HST3 : Hid (Tb.St w w3 n w2.heap.size w1.heap.size w1.heap.size w2.heap.size (fun i => w1.heap.size + 1 + i) (.slice none 0 0) []) :=
    ⟨HT2.out.below hb3, hr3, (fun h => by have := h.2; omega), (fun k hk => by cases hk), (fun s h => by cases h), HB3.out, HB1.out.size, HB2.out.size, (fun k hk => by cases hk)⟩
  clear hb3 HT2 hr3
  go_wp2_with fail
  refine (awake_any w3).mono ?_
  rintro e w4 ⟨rfl, hb4⟩
  have HST4 := Lib.hid (HST3.out.below hb4)
  obtain ⟨T0, hT⟩ : ∃ T0, w1.heap.size = T0 := ⟨_, rfl⟩
  obtain ⟨b, hb⟩ : ∃ b, w2.heap.size = b := ⟨_, rfl⟩
  obtain ⟨B0, hB⟩ : ∃ B0, (fun i => w1.heap.size + 1 + i) = B0 := ⟨_, rfl⟩
  rw [hB, hT, hb] at HST4
  rw [hT, hb]
  clear hb4 HST3 HB1 HB2 HB3 hT hb hB hs2 hl3
  go_wp2_with fail
  obtain ⟨l', hl'⟩ : ∃ l', l' = l.take m := ⟨_, rfl⟩
  rw [← hl'] at HROW hlen'
  have HF : Hid (∀ o ∈ l', o.s.size ≤ 1000) := by
    intro o ho
    have h1 : (l.take 80).all (fun o => decide (o.s.size ≤ 1000)) = true := hF
    rw [hl'] at ho
    have h2 := List.all_eq_true.1 h1 o ((List.take_subset_take_left l hm8) ho)
    simpa using h2
  clear hl' hF
  go_loopw [7, 51] (fun vt vi wr => ∃ (k T lo hi : Nat) (B : Nat → Nat) (u : Value) (L : List (Tb.Nm × Tb.V)), vi = .int .i64 k ∧ k ≤ m ∧ vt = .pointer (some ⟨T, 0, none⟩) ∧ Hid (Tb.St w wr n b T lo hi B u L)) (fun _ vi _ => m - (intOf vi).toNat)
  case atStart => exact ⟨0, T0, _, _, B0, _, [], rfl, by omega, rfl, HST4⟩
  case round =>
    clear HST4
    obtain ⟨k, T, lo, hi, B, u, L, rfl, hk, rfl, HST⟩ := hrel
    by_cases hlt : k < m
    case neg =>
      have hge : (m : Int) ≤ (k : Int) := by omega
      obtain rfl : k = m := by omega
      obtain ⟨au, cu, rfl⟩ := Tb.row_form HST.out.rt.row
      have c1 := HST.out.rt.c1
      have hbl : b < wr.heap.size := block_lt_of_cell HST.out.rt.c0
      have hlen := HST.out.tab.len
      have hcap : L.length ≤ cu := by
        rcases HST.out.rt.row.2 with ⟨h0, h1⟩ | ⟨g, cap, cur, e1, _, _, e4, _⟩
        · injection h0 with _ e2 _; omega
        · cases e1; exact e4
      obtain ⟨m2, hm2⟩ : ∃ m2, m2 = min 2 L.length := ⟨_, rfl⟩
      have hm2l : m2 ≤ L.length := by omega
      have hmi : min (2 : Int) (L.length : Int) = (m2 : Int) := by omega
      have hmi0 : (0 : Int) ≤ (m2 : Int) := by omega
      have hmc : (m2 : Int) ≤ (cu : Int) := by omega
      have ht2 : L.take 2 = L.take m2 := by
        by_cases h2 : 2 ≤ L.length
        · rw [show m2 = 2 by omega]
        · rw [List.take_of_length_le (by omega), show m2 = L.length by omega, List.take_length]
      have HK : Hid (∀ w', Below wr.heap.size wr w' → w'.cell? ⟨b, 1, none⟩ = some (.slice au L.length cu) ∧ Hid (Below wr.heap.size wr w')) := fun w' hb => ⟨(hb.cell (p := ⟨b, 1, none⟩) hbl).trans c1, hb⟩
      have hshort := HST.out.good.short HST.out.tab.rise
      have HT1 : Hid (∀ w' Bs, Below wr.heap.size wr w' → w'.cell? ⟨Bs, 0, none⟩ = some (.pointer (some ⟨T, 0, none⟩)) → Calls Try.prog 18 #[.func (.func 29) #[] #[.pointer (some ⟨Bs, 0, none⟩)], .int .i64 1048576] w' fun e W' => ∃ v, e = .returned v ∧ Tb.GRow W' v L ∧ Below wr.heap.size wr W') := fun w' Bs hb hc => by
        refine (told_tab Bs 1048576 (by omega) w' (HST.out.tab.below hb) hc hshort).mono ?_
        rintro e W' ⟨v, rfl, hg, hb2⟩
        rw [List.take_of_length_le (by omega)] at hg
        exact ⟨v, rfl, hg, hb.trans (hb2.mono hb.size)⟩
      have HT2 : Hid (∀ w' Bs, Below wr.heap.size wr w' → w'.cell? ⟨Bs, 0, none⟩ = some (.pointer (some ⟨T, 0, none⟩)) → Calls Try.prog 18 #[.func (.func 29) #[] #[.pointer (some ⟨Bs, 0, none⟩)], .int .i64 2] w' fun e W' => ∃ v, e = .returned v ∧ Tb.GRow W' v (L.take m2) ∧ Below wr.heap.size wr W') := fun w' Bs hb hc => by
        refine (told_tab Bs 2 (by omega) w' (HST.out.tab.below hb) hc hshort).mono ?_
        rintro e W' ⟨v, rfl, hg, hb2⟩
        rw [ht2] at hg
        exact ⟨v, rfl, hg, hb.trans (hb2.mono hb.size)⟩
      have HE1 : Hid (∀ w' v, Below wr.heap.size wr w' → Tb.GRow w' v L → Calls Try.prog 17 #[v, .slice au L.length cu] w' fun e W' => e = .returned (.bool true) ∧ Below wr.heap.size wr W') := fun w' v hb hg => by
        refine (Equal_any w' v _ L hg (HST.out.rt.grow.below hb) hlen).mono ?_
        rintro e W' ⟨rfl, hb2⟩
        exact ⟨rfl, hb.trans (hb2.mono hb.size)⟩
      have HE2 : Hid (∀ w' v, Below wr.heap.size wr w' → Tb.GRow w' v (L.take m2) → Calls Try.prog 17 #[v, .slice au m2 cu] w' fun e W' => e = .returned (.bool true) ∧ Below wr.heap.size wr W') := fun w' v hb hg => by
        refine (Equal_any w' v _ (L.take m2) hg ((HST.out.rt.grow.take m2 hm2l).below hb) (by rw [List.length_take]; omega)).mono ?_
        rintro e W' ⟨rfl, hb2⟩
        exact ⟨rfl, hb.trans (hb2.mono hb.size)⟩
      clear hshort ht2 hm2 c1
      go_wp2_with fail
      go_region_held3 (fun w' => w'.cell? ⟨b, 1, none⟩ = some (.slice au L.length cu) ∧ Hid (Below wr.heap.size wr w'))
        (first | assumption | exact HK.out _ ((Below.refl _ _).drew) | exact HK.out _ hbA | exact HK.out _ hbT | exact HK.out _ hbE)
        (first
          | (go_at_call 19; refine (All_any (some ⟨T, 0, none⟩) _).mono ?_; rintro e wA ⟨rfl, hwA⟩; have hbA : Below wr.heap.size wr wA := (by rw [hwA]; exact Tb.al (Tb.hl2 (by assumption)) (Nat.le_refl _) _); have hcA := Tb.newBox hwA; (try rw [heap_drew] at hcA); clear hwA)
          | (go_at_call 18; (with_reducible refine (HT1.out _ _ (Tb.hl2 (by assumption)) hcA).mono ?_); rintro e wT ⟨vT, rfl, hgT, hbT⟩; clear hbA hcA)
          | (go_at_call 18; (with_reducible refine (HT2.out _ _ (Tb.hl2 (by assumption)) hcA).mono ?_); rintro e wT ⟨vT, rfl, hgT, hbT⟩; clear hbA hcA)
          | (go_at_call 17; (with_reducible refine (HE1.out _ _ (Tb.hl2 (by assumption)) hgT).mono ?_); rintro e wE ⟨rfl, hbE⟩; clear hbT hgT)
          | (go_at_call 17; (with_reducible refine (HE2.out _ _ (Tb.hl2 (by assumption)) hgT).mono ?_); rintro e wE ⟨rfl, hbE⟩; clear hbT hgT)
          | fail)
      all_goals
        go_wp2
        go_ret
        exact ⟨rfl, HST.out.bel.trans (hbE.mono HST.out.bel.size)⟩
    have hlti : (k : Int) < (m : Int) := by omega
    have hll : k < l'.length := by omega
    obtain ⟨t, ht⟩ : ∃ t, l'[k] = t := ⟨_, rfl⟩
    have htz : t.s.size ≤ 1000 := HF.out t (by rw [← ht]; exact List.getElem_mem hll)
    obtain ⟨g, o, rfl, r0, r1, r2⟩ := Tb.Row.at_ (HROW.out.below HST.out.bel) hlen' k hll
    rw [ht] at r0 r1 r2
    obtain ⟨d, s, nn⟩ := t
    simp only at r0 r1 r2 htz
    clear ht
    obtain ⟨X, hX⟩ : ∃ X, wr.heap.size = X := ⟨_, rfl⟩
    have hc3 := Tb.three_new wr (.int .i64 d) (.string s) (.int .i64 nn)
    have hb6 : Below wr.heap.size wr (wr.alloc (.cells #[.int .i64 d, .string s, .int .i64 nn] 33)) := (Below.refl _ wr).alloc (Nat.le_refl _) _
    have hXw6 : X < (wr.alloc (.cells #[.int .i64 d, .string s, .int .i64 nn] 33)).heap.size := by rw [← hX]; simp
    obtain ⟨w6, hw6⟩ : ∃ w6, wr.alloc (.cells #[.int .i64 d, .string s, .int .i64 nn] 33) = w6 := ⟨_, rfl⟩
    rw [hw6] at hc3 hb6 hXw6
    have HNX := Lib.hid HST.out.not_new
    have HLX := Lib.hid (Nat.le_trans HST.out.tab.hh (Nat.le_refl _))
    rw [hX] at hc3 HNX HLX
    obtain ⟨x0, x1, x2⟩ := hc3
    have HST6 := Lib.hid (HST.out.below hb6)
    clear HST hb6
    have HMK : Hid (∀ w', Below w6.heap.size w6 w' → w'.cell? ⟨X, 0, none⟩ = some (.int .i64 d) ∧ w'.cell? ⟨X, 1, none⟩ = some (.string s) ∧ w'.cell? ⟨X, 2, none⟩ = some (.int .i64 nn)) := fun w' hb => ⟨(hb.cell (p := ⟨X, 0, none⟩) hXw6).trans x0, (hb.cell (p := ⟨X, 1, none⟩) hXw6).trans x1, (hb.cell (p := ⟨X, 2, none⟩) hXw6).trans x2⟩
    have HMD : Hid (∀ w', Keep (Tb.DS lo hi b u) w6.drew w' → w'.cell? ⟨X, 0, none⟩ = some (.int .i64 d) ∧ w'.cell? ⟨X, 1, none⟩ = some (.string s) ∧ w'.cell? ⟨X, 2, none⟩ = some (.int .i64 nn)) := fun w' hk => by
      obtain ⟨h0, h1, h2⟩ := HMK.out w6.drew ((Below.refl _ _).drew)
      exact ⟨(hk.cell 0 hXw6 HNX.out).trans h0, (hk.cell 1 hXw6 HNX.out).trans h1, (hk.cell 2 hXw6 HNX.out).trans h2⟩
    have HDO : Hid (Calls Try.prog 23 #[.pointer (some ⟨T, 0, none⟩), .pointer (some ⟨b, 0, none⟩), .agg #[.int .i64 d, .string s, .int .i64 nn]] w6.drew fun e w' => e = .returned (.bool true) ∧ Keep (Tb.DS lo hi b u) w6.drew w' ∧ ∃ (u' : Value) (L' : List (Tb.Nm × Tb.V)), Tb.St w w' n b T lo hi B u' L') := by
      have h6 := HST6.out.below ((Below.refl _ w6).drew)
      refine (does_any d nn s w6.drew h6.tab h6.rt h6.db h6.du htz).mono ?_
      rintro e w' ⟨rfl, u', h1, h2, h3, h4⟩
      exact ⟨rfl, h3, u', _, h6.act h1 h2 h3 h4 (h6.good.doL d _ nn)⟩
    go_wp2_with fail
    clear hw6
    -- BY HAND
    refine wp_region_held_drew (S := fun w' => w'.cell? ⟨X, 0, none⟩ = some (.int .i64 d) ∧ w'.cell? ⟨X, 1, none⟩ = some (.string s) ∧ w'.cell? ⟨X, 2, none⟩ = some (.int .i64 nn)) (by kernel_rfl) (HMK.out _ ((Below.refl _ _).drew)) (fun hHeld => ?_)
    refine wpAnyH_take (i := 0) (oi := ⟨_, _, _, _, _, _⟩) (v := ?_) rfl (by kernel_rfl) (by kernel_rfl) (by kernel_rfl) (fun _ _ _ h => h) (Or.inl ⟨by rfl, ?_⟩) (by assumption) ?_
    rotate_left
    · intro w hSw
      try dsimp only at hSw
      go_simp
      try with_reducible rfl
    simp only [Act.put, List.setIfInBounds_toArray, List.set_cons_zero, List.set_cons_succ]
    refine wpAnyH_take (i := 1) (oi := ⟨_, _, _, _, _, _⟩) (v := ?_) rfl (by kernel_rfl) (by kernel_rfl) (by kernel_rfl) (fun _ _ _ h => h) (Or.inl ⟨by rfl, ?_⟩) (by assumption) ?_
    rotate_left
    · intro w hSw
      try dsimp only at hSw
      go_simp
      try with_reducible rfl
    simp only [Act.put, List.setIfInBounds_toArray, List.set_cons_zero, List.set_cons_succ]
    refine wpAnyH_take (i := 2) (oi := ⟨_, _, _, _, _, _⟩) (v := ?_) rfl (by kernel_rfl) (by kernel_rfl) (by kernel_rfl) (fun _ _ _ h => h) (Or.inl ⟨by rfl, ?_⟩) (by assumption) ?_
    rotate_left
    · intro w hSw
      try dsimp only at hSw
      go_simp
      try with_reducible rfl
    simp only [Act.put, List.setIfInBounds_toArray, List.set_cons_zero, List.set_cons_succ]
    refine wpAnyH_ready (rs := [3]) (by kernel_rfl) (by simp) ?_
    refine AllReadyH.cons (o := ⟨_, _, _, _, _, _⟩) rfl (fun K hK => ?_) AllReadyH.nil
    go_simp
    refine HDO.out.mono ?_
    rintro e w8 ⟨rfl, hk8, u', L', hS8⟩
    have HS8 := Lib.hid hS8
    clear hS8
    obtain ⟨a8, c8, rfl⟩ := Tb.row_form HS8.out.rt.row
    dsimp only
    refine hK.out _ _ ?_ (fun hHeld => ?_)
    · exact HMD.out _ hk8
    clear hK K
    try simp only [Act.put, List.setIfInBounds_toArray, List.set_cons_zero, List.set_cons_succ]
    refine Tb.held_mono (S' := fun w' => (w'.cell? ⟨X, 0, none⟩ = some (.int .i64 d) ∧ w'.cell? ⟨X, 1, none⟩ = some (.string s) ∧ w'.cell? ⟨X, 2, none⟩ = some (.int .i64 nn)) ∧ w'.cell? ⟨b, 0, none⟩ = some (.int .i64 (n : Int)) ∧ w'.cell? ⟨b, 1, none⟩ = some (.slice a8 L'.length c8)) (fun _ h => h.1) _ _ _ _ ?_
    have hHeld2 : (fun w' => (w'.cell? ⟨X, 0, none⟩ = some (.int .i64 d) ∧ w'.cell? ⟨X, 1, none⟩ = some (.string s) ∧ w'.cell? ⟨X, 2, none⟩ = some (.int .i64 nn)) ∧ w'.cell? ⟨b, 0, none⟩ = some (.int .i64 (n : Int)) ∧ w'.cell? ⟨b, 1, none⟩ = some (.slice a8 L'.length c8)) w8 := ⟨hHeld, HS8.out.rt.c0, HS8.out.rt.c1⟩
    clear hHeld
    refine wpAnyH_take (i := 4) (oi := ⟨_, _, _, _, _, _⟩) (v := ?_) rfl (by kernel_rfl) (by kernel_rfl) (by kernel_rfl) (fun _ _ _ h => h) (Or.inl ⟨by rfl, ?_⟩) (by assumption) ?_
    rotate_left
    · intro w hSw
      try dsimp only at hSw
      go_simp
      try with_reducible rfl
    simp only [Act.put, List.setIfInBounds_toArray, List.set_cons_zero, List.set_cons_succ]
    refine wpAnyH_take (i := 5) (oi := ⟨_, _, _, _, _, _⟩) (v := ?_) rfl (by kernel_rfl) (by kernel_rfl) (by kernel_rfl) (fun _ _ _ h => h) (Or.inl ⟨by rfl, ?_⟩) (by assumption) ?_
    rotate_left
    · intro w hSw
      try dsimp only at hSw
      go_simp
      try with_reducible rfl
    simp only [Act.put, List.setIfInBounds_toArray, List.set_cons_zero, List.set_cons_succ]
    refine wpAnyH_take (i := 6) (oi := ⟨_, _, _, _, _, _⟩) (v := ?_) rfl (by kernel_rfl) (by kernel_rfl) (by kernel_rfl) (fun _ _ _ h => h) (Or.inl ⟨by rfl, ?_⟩) (by assumption) ?_
    rotate_left
    · intro w hSw
      try dsimp only at hSw
      go_simp
      try with_reducible rfl
    simp only [Act.put, List.setIfInBounds_toArray, List.set_cons_zero, List.set_cons_succ]
    refine wpAnyH_take (i := 8) (oi := ⟨_, _, _, _, _, _⟩) (v := ?_) rfl (by kernel_rfl) (by kernel_rfl) (by kernel_rfl) (fun _ _ _ h => h) (Or.inl ⟨by rfl, ?_⟩) (by assumption) ?_
    rotate_left
    · intro w hSw
      try dsimp only at hSw
      go_simp
      try with_reducible rfl
    simp only [Act.put, List.setIfInBounds_toArray, List.set_cons_zero, List.set_cons_succ]
    refine wpAnyH_take (i := 9) (oi := ⟨_, _, _, _, _, _⟩) (v := ?_) rfl (by kernel_rfl) (by kernel_rfl) (by kernel_rfl) (fun _ _ _ h => h) (Or.inl ⟨by rfl, ?_⟩) (by assumption) ?_
    rotate_left
    · intro w hSw
      try dsimp only at hSw
      go_simp
      try with_reducible rfl
    simp only [Act.put, List.setIfInBounds_toArray, List.set_cons_zero, List.set_cons_succ]
    refine wpAnyH_take (i := 10) (oi := ⟨_, _, _, _, _, _⟩) (v := ?_) rfl (by kernel_rfl) (by kernel_rfl) (by kernel_rfl) (fun _ _ _ h => h) (Or.inl ⟨by rfl, ?_⟩) (by assumption) ?_
    rotate_left
    · intro w hSw
      try dsimp only at hSw
      go_simp
      try with_reducible rfl
    simp only [Act.put, List.setIfInBounds_toArray, List.set_cons_zero, List.set_cons_succ]
    refine wpAnyH_take (i := 11) (oi := ⟨_, _, _, _, _, _⟩) (v := ?_) rfl (by kernel_rfl) (by kernel_rfl) (by kernel_rfl) (fun _ _ _ h => h) (Or.inl ⟨by rfl, ?_⟩) (by assumption) ?_
    rotate_left
    · intro w hSw
      try dsimp only at hSw
      go_simp
      try with_reducible rfl
    simp only [Act.put, List.setIfInBounds_toArray, List.set_cons_zero, List.set_cons_succ]
    refine wpAnyH_take (i := 12) (oi := ⟨_, _, _, _, _, _⟩) (v := ?_) rfl (by kernel_rfl) (by kernel_rfl) (by kernel_rfl) (fun _ _ _ h => h) (Or.inl ⟨by rfl, ?_⟩) (by assumption) ?_
    rotate_left
    · intro w hSw
      try dsimp only at hSw
      go_simp
      try with_reducible rfl
    simp only [Act.put, List.setIfInBounds_toArray, List.set_cons_zero, List.set_cons_succ]
    refine wpAnyH_ready (rs := [7]) (by kernel_rfl) (by simp) ?_
    refine AllReadyH.cons (o := ⟨_, _, _, _, _, _⟩) rfl (fun K hK => ?_) AllReadyH.nil
    go_simp
    refine (Len_any _ HS8.out.tab).mono ?_
    rintro e w9 ⟨rfl, rfl⟩
    dsimp only
    refine hK.out _ _ ?_ (fun hHeld => ?_)
    · exact hHeld2
    clear hK K
    try simp only [Act.put, List.setIfInBounds_toArray, List.set_cons_zero, List.set_cons_succ]
    refine wpAnyH_take (i := 13) (oi := ⟨_, _, _, _, _, _⟩) (v := ?_) rfl (by kernel_rfl) (by kernel_rfl) (by kernel_rfl) (fun _ _ _ h => h) (Or.inl ⟨by rfl, ?_⟩) (by assumption) ?_
    rotate_left
    · intro w hSw
      try dsimp only at hSw
      go_simp
      try with_reducible rfl
    simp only [Act.put, List.setIfInBounds_toArray, List.set_cons_zero, List.set_cons_succ]
    refine wpAnyH_take (i := 14) (oi := ⟨_, _, _, _, _, _⟩) (v := ?_) rfl (by kernel_rfl) (by kernel_rfl) (by kernel_rfl) (fun _ _ _ h => h) (Or.inl ⟨by rfl, ?_⟩) (by assumption) ?_
    rotate_left
    · intro w hSw
      try dsimp only at hSw
      go_simp
      try with_reducible rfl
    simp only [Act.put, List.setIfInBounds_toArray, List.set_cons_zero, List.set_cons_succ]
    refine wpAnyH_take (i := 15) (oi := ⟨_, _, _, _, _, _⟩) (v := ?_) rfl (by kernel_rfl) (by kernel_rfl) (by kernel_rfl) (fun _ _ _ h => h) (Or.inl ⟨by rfl, ?_⟩) (by assumption) ?_
    rotate_left
    · intro w hSw
      try dsimp only at hSw
      go_simp
      try with_reducible rfl
    simp only [Act.put, List.setIfInBounds_toArray, List.set_cons_zero, List.set_cons_succ]
    refine wpAnyH_take (i := 16) (oi := ⟨_, _, _, _, _, _⟩) (v := ?_) rfl (by kernel_rfl) (by kernel_rfl) (by kernel_rfl) (fun _ _ _ h => h) (Or.inl ⟨by rfl, ?_⟩) (by assumption) ?_
    rotate_left
    · intro w hSw
      try dsimp only at hSw
      go_simp
      try with_reducible rfl
    simp only [Act.put, List.setIfInBounds_toArray, List.set_cons_zero, List.set_cons_succ]
    refine wpAnyH_take (i := 18) (oi := ⟨_, _, _, _, _, _⟩) (v := ?_) rfl (by kernel_rfl) (by kernel_rfl) (by kernel_rfl) (fun _ _ _ h => h) (Or.inl ⟨by rfl, ?_⟩) (by assumption) ?_
    rotate_left
    · intro w hSw
      try dsimp only at hSw
      go_simp
      try with_reducible rfl
    simp only [Act.put, List.setIfInBounds_toArray, List.set_cons_zero, List.set_cons_succ]
    refine wpAnyH_take (i := 19) (oi := ⟨_, _, _, _, _, _⟩) (v := ?_) rfl (by kernel_rfl) (by kernel_rfl) (by kernel_rfl) (fun _ _ _ h => h) (Or.inl ⟨by rfl, ?_⟩) (by assumption) ?_
    rotate_left
    · intro w hSw
      try dsimp only at hSw
      go_simp
      try with_reducible rfl
    simp only [Act.put, List.setIfInBounds_toArray, List.set_cons_zero, List.set_cons_succ]
    refine wpAnyH_take (i := 20) (oi := ⟨_, _, _, _, _, _⟩) (v := ?_) rfl (by kernel_rfl) (by kernel_rfl) (by kernel_rfl) (fun _ _ _ h => h) (Or.inl ⟨by rfl, ?_⟩) (by assumption) ?_
    rotate_left
    · intro w hSw
      try dsimp only at hSw
      go_simp
      try with_reducible rfl
    simp only [Act.put, List.setIfInBounds_toArray, List.set_cons_zero, List.set_cons_succ]
    refine wpAnyH_take (i := 21) (oi := ⟨_, _, _, _, _, _⟩) (v := ?_) rfl (by kernel_rfl) (by kernel_rfl) (by kernel_rfl) (fun _ _ _ h => h) (Or.inl ⟨by rfl, ?_⟩) (by assumption) ?_
    rotate_left
    · intro w hSw
      try dsimp only at hSw
      go_simp
      try with_reducible rfl
    simp only [Act.put, List.setIfInBounds_toArray, List.set_cons_zero, List.set_cons_succ]
    refine wpAnyH_ready (rs := [17]) (by kernel_rfl) (by simp) ?_
    refine AllReadyH.cons (o := ⟨_, _, _, _, _, _⟩) rfl (fun K hK => ?_) AllReadyH.nil
    go_simp
    refine (Shards_any _ HS8.out.tab).mono ?_
    rintro e w9 ⟨rfl, rfl⟩
    dsimp only
    refine hK.out _ _ ?_ (fun hHeld => ?_)
    · exact hHeld2
    clear hK K
    try simp only [Act.put, List.setIfInBounds_toArray, List.set_cons_zero, List.set_cons_succ]
    refine wpAnyH_take (i := 22) (oi := ⟨_, _, _, _, _, _⟩) (v := ?_) rfl (by kernel_rfl) (by kernel_rfl) (by kernel_rfl) (fun _ _ _ h => h) (Or.inl ⟨by rfl, ?_⟩) (by assumption) ?_
    rotate_left
    · intro w hSw
      try dsimp only at hSw
      go_simp
      try with_reducible rfl
    simp only [Act.put, List.setIfInBounds_toArray, List.set_cons_zero, List.set_cons_succ]
    refine wpAnyH_take (i := 23) (oi := ⟨_, _, _, _, _, _⟩) (v := ?_) rfl (by kernel_rfl) (by kernel_rfl) (by kernel_rfl) (fun _ _ _ h => h) (Or.inl ⟨by rfl, ?_⟩) (by assumption) ?_
    rotate_left
    · intro w hSw
      try dsimp only at hSw
      go_simp
      try with_reducible rfl
    simp only [Act.put, List.setIfInBounds_toArray, List.set_cons_zero, List.set_cons_succ]
    refine wpAnyH_done (by kernel_rfl) ?_ _
    -- TO HERE
    · obtain ⟨y0, y1, y2⟩ := HMD.out w8 hk8
      have hX8 : X < w8.heap.size := Nat.lt_of_lt_of_le hXw6 hk8.size
      clear hk8 HDO HMD HMK HST6 x0 x1 x2 r0 r1 r2
      by_cases hd3 : d = 3
      case neg =>
        have hd3' : (d != 3) = true := by simpa using hd3
        have hd3'' : (d == 3) = false := by simpa using hd3
        go_wp2
        go_roundw
        case rel => exact ⟨k + 1, T, lo, hi, B, _, L', by simp, by omega, rfl, HS8⟩
        case measure => simp [intOf]; omega
      subst hd3
      go_wp2_with fail
      refine (Clone_any w8 HS8.out.tab).mono ?_
      rintro e w9 ⟨rfl, hb9, ht9⟩
      obtain ⟨T1, hT1⟩ : ∃ T1, w8.heap.size = T1 := ⟨_, rfl⟩
      have HO9 := Lib.hid (HS8.out.tab.below hb9)
      have HCL : Hid (∀ w', Keep (Tb.Within lo hi) w9 w' → Tb.St w w' n b T1 T1 w9.heap.size (fun i => T1 + 1 + i) (.slice a8 L'.length c8) L') := fun w' hk => by
        have h := HS8.out.clone hb9 ht9 hk
        rw [hT1] at h
        exact h
      have u0 := (hb9.cell (p := ⟨X, 0, none⟩) hX8).trans y0
      have u1 := (hb9.cell (p := ⟨X, 1, none⟩) hX8).trans y1
      have u2 := (hb9.cell (p := ⟨X, 2, none⟩) hX8).trans y2
      have hX9 : X < w9.heap.size := Nat.lt_of_lt_of_le hX8 hb9.size
      rw [hT1]
      clear hb9 ht9 hT1 HS8 y0 y1 y2
      have HNW : Hid (¬ Tb.Within lo hi X) := fun h => by have := h.2; have := HLX.out; omega
      go_wp2_with fail
      refine (value_any 3 nn s w9).mono ?_
      rintro e w10 ⟨rfl, hb10⟩
      have HO10 := Lib.hid (HO9.out.below hb10)
      have hX10 : X < w10.heap.size := Nat.lt_of_lt_of_le hX9 hb10.size
      have v0 := (hb10.cell (p := ⟨X, 0, none⟩) hX9).trans u0
      have v1 := (hb10.cell (p := ⟨X, 1, none⟩) hX9).trans u1
      have v2 := (hb10.cell (p := ⟨X, 2, none⟩) hX9).trans u2
      have HK10 : Hid (Keep (Tb.Within lo hi) w9 w10) := (Tb.Keep.of_below hb10).mono (fun _ _ h => h.elim)
      clear hb10 u0 u1 u2 HO9
      go_wp2_with fail
      refine (Define_any (⟨#[122, 122]⟩ : ByteArray) (1, nn) w10 HO10.out (by decide)).mono ?_
      rintro e w11 ⟨rfl, ht11, hk11⟩
      have HO11 := Lib.hid ht11
      have hX11 : X < w11.heap.size := Nat.lt_of_lt_of_le hX10 hk11.size
      have z0 := (hk11.cell 0 hX10 HNW.out).trans v0
      have z1 := (hk11.cell 1 hX10 HNW.out).trans v1
      have z2 := (hk11.cell 2 hX10 HNW.out).trans v2
      have HK11 := Lib.hid (HK10.out.trans hk11)
      clear hk11 ht11 v0 v1 v2 HO10 HK10
      obtain ⟨L2, hL2⟩ : ∃ L2, Tb.defL L' (⟨#[122, 122]⟩ : ByteArray).data.toList (1, nn) = L2 := ⟨_, rfl⟩
      rw [hL2] at HO11
      clear hL2
      have HMK2 : Hid (∀ w', Below w11.heap.size w11 w' → w'.cell? ⟨X, 0, none⟩ = some (.int .i64 3) ∧ w'.cell? ⟨X, 1, none⟩ = some (.string s) ∧ w'.cell? ⟨X, 2, none⟩ = some (.int .i64 nn)) := fun w' hb => ⟨(hb.cell (p := ⟨X, 0, none⟩) hX11).trans z0, (hb.cell (p := ⟨X, 1, none⟩) hX11).trans z1, (hb.cell (p := ⟨X, 2, none⟩) hX11).trans z2⟩
      have HMX : Hid (∀ w7 w', Below w11.heap.size w11 w7 → Keep (Tb.Within lo hi) w7 w' → w'.cell? ⟨X, 0, none⟩ = some (.int .i64 3) ∧ w'.cell? ⟨X, 1, none⟩ = some (.string s) ∧ w'.cell? ⟨X, 2, none⟩ = some (.int .i64 nn)) := fun w7 w' hb hk => by
        obtain ⟨h0, h1, h2⟩ := HMK2.out w7 hb
        have hz := Nat.lt_of_lt_of_le hX11 hb.size
        exact ⟨(hk.cell 0 hz HNW.out).trans h0, (hk.cell 1 hz HNW.out).trans h1, (hk.cell 2 hz HNW.out).trans h2⟩
      have HDF : Hid (∀ w7, Below w11.heap.size w11 w7 → Calls Try.prog 13 #[.pointer (some ⟨T, 0, none⟩), .string s, .agg #[.int .i64 1, .int .i64 nn]] w7 fun e w' => (∃ x y, e = .returned (.tuple #[.int .i64 x, .int .i64 y])) ∧ Keep (Tb.Within lo hi) w7 w') := fun w7 hb => by
        refine (Define_any s (1, nn) w7 (HO11.out.below hb) htz).mono ?_
        rintro e w' ⟨rfl, _, hk⟩
        exact ⟨⟨_, _, rfl⟩, hk⟩
      go_wp2_with fail
      go_region_held3 (fun w' => w'.cell? ⟨X, 0, none⟩ = some (.int .i64 3) ∧ w'.cell? ⟨X, 1, none⟩ = some (.string s) ∧ w'.cell? ⟨X, 2, none⟩ = some (.int .i64 nn)) (first | exact HMK2.out _ ((Below.refl _ _).drew) | exact HMX.out _ _ (Tb.dr hb12) hk13 | exact HMK2.out _ (Tb.dr hb12))
        (first | (go_at_call 12; refine (value_any 3 nn s _).mono ?_; rintro e w12 ⟨rfl, hb12⟩) | (go_at_call 13; refine (HDF.out _ (Tb.dr hb12)).mono ?_; rintro e w13 ⟨⟨x13, y13, rfl⟩, hk13⟩) | fail)
      all_goals
        have HF13 := Lib.hid (HCL.out w13 (HK11.out.trans (Keep.trans ((Tb.Keep.of_below (Tb.dr hb12)).mono (fun _ _ h => h.elim)) hk13)))
        clear hb12 hk13 HCL HK11 HMK2 HMX HDF z0 z1 z2 HO11
        go_wp2
        go_roundw
        case rel => exact ⟨k + 1, T1, T1, _, _, _, L', by simp, by omega, rfl, HF13⟩
        case measure => simp [intOf]; omega
end Go.Proofs.Ytihfflinkmceaaa
