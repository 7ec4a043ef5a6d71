/-
  code: need, within, the reaching of a place.
-/
import Derived.Test.YtlckjphnbfahgaaGreatDoorCdOps
import Derived.Test.YtlckjphnbfahgaaGreatDoorPut
namespace Go.Proofs.YtlckjphnbfahgaaGreatDoor
open Go.RowKit
attribute [local go_sem] Oper.semAt_some
set_option maxRecDepth 100000 in
set_option maxHeartbeats 4000000 in
theorem need_any (x : Cd.Ins) (w : World) : Calls Tryz.prog 47 #[Cd.opV x.o, .agg #[.int .i64 x.o, .int .i64 x.a, .int .i64 x.b]] w fun e w' => e = .returned (.int .i64 (Cd.needW x)) ∧ Below w.heap.size w w' := by
  obtain ⟨N, hN⟩ : ∃ N, N = Cd.needW x := ⟨_, rfl⟩
  rw [← hN]
  unfold Cd.needW at hN
  unfold Cd.opV
  have hpp := Cd.pa_pb x.o
  obtain ⟨nm, hnm⟩ : ∃ nm, nm = Cd.nm x.o := ⟨_, rfl⟩
  obtain ⟨⟨oa, on, ol, pa, pb, en⟩, ho⟩ : ∃ o, o = Cd.op x.o := ⟨_, rfl⟩
  rw [← ho] at hN hpp ⊢
  rw [← hnm]
  clear ho hnm
  simp only at hN hpp ⊢
  have HB : Hid (Below w.heap.size w ((w.alloc (.cells #[.string nm, .int .i64 (oa : Int), .int .i64 on, .int .i64 ol, .bool pa, .bool pb, .bool en] 58)).alloc (.cells #[.int .i64 x.o, .int .i64 x.a, .int .i64 x.b] 55))) := ((Below.refl _ w).alloc (Nat.le_refl _) _).alloc (by simp) _
  cases pa with
  | true =>
    obtain rfl := hpp rfl
    have HN : Hid (N = wrap64 (on + x.a)) := hN
    clear hN hpp
    go_enter Tryz.func47, Tryz.ntmps47
    go_wp2
    go_ret
    exact ⟨by rw [HN.out]; rfl, HB.out⟩
  | false =>
    cases pb with
    | true =>
      have HN : Hid (N = wrap64 (on + x.b)) := hN
      clear hN hpp
      go_enter Tryz.func47, Tryz.ntmps47
      go_wp2
      go_ret
      exact ⟨by rw [HN.out]; rfl, HB.out⟩
    | false =>
      have HN : Hid (N = on) := hN
      clear hN hpp
      go_enter Tryz.func47, Tryz.ntmps47
      go_wp2
      go_ret
      exact ⟨by rw [HN.out]; rfl, HB.out⟩
def Cd.withinB (n most : Int) : Bool := decide (0 ≤ n) && decide (n ≤ most)
set_option maxRecDepth 100000 in
theorem within_any (n most : Int) (w : World) : Calls Tryz.prog 52 #[.int .i64 n, .int .i64 most] w fun e w' => e = .returned (.bool (Cd.withinB n most)) ∧ w = w' := by
  obtain ⟨E, hE⟩ : ∃ E, E = Cd.withinB n most := ⟨_, rfl⟩
  rw [← hE]
  unfold Cd.withinB at hE
  by_cases h0 : 0 ≤ n
  · by_cases h1 : n ≤ most
    · have HE : Hid (E = true) := by show _ = _; rw [hE, decide_eq_true h0, decide_eq_true h1]; rfl
      have h1' : decide (n ≤ most) = true := decide_eq_true h1
      clear hE
      go_enter Tryz.func52, Tryz.ntmps52
      go_wp2
      go_ret
      exact ⟨by rw [HE.out]; rfl, rfl⟩
    · have HE : Hid (E = false) := by show _ = _; rw [hE, decide_eq_true h0, decide_eq_false h1]; rfl
      have h1' : decide (n ≤ most) = false := decide_eq_false h1
      clear hE
      go_enter Tryz.func52, Tryz.ntmps52
      go_wp2
      go_ret
      exact ⟨by rw [HE.out]; rfl, rfl⟩
  · have HE : Hid (E = false) := by show _ = _; rw [hE, decide_eq_false h0]; rfl
    have h0' : decide (0 ≤ n) = false := decide_eq_false h0
    clear hE
    go_enter Tryz.func52, Tryz.ntmps52
    go_wp2
    go_ret
    exact ⟨by rw [HE.out]; rfl, rfl⟩
namespace Cd
/-- what stands ahead of each, as it lies: a row of the call's own, in a box -/
structure Ah (w : World) (base Bl Ba g c : Nat) (a : Option Addr) (n cl : Nat) (ah : List Int) : Prop where
  cl : w.cell? ⟨Bl, 0, none⟩ = some (.slice a n cl)
  ca : w.cell? ⟨Ba, 0, none⟩ = some (.slice (some ⟨g, 0, none⟩) n c)
  row : w.ownsRow base 3 1 (.slice (some ⟨g, 0, none⟩) n c) n (ah.map (Value.int .i64))
  ne : g ≠ Ba
  nl : g ≠ Bl
  len : ah.length = n
theorem Ah.at {w : World} {base Bl Ba g c : Nat} {a : Option Addr} {n cl : Nat} {ah : List Int} (h : Ah w base Bl Ba g c a n cl ah) (j : Nat) (hj : j < n) : w.cell? ⟨g, j, none⟩ = some (.int .i64 (Cd.g ah j)) ∧ w.frozen? ⟨g, j, none⟩ = false := by
  rcases h.row.2 with ⟨e, h0⟩ | ⟨g', cap, cur, e, e2, e3, e4, e5, e6, e7⟩
  · cases e
  · have eg : g' = g := by cases e; rfl
    subst eg
    have hv : (ah.map (Value.int .i64))[j]? = some (.int .i64 (Cd.g ah j)) := by
      rw [List.getElem?_map, List.getElem?_eq_getElem (by rw [h.len]; exact hj)]
      unfold Cd.g
      rw [List.getD_eq_getElem?_getD, List.getElem?_eq_getElem (by rw [h.len]; exact hj)]
      rfl
    have := h.row.cells (g := g') rfl j _ hv
    have e : (⟨g', 0, none⟩ : Addr).add j = ⟨g', j, none⟩ := by
      unfold Addr.add
      split
      · rename_i h0; rw [h0]
      · rw [Nat.zero_add]
    rw [e] at this
    refine ⟨this, ?_⟩
    unfold World.frozen?
    rw [e3]
    simp
theorem Ah.set {w : World} {base Bl Ba g c : Nat} {a : Option Addr} {n cl : Nat} {ah : List Int} (h : Ah w base Bl Ba g c a n cl ah) (j : Nat) (hj : j < n) (v : Int) : Ah (w.setCell ⟨g, j, none⟩ (.int .i64 v)) base Bl Ba g c a n cl (ah.set j v) := by
  have hn : ∀ {B : Nat}, g ≠ B → (w.setCell ⟨g, j, none⟩ (.int .i64 v)).cell? ⟨B, 0, none⟩ = w.cell? ⟨B, 0, none⟩ := fun hB => World.cell?_setCell_other _ _ _ _ (by intro e; cases e; exact hB rfl)
  refine ⟨(hn h.nl).trans h.cl, (hn h.ne).trans h.ca, ?_, h.ne, h.nl, by rw [List.length_set]; exact h.len⟩
  have hl : j < ah.length := by rw [h.len]; exact hj
  have hs : ah.map (Value.int .i64) = (ah.take j).map (Value.int .i64) ++ (.int .i64 ah[j]) :: (ah.drop (j + 1)).map (Value.int .i64) := by
    rw [← List.map_cons, ← List.map_append, ← List.drop_eq_getElem_cons hl, List.take_append_drop]
  have hr := h.row
  rw [hs] at hr
  have := Pt.own_set (v := .int .i64 v) hr
  rw [List.length_map, List.length_take, Nat.min_eq_left (by omega)] at this
  rw [List.set_eq_take_append_cons_drop, if_pos hl, List.map_append, List.map_cons]
  exact this
theorem Ah.keep {S : Nat → Prop} {w w' : World} {base Bl Ba g c : Nat} {a : Option Addr} {n cl : Nat} {ah : List Int} (h : Ah w base Bl Ba g c a n cl ah) (hk : Keep S w w') (h1 : ¬ S Bl) (h2 : ¬ S Ba) (h3 : ¬ S g) : Ah w' base Bl Ba g c a n cl ah := by
  refine ⟨(hk.cell 0 (block_lt_of_cell h.cl) h1).trans h.cl, (hk.cell 0 (block_lt_of_cell h.ca) h2).trans h.ca, ?_, h.ne, h.nl, h.len⟩
  obtain ⟨h0, h9⟩ := h.row
  refine ⟨h0, ?_⟩
  rcases h9 with h9 | ⟨g', cap, cur, e, e2, e3, e4⟩
  · exact .inl h9
  · have eg : g' = g := by cases e; rfl
    subst eg
    exact .inr ⟨g', cap, cur, e, e2, (hk.block g' (Array.getElem?_eq_some_iff.1 e3).1 h3).trans e3, e4⟩
theorem Ah.below {w w' : World} {base Bl Ba g c : Nat} {a : Option Addr} {n cl : Nat} {ah : List Int} (h : Ah w base Bl Ba g c a n cl ah) (hb : Below w.heap.size w w') : Ah w' base Bl Ba g c a n cl ah :=
  h.keep (S := fun _ => False) ((Keep.refl _ w).below hb) id id id
end Cd
set_option maxRecDepth 100000 in
set_option maxHeartbeats 4000000 in
theorem reach_no {base Bl Ba g c : Nat} {a : Option Addr} {n cl : Nat} {ah : List Int} (j v : Int) (w : World) (h : Cd.Ah w base Bl Ba g c a n cl ah) (hj : 0 ≤ j) (hr : Cd.reach ah j v = none) :
    Calls Tryz.prog 46 #[.int .i64 j, .int .i64 v, .pointer (some ⟨Bl, 0, none⟩), .pointer (some ⟨Ba, 0, none⟩)] w fun e w' => e = .returned (.bool false) ∧ w = w' := by
  obtain ⟨k, rfl⟩ : ∃ k : Nat, j = (k : Int) := ⟨j.toNat, by omega⟩
  have hcl := h.cl
  have hca := h.ca
  unfold Cd.reach at hr
  rw [h.len, Int.toNat_natCast] at hr
  by_cases h1 : (n : Int) ≤ (k : Int)
  · clear hr h
    go_enter Tryz.func46, Tryz.ntmps46
    go_wp2
    go_ret
    exact ⟨rfl, rfl⟩
  · rw [if_neg h1] at hr
    have hk : (k : Int) < (n : Int) := by omega
    obtain ⟨gk, -⟩ := h.at k (by omega)
    have h1' : decide ((n : Int) ≤ (k : Int)) = false := decide_eq_false h1
    have hk0 : (0 : Int) ≤ (k : Int) := by omega
    obtain ⟨u, hu⟩ : ∃ u, u = Cd.g ah k := ⟨_, rfl⟩
    rw [← hu] at gk hr
    by_cases h2 : 0 ≤ u ∧ u ≠ v
    · obtain ⟨h3, h4⟩ := h2
      have h4' : (u != v) = true := bne_iff_ne.2 h4
      clear hr h hu h1
      go_enter Tryz.func46, Tryz.ntmps46
      go_wp2
      go_ret
      exact ⟨rfl, rfl⟩
    · rw [if_neg h2] at hr
      cases hr
set_option maxRecDepth 100000 in
set_option maxHeartbeats 4000000 in
theorem reach_yes {base Bl Ba g c : Nat} {a : Option Addr} {n cl : Nat} {ah ah' : List Int} (j v : Int) (w : World) (h : Cd.Ah w base Bl Ba g c a n cl ah) (hj : 0 ≤ j) (hr : Cd.reach ah j v = some ah') :
    Calls Tryz.prog 46 #[.int .i64 j, .int .i64 v, .pointer (some ⟨Bl, 0, none⟩), .pointer (some ⟨Ba, 0, none⟩)] w fun e w' => e = .returned (.bool true) ∧ Cd.Ah w' base Bl Ba g c a n cl ah' ∧ Keep (fun k => k = g) w w' := by
  obtain ⟨k, rfl⟩ : ∃ k : Nat, j = (k : Int) := ⟨j.toNat, by omega⟩
  have hcl := h.cl
  have hca := h.ca
  obtain ⟨h1, rfl, h3⟩ := Cd.reach_some hr hj
  rw [Int.toNat_natCast] at h1 h3 ⊢
  rw [h.len] at h1
  obtain ⟨gk, fk⟩ := h.at k h1
  have hk : (k : Int) < (n : Int) := by omega
  have h1' : decide ((n : Int) ≤ (k : Int)) = false := decide_eq_false (by omega)
  have hk0 : (0 : Int) ≤ (k : Int) := by omega
  have HS : Hid (Cd.Ah (w.setCell ⟨g, k, none⟩ (.int .i64 v)) base Bl Ba g c a n cl (ah.set k v)) := h.set k h1 v
  have HK : Hid (Keep (fun k => k = g) w (w.setCell ⟨g, k, none⟩ (.int .i64 v))) := (Keep.refl (fun k => k = g) w).setCell rfl k _
  obtain ⟨u, hu⟩ : ∃ u, u = Cd.g ah k := ⟨_, rfl⟩
  rw [← hu] at gk h3
  clear hr h hu hj
  by_cases h4 : 0 ≤ u
  · obtain rfl := h3 h4
    clear h3
    go_enter Tryz.func46, Tryz.ntmps46
    go_wp2
    go_ret
    exact ⟨rfl, HS.out, HK.out⟩
  · have h4' : decide (0 ≤ u) = false := decide_eq_false h4
    clear h3 h4
    go_enter Tryz.func46, Tryz.ntmps46
    go_wp2
    go_ret
    exact ⟨rfl, HS.out, HK.out⟩
end Go.Proofs.YtlckjphnbfahgaaGreatDoor
