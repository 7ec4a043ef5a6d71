/-
  shuttleref18.Table: Define, Assign.
-/
import Derived.Test.YtihfflinkmceaaaTbRefB
import Derived.Test.YtihfflinkmceaaaApp
namespace Go.Proofs.Ytihfflinkmceaaa
open Go.RowKit Go.Maps Go.WideMaps Go.Sort
namespace Tb
theorem own_setCell {w : World} {base size g cap n : Nat} {e : TypeId} {xs : List Value} (h : w.ownsRow base e size (.slice (some ⟨g, 0, none⟩) n cap) n xs) (j : Nat) (_hj : j < n * size) (u : Value) :
    (w.setCell ⟨g, j, none⟩ u).ownsRow base e size (.slice (some ⟨g, 0, none⟩) n cap) n (xs.set j u) := by
  obtain ⟨h0, h1⟩ := h
  refine ⟨by rw [List.length_set]; exact h0, ?_⟩
  rcases h1 with ⟨h1, _⟩ | ⟨g', cap', cur, e1, e2, e3, e4, e5, e6, e7⟩
  · cases h1
  · cases e1
    refine .inr ⟨g, cap, cur.setIfInBounds j u, rfl, e2, heap_setCell_same w g j cur e u e3, e4, e5, by rw [Array.size_setIfInBounds]; exact e6, ?_⟩
    rw [Array.toList_setIfInBounds, List.take_set, e7]
theorem flatG_set (L : List (Nm × V)) (p : Nat) (h : p < L.length) (x : V) : flatG (L.set p (L[p].1, x)) = ((flatG L).set (p * 3 + 1) (.int .i64 x.1)).set (p * 3 + 2) (.int .i64 x.2) := by
  induction L generalizing p with
  | nil => simp at h
  | cons a l ih =>
    have e : ∀ (a : Nm × V) l, flatG (a :: l) = cells3 a ++ flatG l := fun _ _ => rfl
    cases p with
    | zero => rw [List.set_cons_zero, e, e]; rfl
    | succ p =>
      rw [List.set_cons_succ, e, e]
      have h' : p < l.length := by simpa using h
      have h3 : (cells3 a).length = 3 := rfl
      simp only [List.getElem_cons_succ]
      rw [ih p h', List.set_append_right _ _ (by rw [h3]; omega), List.set_append_right _ _ (by rw [h3]; omega), h3, show (p + 1) * 3 + 1 - 3 = p * 3 + 1 by omega, show (p + 1) * 3 + 2 - 3 = p * 3 + 2 by omega]
theorem flatG_take : ∀ (L : List (Nm × V)) (p : Nat), flatG (L.take p) = (flatG L).take (p * 3)
  | [], p => by simp [flatG]
  | a :: l, 0 => by simp [flatG]
  | a :: l, p + 1 => by
    have e : ∀ (a : Nm × V) l, flatG (a :: l) = cells3 a ++ flatG l := fun _ _ => rfl
    rw [List.take_succ_cons, e, e, flatG_take l p, show (p + 1) * 3 = p * 3 + 1 + 1 + 1 by omega]
    rfl
theorem flatG_drop : ∀ (L : List (Nm × V)) (p : Nat), flatG (L.drop p) = (flatG L).drop (p * 3)
  | [], p => by simp [flatG]
  | a :: l, 0 => by simp
  | a :: l, p + 1 => by
    have e : ∀ (a : Nm × V) l, flatG (a :: l) = cells3 a ++ flatG l := fun _ _ => rfl
    rw [List.drop_succ_cons, e, flatG_drop l p, show (p + 1) * 3 = p * 3 + 1 + 1 + 1 by omega]
    rfl
theorem row_frozen {w : World} {base size g cap n : Nat} {e : TypeId} {xs : List Value} (h : w.ownsRow base e size (.slice (some ⟨g, 0, none⟩) n cap) n xs) (j : Nat) : w.frozen? ⟨g, j, none⟩ = false := by
  rcases h.2 with ⟨h1, _⟩ | ⟨g', cap', cur, e1, e2, e3, e4⟩
  · cases h1
  · cases e1
    unfold World.frozen?
    rw [e3]
    simp
/-- the blocks of a reference's table -/
def RB (b : Nat) (v : Value) (k : Nat) : Prop := k = b ∨ v.ownBlock = some k
/-- where the row may lie behind a Define -/
def RV (w : World) (v v' : Value) : Prop := ∀ k, v'.ownBlock = some k → v.ownBlock = some k ∨ w.heap.size ≤ k
theorem RTab.set {w w' : World} {b n g cap : Nat} {L : List (Nm × V)} (h : RTab w b n (.slice (some ⟨g, 0, none⟩) L.length cap) L) (p : Nat) (hp : p < L.length) (x : V) (s : Nm) (hs : L[p].1 = s) (hw : w' = (w.setCell ⟨g, p * 3 + 1, none⟩ (.int .i64 x.1)).setCell ⟨g, p * 3 + 2, none⟩ (.int .i64 x.2)) :
    RTab w' b n (.slice (some ⟨g, 0, none⟩) L.length cap) (L.set p (s, x)) ∧ Keep (RB b (.slice (some ⟨g, 0, none⟩) L.length cap)) w w' := by
  have hne : g ≠ b := fun e => h.ne (by rw [e]; rfl)
  have hlen : (L.set p (s, x)).length = L.length := List.length_set ..
  have hS : RB b (.slice (some ⟨g, 0, none⟩) L.length cap) g := .inr rfl
  have hk : Keep (RB b (.slice (some ⟨g, 0, none⟩) L.length cap)) w w' := by
    rw [hw]; exact ((Keep.refl _ w).setCell hS _ _).setCell hS _ _
  have hkb : Keep (fun k => k = g) w w' := by
    rw [hw]; exact ((Keep.refl _ w).setCell (S := fun k => k = g) rfl _ _).setCell (S := fun k => k = g) rfl _ _
  have hl : b < w.heap.size := block_lt_of_cell h.c0
  refine ⟨⟨(hkb.cell 0 hl (Ne.symm hne)).trans h.c0, (hkb.cell 1 hl (Ne.symm hne)).trans h.c1, (hkb.frozen 1 hl (Ne.symm hne)).trans h.f1, ?_, h.ne, by rw [hlen]; exact h.len, ?_⟩, hk⟩
  · rw [hlen, ← hs, flatG_set L p hp x, hw]
    exact own_setCell (own_setCell h.row (p * 3 + 1) (by omega) _) (p * 3 + 2) (by omega) _
  · have hr := h.rise
    unfold Rising at hr ⊢
    have e1 : (L.set p (s, x)).map (·.1) = L.map (·.1) := by
      rw [List.map_set]
      show (L.map (·.1)).set p s = _
      rw [← hs]
      apply List.ext_getElem (by simp)
      intro i h1 h2
      rw [List.getElem_set]
      split
      · rename_i e; subst e; simp
      · rfl
    have e2 : ∀ M : List (Nm × V), (M.Pairwise fun p q => p.1 < q.1) ↔ (M.map (·.1)).Pairwise (· < ·) := fun M => by rw [List.pairwise_map]
    rw [e2, e1, ← e2]
    exact hr
theorem al {n : Nat} {a w : World} (h : Below n a w) (hn : n ≤ a.heap.size) (o : Obj) : Below n a (w.alloc o) := h.trans ((Below.refl _ _).alloc (Nat.le_trans hn h.size) o)
theorem gr0 {n : Nat} {a w w' : World} (h : Below n a w) (hn : n ≤ a.heap.size) (hg : w.grownBy w' (Value.ownBlock (.slice none 0 0))) : Below n a w' :=
  h.trans ⟨hg.os, hg.tape, hg.output, hg.size, fun k hk => hg.block k (by have := h.size; omega) (by simp [Value.ownBlock])⟩
theorem hl4 {A B C D : Prop} (h : A ∧ B ∧ C ∧ Hid D) : D := h.2.2.2.out
theorem flatG_one (L : List (Nm × V)) : ∀ u ∈ flatG L, u.oneCell' = true := fun u hu => by
  unfold flatG at hu
  obtain ⟨p, _, hp⟩ := List.mem_flatMap.1 hu
  simp [cells3] at hp
  rcases hp with rfl | rfl | rfl <;> rfl
theorem gr {n : Nat} {a w w' : World} {base size m : Nat} {e : TypeId} {v : Value} {xs : List Value} {wx : World} (h : Below n a w) (hg : w.grownBy w' v.ownBlock) (hn : n ≤ a.heap.size) (ho : wx.ownsRow base e size v m xs) (hb : n ≤ base) : Below n a w' := by
  refine h.trans ⟨hg.os, hg.tape, hg.output, hg.size, fun k hk => hg.block k (by have := h.size; omega) (fun e => ?_)⟩
  rcases ho.2 with ⟨rfl, _⟩ | ⟨g, cap, cur, rfl, e2, e3, e4⟩
  · cases e
  · have : g = k := by cases e; rfl
    omega
theorem own_mono {w : World} {base base' size n : Nat} {e : TypeId} {v : Value} {xs : List Value} (h : w.ownsRow base e size v n xs) (hb : base' ≤ base) : w.ownsRow base' e size v n xs := by
  obtain ⟨h0, h1⟩ := h
  refine ⟨h0, ?_⟩
  rcases h1 with h1 | ⟨g, cap, cur, e1, e2, e3⟩
  · exact .inl h1
  · exact .inr ⟨g, cap, cur, e1, Nat.le_trans hb e2, e3⟩
theorem own_ge {w : World} {base size n : Nat} {e : TypeId} {v : Value} {xs : List Value} (h : w.ownsRow base e size v n xs) : ∀ k, v.ownBlock = some k → base ≤ k := by
  intro k hk
  rcases h.2 with ⟨rfl, _⟩ | ⟨g, cap, cur, rfl, e2, e3⟩
  · cases hk
  · have : g = k := by cases hk; rfl
    omega
theorem RTab.fin {w3 w5 w6 : World} {b n k2 k3 : Nat} {v v2 v3 : Value} {L M : List (Nm × V)} {xs2 xs3 : List Value} (h : RTab w3 b n v L) (hb : Below w3.heap.size w3 w5) (ho : w5.ownsRow w3.heap.size 49 3 v2 k2 xs2)
    (ho3 : w6.ownsRow w3.heap.size 49 3 v3 k3 xs3) (hg : w5.grownBy w6 v2.ownBlock) (hk : k3 = M.length) (hxs : xs3 = flatG M) (hr : Rising M) (h4 : M.length ≤ 4096) :
    w6.cell? ⟨b, 1, none⟩ = some v ∧ w6.frozen? ⟨b, 1, none⟩ = false ∧ RTab (w6.setCell ⟨b, 1, none⟩ v3) b n v3 M ∧ Keep (RB b v) w3 (w6.setCell ⟨b, 1, none⟩ v3) ∧ ∀ k, v3.ownBlock = some k → w3.heap.size ≤ k := by
  have hb6 : Below w3.heap.size w3 w6 := gr hb hg (Nat.le_refl _) ho (Nat.le_refl _)
  have hl : b < w3.heap.size := block_lt_of_cell h.c0
  have c0 := (hb6.cell (p := ⟨b, 0, none⟩) hl).trans h.c0
  have c1 := (hb6.cell (p := ⟨b, 1, none⟩) hl).trans h.c1
  have f1 := (hb6.frozen (p := ⟨b, 1, none⟩) hl).trans h.f1
  have hge := own_ge ho3
  have hne : v3.ownBlock ≠ some b := fun e => by have := hge b e; omega
  have hna : (⟨b, 1, none⟩ : Addr) ≠ ⟨b, 0, none⟩ := by intro e; cases e
  subst hk hxs
  exact ⟨c1, f1, ⟨(World.cell?_setCell_other _ _ _ _ hna).trans c0, World.cell?_setCell_same' _ _ _ (by rw [c1]; rfl), (World.frozen?_setCell _ _ _ _).trans f1, ownsRow_setCell_other (own_mono ho3 (Nat.zero_le _)) hne _, hne, h4, hr⟩,
    ((Keep.refl (RB b v) w3).below hb6).setCell (.inl rfl) 1 v3, hge⟩
end Tb
set_option maxRecDepth 100000 in
set_option maxHeartbeats 4000000 in
theorem RDefine_any {b n : Nat} {v : Value} {L : List (Tb.Nm × Tb.V)} (s : ByteArray) (x : Tb.V) (w : World) (h : Tb.RTab w b n v L) (hs : s.size ≤ 1000) :
    Calls Try.prog 35 #[.pointer (some ⟨b, 0, none⟩), .string s, .agg #[.int .i64 x.1, .int .i64 x.2]] w fun e w' =>
      e = .returned (.tuple #[.int .i64 (Tb.defr L s.data.toList).1, .int .i64 (Tb.defr L s.data.toList).2]) ∧ ∃ v', Tb.RTab w' b n v' (Tb.defL L s.data.toList x) ∧ Keep (Tb.RB b v) w w' ∧ Tb.RV w v v' := by
  obtain ⟨i0, hi, hz0, hz1, hz2⟩ := info_parts Tb.infoG
  obtain ⟨r, hr⟩ : ∃ r, r = Tb.defr L s.data.toList := ⟨_, rfl⟩
  obtain ⟨M, hM⟩ : ∃ M, M = Tb.defL L s.data.toList x := ⟨_, rfl⟩
  rw [← hr, ← hM]
  unfold Tb.defr at hr
  unfold Tb.defL at hM
  obtain ⟨q0, q1⟩ := Tb.pair_new w (.int .i64 x.1) (.int .i64 x.2)
  obtain ⟨wa, hwa⟩ : ∃ wa, w.alloc (.cells #[.int .i64 x.1, .int .i64 x.2] 37) = wa := ⟨_, rfl⟩
  have hba : Below w.heap.size w wa := by rw [← hwa]; exact (Below.refl _ w).alloc (Nat.le_refl _) _
  have hta := h.below hba
  have hsa : w.heap.size < wa.heap.size := by rw [← hwa]; simp
  rw [hwa] at q0 q1
  have hka : Keep (Tb.RB b v) w wa := (Keep.refl _ w).below hba
  have hRV : Tb.RV w v v := fun k hk => .inl hk
  have hbw : b < w.heap.size := block_lt_of_cell h.c0
  clear h hba
  have hm := SymbolR_any s wa (by omega)
  cases hy : Lx.symbol s.data.toList
  · rw [hy] at hr hM hm
    have hr' : r = (0, 180) := hr
    have hM' : M = L := hM
    clear hr hM
    subst hr' hM'
    go_enter Try.func35, Try.ntmps35
    go_wp2_with fail
    refine hm.mono ?_
    rintro e w2 ⟨rfl, rfl⟩
    clear hm
    go_wp2
    go_ret2
    exact ⟨rfl, v, hta, hka, hRV⟩
  rw [hy] at hr hM hm
  have hr1 : r = if (Tb.look L s.data.toList).isSome then (0, 0) else if 4096 ≤ L.length then (8, 0) else (0, 0) := hr
  have hM1 : M = if (Tb.look L s.data.toList).isSome then Tb.put L s.data.toList x else if 4096 ≤ L.length then L else Tb.put L s.data.toList x := hM
  clear hr hM
  have hat := at_any s wa hta
  obtain ⟨hl1, hl2⟩ := Tb.look_pos hta.rise s.data.toList
  have hput := Tb.put_pos hta.rise s.data.toList x
  have hple := Tb.pos_le L s.data.toList
  rw [hl1] at hr1 hM1
  obtain ⟨p, hp⟩ : ∃ p, p = Tb.pos L s.data.toList := ⟨_, rfl⟩
  rw [← hp] at hat hput hple
  cases hi : Tb.isAt L s.data.toList
  case true =>
    rw [hi] at hat hr1 hM1 hput
    have hpl : p < L.length := by
      rw [hp]
      unfold Tb.isAt at hi
      split at hi
      · assumption
      · cases hi
    have hps : L[p].1 = s.data.toList := by
      unfold Tb.isAt at hi
      rw [dif_pos (by omega)] at hi
      subst hp
      exact of_decide_eq_true hi
    have hr2 : r = (0, 0) := hr1
    have hM2 : M = L.set p (s.data.toList, x) := hM1.trans hput
    clear hr1 hM1 hput hl1 hl2 hi hp
    subst hr2
    have c1r := hta.c1
    rcases hta.grow with ⟨_, h0⟩ | ⟨g, cap, rfl, hgl, hca⟩
    · rw [h0] at hpl; simp at hpl
    obtain ⟨_, a1, a2⟩ := Tb.GRow.three hca p hpl
    have f1 := Tb.row_frozen hta.row (p * 3 + 1)
    have f2 := Tb.row_frozen hta.row (p * 3 + 2)
    have hpli : (p : Int) < (L.length : Int) := by omega
    have HM := Lib.hid hM2
    have HPS := Lib.hid hps
    clear hca hM2 hps
    go_enter Try.func35, Try.ntmps35
    go_wp2_with fail
    clear hwa
    refine hm.mono ?_
    rintro e w2 ⟨rfl, rfl⟩
    clear hm
    go_wp2_with fail
    refine hat.mono ?_
    rintro e w2 ⟨rfl, q, rfl⟩
    clear hat
    go_wp2_with fail
    go_region
    all_goals
      go_wp2
      go_ret2
      have hq : Tb.RTab (wa.drewN (q + 1)) b n _ L := hta.keep (S := fun _ => False) ((Keep.refl _ wa).drew (q + 1)) (fun h => h) (fun _ _ h => h)
      obtain ⟨t1, t2⟩ := hq.set p hpl x s.data.toList HPS.out rfl
      rw [HM.out]
      exact ⟨rfl, _, t1, (hka.drew _).trans t2, hRV⟩
  case false =>
    rw [hi] at hat hr1 hM1 hput
    have hr2 : r = if 4096 ≤ L.length then (8, 0) else (0, 0) := hr1
    have hM2 : M = if 4096 ≤ L.length then L else L.take p ++ [(s.data.toList, x)] ++ L.drop p := by rw [hM1]; show (if 4096 ≤ L.length then L else Tb.put L s.data.toList x) = _; rw [hput]; rfl
    have hrise := hta.rise.put s.data.toList x
    rw [hput] at hrise
    have hrise' : Tb.Rising (L.take p ++ [(s.data.toList, x)] ++ L.drop p) := hrise
    clear hr1 hM1 hput hl1 hl2 hi hp hrise
    have c1r := hta.c1
    obtain ⟨a, c, rfl⟩ : ∃ a c, v = .slice a L.length c := by
      rcases hta.grow with ⟨rfl, rfl⟩ | ⟨g, cap, rfl, _⟩
      · exact ⟨_, _, rfl⟩
      · exact ⟨_, _, rfl⟩
    by_cases hfull : 4096 ≤ L.length
    · have hfi : (4096 : Int) ≤ (L.length : Int) := by omega
      rw [if_pos hfull] at hr2 hM2
      subst hr2
      have HM := Lib.hid hM2
      clear hM2
      go_enter Try.func35, Try.ntmps35
      go_wp2_with fail
      clear hwa
      refine hm.mono ?_
      rintro e w2 ⟨rfl, rfl⟩
      clear hm
      go_wp2_with fail
      refine hat.mono ?_
      rintro e w2 ⟨rfl, q, rfl⟩
      clear hat
      go_wp2
      go_ret2
      have hq : Tb.RTab (wa.drewN q) b n _ L := hta.keep (S := fun _ => False) ((Keep.refl _ wa).drew q) (fun h => h) (fun _ _ h => h)
      rw [HM.out]
      exact ⟨rfl, _, hq, hka.drew _, hRV⟩
    have hfi : (L.length : Int) < 4096 := by omega
    rw [if_neg hfull] at hr2 hM2
    subst hr2
    have HM := Lib.hid hM2
    clear hM2
    go_enter Try.func35, Try.ntmps35
    go_wp2_with fail
    clear hwa
    refine hm.mono ?_
    rintro e w2 ⟨rfl, rfl⟩
    clear hm
    go_wp2_with fail
    refine hat.mono ?_
    rintro e w2 ⟨rfl, q, rfl⟩
    clear hat
    have hq : Tb.RTab (wa.drewN q) b n _ L := hta.keep (S := fun _ => False) ((Keep.refl _ wa).drew q) (fun h => h) (fun _ _ h => h)
    have hkq : Keep (Tb.RB b (.slice a L.length c)) w (wa.drewN q) := hka.drew q
    have z0 : (wa.drewN q).cell? ⟨w.heap.size, 0, none⟩ = some (.int .i64 x.1) := q0
    have z1 : (wa.drewN q).cell? ⟨w.heap.size, 1, none⟩ = some (.int .i64 x.2) := q1
    have hsq : w.heap.size < (wa.drewN q).heap.size := hsa
    obtain ⟨w3, hw3⟩ : ∃ w3, wa.drewN q = w3 := ⟨_, rfl⟩
    rw [hw3] at hq hkq z0 z1 hsq ⊢
    clear hw3 q0 q1 hta hka hsa c1r
    have c1r := hq.c1
    have hbq : b < w3.heap.size := Nat.lt_trans hbw hsq
    have hrow := hq.row
    obtain ⟨X, hX⟩ : ∃ X, w.heap.size = X := ⟨_, rfl⟩
    rw [hX] at z0 z1 hsq ⊢
    have hsrc : Ap.Src w3 (.slice a p c) p (Tb.flatG (L.take p)) ∧ p ≤ c ∧ (a = none → L = [] ∧ c = 0) := by
      rcases hq.grow with ⟨h0, rfl⟩ | ⟨g, cap, h0, _, hca⟩
      · cases h0
        obtain rfl : p = 0 := by simpa using hple
        exact ⟨.inl ⟨rfl, rfl, rfl⟩, by omega, fun _ => ⟨rfl, rfl⟩⟩
      · cases h0
        refine ⟨.inr ⟨_, _, rfl, fun j u hj => ?_⟩, ?_, fun h => by cases h⟩
        · have hadd : (⟨g, 0, none⟩ : Addr).add j = ⟨g, j, none⟩ := by unfold Addr.add; split <;> simp_all
          rw [hadd]
          refine hca j u ?_
          have ht : Tb.flatG (L.take p) = (Tb.flatG L).take (p * 3) := Tb.flatG_take L p
          rw [ht] at hj
          have hlt : j < p * 3 := by
            have := (List.getElem?_eq_some_iff.1 hj).1
            rw [List.length_take] at this
            omega
          rw [List.getElem?_take_of_lt hlt] at hj
          exact hj
        · rcases hrow.2 with ⟨h0, _⟩ | ⟨g', cap', cur, e1, _, _, e4, _⟩
          · cases h0
          · cases e1; omega
    obtain ⟨HS0, hpc, hanone⟩ := hsrc
    have HS : Hid (∀ w', Below w3.heap.size w3 w' → Ap.Src w' (.slice a p c) p (Tb.flatG (L.take p))) := fun w' hb => by
      rcases HS0 with h | ⟨ad, c', h1, h2⟩
      · exact .inl h
      · refine .inr ⟨ad, c', h1, fun j u hj => ?_⟩
        have := h2 j u hj
        have hlt : (ad.add j).block < w3.heap.size := World.block_lt_of_cell? w3 _ this
        exact (hb.cell hlt).trans this
    have HK : Hid (∀ w', Below w3.heap.size w3 w' → w'.cell? ⟨b, 1, none⟩ = some (.slice a L.length c) ∧ w'.cell? ⟨X, 0, none⟩ = some (.int .i64 x.1) ∧ w'.cell? ⟨X, 1, none⟩ = some (.int .i64 x.2) ∧ Hid (Below w3.heap.size w3 w')) := fun w' hb =>
      ⟨(hb.cell (p := ⟨b, 1, none⟩) hbq).trans c1r, (hb.cell (p := ⟨X, 0, none⟩) hsq).trans z0, (hb.cell (p := ⟨X, 1, none⟩) hsq).trans z1, hb⟩
    have hpi : (p : Int) ≤ (c : Int) := by omega
    have hp0 : (0 : Int) ≤ (p : Int) := by omega
    have HQ := Lib.hid hq
    have HA := Lib.hid hanone
    clear HS0 hq hrow hanone hX
    have hlT : (Tb.flatG (L.take p)).length = p * 3 := by rw [Tb.flatG_length, List.length_take]; omega
    have h1T : ∀ u ∈ Tb.flatG (L.take p), u.oneCell' = true := Tb.flatG_one _
    have hb1 : 0 + p ≤ maxLen := by unfold maxLen; omega
    have hb2 : (0 + p) * 32 ≤ 140737488355328 := by omega
    have hb3 : 0 + p + 1 ≤ maxLen := by unfold maxLen; omega
    have hb4 : (0 + p + 1) * 32 ≤ 140737488355328 := by omega
    have HLT := Lib.hid hlT
    clear hlT
    go_wp2_with fail
    go_region_held3 (fun w' => w'.cell? ⟨b, 1, none⟩ = some (.slice a L.length c) ∧ w'.cell? ⟨X, 0, none⟩ = some (.int .i64 x.1) ∧ w'.cell? ⟨X, 1, none⟩ = some (.int .i64 x.2) ∧ Hid (Below w3.heap.size w3 w'))
      (first | exact HK.out _ ((Below.refl _ _).drew) | exact HK.out _ (Tb.gr0 (Tb.hl4 (by assumption)) (Nat.le_refl _) hg1) | exact HK.out _ (Tb.gr (Tb.hl4 (by assumption)) hg2 (Nat.le_refl _) hown1 (Nat.le_refl _)) | exact HK.out _ (Tb.al (Tb.hl4 (by assumption)) (Nat.le_refl _) _))
      (first
        | (refine Ap.step rfl _ _ 47 (by rfl) w3.heap.size 49 i0 (.agg #[.string ⟨#[]⟩, .int .i64 0, .int .i64 0]) 3 32 Try.underlying47 hi hz0 hz1 hz2 rfl (by decide) (.slice none 0 0) 0 [] (by rfl) (World.ownsRow_nil _ _ _ _) (.slice a p c) p (Tb.flatG (L.take p)) (by rfl) (HS.out _ (Tb.hl4 (by assumption))) HLT.out h1T hb1 hb2 (Tb.hl4 (by assumption) : Below w3.heap.size w3 _).size ?_; intro v1 w4 hown1 hg1 hat1)
        | (refine Ap.step rfl _ _ 47 (by rfl) w3.heap.size 49 i0 (.agg #[.string ⟨#[]⟩, .int .i64 0, .int .i64 0]) 3 32 Try.underlying47 hi hz0 hz1 hz2 rfl (by decide) v1 (0 + p) ([] ++ Tb.flatG (L.take p)) (by rfl) (hown1.alloc _) (.slice (some ⟨w4.heap.size, 0, none⟩) 1 1) 1 [.string s, .int .i64 x.1, .int .i64 x.2] (by rfl) (.inr ⟨_, _, rfl, World.news_of_block (cs := #[.string s, .int .i64 x.1, .int .i64 x.2]) (t := 49) (fr := (0, 0)) (heap_alloc_new w4 _)⟩) rfl (by simp [Value.oneCell']) hb3 hb4 (Tb.hl4 (by assumption) : Below w3.heap.size w3 _).size ?_; intro v2 w5 hown2 hg2 hat2)
        | (refine Ap.step rfl _ _ 47 (by rfl) w3.heap.size 49 i0 (.agg #[.string ⟨#[]⟩, .int .i64 0, .int .i64 0]) 3 32 Try.underlying47 hi hz0 hz1 hz2 rfl (by decide) v1 (0 + p) ([] ++ Tb.flatG (L.take p)) (by rfl) hown1 (.slice (some ⟨w3.heap.size, 0, none⟩) 1 1) 1 [.string s, .int .i64 x.1, .int .i64 x.2] (by rfl) (.inr ⟨_, _, rfl, World.news_of_block (cs := #[.string s, .int .i64 x.1, .int .i64 x.2]) (t := 49) (fr := (0, 0)) ((hg1.block _ (by simp) (by simp [Value.ownBlock])).trans (heap_alloc_new _ _))⟩) rfl (by simp [Value.oneCell']) hb3 hb4 (Tb.hl4 (by assumption) : Below w3.heap.size w3 _).size ?_; intro v2 w5 hown2 hg2 hat2)
        | fail)
    all_goals
      have hb5 : Below w3.heap.size w3 w5 := Tb.hl4 (by assumption)
      have HB5 := Lib.hid hb5
      have c5 := (hb5.cell (p := ⟨b, 1, none⟩) hbq).trans c1r
      have hb5l : b < w5.heap.size := Nat.lt_of_lt_of_le hbq hb5.size
      have HO := Lib.hid hown2
      clear hown1 hown2 hg1 hg2 hat1 hat2 hb5
      have hpl2 : (p : Int) ≤ (L.length : Int) := by omega
      have HLD : Hid ((Tb.flatG (L.drop p)).length = (L.length - p) * 3) := by show _ = _; rw [Tb.flatG_length, List.length_drop]
      have h1D : ∀ u ∈ Tb.flatG (L.drop p), u.oneCell' = true := Tb.flatG_one _
      have hb5' : 0 + p + 1 + (L.length - p) ≤ maxLen := by unfold maxLen; omega
      have hb6' : (0 + p + 1 + (L.length - p)) * 32 ≤ 140737488355328 := by omega
      rcases HQ.out.grow with ⟨h0, h00⟩ | ⟨g, cap, h0, _, hca⟩
      · obtain rfl : L = [] := h00
        cases h0
        obtain rfl : p = 0 := by simpa using hple
        have HSRC : Ap.Src w5 (.slice none 0 0) 0 [] := .inl ⟨rfl, rfl, rfl⟩
        have hc5' : 0 + 0 + 1 + 0 ≤ maxLen := by unfold maxLen; omega
        have hc6' : (0 + 0 + 1 + 0) * 32 ≤ 140737488355328 := by omega
        clear hb5' hb6' h1D HLD
        go_wp2_with (at_builtin; (refine Ap.list rfl _ _ 47 rfl w3.heap.size 49 i0 (.agg #[.string ⟨#[]⟩, .int .i64 0, .int .i64 0]) 3 32 Try.underlying47 hi hz0 hz1 hz2 rfl (by decide) v2 (0 + 0 + 1) _ rfl HO.out (.slice none 0 0) 0 [] rfl HSRC rfl (fun u hu => by cases hu) hc5' hc6' HB5.out.size ?_; intro v3 w6 hown3 hg3 hat3; obtain ⟨a3, c3, rfl⟩ := Tb.row_form hown3; obtain ⟨k1, k2, k3, k4, k5⟩ := Tb.RTab.fin (M := ([] : List (Tb.Nm × Tb.V)).take 0 ++ [(s.data.toList, x)] ++ ([] : List (Tb.Nm × Tb.V)).drop 0) HQ.out HB5.out HO.out hown3 hg3 rfl rfl hrise' (by simp); clear hown3 hg3 hat3))
        go_ret2
        rw [HM.out]
        have hz := hkq.size
        exact ⟨rfl, _, k3, hkq.trans k4, fun k hk => .inr (by have := k5 k hk; omega)⟩
      · cases h0
        have HSRC0 : Hid (∀ c' o, (o = p * 3 ∨ p = L.length) → Ap.Src w5 (.slice (some ⟨g, o, none⟩) (L.length - p) c') (L.length - p) (Tb.flatG (L.drop p))) := fun c' o ho => .inr ⟨_, _, rfl, fun j u hj => by
          have hadd : (⟨g, o, none⟩ : Addr).add j = ⟨g, o + j, none⟩ := by unfold Addr.add; split <;> simp_all
          rw [hadd]
          rw [Tb.flatG_drop, List.getElem?_drop] at hj
          rcases ho with rfl | rfl
          · exact (HB5.out.cell (p := ⟨g, _, none⟩) (by assumption)).trans (hca _ u hj)
          · have := (List.getElem?_eq_some_iff.1 hj).1
            rw [Tb.flatG_length] at this
            omega⟩
        have HML : Hid (0 + p + 1 + (L.length - p) = (L.take p ++ [(s.data.toList, x)] ++ L.drop p).length) := by show _ = _; simp; omega
        have HM4 : Hid ((L.take p ++ [(s.data.toList, x)] ++ L.drop p).length ≤ 4096) := by show _ ≤ _; simp; omega
        have HMX : Hid ([] ++ Tb.flatG (L.take p) ++ [.string s, .int .i64 x.1, .int .i64 x.2] ++ Tb.flatG (L.drop p) = Tb.flatG (L.take p ++ [(s.data.toList, x)] ++ L.drop p)) := by
          show _ = _
          unfold Tb.flatG
          simp [Tb.cells3]
        have HCA := Lib.hid hca
        clear hca
        by_cases hcp : c = p
        · have hpL : Hid (p = L.length) := by
            show _ = _
            have := HQ.out.row.2
            rcases this with ⟨h0, _⟩ | ⟨g', cap', cur, e1, _, _, e4, _⟩
            · cases h0
            · cases e1; omega
          have HSRC := HSRC0.out 0 0 (.inr hpL.out)
          go_wp2_with (at_builtin; (refine Ap.list rfl _ _ 47 rfl w3.heap.size 49 i0 (.agg #[.string ⟨#[]⟩, .int .i64 0, .int .i64 0]) 3 32 Try.underlying47 hi hz0 hz1 hz2 rfl (by decide) v2 (0 + p + 1) _ rfl HO.out _ (L.length - p) (Tb.flatG (L.drop p)) rfl HSRC HLD.out h1D hb5' hb6' HB5.out.size ?_; intro v3 w6 hown3 hg3 hat3; obtain ⟨a3, c3, rfl⟩ := Tb.row_form hown3; obtain ⟨k1, k2, k3, k4, k5⟩ := Tb.RTab.fin (M := L.take p ++ [(s.data.toList, x)] ++ L.drop p) HQ.out HB5.out HO.out hown3 hg3 HML.out HMX.out hrise' HM4.out; clear hown3 hg3 hat3))
          go_ret2
          rw [HM.out]
          have hz := hkq.size
          simp only [Nat.zero_add] at k3 k4 k5
          exact ⟨rfl, _, k3, hkq.trans k4, fun k hk => .inr (by have := k5 k hk; omega)⟩
        · have hcp' : ((c : Int) - (p : Int) == 0) = false := by simp; omega
          have HSRC := HSRC0.out (c - p) (p * 3) (.inl rfl)
          go_wp2_with (at_builtin; (refine Ap.list rfl _ _ 47 rfl w3.heap.size 49 i0 (.agg #[.string ⟨#[]⟩, .int .i64 0, .int .i64 0]) 3 32 Try.underlying47 hi hz0 hz1 hz2 rfl (by decide) v2 (0 + p + 1) _ rfl HO.out _ (L.length - p) (Tb.flatG (L.drop p)) rfl HSRC HLD.out h1D hb5' hb6' HB5.out.size ?_; intro v3 w6 hown3 hg3 hat3; obtain ⟨a3, c3, rfl⟩ := Tb.row_form hown3; obtain ⟨k1, k2, k3, k4, k5⟩ := Tb.RTab.fin (M := L.take p ++ [(s.data.toList, x)] ++ L.drop p) HQ.out HB5.out HO.out hown3 hg3 HML.out HMX.out hrise' HM4.out; clear hown3 hg3 hat3))
          go_ret2
          rw [HM.out]
          have hz := hkq.size
          simp only [Nat.zero_add] at k3 k4 k5
          exact ⟨rfl, _, k3, hkq.trans k4, fun k hk => .inr (by have := k5 k hk; omega)⟩
set_option maxRecDepth 100000 in
set_option maxHeartbeats 4000000 in
theorem RAssign_any {b n : Nat} {u : Value} {L : List (Tb.Nm × Tb.V)} (s : ByteArray) (v : Tb.V) (w : World) (h : Tb.RTab w b n u L) (hs : s.size ≤ 1000) :
    Calls Try.prog 34 #[.pointer (some ⟨b, 0, none⟩), .string s, .agg #[.int .i64 v.1, .int .i64 v.2]] w fun e w' =>
      e = .returned (.tuple #[.int .i64 (Tb.asr L s.data.toList).1, .int .i64 (Tb.asr L s.data.toList).2]) ∧ ∃ u', Tb.RTab w' b n u' (Tb.asL L s.data.toList v) ∧ Keep (Tb.RB b u) w w' ∧ Tb.RV w u u' := by
  obtain ⟨r, hr⟩ : ∃ r, r = Tb.asr L s.data.toList := ⟨_, rfl⟩
  obtain ⟨M, hM⟩ : ∃ M, M = Tb.asL L s.data.toList v := ⟨_, rfl⟩
  rw [← hr, ← hM]
  unfold Tb.asr at hr
  unfold Tb.asL at hM
  obtain ⟨q0, q1⟩ := Tb.pair_new w (.int .i64 v.1) (.int .i64 v.2)
  obtain ⟨wa, hwa⟩ : ∃ wa, w.alloc (.cells #[.int .i64 v.1, .int .i64 v.2] 37) = wa := ⟨_, rfl⟩
  have hba : Below w.heap.size w wa := by rw [← hwa]; exact (Below.refl _ w).alloc (Nat.le_refl _) _
  have hta := h.below hba
  have hsa : w.heap.size < wa.heap.size := by rw [← hwa]; simp
  rw [hwa] at q0 q1
  have hka : Keep (Tb.RB b u) w wa := (Keep.refl _ w).below hba
  clear h hba
  have hg := RGet_any s wa hta hs
  obtain ⟨⟨⟨x, y⟩, k, e⟩, hge⟩ : ∃ g, g = Tb.get L s.data.toList := ⟨_, rfl⟩
  rw [← hge] at hg hr hM
  have hr1 : r = if e = 0 ∧ k = 0 then Tb.defr L s.data.toList else (k, e) := hr
  have hM1 : M = if e = 0 ∧ k = 0 then Tb.defL L s.data.toList v else L := hM
  clear hr hM hge
  by_cases he : e = 0
  · by_cases hk : k = 0
    · subst he hk
      have HR : Hid (r = Tb.defr L s.data.toList) := hr1.trans (if_pos ⟨rfl, rfl⟩)
      have HM : Hid (M = Tb.defL L s.data.toList v) := hM1.trans (if_pos ⟨rfl, rfl⟩)
      clear hr1 hM1
      go_enter Try.func34, Try.ntmps34
      go_wp2_with fail
      refine hg.mono ?_
      rintro e w2 ⟨rfl, hb2⟩
      clear hg
      have hb3 : Below w2.heap.size w2 (w2.alloc (.cells #[.int .i64 x, .int .i64 y] 37)) := (Below.refl _ w2).alloc (Nat.le_refl _) _
      obtain ⟨w3, hw3⟩ : ∃ w3, w2.alloc (.cells #[.int .i64 x, .int .i64 y] 37) = w3 := ⟨_, rfl⟩
      rw [hw3] at hb3
      have hta3 := (hta.below hb2).below hb3
      have hka3 := (hka.below hb2).below hb3
      have k0 := (hb3.cell (p := ⟨w.heap.size, 0, none⟩) (Nat.lt_of_lt_of_le hsa hb2.size)).trans ((hb2.cell (p := ⟨w.heap.size, 0, none⟩) hsa).trans q0)
      have k1 := (hb3.cell (p := ⟨w.heap.size, 1, none⟩) (Nat.lt_of_lt_of_le hsa hb2.size)).trans ((hb2.cell (p := ⟨w.heap.size, 1, none⟩) hsa).trans q1)
      have hd := RDefine_any s v w3 hta3 hs
      rw [← HR.out, ← HM.out] at hd
      clear hta hta3 hb2 hb3 q0 q1 HR HM
      go_wp2_with fail
      refine hd.mono ?_
      rintro e w4 ⟨rfl, u', ht4, hk4, hv4⟩
      clear hd
      go_wp2
      go_ret2
      exact ⟨rfl, u', ht4, hka3.trans hk4, fun k hk => (hv4 k hk).imp id (fun h => Nat.le_trans hka3.size h)⟩
    · subst he
      have hk0 : (k == 0) = false := by simpa using hk
      have HR : Hid (r = (k, 0)) := hr1.trans (if_neg fun h => hk h.2)
      have HM : Hid (M = L) := hM1.trans (if_neg fun h => hk h.2)
      clear hr1 hM1
      go_enter Try.func34, Try.ntmps34
      go_wp2_with fail
      refine hg.mono ?_
      rintro e w2 ⟨rfl, hb2⟩
      clear hg
      have hb3 : Below w2.heap.size w2 (w2.alloc (.cells #[.int .i64 x, .int .i64 y] 37)) := (Below.refl _ w2).alloc (Nat.le_refl _) _
      have hta3 := (hta.below hb2).below hb3
      have hka3 := (hka.below hb2).below hb3
      clear hta hb2 hb3 q0 q1
      go_wp2
      go_ret2
      exact ⟨by rw [HR.out]; rfl, u, by rw [HM.out]; exact hta3, hka3, fun k hk => .inl hk⟩
  · have he0 : (e == 0) = false := by simpa using he
    have HR : Hid (r = (k, e)) := hr1.trans (if_neg fun h => he h.1)
    have HM : Hid (M = L) := hM1.trans (if_neg fun h => he h.1)
    clear hr1 hM1
    go_enter Try.func34, Try.ntmps34
    go_wp2_with fail
    refine hg.mono ?_
    rintro e w2 ⟨rfl, hb2⟩
    clear hg
    have hb3 : Below w2.heap.size w2 (w2.alloc (.cells #[.int .i64 x, .int .i64 y] 37)) := (Below.refl _ w2).alloc (Nat.le_refl _) _
    have hta3 := (hta.below hb2).below hb3
    have hka3 := (hka.below hb2).below hb3
    clear hta hb2 hb3 q0 q1
    go_wp2
    go_ret2
    exact ⟨by rw [HR.out]; rfl, u, by rw [HM.out]; exact hta3, hka3, fun k hk => .inl hk⟩
end Go.Proofs.Ytihfflinkmceaaa
