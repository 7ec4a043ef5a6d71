/-
  scope.Table.Clone; both tables side by side; shuttlelaw05.does and names.
-/
import Derived.Test.YtjbjgceblanhpaaDoorSpInnerP
import Derived.Test.YtjbjgceblanhpaaDoorApp
import Derived.Shelf.SlMaps.Clone
import Derived.Deep.Draws
import Derived.Deep.RegionHeld3
import Derived.Deep.DeepCutAuto
import Derived.Test.YtjbjgceblanhpaaDoorSpDoesR
import Derived.Test.YtjbjgceblanhpaaDoorSpMade
import Derived.Test.YtjbjgceblanhpaaDoorSpToldN
import Derived.Test.YtjbjgceblanhpaaDoorSpNone
import Derived.Lib.QuietBelow
namespace Go.Proofs.YtjbjgceblanhpaaDoor
open Go.RowKit Go.Maps Go.WideMaps
attribute [local go_sem] Oper.semAt_some
set_option maxRecDepth 100000 in
theorem imapClone_any {b k : Nat} {g : Int → Option Int} (w : World) (h : Sp.IMp w b k g) :
    Calls Tryd.prog 41 #[.map (some b)] w fun e w' => e = .returned (.map (some w.heap.size)) ∧ Sp.IMp w' w.heap.size k g ∧ Below w.heap.size w w' := by
  obtain ⟨D, ⟨es, clock, h1, h2⟩, h3⟩ := h
  have HP : Hid (Sp.IMp (w.alloc (.map es clock)) w.heap.size k g) := ⟨D, ⟨es, clock, World.alloc_heap_new w _, h2⟩, h3⟩
  have HB : Hid (Below w.heap.size w (w.alloc (.map es clock))) := (Below.refl _ _).alloc (Nat.le_refl _) _
  have hq := fun w => run_eql_map_nil_sl (P := Tryd.prog) w 71 _ _ (some b) Tryd.underlying71
  clear h2 h3
  go_enter Tryd.func41, Tryd.ntmps41
  go_wp2
  rw [run_callFunc_extern Tryd.func51 (by kernel_rfl) (by kernel_rfl) (by kernel_rfl) (e := Extern.MapsClone.clone) (by kernel_rfl), run_maps_clone_sl w 71 h1]
  simp only [Result.andThen]
  rw [Oper.upon_value]
  go_wp2
  rw [run_typeAssert_map_sl _ 71 _ _ _ _ Tryd.underlying71]
  simp only [Result.andThen]
  rw [Oper.upon_value]
  go_wp2
  go_ret
  exact ⟨rfl, HP.out, HB.out⟩
namespace Sp
open Dt
theorem B.Good.one {F : Nat → Prop} {w : World} {x : B} (h : Rep F w x.b.id x.vm x.vl x.vt) : ∀ u ∈ x.cells, u.oneCell' = true := by
  obtain ⟨a1, n1, q1, a2, n2, q2, a3, n3, q3, e1, e2, e3⟩ := h.forms
  intro u hu
  unfold B.cells at hu
  rw [e1, e2, e3] at hu
  simp at hu
  rcases hu with rfl | rfl | rfl | rfl | rfl | rfl | rfl | rfl | rfl | rfl <;> rfl
theorem flatB_one {F : Nat → Prop} {w : World} {xs : List B} (h : Ids F w xs) : ∀ u ∈ flatB xs, u.oneCell' = true := fun u hu => by
  unfold flatB at hu
  obtain ⟨x, hx, hu⟩ := List.mem_flatMap.1 hu
  exact B.Good.one (h x hx) u hu
def RowPost (w : World) (n : Nat) (xs : List Value) (e : Ending) (w' : World) : Prop := ∃ g' c', e = .returned (.slice (some ⟨g', 0, none⟩) n c') ∧ w'.ownsRow w.heap.size 86 10 (.slice (some ⟨g', 0, none⟩) n c') n xs ∧ Below w.heap.size w w'
end Sp
set_option maxRecDepth 100000 in
set_option maxHeartbeats 4000000 in
theorem browClone_any {F : Nat → Prop} {base g c : Nat} {xs : List Sp.B} (n : Nat) (w : World) (h : w.ownsRow base 86 10 (.slice (some ⟨g, 0, none⟩) n c) n (Sp.flatB xs)) (hI : Sp.Ids F w xs) (hn : xs.length = n) (hn1 : 1 ≤ n) (hn2 : n ≤ 16384) :
    Calls Tryd.prog 40 #[.slice (some ⟨g, 0, none⟩) n c] w (Sp.RowPost w n (Sp.flatB xs)) := by
  obtain ⟨i0, hi, hz0, hz1, hz2⟩ := info_parts Sp.infoB
  have hone := Sp.flatB_one hI
  have hfl : (Sp.flatB xs).length = n * 10 := by rw [Sp.flatB_length, hn]
  have hm1 : 0 + n ≤ maxLen := by unfold maxLen; omega
  have hm2 : (0 + n) * 152 ≤ 140737488355328 := by omega
  have hq := Lib.run_eql_slice_nil (P := Tryd.prog) w 70 86 (some ⟨g, 0, none⟩) n c 0 0 Tryd.underlying70
  obtain ⟨wA, hwA⟩ : ∃ wA, w.alloc (.cells #[] 86) = wA := ⟨_, rfl⟩
  have hb : Below w.heap.size w wA := by rw [← hwA]; exact (Below.refl _ _).alloc (Nat.le_refl _) _
  have hown : wA.ownsRow w.heap.size 86 10 (.slice (some ⟨w.heap.size, 0, none⟩) 0 0) 0 [] := by rw [← hwA]; exact World.ownsRow_made w #[] 0 (Nat.le_refl _) (by decide) (by simp)
  have hsA : Ap.Src wA (.slice (some ⟨g, 0, none⟩) n c) n (Sp.flatB xs) := .inr ⟨_, _, rfl, fun j u hu => by
    have hc := h.cells (g := g) rfl j u hu
    exact (hb.cell (World.block_lt_of_cell? w _ hc)).trans hc⟩
  have HS := Lib.hid hsA
  have HO := Lib.hid hown
  have HB := Lib.hid hb
  have HONE := Lib.hid hone
  have HFL := Lib.hid hfl
  clear hsA hown hb h hI hone hfl hn
  have hq' : (binOp .eql 70 (.slice (some ⟨g, 0, none⟩) n c) (.slice none 0 0)).run Tryd.prog w = .ok (.bool false) w := hq
  clear hq
  go_enter Tryd.func40, Tryd.ntmps40
  go_wp2_with (at_builtin; refine Ap.list rfl _ _ 70 rfl w.heap.size 86 i0 (.agg #[.int .i64 0, .int .i64 0, .int .i64 0, .string ⟨#[]⟩, .slice none 0 0, .slice none 0 0, .slice none 0 0, .string ⟨#[]⟩, .string ⟨#[]⟩, .int .i64 0]) 10 152 Tryd.underlying70 hi hz0 hz1 hz2 rfl (by decide) (.slice (some ⟨w.heap.size, 0, none⟩) 0 0) 0 [] rfl HO.out (.slice (some ⟨g, 0, none⟩) n c) n (Sp.flatB xs) rfl HS.out HFL.out HONE.out hm1 hm2 HB.out.size ?_; intro v' w3 hown hg hat; simp only [Nat.zero_add, List.nil_append] at hown; obtain ⟨m, rfl⟩ : ∃ m, n = m + 1 := ⟨n - 1, by omega⟩; obtain ⟨g', cap', rfl⟩ := ownsRow_succ hown)
  go_ret
  exact ⟨g', cap', rfl, hown, Dt.grown_below HB.out hg (Nat.le_refl _) (fun k hk => by cases hk; exact Nat.le_refl _)⟩
namespace Sp
open Dt
/-- where a call of Clone leads -/
def ClonePost (w : World) (xs : List B) (t : Tbl) (e : Ending) (w' : World) : Prop := ∃ T' vl' mb', e = .returned (.pointer (some ⟨T', 0, none⟩)) ∧ Tab w' w.heap.size T' vl' mb' xs t ∧ Below w.heap.size w w'
theorem ClonePost.of {base T mb mb' n : Nat} {vl : Value} {xs : List B} {t : Tbl} {w w9 : World} {g' c' : Nat} (h : Tab w base T vl mb xs t) (h9 : Below w.heap.size w w9) (ho : w9.ownsRow w.heap.size 86 10 (.slice (some ⟨g', 0, none⟩) n c') n (flatB xs)) (hn : n = xs.length) (hm : IMp w9 mb' t.m.length (markAt t.m)) (hmb : w.heap.size ≤ mb') (hne : g' ≠ mb') :
    ClonePost w xs t (.returned (.pointer (some ⟨w9.heap.size, 0, none⟩))) (w9.alloc (.cells #[.slice (some ⟨g', 0, none⟩) n c', .map (some mb')] 73)) := by
  have d := two_new w9 (.slice (some ⟨g', 0, none⟩) n c') (.map (some mb')) 73
  have f := frz_new w9 #[.slice (some ⟨g', 0, none⟩) n c', .map (some mb')] 73
  have hb : Below w9.heap.size w9 (w9.alloc (.cells #[.slice (some ⟨g', 0, none⟩) n c', .map (some mb')] 73)) := (Below.refl _ _).alloc (Nat.le_refl _) _
  have hg := own_lt ho g' rfl
  subst hn
  have hml := hm.lt
  refine ⟨w9.heap.size, .slice (some ⟨g', 0, none⟩) xs.length c', mb', rfl, ⟨d.1, d.2, f, own_below ho hb, h.xb, hm.heap (hb.block _ hml), h9.size, hmb, by omega, ?_, ?_, h.ok⟩, h9.trans (hb.mono h9.size)⟩
  · intro e; have e2 : some g' = some w9.heap.size := e; have := Option.some.inj e2; omega
  · intro e; have e2 : some g' = some mb' := e; exact hne (Option.some.inj e2)
theorem own_base {w : World} {base base' size n g c : Nat} {e : TypeId} {xs : List Value} (h : w.ownsRow base e size (.slice (some ⟨g, 0, none⟩) n c) n xs) (hb : base' ≤ g) : w.ownsRow base' e size (.slice (some ⟨g, 0, none⟩) n c) n xs := by
  obtain ⟨h0, h1⟩ := h
  refine ⟨h0, ?_⟩
  rcases h1 with ⟨h1, _⟩ | ⟨g', cap, cur, e1, e2, e3⟩
  · cases h1
  · have : g = g' := by cases e1; rfl
    subst this
    exact .inr ⟨g, cap, cur, e1, hb, e3⟩
end Sp
set_option maxRecDepth 100000 in
set_option maxHeartbeats 8000000 in
theorem spClone_any {F : Nat → Prop} {base T mb : Nat} {vl : Value} {xs : List Sp.B} {t : Sp.Tbl} (w : World) (h : Sp.Tab w base T vl mb xs t) (hI : Sp.Ids F w xs) :
    Calls Tryd.prog 25 #[.pointer (some ⟨T, 0, none⟩)] w (Sp.ClonePost w xs t) := by
  have hn := spNone_yes w h
  have hl := h.len
  have hlp := h.ok.pos
  have hls := h.ok.small.1
  obtain ⟨g, c, rfl, -⟩ := h.at
  have H := Lib.hid h
  have HII := Lib.hid hI
  have HTC : Hid (∀ W, Below w.heap.size w W → W.cell? ⟨T, 0, none⟩ = some (.slice (some ⟨g, 0, none⟩) t.l.length c) ∧ W.cell? ⟨T, 1, none⟩ = some (.map (some mb))) := fun W hb => ⟨(h.below hb).c0, (h.below hb).c1⟩
  have HCR : Hid (∀ W, Below w.heap.size w W → Calls Tryd.prog 40 #[.slice (some ⟨g, 0, none⟩) t.l.length c] W (Sp.RowPost W t.l.length (Sp.flatB xs))) := fun W hb => by
    have h9 := (h.below hb).row
    rw [hl] at h9
    exact browClone_any t.l.length W h9 (hI.keep (S := fun _ => False) ((Keep.refl _ w).below hb) (fun _ _ _ h => h)) hl (by omega) (by omega)
  have HCM : Hid (∀ W, Below w.heap.size w W → Calls Tryd.prog 41 #[.map (some mb)] W fun e w' => e = .returned (.map (some W.heap.size)) ∧ Sp.IMp w' W.heap.size t.m.length (Sp.markAt t.m) ∧ Below W.heap.size W w') := fun W hb => imapClone_any W (h.below hb).mp
  have HBD : Hid (Below w.heap.size w w.drew) := (Below.refl _ _).drew
  have HL := Lib.hid hl
  clear h hI hl
  go_enter Tryd.func25, Tryd.ntmps25
  go_upto_region 3 with (go_at_call 34; refine hn.mono ?_; clear hn; rintro e w1 ⟨rfl, rfl⟩)
  refine wp_region_noPanic ?_
  refine wp_region_held_drew (S := fun W => W.cell? ⟨T, 0, none⟩ = some (.slice (some ⟨g, 0, none⟩) t.l.length c) ∧ W.cell? ⟨T, 1, none⟩ = some (.map (some mb))) (by kernel_rfl) (HTC.out _ HBD.out) (fun hHeld => ?_)
  refine wpAnyH_take (i := 0) (oi := ⟨_, _, _, _, _, _⟩) (v := ?_) rfl (by kernel_rfl) (by kernel_rfl) (by kernel_rfl) (fun _ _ _ h => h) (Or.inl ⟨by rfl, ?_⟩) (by assumption) ?_
  rotate_left
  · intro w hSw
    try dsimp only at hSw
    go_simp
    try with_reducible rfl
  simp only [Act.put, List.setIfInBounds_toArray, List.set_cons_zero, List.set_cons_succ]
  refine wpAnyH_take (i := 1) (oi := ⟨_, _, _, _, _, _⟩) (v := ?_) rfl (by kernel_rfl) (by kernel_rfl) (by kernel_rfl) (fun _ _ _ h => h) (Or.inl ⟨by rfl, ?_⟩) (by assumption) ?_
  rotate_left
  · intro w hSw
    try dsimp only at hSw
    go_simp
    try with_reducible rfl
  simp only [Act.put, List.setIfInBounds_toArray, List.set_cons_zero, List.set_cons_succ]
  refine wpAnyH_take (i := 2) (oi := ⟨_, _, _, _, _, _⟩) (v := ?_) rfl (by kernel_rfl) (by kernel_rfl) (by kernel_rfl) (fun _ _ _ h => h) (Or.inl ⟨by rfl, ?_⟩) (by assumption) ?_
  rotate_left
  · intro w hSw
    try dsimp only at hSw
    go_simp
    try with_reducible rfl
  simp only [Act.put, List.setIfInBounds_toArray, List.set_cons_zero, List.set_cons_succ]
  refine wpAnyH_take (i := 3) (oi := ⟨_, _, _, _, _, _⟩) (v := ?_) rfl (by kernel_rfl) (by kernel_rfl) (by kernel_rfl) (fun _ _ _ h => h) (Or.inl ⟨by rfl, ?_⟩) (by assumption) ?_
  rotate_left
  · intro w hSw
    obtain ⟨g0, g1⟩ := hSw
    go_simp
    try with_reducible rfl
  simp only [Act.put, List.setIfInBounds_toArray, List.set_cons_zero, List.set_cons_succ]
  refine wpAnyH_take (i := 5) (oi := ⟨_, _, _, _, _, _⟩) (v := ?_) rfl (by kernel_rfl) (by kernel_rfl) (by kernel_rfl) (fun _ _ _ h => h) (Or.inl ⟨by rfl, ?_⟩) (by assumption) ?_
  rotate_left
  · intro w hSw
    try dsimp only at hSw
    go_simp
    try with_reducible rfl
  simp only [Act.put, List.setIfInBounds_toArray, List.set_cons_zero, List.set_cons_succ]
  refine wpAnyH_take (i := 6) (oi := ⟨_, _, _, _, _, _⟩) (v := ?_) rfl (by kernel_rfl) (by kernel_rfl) (by kernel_rfl) (fun _ _ _ h => h) (Or.inl ⟨by rfl, ?_⟩) (by assumption) ?_
  rotate_left
  · intro w hSw
    try dsimp only at hSw
    go_simp
    try with_reducible rfl
  simp only [Act.put, List.setIfInBounds_toArray, List.set_cons_zero, List.set_cons_succ]
  refine wpAnyH_take (i := 7) (oi := ⟨_, _, _, _, _, _⟩) (v := ?_) rfl (by kernel_rfl) (by kernel_rfl) (by kernel_rfl) (fun _ _ _ h => h) (Or.inl ⟨by rfl, ?_⟩) (by assumption) ?_
  rotate_left
  · intro w hSw
    try dsimp only at hSw
    go_simp
    try with_reducible rfl
  simp only [Act.put, List.setIfInBounds_toArray, List.set_cons_zero, List.set_cons_succ]
  refine wpAnyH_take (i := 8) (oi := ⟨_, _, _, _, _, _⟩) (v := ?_) rfl (by kernel_rfl) (by kernel_rfl) (by kernel_rfl) (fun _ _ _ h => h) (Or.inl ⟨by rfl, ?_⟩) (by assumption) ?_
  rotate_left
  · intro w hSw
    obtain ⟨g0, g1⟩ := hSw
    go_simp
    try with_reducible rfl
  simp only [Act.put, List.setIfInBounds_toArray, List.set_cons_zero, List.set_cons_succ]
  refine wpAnyH_ready (rs := [4]) (by kernel_rfl) (by simp) ?_
  refine AllReadyH.cons (o := ⟨_, _, _, _, _, _⟩) rfl (fun K hK => ?_) AllReadyH.nil
  go_simp
  refine (HCR.out _ HBD.out).mono ?_
  rintro e w8 ⟨g', c', rfl, hown, hbb⟩
  have HO := Lib.hid hown
  have HB8 : Hid (Below w.heap.size w w8) := (HBD.out).trans (hbb.mono (HBD.out).size)
  have HBL := Lib.hid hbb
  clear hown hbb
  dsimp only
  refine hK.out _ _ ?_ (fun hHeld => ?_)
  · exact HTC.out _ HB8.out
  clear hK K
  try simp only [Act.put, List.setIfInBounds_toArray, List.set_cons_zero, List.set_cons_succ]
  refine wpAnyH_ready (rs := [9]) (by kernel_rfl) (by simp) ?_
  refine AllReadyH.cons (o := ⟨_, _, _, _, _, _⟩) rfl (fun K hK => ?_) AllReadyH.nil
  go_simp
  refine (HCM.out _ HB8.out).mono ?_
  rintro e w9 ⟨rfl, hmp, hbb⟩
  have HM := Lib.hid hmp
  have HB9 : Hid (Below w.heap.size w w9) := (HB8.out).trans (hbb.mono (HB8.out).size)
  have HBL2 := Lib.hid hbb
  clear hmp hbb
  dsimp only
  refine hK.out _ _ ?_ (fun hHeld => ?_)
  · exact HTC.out _ HB9.out
  clear hK K
  try simp only [Act.put, List.setIfInBounds_toArray, List.set_cons_zero, List.set_cons_succ]
  refine wpAnyH_take (i := 10) (oi := ⟨_, _, _, _, _, _⟩) (v := ?_) rfl (by kernel_rfl) (by kernel_rfl) (by kernel_rfl) (fun _ _ _ h => h) (Or.inl ⟨by rfl, ?_⟩) (by assumption) ?_
  rotate_left
  · intro w hSw
    try dsimp only at hSw
    go_simp
    try with_reducible rfl
  simp only [Act.put, List.setIfInBounds_toArray, List.set_cons_zero, List.set_cons_succ]
  refine wpAnyH_ready (rs := [11]) (by kernel_rfl) (by simp) ?_
  refine AllReadyH.cons (o := ⟨_, _, _, _, _, _⟩) rfl (fun K hK => ?_) AllReadyH.nil
  go_simp
  refine hK.out _ _ ?_ (fun hHeld => ?_)
  · exact HTC.out _ (HB9.out.trans (((Below.refl _ w9).alloc (Nat.le_refl _) _).mono HB9.out.size))
  clear hK K
  try simp only [Act.put, List.setIfInBounds_toArray, List.set_cons_zero, List.set_cons_succ]
  refine wpAnyH_take (i := 12) (oi := ⟨_, _, _, _, _, _⟩) (v := ?_) rfl (by kernel_rfl) (by kernel_rfl) (by kernel_rfl) (fun _ _ _ h => h) (Or.inl ⟨by rfl, ?_⟩) (by assumption) ?_
  rotate_left
  · intro w hSw
    try dsimp only at hSw
    go_simp
    try with_reducible rfl
  simp only [Act.put, List.setIfInBounds_toArray, List.set_cons_zero, List.set_cons_succ]
  refine wpAnyH_done (by kernel_rfl) ?_ _
  refine NoPanic.normal ?_
  go_wp2_with fail
  go_ret
  exact Sp.ClonePost.of H.out HB9.out (Sp.own_base (Dt.own_below HO.out HBL2.out) (Dt.own_lt HO.out g' rfl).1) HL.out.symm HM.out HB8.out.size (by have := (Dt.own_lt HO.out g' rfl).2; omega)
end Go.Proofs.YtjbjgceblanhpaaDoor
namespace Go.Proofs.YtjbjgceblanhpaaDoor
open Go.RowKit
namespace Sp
open Dt
/-- where names may lie -/
def Nm (n T : Nat) (vl : Value) (mb R : Nat) (v1 v2 : Value) (k : Nat) : Prop := n ≤ k ∧ ¬ Mut T vl mb k ∧ ¬ RMut R v1 v2 k
structure St (n : Nat) (w : World) (T : Nat) (vl : Value) (mb : Nat) (xs : List B) (t : Tbl) (R : Nat) (v1 v2 : Value) (ys : List RS) (u : Tbl) : Prop where
  tab : Tab w n T vl mb xs t
  rt : RTb w n R v1 v2 ys u
  ids : Ids (Nm n T vl mb R v1 v2) w xs
  rids : RIds (Nm n T vl mb R v1 v2) w ys
  ap : ∀ k, Mut T vl mb k → ¬ RMut R v1 v2 k
  hn : n ≤ w.heap.size
variable {n : Nat} {w w' : World} {T : Nat} {vl : Value} {mb : Nat} {xs : List B} {t t' : Tbl} {R : Nat} {v1 v2 : Value} {ys : List RS} {u u' : Tbl}
/-- what may be changed of both -/
def Both (T : Nat) (vl : Value) (mb R : Nat) (v1 v2 : Value) (k : Nat) : Prop := Mut T vl mb k ∨ RMut R v1 v2 k
theorem St.ti (h : St n w T vl mb xs t R v1 v2 ys u) : TI w n T vl mb xs t := ⟨h.tab, h.ids.mono fun _ hk _ => ⟨hk.1, hk.2.1⟩⟩
theorem Tab.mutge (h : Tab w n T vl mb xs t) : ∀ k, Mut T vl mb k → n ≤ k ∧ k < w.heap.size := by
  rintro k (e | e | e)
  · rw [e]; exact ⟨h.bT, h.lt⟩
  · exact own_lt h.row k e
  · rw [e]; exact ⟨h.bm, h.mp.lt⟩
theorem St.bothge (h : St n w T vl mb xs t R v1 v2 ys u) : ∀ k, Both T vl mb R v1 v2 k → n ≤ k ∧ k < w.heap.size := by
  rintro k (e | e)
  · exact h.tab.mutge k e
  · exact ⟨h.rt.mutge k e, h.rt.mutlt k e⟩
theorem St.below (h : St n w T vl mb xs t R v1 v2 ys u) (hb : Below w.heap.size w w') : St n w' T vl mb xs t R v1 v2 ys u :=
  ⟨h.tab.below hb, h.rt.below hb, h.ids.keep (S := fun _ => False) ((Keep.refl _ w).below hb) (fun _ _ _ h => h), h.rids.below hb, h.ap, Nat.le_trans h.hn hb.size⟩
theorem St.ext (h : St n w T vl mb xs t R v1 v2 ys u) (hp : ExtPost n T mb vl xs t' w w') : ∃ vl' xs', St n w' T vl' mb xs' t' R v1 v2 ys u ∧ Keep (Mut T vl mb) w w' ∧ RV w vl vl' := by
  obtain ⟨vl', xs', h1, h2, h3, h4⟩ := hp
  have hrl := h.rt.mutlt
  have hN : ∀ k, Nm n T vl mb R v1 v2 k → k < w.heap.size → Nm n T vl' mb R v1 v2 k := fun k hk hl => ⟨hk.1, fun e => by
    rcases e with e | e | e
    · exact hk.2.1 (.inl e)
    · rcases h3 k e with e' | e'
      · exact hk.2.1 (.inr (.inl e'))
      · omega
    · exact hk.2.1 (.inr (.inr e)), hk.2.2⟩
  have hi : Ids (fun k => Nm n T vl mb R v1 v2 k ∧ k < w.heap.size) w xs := h.ids.mono (fun k hk hl => ⟨hk, hl⟩)
  have hi' : Ids (Nm n T vl' mb R v1 v2) w' xs := (hi.keep h2 (fun k hk _ => hk.1.2.1)).mono (fun k hk _ => hN k hk.1 hk.2)
  have hr : RIds (fun k => Nm n T vl mb R v1 v2 k ∧ k < w.heap.size) w ys := h.rids.mono (fun k hk hl => ⟨hk, hl⟩)
  have hr' : RIds (Nm n T vl' mb R v1 v2) w' ys := (hr.keep h2 (fun k hk _ => hk.1.2.1)).mono (fun k hk _ => hN k hk.1 hk.2)
  refine ⟨vl', xs', ⟨h1, h.rt.keep h2 (fun k hk e => h.ap k e hk), ?_, hr', fun k hk e => ?_, Nat.le_trans h.hn h2.size⟩, h2, h3⟩
  · rcases h4 with rfl | ⟨b, rfl, hb⟩
    · exact hi'
    · intro x hx
      rcases List.mem_append.1 hx with hx | hx
      · exact hi' x hx
      · rw [List.mem_singleton.1 hx]
        have hnn := h.hn
        refine Rep.mono (fun k hk _ => ⟨by omega, fun e => ?_, fun e => by have := hrl k e; omega⟩) _ hb
        rcases e with e | e | e
        · have := h.tab.lt; omega
        · exact hk.2 e
        · have := h.tab.mp.lt; omega
  · rcases hk with hk | hk | hk
    · exact h.ap k (.inl hk) e
    · rcases h3 k hk with e' | e'
      · exact h.ap k (.inr (.inl e')) e
      · have := hrl k e; omega
    · exact h.ap k (.inr (.inr hk)) e
theorem St.mark (h : St n w T vl mb xs t R v1 v2 ys u) (h1 : Tab w' n T vl mb xs t') (h2 : Keep (fun k => k = mb) w w') : St n w' T vl mb xs t' R v1 v2 ys u :=
  ⟨h1, h.rt.keep h2 (fun k hk e => h.ap k (.inr (.inr e)) hk), h.ids.keep h2 (fun _ hk _ e => hk.2.1 (.inr (.inr e))), h.rids.keep h2 (fun _ hk _ e => hk.2.1 (.inr (.inr e))), h.ap, Nat.le_trans h.hn h2.size⟩
theorem St.rmark (h : St n w T vl mb xs t R v1 v2 ys u) (hp : RMarkPost n R v1 v2 ys u' w w') : ∃ v2', St n w' T vl mb xs t R v1 v2' ys u' ∧ Keep (RMut R v1 v2) w w' := by
  obtain ⟨v2', h1, h2, h3⟩ := hp
  have hml := fun k hk => (h.tab.mutge k hk).2
  have hN : ∀ k, Nm n T vl mb R v1 v2 k → k < w.heap.size → Nm n T vl mb R v1 v2' k := fun k hk hl => ⟨hk.1, hk.2.1, fun e => by
    rcases e with e | e | e
    · exact hk.2.2 (.inl e)
    · exact hk.2.2 (.inr (.inl e))
    · rcases h3 k e with e' | e'
      · exact hk.2.2 (.inr (.inr e'))
      · omega⟩
  have hi : Ids (fun k => Nm n T vl mb R v1 v2 k ∧ k < w.heap.size) w xs := h.ids.mono (fun k hk hl => ⟨hk, hl⟩)
  have hr : RIds (fun k => Nm n T vl mb R v1 v2 k ∧ k < w.heap.size) w ys := h.rids.mono (fun k hk hl => ⟨hk, hl⟩)
  refine ⟨v2', ⟨h.tab.keep h2 (fun k hk e => h.ap k hk e), h1, (hi.keep h2 (fun k hk _ => hk.1.2.2)).mono (fun k hk _ => hN k hk.1 hk.2), (hr.keep h2 (fun k hk _ => hk.1.2.2)).mono (fun k hk _ => hN k hk.1 hk.2), fun k hk e => ?_, Nat.le_trans h.hn h2.size⟩, h2⟩
  rcases e with e | e | e
  · exact h.ap k hk (.inl e)
  · exact h.ap k hk (.inr (.inl e))
  · rcases h3 k e with e' | e'
    · exact h.ap k hk (.inr (.inr e'))
    · have := hml k hk; omega
theorem St.rext (h : St n w T vl mb xs t R v1 v2 ys u) (hp : RExtPost n R v1 v2 ys u' w w') : ∃ v1' ys', St n w' T vl mb xs t R v1' v2 ys' u' ∧ Keep (RMut R v1 v2) w w' := by
  obtain ⟨v1', ys', h1, h2, h3, h4⟩ := hp
  have hml := fun k hk => (h.tab.mutge k hk).2
  have hN : ∀ k, Nm n T vl mb R v1 v2 k → k < w.heap.size → Nm n T vl mb R v1' v2 k := fun k hk hl => ⟨hk.1, hk.2.1, fun e => by
    rcases e with e | e | e
    · exact hk.2.2 (.inl e)
    · rcases h3 k e with e' | e'
      · exact hk.2.2 (.inr (.inl e'))
      · omega
    · exact hk.2.2 (.inr (.inr e))⟩
  have hi : Ids (fun k => Nm n T vl mb R v1 v2 k ∧ k < w.heap.size) w xs := h.ids.mono (fun k hk hl => ⟨hk, hl⟩)
  have hr : RIds (fun k => Nm n T vl mb R v1 v2 k ∧ k < w.heap.size) w ys := h.rids.mono (fun k hk hl => ⟨hk, hl⟩)
  have hr' : RIds (Nm n T vl mb R v1' v2) w' ys := (hr.keep h2 (fun k hk _ => hk.1.2.2)).mono (fun k hk _ => hN k hk.1 hk.2)
  refine ⟨v1', ys', ⟨h.tab.keep h2 (fun k hk e => h.ap k hk e), h1, (hi.keep h2 (fun k hk _ => hk.1.2.2)).mono (fun k hk _ => hN k hk.1 hk.2), ?_, fun k hk e => ?_, Nat.le_trans h.hn h2.size⟩, h2⟩
  · rcases h4 with rfl | ⟨b, rfl, hb⟩
    · exact hr'
    · intro x hx
      rcases List.mem_append.1 hx with hx | hx
      · exact hr' x hx
      · rw [List.mem_singleton.1 hx]
        have hnn := h.hn
        refine Rep.mono (fun k hk _ => ⟨by omega, fun e => by have := hml k e; omega, fun e => ?_⟩) _ hb
        rcases e with e | e | e
        · have := h.rt.lt; omega
        · exact hk.2 e
        · have := h.rt.mutlt k (.inr (.inr e)); omega
  · rcases e with e | e | e
    · exact h.ap k hk (.inl e)
    · rcases h3 k e with e' | e'
      · exact h.ap k hk (.inr (.inl e'))
      · have := hml k hk; omega
    · exact h.ap k hk (.inr (.inr e))
/-- the clone takes the table's place; what is done with the old one meanwhile -/
theorem St.clone {w1 w3 : World} {T2 mb2 : Nat} {vl2 : Value} (h : St n w T vl mb xs t R v1 v2 ys u) (hb : Below w.heap.size w w1) (h2 : Tab w1 w.heap.size T2 vl2 mb2 xs t) (hk : Keep (Mut T vl mb) w1 w3) : St n w3 T2 vl2 mb2 xs t R v1 v2 ys u := by
  have hml := fun k hk => (h.tab.mutge k hk).2
  have h2l := h2.mutge
  have hrl := h.rt.mutlt
  have hnn := h.hn
  have hN : ∀ k, Nm n T vl mb R v1 v2 k → k < w.heap.size → Nm n T2 vl2 mb2 R v1 v2 k := fun k hk hl => ⟨hk.1, fun e => by have := (h2l k e).1; omega, hk.2.2⟩
  have h1 := h.below hb
  have hi : Ids (fun k => Nm n T vl mb R v1 v2 k ∧ k < w.heap.size) w1 xs := (h.ids.mono (fun k hk hl => ⟨hk, hl⟩)).keep (S := fun _ => False) ((Keep.refl _ w).below hb) (fun _ _ _ h => h)
  have hr : RIds (fun k => Nm n T vl mb R v1 v2 k ∧ k < w.heap.size) w1 ys := (h.rids.mono (fun k hk hl => ⟨hk, hl⟩)).below hb
  have ht2 := h2.keep hk (fun k e e2 => by have := (h2l k e).1; have := hml k e2; omega)
  refine ⟨⟨ht2.c0, ht2.c1, ht2.fz, ?_, ht2.xb, ht2.mp, by have := ht2.bT; omega, by have := ht2.bm; omega, ht2.nT, ht2.nr, ht2.nm, ht2.ok⟩, h1.rt.keep hk (fun k e e2 => h.ap k e2 e), (hi.keep hk (fun k e _ => e.1.2.1)).mono (fun k e _ => hN k e.1 e.2), (hr.keep hk (fun k e _ => e.1.2.1)).mono (fun k e _ => hN k e.1 e.2), fun k e e2 => by have := (h2l k e).1; have := hrl k e2; omega, Nat.le_trans hnn (Nat.le_trans hb.size hk.size)⟩
  obtain ⟨h0, h9⟩ := ht2.row
  refine ⟨h0, ?_⟩
  rcases h9 with h9 | ⟨g, cap, cur, e1, e2, e3⟩
  · exact .inl h9
  · exact .inr ⟨g, cap, cur, e1, Nat.le_trans hnn e2, e3⟩
/-- at the beginning -/
theorem St.new {w1 w2 : World} (h : Tab w1 w.heap.size T vl mb [B0] Tbl.new) (hb : Below w.heap.size w w1) (h2 : RTb w2 w1.heap.size R v1 v2 [R0] Tbl.new) (hi : RIds (fun _ => False) w2 [R0]) (hb2 : Below w1.heap.size w1 w2) : St w.heap.size w2 T vl mb [B0] Tbl.new R v1 v2 [R0] Tbl.new := by
  have hs := hb.size
  have hm := h.mutge
  have hr := h2.mutge
  refine ⟨h.below hb2, ⟨h2.c0, h2.c1, h2.fz, ?_, ?_, h2.yb, by have := h2.bR; omega, h2.n1, h2.n2, h2.n12, h2.ok⟩, fun x hx => by rw [List.mem_singleton.1 hx]; exact rep_zero _ _, hi.mono (fun _ h _ => h.elim), fun k e e2 => by have := (hm k e).2; have := hr k e2; omega, Nat.le_trans hs hb2.size⟩
  · obtain ⟨h0, h9⟩ := h2.row
    exact ⟨h0, h9.imp id fun ⟨g, cap, cur, e1, e2, e3⟩ => ⟨g, cap, cur, e1, Nat.le_trans hs e2, e3⟩⟩
  · obtain ⟨h0, h9⟩ := h2.row2
    exact ⟨h0, h9.imp id fun ⟨g, cap, cur, e1, e2, e3⟩ => ⟨g, cap, cur, e1, Nat.le_trans hs e2, e3⟩⟩
end Sp
end Go.Proofs.YtjbjgceblanhpaaDoor
namespace Go.Proofs.YtjbjgceblanhpaaDoor
open Go.RowKit
attribute [local go_sem] Oper.semAt_some
namespace Sp
open Dt
/-- where an act with both leads -/
def DoesPost (n T mb R : Nat) (t : Tbl) (w0 : World) (vl v1 v2 : Value) (w : World) (e : Ending) (w' : World) : Prop := e = .returned (.bool true) ∧ (∃ vl xs v1 v2 ys, St n w' T vl mb xs t R v1 v2 ys t) ∧ Below n w0 w' ∧ Keep (Both T vl mb R v1 v2) w w'
/-- an act's box -/
def OBox (W : World) (X : Nat) (x : O) (vm vL vt um uL ut : Value) : Prop := ∀ i v, #[Value.int .i64 x.d, .int .i64 x.s, .int .i64 x.t, .int .i64 x.id.k, .int .i64 x.id.n, .string x.id.s, vm, vL, vt, .int .i64 x.nd.k, .int .i64 x.nd.n, .string x.nd.s, um, uL, ut, .int .i64 x.n][i]? = some v → W.cell? ⟨X, i, none⟩ = some v
theorem OBox.keep {S : Nat → Prop} {W W' : World} {X : Nat} {x : O} {vm vL vt um uL ut : Value} (h : OBox W X x vm vL vt um uL ut) (hk : Keep S W W') (hS : ¬ S X) : OBox W' X x vm vL vt um uL ut := fun i v hv => (hk.cell i (block_lt_of_cell (h 0 _ rfl)) hS).trans (h i v hv)
theorem OBox.below {W W' : World} {X : Nat} {x : O} {vm vL vt um uL ut : Value} (h : OBox W X x vm vL vt um uL ut) (hb : Below W.heap.size W W') : OBox W' X x vm vL vt um uL ut := h.keep (S := fun _ => False) ((Keep.refl _ W).below hb) (fun h => h)
theorem OBox.mk' {w w1 : World} {x : O} {vm vL vt um uL ut : Value} {t : TypeId} (h : w.alloc (.cells #[Value.int .i64 x.d, .int .i64 x.s, .int .i64 x.t, .int .i64 x.id.k, .int .i64 x.id.n, .string x.id.s, vm, vL, vt, .int .i64 x.nd.k, .int .i64 x.nd.n, .string x.nd.s, um, uL, ut, .int .i64 x.n] t) = w1) : OBox w1 w.heap.size x vm vL vt um uL ut := fun i v hv => by
  rw [← h]
  unfold World.cell?
  rw [World.alloc_heap_new]
  exact hv
end Sp
set_option maxRecDepth 100000 in
set_option maxHeartbeats 16000000 in
theorem spDoes_any {T mb R : Nat} {vl v1 v2 : Value} {xs : List Sp.B} {ys : List Sp.RS} {t : Sp.Tbl} {F : Nat → Prop} (x : Sp.O) (vm vL vt um uL ut : Value) (w0 w : World) (h : Sp.St w0.heap.size w T vl mb xs t R v1 v2 ys t) (hb : Below w0.heap.size w0 w) (hW1 : Dt.Wf x.id) (hW2 : Dt.Wf x.nd) (hR1 : Dt.Rep F w0 x.id vm vL vt) (hR2 : Dt.Rep F w0 x.nd um uL ut) (hT : Sp.T10 w0) :
    Calls Tryd.prog 23 #[.pointer (some ⟨T, 0, none⟩), .pointer (some ⟨R, 0, none⟩), .agg #[.int .i64 x.d, .int .i64 x.s, .int .i64 x.t, .int .i64 x.id.k, .int .i64 x.id.n, .string x.id.s, vm, vL, vt, .int .i64 x.nd.k, .int .i64 x.nd.n, .string x.nd.s, um, uL, ut, .int .i64 x.n]] w (Sp.DoesPost w0.heap.size T mb R (Sp.step t x) w0 vl v1 v2 w) := by
  obtain ⟨a1, n1, q1, a2, n2, q2, a3, n3, q3, rfl, rfl, rfl⟩ := hR1.forms
  obtain ⟨c1, m1, r1, c2, m2, r2, c3, m3, r3, rfl, rfl, rfl⟩ := hR2.forms
  obtain ⟨w1, hw1⟩ : ∃ w1, w.alloc (.cells #[.int .i64 x.d, .int .i64 x.s, .int .i64 x.t, .int .i64 x.id.k, .int .i64 x.id.n, .string x.id.s, .slice a1 n1 q1, .slice a2 n2 q2, .slice a3 n3 q3, .int .i64 x.nd.k, .int .i64 x.nd.n, .string x.nd.s, .slice c1 m1 r1, .slice c2 m2 r2, .slice c3 m3 r3, .int .i64 x.n] 30) = w1 := ⟨_, rfl⟩
  have hN1 := Sp.below_new (Below.refl _ w) hw1 (Nat.le_refl _)
  have HOB := Lib.hid (Sp.OBox.mk' hw1)
  have HB1 := Lib.hid (hb.trans (hN1.1.mono hb.size))
  have HK1 : Hid (Keep (Sp.Both T vl mb R v1 v2) w w1) := (Keep.refl _ w).below hN1.1
  have HST := Lib.hid (h.below hN1.1)
  have HX : Hid (∀ k, Sp.Both T vl mb R v1 v2 k → k ≠ w.heap.size) := fun k hk e => by have := (h.bothge k hk).2; omega
  have HW1 := Lib.hid hW1
  have HW2 := Lib.hid hW2
  have HR1 := Lib.hid hR1
  have HR2 := Lib.hid hR2
  have HT := Lib.hid hT
  obtain ⟨X, hX⟩ : ∃ X, X = w.heap.size := ⟨_, rfl⟩
  rw [← hX] at HOB HX
  clear h hb hW1 hW2 hR1 hR2 hT hN1
  have l0 := HOB.out 0 _ rfl
  have l1 := HOB.out 1 _ rfl
  have l3 := HOB.out 3 _ rfl
  have l4 := HOB.out 4 _ rfl
  have l5 := HOB.out 5 _ rfl
  have l6 := HOB.out 6 _ rfl
  have l7 := HOB.out 7 _ rfl
  have l8 := HOB.out 8 _ rfl
  have l15 := HOB.out 15 _ rfl
  have HXX := Lib.hid hX
  clear hX
  rw [HXX.out] at l0 l1 l3 l4 l5 l6 l7 l8 l15
  by_cases h0 : x.d = 0
  · have h0' : (x.d == 0) = true := beq_iff_eq.2 h0
    obtain ⟨⟨t', e1, e2⟩, hre⟩ : ∃ r, r = Sp.extend t x.s x.id x.n := ⟨_, rfl⟩
    have hex := spExtend_any x.s x.id _ _ _ x.n w1 HST.out.tab HST.out.hn HW1.out (HR1.out.below HB1.out) (HT.out.on HB1.out)
    rw [← hre] at hex
    have HRE := Lib.hid hre
    have HS : Hid (Sp.step t x = t') := by show _ = _; unfold Sp.step; rw [if_pos h0, ← hre]
    clear h0 hre
    go_enter Tryd.func23, Tryd.ntmps23
    go_wp2_with (go_at_call 12; refine hex.mono ?_; clear hex hw1; rintro e w2 ⟨rfl, hpo⟩; obtain ⟨vl', xs', hst2, hk2, hv2⟩ := HST.out.ext hpo; have HS2 := Lib.hid hst2; have HO2 := Lib.hid (HOB.out.keep hk2 (fun e => HX.out X (.inl e) rfl)); have HB2 := Lib.hid (HB1.out.trans (hk2.to_below (fun k e => (HST.out.bothge k (.inl e)).1) HST.out.hn)); have HK2 := Lib.hid (HK1.out.trans (hk2.mono (fun k _ e => .inl e))); clear hpo hst2 hk2 hv2 l0 l1 l3 l4 l5 l6 l7 l8 l15; refine Hid.out ?_)
    refine Lib.hid ?_
    have l1 := HO2.out 1 _ rfl
    have l3 := HO2.out 3 _ rfl
    have l4 := HO2.out 4 _ rfl
    have l5 := HO2.out 5 _ rfl
    have l6 := HO2.out 6 _ rfl
    have l7 := HO2.out 7 _ rfl
    have l8 := HO2.out 8 _ rfl
    have l15 := HO2.out 15 _ rfl
    rw [HXX.out] at l1 l3 l4 l5 l6 l7 l8 l15
    have hrx := rExtend_any x.s x.id _ _ _ x.n w2 HS2.out.rt HS2.out.hn HW1.out (HR1.out.below HB2.out)
    rw [← HRE.out] at hrx
    go_wp2_with (go_at_call 35; refine hrx.mono ?_; clear hrx; rintro e w3 ⟨rfl, hpo⟩; obtain ⟨v1', ys', hst3, hk3⟩ := HS2.out.rext hpo; have HS3 := Lib.hid hst3; have HB3 := Lib.hid (HB2.out.trans (hk3.to_below (fun k e => (HS2.out.bothge k (.inr e)).1) HS2.out.hn)); have HK3 := Lib.hid (HK2.out.trans (hk3.mono (fun k _ e => .inr e))); clear hpo hst3 hk3)
    go_ret
    exact ⟨rfl, by rw [HS.out]; exact ⟨_, _, _, _, _, HS3.out⟩, HB3.out, HK3.out⟩
  have h0' : (x.d == 0) = false := beq_eq_false_iff_ne.2 h0
  by_cases h1 : x.d = 1
  · have h1' : (x.d == 1) = true := beq_iff_eq.2 h1
    obtain ⟨⟨t', e1, e2⟩, hre⟩ : ∃ r, r = Sp.mark t x.s := ⟨_, rfl⟩
    have hex := spMark_any x.s w1 HST.out.tab
    rw [← hre] at hex
    have HRE := Lib.hid hre
    have HS : Hid (Sp.step t x = t') := by show _ = _; unfold Sp.step; rw [if_neg h0, if_pos h1, ← hre]
    clear h0 h1 hre l3 l4 l5 l6 l7 l8 l15
    go_enter Tryd.func23, Tryd.ntmps23
    go_wp2_with (go_at_call 16; refine hex.mono ?_; clear hex hw1; rintro e w2 ⟨rfl, ht2, hk2⟩; have HS2 := Lib.hid (HST.out.mark ht2 hk2); have HO2 := Lib.hid (HOB.out.keep hk2 (fun e => HX.out X (.inl (.inr (.inr e))) rfl)); have HB2 := Lib.hid (HB1.out.trans (hk2.to_below (fun k e => (HST.out.bothge k (.inl (.inr (.inr e)))).1) HST.out.hn)); have HK2 := Lib.hid (HK1.out.trans (hk2.mono (fun k _ e => .inl (.inr (.inr e))))); clear ht2 hk2 l0 l1; refine Hid.out ?_)
    refine Lib.hid ?_
    have l1 := HO2.out 1 _ rfl
    rw [HXX.out] at l1
    have hrx := rMark_any x.s w2 HS2.out.rt HS2.out.hn
    rw [← HRE.out] at hrx
    go_wp2_with (go_at_call 36; refine hrx.mono ?_; clear hrx; rintro e w3 ⟨rfl, hpo⟩; obtain ⟨v2', hst3, hk3⟩ := HS2.out.rmark hpo; have HS3 := Lib.hid hst3; have HB3 := Lib.hid (HB2.out.trans (hk3.to_below (fun k e => (HS2.out.bothge k (.inr e)).1) HS2.out.hn)); have HK3 := Lib.hid (HK2.out.trans (hk3.mono (fun k _ e => .inr e))); clear hpo hst3 hk3)
    go_ret
    exact ⟨rfl, by rw [HS.out]; exact ⟨_, _, _, _, _, HS3.out⟩, HB3.out, HK3.out⟩
  have h1' : (x.d == 1) = false := beq_eq_false_iff_ne.2 h1
  have HS : Hid (Sp.step t x = t) := by show _ = _; unfold Sp.step; rw [if_neg h0, if_neg h1]
  obtain ⟨⟨⟨us, uw, un⟩, e1⟩, hu⟩ : ∃ r, r = Sp.find t x.s x.id := ⟨_, rfl⟩
  obtain ⟨⟨b2, e2⟩, hs⟩ : ∃ r, r = Sp.same t x.s x.id x.t x.nd := ⟨_, rfl⟩
  have hf1 := spFind_any x.s x.id _ _ _ w1 HST.out.tab HW1.out (HR1.out.below HB1.out) (HT.out.on HB1.out)
  rw [← hu] at hf1
  unfold Sp.Seen.val at hf1
  dsimp only at hf1
  have HF2 : Hid (∀ W, Below w1.heap.size w1 W → Calls Tryd.prog 37 #[.pointer (some ⟨R, 0, none⟩), .int .i64 x.s, .agg #[.int .i64 x.id.k, .int .i64 x.id.n, .string x.id.s, .slice a1 n1 q1, .slice a2 n2 q2, .slice a3 n3 q3]] W fun e w' => e = .returned (.tuple #[.agg #[.int .i64 (us : Int), .int .i64 uw, .string un], .int .i64 e1]) ∧ Below W.heap.size W w') := fun W hb => by
    have := rFind_any _ x.s x.id _ _ _ W rfl (HST.out.below hb).rt (HST.out.below hb).rids HW1.out ((HR1.out.below HB1.out).below hb)
    rw [← hu] at this
    exact this
  have HF3 : Hid (∀ W, Below w1.heap.size w1 W → Calls Tryd.prog 15 #[.pointer (some ⟨T, 0, none⟩), .int .i64 x.s, .agg #[.int .i64 x.id.k, .int .i64 x.id.n, .string x.id.s, .slice a1 n1 q1, .slice a2 n2 q2, .slice a3 n3 q3], .int .i64 x.t, .agg #[.int .i64 x.nd.k, .int .i64 x.nd.n, .string x.nd.s, .slice c1 m1 r1, .slice c2 m2 r2, .slice c3 m3 r3]] W fun e w' => e = .returned (.tuple #[.bool b2, .int .i64 e2]) ∧ Below W.heap.size W w') := fun W hb => by
    have := spSame_any x.s x.t x.id x.nd _ _ _ _ _ _ W (HST.out.below hb).tab HW1.out ((HR1.out.below HB1.out).below hb) HW2.out ((HR2.out.below HB1.out).below hb) ((HT.out.on HB1.out).on hb)
    rw [← hs] at this
    exact this
  have HF4 : Hid (∀ W, Below w1.heap.size w1 W → Calls Tryd.prog 38 #[.pointer (some ⟨R, 0, none⟩), .int .i64 x.s, .agg #[.int .i64 x.id.k, .int .i64 x.id.n, .string x.id.s, .slice a1 n1 q1, .slice a2 n2 q2, .slice a3 n3 q3], .int .i64 x.t, .agg #[.int .i64 x.nd.k, .int .i64 x.nd.n, .string x.nd.s, .slice c1 m1 r1, .slice c2 m2 r2, .slice c3 m3 r3]] W fun e w' => e = .returned (.tuple #[.bool b2, .int .i64 e2]) ∧ Below W.heap.size W w') := fun W hb => by
    have := rSame05_any x.s x.t x.id x.nd _ _ _ _ _ _ W (HST.out.below hb).rt (HST.out.below hb).rids HW1.out ((HR1.out.below HB1.out).below hb) HW2.out ((HR2.out.below HB1.out).below hb)
    rw [← hs] at this
    exact this
  have HOW : Hid (∀ W, Below w1.heap.size w1 W → Sp.OBox W w.heap.size x (.slice a1 n1 q1) (.slice a2 n2 q2) (.slice a3 n3 q3) (.slice c1 m1 r1) (.slice c2 m2 r2) (.slice c3 m3 r3)) := fun W hb => by
    have := HOB.out.below hb
    rw [HXX.out] at this
    exact this
  clear h0 h1 hu hs l15
  go_enter Tryd.func23, Tryd.ntmps23
  go_wp2_with (go_at_call 11; refine hf1.mono ?_; clear hf1 hw1; rintro e w2 ⟨rfl, hb2⟩; obtain ⟨w3, hw3⟩ : ∃ w3, w2.alloc (.cells #[.int .i64 (us : Int), .int .i64 uw, .string un] 35) = w3 := ⟨_, rfl⟩; have HB3 := Lib.hid (Sp.below_new hb2 hw3 hb2.size); clear hb2 l0 l1 l3 l4 l5 l6 l7 l8; refine Hid.out ?_)
  refine Lib.hid ?_
  have k0 : w3.cell? ⟨w2.heap.size, 0, none⟩ = some (.int .i64 (us : Int)) := by unfold World.cell?; rw [HB3.out.2.2.1]; rfl
  have k1 : w3.cell? ⟨w2.heap.size, 1, none⟩ = some (.int .i64 uw) := by unfold World.cell?; rw [HB3.out.2.2.1]; rfl
  have k2 : w3.cell? ⟨w2.heap.size, 2, none⟩ = some (.string un) := by unfold World.cell?; rw [HB3.out.2.2.1]; rfl
  have HK := Lib.hid (And.intro k0 (And.intro k1 k2))
  have l1 := HOW.out _ HB3.out.1 1 _ rfl
  have l3 := HOW.out _ HB3.out.1 3 _ rfl
  have l4 := HOW.out _ HB3.out.1 4 _ rfl
  have l5 := HOW.out _ HB3.out.1 5 _ rfl
  have l6 := HOW.out _ HB3.out.1 6 _ rfl
  have l7 := HOW.out _ HB3.out.1 7 _ rfl
  have l8 := HOW.out _ HB3.out.1 8 _ rfl
  have hf2 := HF2.out w3 HB3.out.1
  clear k0 k1 k2 HF2
  go_wp2_with (go_at_call 37; refine hf2.mono ?_; clear hf2; rintro e w4 ⟨rfl, hb4⟩; obtain ⟨w5, hw5⟩ : ∃ w5, w4.alloc (.cells #[.int .i64 (us : Int), .int .i64 uw, .string un] 35) = w5 := ⟨_, rfl⟩; have HB35 := Lib.hid (Sp.below_new hb4 hw5 hb4.size); clear hb4 l1 l3 l4 l5 l6 l7 l8 hw3; refine Hid.out ?_)
  refine Lib.hid ?_
  have m0 : w5.cell? ⟨w4.heap.size, 0, none⟩ = some (.int .i64 (us : Int)) := by unfold World.cell?; rw [HB35.out.2.2.1]; rfl
  have m1' : w5.cell? ⟨w4.heap.size, 1, none⟩ = some (.int .i64 uw) := by unfold World.cell?; rw [HB35.out.2.2.1]; rfl
  have m2' : w5.cell? ⟨w4.heap.size, 2, none⟩ = some (.string un) := by unfold World.cell?; rw [HB35.out.2.2.1]; rfl
  have HM := Lib.hid (And.intro m0 (And.intro m1' m2'))
  have HB15 := Lib.hid (HB3.out.1.trans (HB35.out.1.mono HB3.out.1.size))
  have hf3 := HF3.out w5 HB15.out
  clear m0 m1' m2' HF3
  have l1 := HOW.out _ HB15.out 1 _ rfl
  have l2 := HOW.out _ HB15.out 2 _ rfl
  have l3 := HOW.out _ HB15.out 3 _ rfl
  have l4 := HOW.out _ HB15.out 4 _ rfl
  have l5 := HOW.out _ HB15.out 5 _ rfl
  have l6 := HOW.out _ HB15.out 6 _ rfl
  have l7 := HOW.out _ HB15.out 7 _ rfl
  have l8 := HOW.out _ HB15.out 8 _ rfl
  have l9 := HOW.out _ HB15.out 9 _ rfl
  have l10 := HOW.out _ HB15.out 10 _ rfl
  have l11 := HOW.out _ HB15.out 11 _ rfl
  have l12 := HOW.out _ HB15.out 12 _ rfl
  have l13 := HOW.out _ HB15.out 13 _ rfl
  have l14 := HOW.out _ HB15.out 14 _ rfl
  go_wp2_with (go_at_call 15; refine hf3.mono ?_; clear hf3; rintro e w6 ⟨rfl, hb6⟩; have HB16 := Lib.hid (HB15.out.trans (hb6.mono HB15.out.size)); have HB56 := Lib.hid hb6; clear hb6 l1 l2 l3 l4 l5 l6 l7 l8 l9 l10 l11 l12 l13 l14 hw5; refine Hid.out ?_)
  refine Lib.hid ?_
  have hf4 := HF4.out w6 HB16.out
  have l1 := HOW.out _ HB16.out 1 _ rfl
  have l2 := HOW.out _ HB16.out 2 _ rfl
  have l3 := HOW.out _ HB16.out 3 _ rfl
  have l4 := HOW.out _ HB16.out 4 _ rfl
  have l5 := HOW.out _ HB16.out 5 _ rfl
  have l6 := HOW.out _ HB16.out 6 _ rfl
  have l7 := HOW.out _ HB16.out 7 _ rfl
  have l8 := HOW.out _ HB16.out 8 _ rfl
  have l9 := HOW.out _ HB16.out 9 _ rfl
  have l10 := HOW.out _ HB16.out 10 _ rfl
  have l11 := HOW.out _ HB16.out 11 _ rfl
  have l12 := HOW.out _ HB16.out 12 _ rfl
  have l13 := HOW.out _ HB16.out 13 _ rfl
  have l14 := HOW.out _ HB16.out 14 _ rfl
  clear HF4
  go_wp2_with (go_at_call 38; refine hf4.mono ?_; clear hf4; rintro e w7 ⟨rfl, hb7⟩; have HB17 := Lib.hid (HB16.out.trans (hb7.mono HB16.out.size)); have HB57 := Lib.hid (HB56.out.trans (hb7.mono HB56.out.size)); clear hb7 l1 l2 l3 l4 l5 l6 l7 l8 l9 l10 l11 l12 l13 l14; refine Hid.out ?_)
  refine Lib.hid ?_
  have HB37 := Lib.hid (HB35.out.1.trans (HB57.out.mono HB35.out.1.size))
  have k0 := (HB37.out.cell (p := ⟨w2.heap.size, 0, none⟩) (block_lt_of_cell HK.out.1)).trans HK.out.1
  have k1 := (HB37.out.cell (p := ⟨w2.heap.size, 1, none⟩) (block_lt_of_cell HK.out.2.1)).trans HK.out.2.1
  have k2 := (HB37.out.cell (p := ⟨w2.heap.size, 2, none⟩) (block_lt_of_cell HK.out.2.2)).trans HK.out.2.2
  have m0 := (HB57.out.cell (p := ⟨w4.heap.size, 0, none⟩) (block_lt_of_cell HM.out.1)).trans HM.out.1
  have m1' := (HB57.out.cell (p := ⟨w4.heap.size, 1, none⟩) (block_lt_of_cell HM.out.2.1)).trans HM.out.2.1
  have m2' := (HB57.out.cell (p := ⟨w4.heap.size, 2, none⟩) (block_lt_of_cell HM.out.2.2)).trans HM.out.2.2
  go_wp2_with fail
  go_ret
  exact ⟨rfl, by rw [HS.out]; exact ⟨_, _, _, _, _, HST.out.below HB17.out⟩, HB1.out.trans (HB17.out.mono HB1.out.size), HK1.out.below HB17.out⟩
end Go.Proofs.YtjbjgceblanhpaaDoor
namespace Go.Proofs.YtjbjgceblanhpaaDoor
open Go.RowKit Go.Sort
attribute [local go_sem] Oper.semAt_some
namespace Sp
open Dt
theorem flatN_length {t : Tbl} (l : List (Ne t)) : (flatN l).length = l.length * 7 := by
  induction l with
  | nil => rfl
  | cons a l ih =>
    show (a.cells ++ flatN l).length = _
    rw [List.length_append, ih, List.length_cons]
    have : a.cells.length = 7 := rfl
    omega
/-- one that is told, as it lies -/
theorem told_at {w : World} {base : Nat} {v : Value} {t : Tbl} {ls : List (Ne t)} (h : w.ownsRow base 57 7 v ls.length (flatN ls)) (j : Nat) (hj : j < ls.length) :
    ∃ g c, v = .slice (some ⟨g, 0, none⟩) ls.length c ∧ g < w.heap.size ∧ ∀ i, i < 7 → w.cell? ⟨g, j * 7 + i, none⟩ = ls[j].cells[i]? := by
  rcases h.2 with ⟨_, h0⟩ | ⟨g, cap, cur, rfl, e2, e3, e4⟩
  · omega
  · refine ⟨g, cap, rfl, (h.lt g rfl).2, fun i hi => ?_⟩
    have hc := fun u hu => h.cells (g := g) rfl (j * 7 + i) u hu
    have hadd : ∀ k, (⟨g, 0, none⟩ : Addr).add k = ⟨g, k, none⟩ := fun k => by unfold Addr.add; split <;> simp_all
    simp only [hadd] at hc
    have hf : (flatN ls)[j * 7 + i]? = ls[j].cells[i]? := by
      have hsplit : ls = ls.take j ++ ls[j] :: ls.drop (j + 1) := by rw [← List.drop_eq_getElem_cons hj, List.take_append_drop]
      have hlen : (flatN (ls.take j)).length = j * 7 := by rw [flatN_length, List.length_take, Nat.min_eq_left (by omega)]
      have : flatN ls = flatN (ls.take j) ++ (ls[j].cells ++ flatN (ls.drop (j + 1))) := by
        conv => lhs; rw [hsplit]
        unfold flatN
        rw [List.flatMap_append, List.flatMap_cons]
      rw [this, List.getElem?_append_right (by omega), hlen, show j * 7 + i - j * 7 = i by omega, List.getElem?_append_left (by show i < 7; exact hi)]
    have hlt : i < ls[j].cells.length := hi
    rw [List.getElem?_eq_getElem hlt] at hf ⊢
    exact hc _ hf
theorem Ne.wf {t : Tbl} (h : t.Ok) (y : Ne t) : Wf y.d := (id_clone h (List.getElem?_eq_getElem y.1.2)).1
/-- a number of a row, as it lies -/
theorem cellN_at {w : World} {base : Nat} {a : Option Addr} {c : Nat} {l : List Nat} (h : w.ownsRow base 3 1 (.slice a l.length c) l.length (l.map cellN)) (j : Nat) (hj : j < l.length) : ∃ g, a = some ⟨g, 0, none⟩ ∧ w.cell? ⟨g, j, none⟩ = some (.int .i64 (l[j] : Int)) := by
  rcases h.2 with ⟨e, h0⟩ | ⟨g, cap, cur, e, e2, e3, e4⟩
  · omega
  · have eg : a = some ⟨g, 0, none⟩ := by cases e; rfl
    refine ⟨g, eg, ?_⟩
    have hv : (l.map cellN)[j]? = some (.int .i64 (l[j] : Int)) := by rw [List.getElem?_map, List.getElem?_eq_getElem hj]; rfl
    have := h.cells (g := g) (by rw [eg]; rfl) j _ hv
    have e : (⟨g, 0, none⟩ : Addr).add j = ⟨g, j, none⟩ := by
      unfold Addr.add
      split
      · rename_i h0; rw [h0]
      · rw [Nat.zero_add]
    rw [e] at this
    exact this
end Sp
set_option maxRecDepth 100000 in
set_option maxHeartbeats 16000000 in
theorem spNamesLaw_any {n T mb R : Nat} {vl v1 v2 : Value} {xs : List Sp.B} {ys : List Sp.RS} {t : Sp.Tbl} (s : Int) (w : World) (h : Sp.St n w T vl mb xs t R v1 v2 ys t) :
    Calls Tryd.prog 24 #[.pointer (some ⟨T, 0, none⟩), .pointer (some ⟨R, 0, none⟩), .int .i64 s] w fun e w' => e = .returned (.bool true) ∧ Below w.heap.size w w' := by
  have H := Lib.hid h
  have HOK := Lib.hid h.tab.ok
  obtain ⟨L, hL⟩ : ∃ L, L = Sp.namesOf t s := ⟨_, rfl⟩
  have hL16 : L.length ≤ 16384 := by rw [hL]; exact Sp.namesOf_len h.tab.ok s
  have hLlt : ∀ i ∈ L, i < t.l.length := fun i hi => by
    rw [hL] at hi
    unfold Sp.namesOf at hi
    split at hi
    · cases hi
    · have := (Sp.ups_lt h.tab.ok s.toNat (by omega) i hi).2; omega
  have hnm := rNames_any s w h.rt
  rw [← hL] at hnm
  have HLL := Lib.hid hL
  have HLT := Lib.hid hLlt
  clear h hL hLlt
  go_enter Tryd.func24, Tryd.ntmps24
  go_wp2_with (go_at_call 39; refine hnm.mono ?_; clear hnm; rintro e w1 ⟨vw, rfl, how, hb1⟩; obtain ⟨aw, cw, rfl⟩ := Dt.row_form how; have HOW := Lib.hid how; have HB1 := Lib.hid hb1; clear how hb1; refine Hid.out ?_)
  refine Lib.hid ?_
  have hnm := spNames_any (some ⟨T, 0, none⟩) s w1
  go_wp2_with (go_at_call 19; refine hnm.mono ?_; clear hnm; rintro e w2 ⟨rfl, hw2⟩; have hb2 : Below w1.heap.size w1 w2 := (by rw [hw2]; exact ((Below.refl _ _).alloc (Nat.le_refl _) _).alloc (by simp) _); have hbt := Boxed.new w1 32 (.pointer (some ⟨T, 0, none⟩)); have hbs := Boxed.new (w1.alloc (.cells #[.pointer (some ⟨T, 0, none⟩)] 32)) 3 (.int .i64 s); have hbt2 := hbt.alloc (.cells #[.int .i64 s] 3); rw [World.size_alloc] at hbs; rw [← hw2] at hbt2 hbs; have htl := spTold_any w1.heap.size (w1.heap.size + 1) 1048576 (by decide) w2 ((H.out.below HB1.out).below hb2).ti s hbs.cell hbt2.cell; have HB2 := Lib.hid (HB1.out.trans (hb2.mono HB1.out.size)); have HB12 := Lib.hid hb2; clear hw2 hbt hbs hbt2 hb2; refine Hid.out ?_)
  refine Lib.hid ?_
  go_wp2_with (go_at_call 18; refine htl.mono ?_; clear htl; rintro e w3 ⟨v3, zs, rfl, hzs, hrow, hrep, hb3⟩; obtain ⟨av, cv, rfl⟩ := Dt.row_form hrow; have HZS := Lib.hid hzs; have HROW := Lib.hid hrow; have HREP := Lib.hid hrep; have HB3 := Lib.hid (HB2.out.trans (hb3.mono HB2.out.size)); have HB23 := Lib.hid hb3; clear hzs hrow hrep hb3; refine Hid.out ?_)
  refine Lib.hid ?_
  have HNS : Hid (zs.map (fun x => x.1.1) = L) := by
    show _ = _
    rw [HZS.out, ← HLL.out, List.take_of_length_le (by omega)]
  have hzl : zs.length = L.length := by have := congrArg List.length HNS.out; rw [List.length_map] at this; exact this
  have hzle : ((zs.length : Int) != (L.length : Int)) = false := by simp [hzl]
  have hnm := spNames_any (some ⟨T, 0, none⟩) s w3
  clear HZS
  go_wp2_with (go_at_call 19; refine hnm.mono ?_; clear hnm; rintro e w4 ⟨rfl, hw4⟩; have hb4 : Below w3.heap.size w3 w4 := (by rw [hw4]; exact ((Below.refl _ _).alloc (Nat.le_refl _) _).alloc (by simp) _); have hbt := Boxed.new w3 32 (.pointer (some ⟨T, 0, none⟩)); have hbs := Boxed.new (w3.alloc (.cells #[.pointer (some ⟨T, 0, none⟩)] 32)) 3 (.int .i64 s); have hbt2 := hbt.alloc (.cells #[.int .i64 s] 3); rw [World.size_alloc] at hbs; rw [← hw4] at hbt2 hbs; have htl := spTold_any w3.heap.size (w3.heap.size + 1) 1 (by decide) w4 ((H.out.below HB3.out).below hb4).ti s hbs.cell hbt2.cell; have HB4 := Lib.hid (HB3.out.trans (hb4.mono HB3.out.size)); have HB34 := Lib.hid hb4; clear hw4 hbt hbs hbt2 hb4; refine Hid.out ?_)
  refine Lib.hid ?_
  go_wp2_with (go_at_call 18; refine htl.mono ?_; clear htl; rintro e w5 ⟨v5, us, rfl, hus, hrow5, -, hb5⟩; obtain ⟨au, cu, rfl⟩ := Dt.row_form hrow5; have hmn : min (1 : Int) (L.length : Int) = (us.length : Int) := (by have h9 := congrArg List.length hus; rw [List.length_map, List.length_take, ← HLL.out] at h9; omega); have HB5 := Lib.hid (HB4.out.trans (hb5.mono HB4.out.size)); have HB35 := Lib.hid (HB34.out.trans (hb5.mono HB34.out.size)); clear hus hrow5 hb5; refine Hid.out ?_)
  refine Lib.hid ?_
  go_wp2_with fail
  go_loopw [38] (fun v wr => ∃ j : Nat, v = .int .i64 j ∧ j ≤ zs.length ∧ Hid (Below w5.heap.size w5 wr)) (fun v _ => zs.length - (intOf v).toNat)
  case atStart => exact ⟨0, rfl, Nat.zero_le _, Below.refl _ _⟩
  case round =>
    obtain ⟨j, rfl, hj, HBR⟩ := hrel
    by_cases hlt : j < zs.length
    · have hlti : (j : Int) < (zs.length : Int) := by omega
      have hj0 : (0 : Int) ≤ (j : Int) := by omega
      have hjL : j < L.length := by omega
      have hjLi : (j : Int) < (L.length : Int) := by omega
      obtain ⟨g, c, e1, hg, hc⟩ := Sp.told_at HROW.out j hlt
      obtain ⟨-, -, rfl⟩ := Sp.slice_inj e1
      obtain ⟨rfl, -, -⟩ := Sp.slice_inj e1
      have HB3R := Lib.hid (HB35.out.trans (HBR.out.mono HB35.out.size))
      have HBWR := Lib.hid (HB5.out.trans (HBR.out.mono HB5.out.size))
      have hd := fun i (hi : i < 7) => (HB3R.out.cell (p := ⟨g, j * 7 + i, none⟩) hg).trans (hc i hi)
      obtain ⟨y, hy⟩ : ∃ y, y = zs[j] := ⟨_, rfl⟩
      have hrj : Dt.Rep (fun _ => True) wr y.d y.2.1 y.2.2.1 y.2.2.2 := by
        rw [hy]
        exact Dt.Rep.below HB3R.out (Dt.Rep.mono (fun _ _ _ => trivial) _ (HREP.out _ (List.getElem_mem hlt)))
      have hyL : L[j] = y.1.1 := by
        have h9 := HNS.out
        subst h9
        rw [List.getElem_map, ← hy]
      rw [← hy] at hd
      obtain ⟨⟨⟨yi, hyi⟩, vm, vL, vt⟩, hyy⟩ : ∃ z, z = y := ⟨_, rfl⟩
      have hyL2 : L[j] = yi := by rw [hyL, ← hyy]
      obtain ⟨d, hdd⟩ : ∃ d, d = y.d := ⟨_, rfl⟩
      have hcs : y.cells = [.int .i64 (yi : Int), .int .i64 d.k, .int .i64 d.n, .string d.s, vm, vL, vt] := by rw [hdd, ← hyy]; rfl
      have hrd : Dt.Rep (fun _ => True) wr d vm vL vt := by rw [hdd, ← hyy]; rw [← hyy] at hrj; exact hrj
      have hdid : d = t.l[yi].id := by rw [hdd, ← hyy]; rfl
      have hwd : Dt.Wf d := by rw [hdd]; exact Sp.Ne.wf HOK.out y
      rw [hcs] at hd
      obtain ⟨r1, s1, t1, r2, s2, t2, r3, s3, t3, rfl, rfl, rfl⟩ := hrd.forms
      have q0 := hd 0 (by omega)
      have q1' := hd 1 (by omega)
      have q2' := hd 2 (by omega)
      have q3' := hd 3 (by omega)
      have q4 := hd 4 (by omega)
      have q5 := hd 5 (by omega)
      have q6 := hd 6 (by omega)
      simp only [List.getElem?_cons_succ, List.getElem?_cons_zero, Nat.add_zero] at q0 q1' q2' q3' q4 q5 q6
      obtain ⟨gw, hgw, hwc⟩ := Sp.cellN_at HOW.out j hjL
      rw [hyL2] at hwc
      subst hgw
      obtain ⟨gr, cr, yr, e2, hgr, hymr, hlq, k0, ⟨k1, k2, k3, k4, k5, k6⟩, -⟩ := H.out.rt.scope yi hyi
      obtain ⟨d1, o1, p1, d2, o2, p2, d3, o3, p3, e3, e4, e5⟩ := (H.out.rids yr hymr).forms
      rw [e3] at k4
      rw [e4] at k5
      rw [e5] at k6
      have hRy := H.out.rids yr hymr
      rw [e3, e4, e5] at hRy
      have hyid : yr.b.id = d := by
        rw [hdid]
        rw [List.getElem?_eq_getElem hyi] at hlq
        rw [Option.some.inj hlq]
      rw [hyid] at k1 k2 k3 hRy
      have cR0 := H.out.rt.c0
      rw [e2] at cR0
      obtain ⟨wB, hwB⟩ : ∃ wB, wr.alloc (.cells #[.int .i64 (yi : Int), .int .i64 d.k, .int .i64 d.n, .string d.s, .slice r1 s1 t1, .slice r2 s2 t2, .slice r3 s3 t3] 57) = wB := ⟨_, rfl⟩
      have HNB := Lib.hid (Sp.below_new HBR.out hwB HBR.out.size)
      have hbB : Below w.heap.size w wB := HB5.out.trans (HNB.out.1.mono HB5.out.size)
      have hb1B : Below w1.heap.size w1 wB := by
        have h12 : Below w1.heap.size w1 w2 := HB12.out
        exact (h12.trans (HB23.out.mono h12.size)).trans ((HB35.out.trans (HNB.out.1.mono HB35.out.size)).mono (h12.trans (HB23.out.mono h12.size)).size)
      have nb : ∀ i v, #[Value.int .i64 (yi : Int), .int .i64 d.k, .int .i64 d.n, .string d.s, .slice r1 s1 t1, .slice r2 s2 t2, .slice r3 s3 t3][i]? = some v → wB.cell? ⟨wr.heap.size, i, none⟩ = some v := fun i v h => by unfold World.cell?; rw [HNB.out.2.2.1]; exact h
      have l0 := cell_regrown (nb 0 _ rfl)
      have l1 := cell_regrown (nb 1 _ rfl)
      have l2 := cell_regrown (nb 2 _ rfl)
      have l3 := cell_regrown (nb 3 _ rfl)
      have l4 := cell_regrown (nb 4 _ rfl)
      have l5 := cell_regrown (nb 5 _ rfl)
      have l6 := cell_regrown (nb 6 _ rfl)
      have hc2 : ∀ i v, w.cell? ⟨gr, i, none⟩ = some v → ∀ d os, (grow (redrawn wB d) os).cell? ⟨gr, i, none⟩ = some v := fun i v h => cell_regrown ((hbB.cell (p := ⟨gr, i, none⟩) hgr).trans h)
      have j1 := hc2 _ _ k1
      have j2 := hc2 _ _ k2
      have j3 := hc2 _ _ k3
      have j4 := hc2 _ _ k4
      have j5 := hc2 _ _ k5
      have j6 := hc2 _ _ k6
      have z0 := cell_regrown ((hbB.cell (p := ⟨R, 0, none⟩) H.out.rt.lt).trans cR0)
      have zw := cell_regrown ((hb1B.cell (p := ⟨gw, j, none⟩) (block_lt_of_cell hwc)).trans hwc)
      have hrdB : Dt.Rep (fun _ => True) wB d (.slice r1 s1 t1) (.slice r2 s2 t2) (.slice r3 s3 t3) := hrd.below (by rw [← hwB]; exact (Below.refl _ _).alloc (Nat.le_refl _) _)
      have hsd : Dt.sameD d d = true := by
        have hne : 0 < yi := by
          have h9 : yi ∈ L := by rw [← hyL2]; exact List.getElem_mem hjL
          rw [HLL.out] at h9
          unfold Sp.namesOf at h9
          split at h9
          · cases h9
          · exact (Sp.ups_lt HOK.out s.toNat (by omega) yi h9).1
        have h9 := (HOK.out.inn yi t.l[yi] (List.getElem?_eq_getElem hyi) hne).2
        rw [← hdid] at h9
        unfold Dt.sameD
        rw [decide_eq_true (Sp.sym_parts h9).2.2.2.2.2.2.2, (Dt.eqD_iff d d).2 rfl]
        rfl
      have cV : ∀ d9 os, Calls Tryd.prog 14 #[.agg #[.int .i64 d.k, .int .i64 d.n, .string d.s, .slice r1 s1 t1, .slice r2 s2 t2, .slice r3 s3 t3], .agg #[.int .i64 d.k, .int .i64 d.n, .string d.s, .slice d1 o1 p1, .slice d2 o2 p2, .slice d3 o3 p3]] (grow (redrawn wB d9) os) fun e w'' => e = .returned (.bool true) ∧ ∃ p : Regrown, w'' = grow (redrawn wB p.d) p.os := fun d9 os => by
        have hb9 := below_regrown wB d9 os
        have h9 := rSame_any d d _ _ _ _ _ _ (grow (redrawn wB d9) os) hwd hwd (hrdB.below hb9) ((hRy.below hbB).below hb9)
        rw [hsd] at h9
        exact Calls.regrown_of h9
      have hyi0 : (0 : Int) ≤ (yi : Int) := by omega
      have hyii : (yi : Int) < (t.l.length : Int) := by omega
      have HBB := Lib.hid hbB
      clear nb hd hc hc2 hrj hcs hrd hwd hdd hyy hy e1 hyL hyL2 hdid hrdB hsd hRy e3 e4 e5 k0 k1 k2 k3 k4 k5 k6 hlq hyid hwc hbB hb1B cR0 e2
      go_wp2_with fail
      clear q0 q1' q2' q3' q4 q5 q6
      refine wp_region_quiet_below (by kernel_rfl) (by kernel_rfl) ?_
      repeat (go_big_quiet_step (exact cV _ _))
      refine wpQuiet_nil ?_
      intro _ hw'
      obtain ⟨⟨dq, osq⟩, hw''⟩ := hw'
      subst hw''
      have HBQ := Lib.hid (HNB.out.1.trans ((below_regrown wB dq osq).mono HNB.out.1.size))
      clear hwB
      go_wp2
      go_roundw
      case rel => exact ⟨j + 1, by simp, by omega, HBQ⟩
      case measure => simp [intOf]; omega
    · obtain rfl : j = zs.length := by omega
      have hge : ¬ ((zs.length : Int) < (zs.length : Int)) := by omega
      have HBWR := Lib.hid (HB5.out.trans (HBR.out.mono HB5.out.size))
      have hsz := spSizes_any wr (H.out.tab.below HBWR.out)
      obtain ⟨gr, cr, e1, -, -⟩ := H.out.rt.at
      obtain ⟨am, cm, e2, -⟩ := H.out.rt.mat
      subst e1 e2
      go_wp2_with (go_at_call 20; refine hsz.mono ?_; clear hsz; rintro e w6 ⟨rfl, hb6⟩; have HB6 := Lib.hid (HBWR.out.trans (hb6.mono HBWR.out.size)); have c0 := (H.out.below HB6.out).rt.c0; have c1 := (H.out.below HB6.out).rt.c1; clear hb6)
      go_ret
      exact ⟨rfl, HB6.out⟩
end Go.Proofs.YtjbjgceblanhpaaDoor
