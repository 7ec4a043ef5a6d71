/-
  Several texts of this proof in one: DtAll, DtSame, DtOwnP, DtOwn, DtMade, DtOpen, RdModel, RdCutP, RdRowsP, Mem, RdBase, RdRow, RdVec.
-/
import Derived.Test.YtcopdfihaheplaaReadB4ZM1
import Derived.Deep.Draws
import Derived.Deep.RegionHeld3
import Derived.Deep.DeepCutAuto
import Derived.WalkSpells
import Derived.Deep.CutBlock
import Derived.Deep.Slices
import Derived.Deep.Fields
import Derived.SizedLaws
import Derived.Test.YtcopdfihaheplaaLexWordsP
import Derived.Test.YtcopdfihaheplaaTbKeep
import Derived.Lib.Hide
import Derived.Lib.Builder
import Derived.Deep.MidRow
import Derived.Deep.RegionLaw
import Derived.Deep.Cut
namespace Go.Proofs.Ytcopdfihaheplaa
open Go.RowKit
namespace Dt
def WalkedPost (x : D) (base : Nat) (w : World) (e : Ending) (w' : World) : Prop :=
 ∃ B vp vd ls ds, e = .returned (.pointer (some ⟨B, 0, none⟩)) ∧ Wk w' base B (check x) vp vd ls ds ∧ (check x = 0 → ls.map P.d = pre x) ∧ Below w.heap.size w w'
theorem Wk.fresh (w : World) (base : Nat) (hbase : base ≤ w.heap.size) : Wk (w.alloc (.cells #[.slice none 0 0, .slice none 0 0, .int .i64 0] 72)) base w.heap.size 0 (.slice none 0 0) (.slice none 0 0) [] [] := by
 have hh := heap_alloc_new w (.cells #[.slice none 0 0, .slice none 0 0, .int .i64 0] 72)
 refine ⟨?_, ?_, ?_, fun j => ?_, World.ownsRow_nil _ _ _ _, World.ownsRow_nil _ _ _ _, by simp [Value.ownBlock], by simp [Value.ownBlock], fun k h => by simp [Value.ownBlock] at h, fun p h => by simp at h, by simp, by simp, hbase⟩
 ·unfold World.cell?; rw [hh]; rfl
 ·unfold World.cell?; rw [hh]; rfl
 ·unfold World.cell?; rw [hh]; rfl
 ·unfold World.frozen?; rw [hh]; simp
theorem rep_all {F : Nat → Prop} {w : World} {d : D} {vm vl vt : Value} (h : Rep F w d vm vl vt) : Rep (fun k => k < w.heap.size) w d vm vl vt := Rep.mono (fun _ _ h => h) d h
end Dt
set_option maxRecDepth 100000 in
set_option maxHeartbeats 4000000 in
theorem walked_any (x : Dt.D) (vm vl vt : Value) (base : Nat) (w : World) (hbase : base ≤ w.heap.size) (hW : Dt.Wf x) (hR : Dt.Rep (fun k => k < base) w x vm vl vt) :
  Calls Try.prog 29 #[.agg #[.int .i64 x.k, .int .i64 x.n, .string x.s, vm, vl, vt]] w (Dt.WalkedPost x base w) := by
 obtain ⟨a1, n1, q1, a2, n2, q2, a3, n3, q3, rfl, rfl, rfl⟩ := hR.forms
 obtain ⟨w1, hw1⟩ : ∃ w1, w.alloc (.cells #[.int .i64 x.k, .int .i64 x.n, .string x.s, .slice a1 n1 q1, .slice a2 n2 q2, .slice a3 n3 q3] 25) = w1 := ⟨_, rfl⟩
 have hb1 : Below w.heap.size w w1 := by rw [← hw1]; exact (Below.refl _ _).alloc (Nat.le_refl _) _
 have hs1 : w1.heap.size = w.heap.size + 1 := by rw [← hw1]; simp
 have hsix := Dt.six_new w x.k x.n x.s (.slice a1 n1 q1) (.slice a2 n2 q2) (.slice a3 n3 q3) 25
 rw [hw1] at hsix
 have d0 : w1.cell? ⟨w.heap.size, 0, none⟩ = some (.int .i64 x.k) := hsix 0 (by omega)
 have d1 : w1.cell? ⟨w.heap.size, 1, none⟩ = some (.int .i64 x.n) := hsix 1 (by omega)
 have d2 : w1.cell? ⟨w.heap.size, 2, none⟩ = some (.string x.s) := hsix 2 (by omega)
 have d3 : w1.cell? ⟨w.heap.size, 3, none⟩ = some (.slice a1 n1 q1) := hsix 3 (by omega)
 have d4 : w1.cell? ⟨w.heap.size, 4, none⟩ = some (.slice a2 n2 q2) := hsix 4 (by omega)
 have d5 : w1.cell? ⟨w.heap.size, 5, none⟩ = some (.slice a3 n3 q3) := hsix 5 (by omega)
 have hK := Dt.Wk.fresh w1 base (Nat.le_trans hbase hb1.size)
 have hR1 := hR.below hb1
 obtain ⟨w2, hw2⟩ : ∃ w2, w1.alloc (.cells #[.slice none 0 0, .slice none 0 0, .int .i64 0] 72) = w2 := ⟨_, rfl⟩
 have hb2 : Below w1.heap.size w1 w2 := by rw [← hw2]; exact (Below.refl _ _).alloc (Nat.le_refl _) _
 rw [hw2] at hK
 have hlt : w.heap.size < w1.heap.size := by omega
 have e0 := (hb2.cell (p := ⟨w.heap.size, 0, none⟩) hlt).trans d0
 have e1 := (hb2.cell (p := ⟨w.heap.size, 1, none⟩) hlt).trans d1
 have e2 := (hb2.cell (p := ⟨w.heap.size, 2, none⟩) hlt).trans d2
 have e3 := (hb2.cell (p := ⟨w.heap.size, 3, none⟩) hlt).trans d3
 have e4 := (hb2.cell (p := ⟨w.heap.size, 4, none⟩) hlt).trans d4
 have e5 := (hb2.cell (p := ⟨w.heap.size, 5, none⟩) hlt).trans d5
 have hgo := Dt.goes_any x 1 base w1.heap.size (.slice none 0 0) (.slice none 0 0) _ _ _ [] [] w2 hW (hR1.below hb2) hK (by omega)
 rw [show (((1 : Nat)) : Int) = 1 from rfl, hs1] at hgo
 have HS := Lib.hid hs1
 have HB2 := Lib.hid (hb1.trans (hb2.mono hb1.size))
 have HGO := Lib.hid hgo
 clear hsix hR hR1 hK hgo hb1 hb2 d0 d1 d2 d3 d4 d5 hW hlt
 go_enter Try.func29, Try.ntmps29
 go_wp2_with fail
 refine HGO.out.mono ?_
 rintro e w3 ⟨rfl, vp', vd', ls', ds', k1, k2, k3, k4, k5, k6⟩
 have HX : Hid (Dt.WalkedPost x base w (.returned (.pointer (some ⟨w.heap.size + 1, 0, none⟩))) w3) := by
  have hs := HS.out
  have hb3 : Below w.heap.size w w3 := HB2.out.trans (k4.to_below (fun k hk => by
   rcases hk with h | h | h
   ·omega
   ·simp [Value.ownBlock] at h
   ·simp [Value.ownBlock] at h) HB2.out.size)
  refine ⟨w.heap.size + 1, vp', vd', ls', ds', rfl, ?_, fun h0 => by simpa using k3 h0, hb3⟩
  exact k1
 clear k1 k2 k3 k4 k5 k6 HGO e0 e1 e2 e3 e4 e5
 go_wp2
 go_ret
 exact HX.out
set_option maxRecDepth 100000 in
set_option maxHeartbeats 4000000 in
theorem rCheck_any {F : Nat → Prop} (x : Dt.D) (vm vl vt : Value) (w : World) (hW : Dt.Wf x) (hR : Dt.Rep F w x vm vl vt) :
  Calls Try.prog 15 #[.agg #[.int .i64 x.k, .int .i64 x.n, .string x.s, vm, vl, vt]] w fun e w' => e = .returned (.int .i64 (Dt.check x)) ∧ Below w.heap.size w w' := by
 have hb0 : Below w.heap.size w (w.alloc (.cells #[.int .i64 x.k, .int .i64 x.n, .string x.s, vm, vl, vt] 25)) := (Below.refl _ _).alloc (Nat.le_refl _) _
 have hw := walked_any x vm vl vt w.heap.size _ hb0.size hW ((Dt.rep_all hR).below hb0)
 have HB := Lib.hid hb0
 obtain ⟨a1, n1, q1, a2, n2, q2, a3, n3, q3, rfl, rfl, rfl⟩ := hR.forms
 clear hR hW hb0
 go_enter Try.func15, Try.ntmps15
 go_wp2_with fail
 refine hw.mono ?_
 rintro e w1 ⟨B, vp, vd, ls, ds, rfl, hK, hp, hb1⟩
 have c2 := hK.c2
 have HB1 := Lib.hid (HB.out.trans (hb1.mono HB.out.size))
 clear hw hK hp hb1
 go_wp2
 go_ret
 exact ⟨rfl, HB1.out⟩
namespace Dt
def AllPost (x : D) (w : World) (e : Ending) (w' : World) : Prop :=
 ∃ vp ls, e = .returned vp ∧ w'.ownsRow w.heap.size 25 6 vp ls.length (flatP ls) ∧ (∀ p ∈ ls, Rep (fun k => k < w.heap.size) w' p.d p.vm p.vl p.vt) ∧ ls.map P.d = (if check x = 0 then pre x else []) ∧ ls.length ≤ 4096 ∧ Below w.heap.size w w'
end Dt
set_option maxRecDepth 100000 in
set_option maxHeartbeats 4000000 in
theorem rAll_any {F : Nat → Prop} (x : Dt.D) (vm vl vt : Value) (w : World) (hW : Dt.Wf x) (hR : Dt.Rep F w x vm vl vt) :
  Calls Try.prog 24 #[.agg #[.int .i64 x.k, .int .i64 x.n, .string x.s, vm, vl, vt]] w (Dt.AllPost x w) := by
 have hb0 : Below w.heap.size w (w.alloc (.cells #[.int .i64 x.k, .int .i64 x.n, .string x.s, vm, vl, vt] 25)) := (Below.refl _ _).alloc (Nat.le_refl _) _
 have hw := walked_any x vm vl vt w.heap.size _ hb0.size hW ((Dt.rep_all hR).below hb0)
 have HB := Lib.hid hb0
 obtain ⟨a1, n1, q1, a2, n2, q2, a3, n3, q3, rfl, rfl, rfl⟩ := hR.forms
 clear hR hW hb0
 go_enter Try.func24, Try.ntmps24
 go_wp2_with fail
 refine hw.mono ?_
 rintro e w1 ⟨B, vp, vd, ls, ds, rfl, hK, hp, hb1⟩
 have c2 := hK.c2
 have c0 := hK.c0
 have hb2 := HB.out.trans (hb1.mono HB.out.size)
 obtain ⟨ap, cp, rfl⟩ := Dt.row_form hK.rp
 by_cases h0 : Dt.check x = 0
 ·have hX : Hid (Dt.AllPost x w (.returned (.slice ap ls.length cp)) w1) := by
   exact ⟨.slice ap ls.length cp, ls, rfl, hK.rp, hK.rep, by rw [if_pos h0]; exact hp h0, hK.len, hb2⟩
  rw [h0] at c2
  clear hw hK hp hb1 hb2 h0
  go_wp2
  go_ret
  exact hX.out
 ·have hX : Hid (Dt.AllPost x w (.returned (.slice none 0 0)) w1) :=
   ⟨.slice none 0 0, [], rfl, World.ownsRow_nil _ _ _ _, by simp, by simp [h0], by simp, hb2⟩
  have h1 : (Dt.check x != 0) = true := by simpa using h0
  have h2 : (Dt.check x == 0) = false := by simpa using h0
  clear hw hK hp hb1 hb2
  go_wp2
  go_ret
  exact hX.out
end Go.Proofs.Ytcopdfihaheplaa
namespace Go.Proofs.Ytcopdfihaheplaa
open Go.RowKit
namespace Dt
mutual
def eqD : D → D → Bool
 | .mk k n s m l t, .mk k' n' s' m' l' t' => decide (k = k') && decide (n = n') && decide (s.data.toList = s'.data.toList) && decide (m = m') && eqDs l l' && eqDs t t'
def eqDs : List D → List D → Bool
 | [], [] => true
 | a :: l, b :: r => eqD a b && eqDs l r
 | _, _ => false
end
theorem bytes_ext {a b : ByteArray} (h : a.data.toList = b.data.toList) : a = b := by
 obtain ⟨⟨x⟩⟩ := a
 obtain ⟨⟨y⟩⟩ := b
 simp at h
 rw [h]
mutual
theorem eqD_iff : ∀ (a b : D), eqD a b = true ↔ a = b
 | .mk k n s m l t, .mk k' n' s' m' l' t' => by
  rw [eqD]
  simp only [Bool.and_eq_true, decide_eq_true_eq]
  constructor
  ·rintro ⟨⟨⟨⟨⟨h1, h2⟩, h3⟩, h4⟩, h5⟩, h6⟩
   rw [h1, h2, bytes_ext h3, h4, (eqDs_iff l l').1 h5, (eqDs_iff t t').1 h6]
  ·intro h
   cases h
   exact ⟨⟨⟨⟨⟨rfl, rfl⟩, rfl⟩, rfl⟩, (eqDs_iff _ _).2 rfl⟩, (eqDs_iff _ _).2 rfl⟩
theorem eqDs_iff : ∀ (a b : List D), eqDs a b = true ↔ a = b
 | [], [] => by rw [eqDs]; simp
 | a :: l, b :: r => by
  rw [eqDs, Bool.and_eq_true, eqD_iff a b, eqDs_iff l r]
  simp
 | [], b :: r => by simp [eqDs]
 | a :: l, [] => by simp [eqDs]
end
def sameD (a b : D) : Bool := decide (check a = 0) && decide (check b = 0) && eqD a b
def shp (d : D) : Int × Int × List UInt8 × List Int × Nat × Nat := (d.k, d.n, d.s.data.toList, d.m, d.l.length, d.t.length)
mutual
theorem shp_inj : ∀ (a b : D) (u v : List D), (pre a ++ u).map shp = (pre b ++ v).map shp → a = b ∧ u.map shp = v.map shp
 | .mk k n s m l t, .mk k' n' s' m' l' t', u, v, h => by
  rw [pre, pre] at h
  simp only [List.cons_append, List.map_cons, List.cons.injEq] at h
  obtain ⟨h1, h2⟩ := h
  unfold shp at h1
  simp only [D.k, D.n, D.s, D.m, D.l, D.t, Prod.mk.injEq] at h1
  obtain ⟨e1, e2, e3, e4, e5, e6⟩ := h1
  rw [List.append_assoc, List.append_assoc] at h2
  obtain ⟨f1, f2⟩ := shps_inj l l' (pres t ++ u) (pres t' ++ v) e5 h2
  obtain ⟨f3, f4⟩ := shps_inj t t' u v e6 f2
  rw [e1, e2, bytes_ext e3, e4, f1, f3]
  exact ⟨rfl, f4⟩
theorem shps_inj : ∀ (a b : List D) (u v : List D), a.length = b.length → (pres a ++ u).map shp = (pres b ++ v).map shp → a = b ∧ u.map shp = v.map shp
 | [], [], u, v, _, h => ⟨rfl, by simpa [pres] using h⟩
 | a :: l, b :: r, u, v, hl, h => by
  rw [pres, pres, List.append_assoc, List.append_assoc] at h
  obtain ⟨f1, f2⟩ := shp_inj a b (pres l ++ u) (pres r ++ v) h
  obtain ⟨f3, f4⟩ := shps_inj l r u v (by simpa using hl) f2
  rw [f1, f3]
  exact ⟨rfl, f4⟩
 | [], b :: r, _, _, hl, _ => by simp at hl
 | a :: l, [], _, _, hl, _ => by simp at hl
end
theorem shp_pre {a b : D} : (pre a).map shp = (pre b).map shp ↔ a = b := by
 constructor
 ·intro h
  exact (shp_inj a b [] [] (by simpa using h)).1
 ·intro h; rw [h]
theorem pre_pos (a : D) : 0 < (pre a).length := by cases a; rw [pre]; simp
theorem sameD_rows {a b : D} {ls ms : List P} (h1 : ls.map P.d = (if check a = 0 then pre a else [])) (h2 : ms.map P.d = (if check b = 0 then pre b else [])) : sameD a b = true ↔ ls ≠ [] ∧ ls.map (fun p => shp p.d) = ms.map (fun p => shp p.d) := by
 have e1 : ls.map (fun p => shp p.d) = (ls.map P.d).map shp := by rw [List.map_map]; rfl
 have e2 : ms.map (fun p => shp p.d) = (ms.map P.d).map shp := by rw [List.map_map]; rfl
 have e3 : ls = [] ↔ ls.map P.d = [] := by simp
 rw [e1, e2, Ne, e3, h1, h2]
 unfold sameD
 have pa := pre_pos a
 have pb := pre_pos b
 have na : pre a ≠ [] := by intro h; rw [h] at pa; simp at pa
 have nb : pre b ≠ [] := by intro h; rw [h] at pb; simp at pb
 by_cases ha : check a = 0
 ·by_cases hb : check b = 0
  ·rw [if_pos ha, if_pos hb, decide_eq_true ha, decide_eq_true hb, shp_pre, ← eqD_iff]
   simp [na]
  ·rw [if_pos ha, if_neg hb, decide_eq_false hb]
   simp [na]
 ·rw [if_neg ha, decide_eq_false ha]
  simp
theorem bdrew {n : Nat} {a w : World} (h : Below n a w) (k : Nat) : Below n a (w.drewN k) := ⟨h.os, h.tape, h.output, h.size, h.block⟩
theorem part_at {w : World} {base : Nat} {v : Value} {ls : List P} (h : w.ownsRow base 25 6 v ls.length (flatP ls)) (j : Nat) (hj : j < ls.length) : ∃ g c, v = .slice (some ⟨g, 0, none⟩) ls.length c ∧ g < w.heap.size ∧ Six w g (j * 6) ls[j].d ls[j].vm ls[j].vl ls[j].vt := by
 rcases h.2 with ⟨_, h0⟩ | ⟨g, cap, cur, rfl, e2, e3, e4⟩
 ·omega
 ·refine ⟨g, cap, rfl, (h.lt g rfl).2, ?_⟩
  have hc := fun c u hu => h.cells (g := g) rfl (j * 6 + c) u hu
  have hadd : ∀ k, (⟨g, 0, none⟩ : Addr).add k = ⟨g, k, none⟩ := fun k => by unfold Addr.add; split <;> simp_all
  simp only [hadd] at hc
  have hf : ∀ c, c < 6 → (flatP ls)[j * 6 + c]? = ls[j].cells[c]? := by
   intro c hc6
   have hsplit : ls = ls.take j ++ ls[j] :: ls.drop (j + 1) := by rw [← List.drop_eq_getElem_cons hj, List.take_append_drop]
   have hlen : (flatP (ls.take j)).length = j * 6 := by rw [flatP_length, List.length_take, Nat.min_eq_left (by omega)]
   have : flatP ls = flatP (ls.take j) ++ (ls[j].cells ++ flatP (ls.drop (j + 1))) := by
    conv => lhs; rw [hsplit]
    unfold flatP
    rw [List.flatMap_append, List.flatMap_cons]
   rw [this, List.getElem?_append_right (by omega), hlen, show j * 6 + c - j * 6 = c by omega, List.getElem?_append_left (by show c < 6; exact hc6)]
  exact ⟨hc 0 _ (hf 0 (by omega)), hc 1 _ (hf 1 (by omega)), hc 2 _ (hf 2 (by omega)), hc 3 _ (hf 3 (by omega)), hc 4 _ (hf 4 (by omega)), hc 5 _ (hf 5 (by omega))⟩
end Dt
set_option maxRecDepth 100000 in
set_option maxHeartbeats 4000000 in
theorem sameMarks_any {F G : Nat → Prop} (va vb : Value) (m m' : List Int) (w : World) (ha : Dt.IRow F w va m) (hb : Dt.IRow G w vb m') (hl : m.length ≤ 140737488355328) (hl' : m'.length ≤ 140737488355328) :
  Calls Try.prog 25 #[va, vb] w fun e w' => e = .returned (.bool (decide (m = m'))) ∧ ∃ k, w' = w.drewN k := by
 obtain ⟨a, c, rfl, hc, h1⟩ := ha
 obtain ⟨a', c', rfl, hc', h1'⟩ := hb
 obtain ⟨R, hR⟩ : ∃ R, R = decide (m = m') := ⟨_, rfl⟩
 rw [← hR]
 have HR := Lib.hid hR
 clear hR
 by_cases hlen : m.length = m'.length
 case neg =>
  have HF : Hid (R = false) := by show _ = _; rw [HR.out]; exact decide_eq_false (fun e => hlen (by rw [e]))
  have hli : ((m.length : Int) != (m'.length : Int)) = true := by simp; omega
  have hli' : ((m.length : Int) == (m'.length : Int)) = false := by simp; omega
  clear h1 h1' HR hlen
  go_enter Try.func25, Try.ntmps25
  go_wp2
  go_ret
  exact ⟨by rw [HF.out]; rfl, 0, rfl⟩
 have H1 := Lib.hid h1
 have H1' := Lib.hid h1'
 have HL := Lib.hid hlen
 rw [← hlen]
 clear h1 h1' hlen
 go_enter Try.func25, Try.ntmps25
 go_wp2
 go_loopw [5] (fun v wr => ∃ j : Nat, v = .int .i64 j ∧ j ≤ m.length ∧ Hid (m.take j = m'.take j) ∧ Hid (∃ k, wr = w.drewN k)) (fun v _ => m.length - (intOf v).toNat)
 case atStart => exact ⟨0, rfl, Nat.zero_le _, rfl, 0, rfl⟩
 case round =>
  obtain ⟨j, rfl, hj, HT, HBK⟩ := hrel
  have HB : Hid (Below w.heap.size w wr) := by
   obtain ⟨k, rfl⟩ := HBK.out
   exact Dt.bdrew (Below.refl _ _) k
  by_cases hlt : j < m.length
  ·have hlti : (j : Int) < (m.length : Int) := by omega
   have hlt' : j < m'.length := by have := HL.out; omega
   obtain ⟨b, o, rfl, hF, hbw, hcell⟩ := H1.out (by intro e; rw [e] at hlt; simp at hlt)
   obtain ⟨b', o', rfl, hF', hbw', hcell'⟩ := H1'.out (by intro e; rw [e] at hlt'; simp at hlt')
   have q0 := (HB.out.cell (p := ⟨b, o + j, none⟩) hbw).trans (hcell j hlt)
   have q1 := (HB.out.cell (p := ⟨b', o' + j, none⟩) hbw').trans (hcell' j hlt')
   have hj0 : (0 : Int) ≤ (j : Int) := by omega
   clear hcell hcell' hF hF'
   by_cases he : m[j] = m'[j]
   ·have HN : Hid (m.take (j + 1) = m'.take (j + 1)) := by
     show _ = _
     rw [List.take_succ_eq_append_getElem hlt, List.take_succ_eq_append_getElem hlt', HT.out, he]
    obtain ⟨x, hx⟩ : ∃ x, x = m[j] := ⟨_, rfl⟩
    rw [← he] at q1
    rw [← hx] at q0 q1
    clear he HT hx
    go_wp2
    go_quiet (fail)
    go_wp2
    go_roundw
    case rel => exact ⟨j + 1, by simp, by omega, HN, (by obtain ⟨k, hk⟩ := HBK.out; exact ⟨_, by rw [hk, World.drewN_drewN]⟩)⟩
    case measure => simp [intOf]; omega
   ·have HF : Hid (R = false) := by
     show _ = _
     rw [HR.out]
     refine decide_eq_false (fun e => he ?_)
     subst e; rfl
    obtain ⟨x, hx⟩ : ∃ x, x = m[j] := ⟨_, rfl⟩
    obtain ⟨y, hy⟩ : ∃ y, y = m'[j] := ⟨_, rfl⟩
    rw [← hx, ← hy] at he
    rw [← hx] at q0
    rw [← hy] at q1
    have he' : (x != y) = true := by simpa using he
    have he'' : (x == y) = false := by simpa using he
    clear he HT hx hy HR
    go_wp2
    go_quiet (fail)
    go_wp2
    go_ret
    exact ⟨by rw [HF.out]; rfl, (by obtain ⟨k, hk⟩ := HBK.out; exact ⟨_, by rw [hk, World.drewN_drewN]⟩)⟩
  ·obtain rfl : j = m.length := by omega
   have hge : (m.length : Int) ≤ (m.length : Int) := by omega
   have HF : Hid (R = true) := by
    show _ = _
    rw [HR.out]
    refine decide_eq_true ?_
    have := HT.out
    rw [List.take_length, HL.out, List.take_length] at this
    exact this
   go_wp2
   go_ret
   exact ⟨by rw [HF.out]; rfl, HBK.out⟩
namespace Dt
theorem boxes2 (w : World) (x y : D) (a b c d e f : Value) : ∃ w2, (w.alloc (.cells #[.int .i64 x.k, .int .i64 x.n, .string x.s, a, b, c] 25)).alloc (.cells #[.int .i64 y.k, .int .i64 y.n, .string y.s, d, e, f] 25) = w2 ∧ Below w.heap.size w w2 ∧ w2.heap.size = w.heap.size + 1 + 1 ∧ Box w2 w.heap.size x a b c ∧ Box w2 (w.heap.size + 1) y d e f := by
 refine ⟨_, rfl, ((Below.refl _ _).alloc (Nat.le_refl _) _).alloc (by rw [World.size_alloc]; omega) _, by simp, ?_, ?_⟩
 ·have h := six_new w x.k x.n x.s a b c 25
  have hb : Below (w.alloc (.cells #[.int .i64 x.k, .int .i64 x.n, .string x.s, a, b, c] 25)).heap.size (w.alloc (.cells #[.int .i64 x.k, .int .i64 x.n, .string x.s, a, b, c] 25)) ((w.alloc (.cells #[.int .i64 x.k, .int .i64 x.n, .string x.s, a, b, c] 25)).alloc (.cells #[.int .i64 y.k, .int .i64 y.n, .string y.s, d, e, f] 25)) := (Below.refl _ _).alloc (Nat.le_refl _) _
  have hl : w.heap.size < (w.alloc (.cells #[.int .i64 x.k, .int .i64 x.n, .string x.s, a, b, c] 25)).heap.size := by rw [World.size_alloc]; omega
  exact ⟨(hb.cell (p := ⟨w.heap.size, 0, none⟩) hl).trans (h 0 (by omega)), (hb.cell (p := ⟨w.heap.size, 1, none⟩) hl).trans (h 1 (by omega)), (hb.cell (p := ⟨w.heap.size, 2, none⟩) hl).trans (h 2 (by omega)), (hb.cell (p := ⟨w.heap.size, 3, none⟩) hl).trans (h 3 (by omega)), (hb.cell (p := ⟨w.heap.size, 4, none⟩) hl).trans (h 4 (by omega)), (hb.cell (p := ⟨w.heap.size, 5, none⟩) hl).trans (h 5 (by omega))⟩
 ·have h := six_new (w.alloc (.cells #[.int .i64 x.k, .int .i64 x.n, .string x.s, a, b, c] 25)) y.k y.n y.s d e f 25
  rw [World.size_alloc] at h
  exact ⟨h 0 (by omega), h 1 (by omega), h 2 (by omega), h 3 (by omega), h 4 (by omega), h 5 (by omega)⟩
theorem Box.below {w w' : World} {X : Nat} {d : D} {a b c : Value} (h : Box w X d a b c) (hb : Below w.heap.size w w') : Box w' X d a b c := by
 obtain ⟨h0, h1, h2, h3, h4, h5⟩ := h
 have hl := block_lt_of_cell h0
 exact ⟨(hb.cell (p := ⟨X, 0, none⟩) hl).trans h0, (hb.cell (p := ⟨X, 1, none⟩) hl).trans h1, (hb.cell (p := ⟨X, 2, none⟩) hl).trans h2, (hb.cell (p := ⟨X, 3, none⟩) hl).trans h3, (hb.cell (p := ⟨X, 4, none⟩) hl).trans h4, (hb.cell (p := ⟨X, 5, none⟩) hl).trans h5⟩
theorem own_below {w w' : World} {b size n : Nat} {e : TypeId} {v : Value} {xs : List Value} (h : w.ownsRow b e size v n xs) (hb : Below w.heap.size w w') : w'.ownsRow b e size v n xs :=
 own_keep (S := fun _ => False) h ((Keep.refl _ w).below hb) (fun _ _ h => h)
theorem pre_le {x : D} {ls : List P} (h : ls.map P.d = (if check x = 0 then pre x else [])) : ∀ p ∈ ls, p.d ∈ pre x := by
 intro p hp
 have hm : p.d ∈ ls.map P.d := List.mem_map_of_mem hp
 rw [h] at hm
 split at hm
 ·exact hm
 ·simp at hm
mutual
theorem wf_pre : ∀ (x : D), Wf x → ∀ y ∈ pre x, Wf y
 | .mk k n s m l t, h, y, hy => by
  rw [pre] at hy
  rcases List.mem_cons.1 hy with rfl | hy
  ·exact h
  ·rw [Wf] at h
   rcases List.mem_append.1 hy with hy | hy
   ·exact wfs_pre l h.2.2.2.2.2.1 y hy
   ·exact wfs_pre t h.2.2.2.2.2.2 y hy
theorem wfs_pre : ∀ (l : List D), Wfs l → ∀ y ∈ pres l, Wf y
 | [], _, y, hy => by simp [pres] at hy
 | d :: r, h, y, hy => by
  rw [pres] at hy
  rw [Wfs] at h
  rcases List.mem_append.1 hy with hy | hy
  ·exact wf_pre d h.1 y hy
  ·exact wfs_pre r h.2 y hy
end
theorem wf_m {x : D} (h : Wf x) : x.m.length ≤ 140737488355328 := by cases x; rw [Wf] at h; exact h.2.2.1
end Dt
set_option maxRecDepth 100000 in
set_option maxHeartbeats 8000000 in
theorem rSame_any {F G : Nat → Prop} (x y : Dt.D) (vm vl vt um ul ut : Value) (w : World) (hWx : Dt.Wf x) (hWy : Dt.Wf y) (hRx : Dt.Rep F w x vm vl vt) (hRy : Dt.Rep G w y um ul ut) :
  Calls Try.prog 12 #[.agg #[.int .i64 x.k, .int .i64 x.n, .string x.s, vm, vl, vt], .agg #[.int .i64 y.k, .int .i64 y.n, .string y.s, um, ul, ut]] w fun e w' => e = .returned (.bool (Dt.sameD x y)) ∧ Below w.heap.size w w' := by
 obtain ⟨a1, n1, q1, a2, n2, q2, a3, n3, q3, rfl, rfl, rfl⟩ := hRx.forms
 obtain ⟨a1', n1', q1', a2', n2', q2', a3', n3', q3', rfl, rfl, rfl⟩ := hRy.forms
 obtain ⟨w2, hw2, hb2, hs2, hx2, hy2⟩ := Dt.boxes2 w x y (.slice a1 n1 q1) (.slice a2 n2 q2) (.slice a3 n3 q3) (.slice a1' n1' q1') (.slice a2' n2' q2') (.slice a3' n3' q3')
 have hx := rAll_any x _ _ _ w2 hWx (hRx.below hb2)
 have HRy := Lib.hid (hRy.below hb2)
 have HY2 := Lib.hid hy2
 have HS2 := Lib.hid hs2
 obtain ⟨b0, b1, b2, b3, b4, b5⟩ := hx2
 obtain ⟨R, hR⟩ : ∃ R, R = Dt.sameD x y := ⟨_, rfl⟩
 rw [← hR]
 have HR := Lib.hid hR
 have HWx := Lib.hid hWx
 have HWy := Lib.hid hWy
 have HB2 := Lib.hid hb2
 clear hR hRx hRy hy2 hs2 hWx hWy hb2
 go_enter Try.func12, Try.ntmps12
 go_wp2_with fail
 refine hx.mono ?_
 rintro e w3 ⟨vp, ls, rfl, hown, hrep, hmap, hlen, hb3⟩
 have hy := rAll_any y _ _ _ w3 HWy.out (HRy.out.below hb3)
 obtain ⟨c0, c1, c2, c3, c4, c5⟩ := HY2.out.below hb3
 obtain ⟨ap, cp, rfl⟩ := Dt.row_form hown
 have HO := Lib.hid hown
 have HP := Lib.hid hrep
 have HM := Lib.hid hmap
 have HB3 := Lib.hid (HB2.out.trans (hb3.mono HB2.out.size))
 clear hx hown hrep hmap hb3 b0 b1 b2 b3 b4 b5 hw2 HRy HY2 HB2
 go_wp2_with fail
 refine hy.mono ?_
 rintro e w4 ⟨vq, ms, rfl, hown, hrep, hmap, hlen', hb4⟩
 obtain ⟨aq, cq, rfl⟩ := Dt.row_form hown
 have HO' := Lib.hid (Dt.own_below HO.out hb4)
 have HP' := Lib.hid (fun p hp => Dt.Rep.below hb4 (HP.out p hp))
 have HB4 := Lib.hid (HB3.out.trans (hb4.mono HB3.out.size))
 have HQ := Lib.hid hown
 have HRQ := Lib.hid hrep
 have HM' := Lib.hid hmap
 have HSD := Lib.hid (Dt.sameD_rows HM.out hmap)
 clear hy hown hrep hmap hb4 c0 c1 c2 c3 c4 c5 HO HP HB3
 by_cases hn : ls.length = 0
 ·have HF : Hid (R = false) := by
   show _ = _
   rw [HR.out]
   cases h : Dt.sameD x y
   ·rfl
   ·exact absurd (List.length_eq_zero_iff.1 hn) (HSD.out.1 h).1
  have hni : ((ls.length : Int) == 0) = true := by simpa using hn
  clear hn
  go_wp2
  go_ret
  exact ⟨by rw [HF.out]; rfl, HB4.out⟩
 have hni : ((ls.length : Int) == 0) = false := by rw [beq_eq_false_iff_ne]; omega
 by_cases hne : ls.length = ms.length
 case neg =>
  have HF : Hid (R = false) := by
   show _ = _
   rw [HR.out]
   cases h : Dt.sameD x y
   ·rfl
   ·exact absurd (by have := congrArg List.length (HSD.out.1 h).2; simpa using this) hne
  have hei : ((ls.length : Int) == (ms.length : Int)) = false := by simp; omega
  have hei' : ((ls.length : Int) != (ms.length : Int)) = true := by simp; omega
  clear hne hn
  go_wp2
  go_ret
  exact ⟨by rw [HF.out]; rfl, HB4.out⟩
 have HE := Lib.hid hne
 have HN := Lib.hid hn
 rw [← hne]
 clear hn hne
 go_wp2
 go_loopw [7] (fun v wr => ∃ j : Nat, v = .int .i64 j ∧ j ≤ ls.length ∧ Hid (∀ i (h : i < ls.length) (h' : i < ms.length), i < j → Dt.shp ls[i].d = Dt.shp ms[i].d) ∧ Hid (Below w4.heap.size w4 wr)) (fun v _ => ls.length - (intOf v).toNat)
 case atStart => exact ⟨0, rfl, Nat.zero_le _, fun i _ _ h => absurd h (by omega), Below.refl _ _⟩
 case round =>
  obtain ⟨j, rfl, hj, HT, HB⟩ := hrel
  by_cases hlt : j < ls.length
  ·have hlti : (j : Int) < (ls.length : Int) := by omega
   have hj0 : (0 : Int) ≤ (j : Int) := by omega
   have hlt' : j < ms.length := by have := HE.out; omega
   obtain ⟨g, c, hv, hg, s0, s1, s2, s3, s4, s5⟩ := Dt.part_at (Dt.own_below HO'.out HB.out) j hlt
   obtain ⟨g', c', hv', hg', t0, t1, t2, t3, t4, t5⟩ := Dt.part_at (Dt.own_below HQ.out HB.out) j hlt'
   obtain rfl : ap = some ⟨g, 0, none⟩ := by cases hv; rfl
   obtain rfl : aq = some ⟨g', 0, none⟩ := by cases hv'; rfl
   have HRP := Lib.hid ((HP'.out ls[j] (List.getElem_mem hlt)).below HB.out)
   have HRP' := Lib.hid ((HRQ.out ms[j] (List.getElem_mem hlt')).below HB.out)
   have hw1 := Dt.wf_pre x HWx.out _ (Dt.pre_le HM.out ls[j] (List.getElem_mem hlt))
   have hw2' := Dt.wf_pre y HWy.out _ (Dt.pre_le HM'.out ms[j] (List.getElem_mem hlt'))
   have HSN : Hid (Dt.shp ls[j].d = Dt.shp ms[j].d → ∀ i (h : i < ls.length) (h' : i < ms.length), i < j + 1 → Dt.shp ls[i].d = Dt.shp ms[i].d) := by
    intro hs i h h' hi
    by_cases hij : i = j
    ·subst hij; exact hs
    ·exact HT.out i h h' (by omega)
   have HSF : Hid (Dt.shp ls[j].d ≠ Dt.shp ms[j].d → R = false) := by
    intro hs
    rw [HR.out]
    cases h : Dt.sameD x y
    ·rfl
    ·refine absurd ?_ hs
     have h2 := (HSD.out.1 h).2
     have := congrArg (fun l => l[j]?) h2
     simpa [List.getElem?_map, hlt, hlt'] using this
   obtain ⟨p, hp⟩ : ∃ p, ls[j] = p := ⟨_, rfl⟩
   obtain ⟨q, hq⟩ : ∃ q, ms[j] = q := ⟨_, rfl⟩
   rw [hp] at s0 s1 s2 s3 s4 s5 HRP hw1
   rw [hq] at t0 t1 t2 t3 t4 t5 HRP' hw2'
   rw [hp, hq] at HSN HSF
   clear hv hv' hp hq HT
   obtain ⟨p, pvm, pvl, pvt⟩ := p
   obtain ⟨q, qvm, qvl, qvt⟩ := q
   simp only at s0 s1 s2 s3 s4 s5 t0 t1 t2 t3 t4 t5 HRP HRP' HSN HSF hw1 hw2'
   have hm1 := ((Dt.rep_iff _ _ _ _ _ _).1 HRP.out).1
   have hm2 := ((Dt.rep_iff _ _ _ _ _ _).1 HRP'.out).1
   have hsm := fun n => sameMarks_any pvm qvm p.m q.m (wr.drewN n) (hm1.below (Dt.bdrew (Below.refl _ _) n)) (hm2.below (Dt.bdrew (Below.refl _ _) n)) (Dt.wf_m hw1) (Dt.wf_m hw2')
   obtain ⟨_, ⟨al, cl, rfl, _⟩, ⟨at_, ct, rfl, _⟩⟩ := (Dt.rep_iff _ _ _ _ _ _).1 HRP.out
   obtain ⟨_, ⟨al', cl', rfl, _⟩, ⟨at', ct', rfl, _⟩⟩ := (Dt.rep_iff _ _ _ _ _ _).1 HRP'.out
   obtain ⟨am, cm, rfl, _⟩ := hm1
   obtain ⟨am', cm', rfl, _⟩ := hm2
   obtain ⟨MB, hMB⟩ : ∃ MB, MB = decide (p.m = q.m) := ⟨_, rfl⟩
   rw [← hMB] at hsm
   have HMB := Lib.hid hMB
   have hSM := Lib.hid hsm
   clear hMB hsm
   by_cases hk : p.k = q.k
   case neg =>
    have hF : Hid (R = false) := HSF.out (fun e => hk (by unfold Dt.shp at e; simp only [Prod.mk.injEq] at e; exact e.1))
    have hb1 : (p.k != q.k) = true := by simpa using hk
    have hb2 : (p.k == q.k) = false := by simpa using hk
    clear hk
    go_wp2_with fail
    go_quiet ((go_at_call 25; exact Calls.quiet_of (hSM.out _)))
    go_wp2
    go_ret
    exact ⟨by rw [hF.out]; rfl, HB4.out.trans ((Dt.bdrew HB.out _).mono HB4.out.size)⟩
   have hk1 : (p.k != q.k) = false := by simpa using hk
   have hk2 : (p.k == q.k) = true := by simpa using hk
   have HKK := Lib.hid hk
   clear hk
   by_cases hk : p.n = q.n
   case neg =>
    have hF : Hid (R = false) := HSF.out (fun e => hk (by unfold Dt.shp at e; simp only [Prod.mk.injEq] at e; exact e.2.1))
    have hb1 : (p.n != q.n) = true := by simpa using hk
    have hb2 : (p.n == q.n) = false := by simpa using hk
    clear hk
    go_wp2_with fail
    go_quiet ((go_at_call 25; exact Calls.quiet_of (hSM.out _)))
    go_wp2
    go_ret
    exact ⟨by rw [hF.out]; rfl, HB4.out.trans ((Dt.bdrew HB.out _).mono HB4.out.size)⟩
   have hn1 : (p.n != q.n) = false := by simpa using hk
   have hn2 : (p.n == q.n) = true := by simpa using hk
   have HKN := Lib.hid hk
   clear hk
   by_cases hk : p.s.data.toList = q.s.data.toList
   case neg =>
    have hF : Hid (R = false) := HSF.out (fun e => hk (by unfold Dt.shp at e; simp only [Prod.mk.injEq] at e; exact e.2.2.1))
    have hq : p.s ≠ q.s := fun e => hk (by rw [e])
    have hb3 : decide (p.s = q.s) = false := by simpa using hq
    have hb4 : (p.s.toList == q.s.toList) = false := by rw [ByteArray.toList_eq, ByteArray.toList_eq]; simpa using hk
    have hb5 : (p.s.toList != q.s.toList) = true := by rw [bne, hb4]; rfl
    have hb6 : (p.s.data == q.s.data) = false := by rw [beq_eq_false_iff_ne]; intro e; exact hk (by rw [e])
    have hb7 : (p.s.data != q.s.data) = true := by rw [bne, hb6]; rfl
    clear hq
    clear hk
    go_wp2_with fail
    go_quiet ((go_at_call 25; exact Calls.quiet_of (hSM.out _)))
    go_wp2
    go_ret
    exact ⟨by rw [hF.out]; rfl, HB4.out.trans ((Dt.bdrew HB.out _).mono HB4.out.size)⟩
   have HKS := Lib.hid hk
   have hse := Dt.bytes_ext hk
   obtain ⟨ps, hps⟩ : ∃ ps, ps = p.s := ⟨_, rfl⟩
   rw [← hse] at t2
   rw [← hps] at s2 t2
   clear hk hse hps
   by_cases hk : p.m = q.m
   case neg =>
    have hF : Hid (R = false) := HSF.out (fun e => hk (by unfold Dt.shp at e; simp only [Prod.mk.injEq] at e; exact e.2.2.2.1))
    have hmb : MB = false := by rw [HMB.out]; exact decide_eq_false hk
    rw [hmb] at hSM
    clear hk
    go_wp2_with fail
    go_quiet ((go_at_call 25; exact Calls.quiet_of (hSM.out _)))
    go_wp2
    go_ret
    exact ⟨by rw [hF.out]; rfl, HB4.out.trans ((Dt.bdrew HB.out _).mono HB4.out.size)⟩
   have hmb : MB = true := by rw [HMB.out]; exact decide_eq_true hk
   rw [hmb] at hSM
   have HKM := Lib.hid hk
   clear hk
   by_cases hk : p.l.length = q.l.length
   case neg =>
    have hF : Hid (R = false) := HSF.out (fun e => hk (by unfold Dt.shp at e; simp only [Prod.mk.injEq] at e; exact e.2.2.2.2.1))
    have hb1 : ((p.l.length : Int) != (q.l.length : Int)) = true := by simp; omega
    have hb2 : ((p.l.length : Int) == (q.l.length : Int)) = false := by rw [beq_eq_false_iff_ne]; omega
    clear hk
    go_wp2_with fail
    go_quiet ((go_at_call 25; exact Calls.quiet_of (hSM.out _)))
    go_wp2
    go_ret
    exact ⟨by rw [hF.out]; rfl, HB4.out.trans ((Dt.bdrew HB.out _).mono HB4.out.size)⟩
   have HKL := Lib.hid hk
   rw [← hk] at t4
   clear hk
   by_cases hk : p.t.length = q.t.length
   case neg =>
    have hF : Hid (R = false) := HSF.out (fun e => hk (by unfold Dt.shp at e; simp only [Prod.mk.injEq] at e; exact e.2.2.2.2.2))
    have hb1 : ((p.t.length : Int) != (q.t.length : Int)) = true := by simp; omega
    have hb2 : ((p.t.length : Int) == (q.t.length : Int)) = false := by rw [beq_eq_false_iff_ne]; omega
    clear hk
    go_wp2_with fail
    go_quiet ((go_at_call 25; exact Calls.quiet_of (hSM.out _)))
    go_wp2
    go_ret
    exact ⟨by rw [hF.out]; rfl, HB4.out.trans ((Dt.bdrew HB.out _).mono HB4.out.size)⟩
   have HNX : Hid (∀ i (h : i < ls.length) (h' : i < ms.length), i < j + 1 → Dt.shp ls[i].d = Dt.shp ms[i].d) := HSN.out (by unfold Dt.shp; rw [HKK.out, HKN.out, HKS.out, HKM.out, HKL.out, hk])
   rw [← hk] at t5
   clear hk
   go_wp2_with fail
   go_quiet ((go_at_call 25; exact Calls.quiet_of (hSM.out _)))
   go_wp2
   go_roundw
   case rel => exact ⟨j + 1, by simp, by omega, HNX, Dt.bdrew HB.out _⟩
   case measure => simp [intOf]; omega
  ·obtain rfl : j = ls.length := by omega
   have hge : (ls.length : Int) ≤ (ls.length : Int) := by omega
   have HF : Hid (R = true) := by
    show _ = _
    rw [HR.out]
    refine HSD.out.2 ⟨fun e => HN.out (by rw [e]; rfl), ?_⟩
    refine List.ext_getElem (by simpa using HE.out) fun i h1 h2 => ?_
    rw [List.getElem_map, List.getElem_map]
    exact HT.out i (by simpa using h1) (by simpa using h2) (by simpa using h1)
   go_wp2
   go_ret
   exact ⟨by rw [HF.out]; rfl, HB4.out.trans (HB.out.mono HB4.out.size)⟩
end Go.Proofs.Ytcopdfihaheplaa
namespace Go.Proofs.Ytcopdfihaheplaa
open Go.RowKit
namespace Dt
mutual
def Fine : D → Prop
 | .mk _ _ _ m l t => m.length ≤ 16 ∧ l.length ≤ 4096 ∧ t.length ≤ 4096 ∧ Fines l ∧ Fines t
def Fines : List D → Prop
 | [] => True
 | d :: r => Fine d ∧ Fines r
end
theorem single_m {d : D} (h : single d = true) : d.m.length ≤ 16 := by
 cases d with
 | mk k n s m l t =>
  dsimp only [single] at h
  show m.length ≤ 16
  have he : ∀ (m : List Int), m.isEmpty = true → m.length ≤ 16 := fun m h => by
   have := List.isEmpty_iff.1 h; rw [this]; simp
  by_cases h1 : k = 1
  ·rw [if_pos h1] at h; simp only [Bool.and_eq_true] at h; exact he m h.1.1.2
  rw [if_neg h1] at h
  by_cases h2 : k = 2
  ·rw [if_pos h2] at h; simp only [Bool.and_eq_true] at h; exact he m h.1.1.2
  rw [if_neg h2] at h
  by_cases h3 : k = 3
  ·rw [if_pos h3] at h; simp only [Bool.and_eq_true] at h; exact he m h.1.1.2
  rw [if_neg h3] at h
  by_cases h4 : k = 4
  ·rw [if_pos h4] at h; simp only [Bool.and_eq_true] at h; exact he m h.1.1.2
  rw [if_neg h4] at h
  by_cases h5 : k = 5
  ·rw [if_pos h5] at h; simp only [Bool.and_eq_true, decide_eq_true_eq] at h; exact h.1.1.1.1.2
  rw [if_neg h5] at h
  by_cases h6 : k = 6 ∨ k = 8
  ·rw [if_pos h6] at h; simp only [Bool.and_eq_true] at h; exact he m h.1.2
  rw [if_neg h6] at h
  by_cases h7 : k = 7
  ·rw [if_pos h7] at h; simp only [Bool.and_eq_true] at h; exact he m h.1.1.2
  ·rw [if_neg h7] at h; simp at h
mutual
theorem chk_fine : ∀ (d : D) (deep p : Nat), p ≤ 4096 → (chk d deep p).1 = 0 → p + 1 ≤ (chk d deep p).2 ∧ Fine d
 | .mk k n s m l t, deep, p, hp, h => by
  rw [chk] at h ⊢
  split at h
  ·simp at h
  rename_i h1
  rw [if_neg h1]
  split at h
  ·simp at h
  rename_i h2
  rw [if_neg h2]
  split at h
  ·rename_i h3
   rw [if_pos h3]
   split at h
   ·rename_i h4
    rw [if_pos h4]
    have a1 := chks_fine l (deep + 1) (p + 1) (by omega) h4
    have a2 := chks_fine t (deep + 1) _ (chks_le l (deep + 1) (p + 1) (by omega)) h
    have b1 := chks_le l (deep + 1) (p + 1) (by omega)
    have b2 := chks_le t (deep + 1) _ b1
    refine ⟨by omega, ?_⟩
    rw [Fine]
    exact ⟨single_m h3, by omega, by omega, a1.2, a2.2⟩
   ·rename_i h4
    exact absurd h h4
  ·simp at h
theorem chks_fine : ∀ (l : List D) (deep p : Nat), p ≤ 4096 → (chks l deep p).1 = 0 → p + l.length ≤ (chks l deep p).2 ∧ Fines l
 | [], _, p, _, _ => by rw [chks, Fines]; exact ⟨by simp, trivial⟩
 | d :: r, deep, p, hp, h => by
  rw [chks] at h ⊢
  split at h
  ·rename_i h1
   rw [if_pos h1]
   have a1 := chk_fine d deep p hp h1
   have a2 := chks_fine r deep _ (chk_le d deep p hp) h
   rw [Fines]
   refine ⟨by rw [List.length_cons]; omega, a1.2, a2.2⟩
  ·rename_i h1
   exact absurd h h1
end
theorem fine_of_check {d : D} (h : check d = 0) : Fine d := (chk_fine d 1 0 (by omega) h).2
theorem Fines.at : ∀ {l : List D}, Fines l → ∀ y ∈ l, Fine y
 | [], _, y, h => absurd h (by simp)
 | d :: r, hw, y, h => by
  rw [Fines] at hw
  rcases List.mem_cons.1 h with rfl | h
  ·exact hw.1
  ·exact Fines.at hw.2 y h
theorem fine_parts {d : D} (h : Fine d) : d.m.length ≤ 16 ∧ d.l.length ≤ 4096 ∧ d.t.length ≤ 4096 ∧ Fines d.l ∧ Fines d.t := by cases d; rw [Fine] at h; exact h
structure Rowing (w : World) (base : Nat) (v : Value) (ls : List P) : Prop where
 row : w.ownsRow base 25 6 v ls.length (flatP ls)
 rep : ∀ p ∈ ls, Rep (fun k => base ≤ k ∧ v.ownBlock ≠ some k) w p.d p.vm p.vl p.vt
theorem Rowing.nil (w : World) (base : Nat) : Rowing w base (.slice none 0 0) [] := ⟨World.ownsRow_nil _ _ _ _, by simp⟩
theorem Rowing.keep {S : Nat → Prop} {w w' : World} {base : Nat} {v : Value} {ls : List P} (h : Rowing w base v ls) (hk : Keep S w w') (hS : ∀ k, base ≤ k → k < w.heap.size → ¬ S k) : Rowing w' base v ls :=
 ⟨own_keep h.row hk (fun k hk => hS k (own_lt h.row k hk).1 (own_lt h.row k hk).2), fun p hp => Rep.keep hk (fun b hb hb' => hS b hb.1 hb') p.d (h.rep p hp)⟩
theorem Rowing.below {w w' : World} {base : Nat} {v : Value} {ls : List P} (h : Rowing w base v ls) (hb : Below w.heap.size w w') : Rowing w' base v ls :=
 h.keep (S := fun _ => False) ((Keep.refl _ w).below hb) (fun _ _ _ h => h)
theorem Rowing.push {w w1 wA w5 : World} {base : Nat} {v v' : Value} {ls : List P} {p : P} (h : Rowing w base v ls) (hbase : base ≤ w.heap.size) (h1 : Below w.heap.size w w1) (hp : Rep (fun k => w.heap.size ≤ k) w1 p.d p.vm p.vl p.vt) (hA : Below w1.heap.size w1 wA)
  (hown : w5.ownsRow base 25 6 v' (ls.length + 1) (flatP ls ++ p.cells)) (hg : wA.grownBy w5 v.ownBlock) (hat : v'.ownBlock = v.ownBlock ∨ v'.ownBlock = some wA.heap.size) :
  Rowing w5 base v' (ls ++ [p]) ∧ Keep (fun k => v.ownBlock = some k) w w5 := by
 have hwA : Below w.heap.size w wA := h1.trans (hA.mono h1.size)
 have hK : Keep (fun k => v.ownBlock = some k) w w5 := ⟨hg.os.trans hwA.os, hg.tape.trans hwA.tape, hg.output.trans hwA.output, Nat.le_trans hwA.size hg.size, fun k hk hn => (hg.block k (by have := hwA.size; omega) (fun e => hn e.symm)).trans (hwA.block k hk)⟩
 have hK1 : Keep (fun k => v.ownBlock = some k) w1 w5 := ⟨hg.os.trans hA.os, hg.tape.trans hA.tape, hg.output.trans hA.output, Nat.le_trans hA.size hg.size, fun k hk hn => (hg.block k (by have := hA.size; omega) (fun e => hn e.symm)).trans (hA.block k hk)⟩
 have hvl : ∀ k, v.ownBlock = some k → base ≤ k ∧ k < w.heap.size := own_lt h.row
 refine ⟨⟨by rw [List.length_append, flatP_app]; exact hown, fun q hq => ?_⟩, hK⟩
 rcases List.mem_append.1 hq with hq | hq
 ·have hr := Rep.keep hK (fun b hb _ e => hb.2 e) q.d (h.rep q hq)
  have hr0 : Rep (fun k => k < w.heap.size ∧ base ≤ k ∧ v.ownBlock ≠ some k) w q.d q.vm q.vl q.vt := Rep.mono (fun b hb hl => ⟨hl, hb⟩) q.d (h.rep q hq)
  refine Rep.mono (fun b hb _ => ⟨hb.2.1, fun e => ?_⟩) q.d (Rep.keep hK (fun b hb _ e => hb.2.2 e) q.d hr0)
  rcases hat with e' | e'
  ·rw [e'] at e; exact hb.2.2 e
  ·rw [e'] at e; cases e; have := hwA.size; omega
 ·obtain rfl : q = p := by simpa using hq
  have hr0 : Rep (fun k => k < w1.heap.size ∧ w.heap.size ≤ k) w1 q.d q.vm q.vl q.vt := Rep.mono (fun b hb hl => ⟨hl, hb⟩) q.d hp
  refine Rep.mono (fun b hb _ => ⟨Nat.le_trans hbase hb.2, fun e => ?_⟩) q.d (Rep.keep hK1 (fun b hb _ e => by have := (hvl b e).2; omega) q.d hr0)
  rcases hat with e' | e'
  ·rw [e'] at e; have := (hvl b e).2; omega
  ·rw [e'] at e; cases e; have := hA.size; omega
theorem Rowing.to_row {w : World} {base : Nat} {v : Value} {ls : List P} (h : Rowing w base v ls) : Row (fun k => base ≤ k) w v (ls.map P.d) := by
 have hreps : ∀ g, v.ownBlock = some g → Reps (fun k => base ≤ k) w (ls.map P.d) g 0 := by
  intro g hg
  refine Reps.of fun j hj => ?_
  have hj' : j < ls.length := by simpa using hj
  obtain ⟨g', c, rfl, _, hs⟩ := part_at h.row j hj'
  cases hg
  refine ⟨ls[j].vm, ls[j].vl, ls[j].vt, by rw [Nat.zero_add]; simpa using hs, ?_⟩
  have := Rep.mono (fun b hb _ => hb.1) _ (h.rep ls[j] (List.getElem_mem hj'))
  simpa using this
 rcases h.row.2 with ⟨h1, h0⟩ | ⟨g, cap, cur, rfl, e2, e3, e4, _⟩
 ·have : ls = [] := List.length_eq_zero_iff.1 h0
  subst this
  exact ⟨none, 0, by rw [h1]; rfl, Nat.le_refl _, fun hn => absurd rfl hn⟩
 ·refine ⟨some ⟨g, 0, none⟩, cap, by simp, by simpa using e4, fun _ => ⟨g, 0, rfl, e2, (Array.getElem?_eq_some_iff.1 e3).1, hreps g rfl⟩⟩
theorem IRow.of_own {w : World} {base : Nat} {v : Value} {m : List Int} (h : w.ownsRow base 3 1 v m.length (m.map (Value.int .i64))) : IRow (fun k => base ≤ k) w v m := by
 have hc := fun g hg => h.cells (g := g) hg
 rcases h.2 with ⟨h1, h0⟩ | ⟨g, cap, cur, rfl, e2, e3, e4, _⟩
 ·have : m = [] := List.length_eq_zero_iff.1 h0
  subst this
  exact ⟨none, 0, by rw [h1]; rfl, Nat.le_refl _, fun hn => absurd rfl hn⟩
 ·refine ⟨some ⟨g, 0, none⟩, cap, rfl, e4, fun _ => ⟨g, 0, rfl, e2, (Array.getElem?_eq_some_iff.1 e3).1, fun j hj => ?_⟩⟩
  have := hc g rfl j (.int .i64 m[j]) (by simp [hj])
  rw [show (⟨g, 0, none⟩ : Addr).add j = ⟨g, 0 + j, none⟩ by unfold Addr.add; split <;> simp_all] at this
  exact this
theorem IRow.src {F : Nat → Prop} {w : World} {a : Option Addr} {c : Nat} {m : List Int} (h : IRow F w (.slice a m.length c) m) (ha : a ≠ none) : Ap.Src w (.slice a m.length c) m.length (m.map (Value.int .i64)) := by
 obtain ⟨a', c', h1, h2, h3⟩ := h
 cases h1
 obtain ⟨ad, rfl⟩ := Option.ne_none_iff_exists'.1 ha
 refine .inr ⟨ad, c, rfl, fun j u hu => ?_⟩
 have hj : j < m.length := by simpa using (List.getElem?_eq_some_iff.1 hu).1
 obtain ⟨b, o, e1, _, _, hc⟩ := h3 (by intro e; rw [e] at hj; simp at hj)
 cases e1
 have := hc j hj
 rw [show (⟨b, o, none⟩ : Addr).add j = ⟨b, o + j, none⟩ by unfold Addr.add; split <;> simp_all, this]
 simpa [hj] using hu
def Fresh (n : Nat) (w : World) (x : D) (e : Ending) : Prop := ∃ vm vl vt, e = .returned (.agg #[.int .i64 x.k, .int .i64 x.n, .string x.s, vm, vl, vt]) ∧ Rep (fun k => n ≤ k) w x vm vl vt
end Dt
end Go.Proofs.Ytcopdfihaheplaa
namespace Go.Proofs.Ytcopdfihaheplaa
open Go.RowKit
namespace Dt
end Dt
namespace Dt
theorem Box.keep {S : Nat → Prop} {w w' : World} {X : Nat} {d : D} {a b c : Value} (h : Box w X d a b c) (hk : Keep S w w') (hS : ¬ S X) : Box w' X d a b c := by
 obtain ⟨h0, h1, h2, h3, h4, h5⟩ := h
 have hl := block_lt_of_cell h0
 exact ⟨(hk.cell 0 hl hS).trans h0, (hk.cell 1 hl hS).trans h1, (hk.cell 2 hl hS).trans h2, (hk.cell 3 hl hS).trans h3, (hk.cell 4 hl hS).trans h4, (hk.cell 5 hl hS).trans h5⟩
theorem cell_set_ne (w : World) (X i j : Nat) (v : Value) (h : i ≠ j) : (w.setCell ⟨X, i, none⟩ v).cell? ⟨X, j, none⟩ = w.cell? ⟨X, j, none⟩ := World.cell?_setCell_other _ _ _ _ (by intro e; cases e; exact h rfl)
theorem cell_set_eq (w : World) (X i : Nat) (v u : Value) (h : w.cell? ⟨X, i, none⟩ = some u) : (w.setCell ⟨X, i, none⟩ v).cell? ⟨X, i, none⟩ = some v := World.cell?_setCell_same' _ _ _ (by rw [h]; rfl)
theorem frz_set (w : World) (X i : Nat) (v : Value) (Y j : Nat) : (w.setCell ⟨X, i, none⟩ v).frozen? ⟨Y, j, none⟩ = w.frozen? ⟨Y, j, none⟩ := World.frozen?_setCell _ _ _ _
theorem Box.set3 {w : World} {X : Nat} {d : D} {a b c : Value} (h : Box w X d a b c) (v : Value) : Box (w.setCell ⟨X, 3, none⟩ v) X d v b c := by
 obtain ⟨h0, h1, h2, h3, h4, h5⟩ := h
 exact ⟨(cell_set_ne w X 3 0 v (by omega)).trans h0, (cell_set_ne w X 3 1 v (by omega)).trans h1, (cell_set_ne w X 3 2 v (by omega)).trans h2, cell_set_eq w X 3 v _ h3, (cell_set_ne w X 3 4 v (by omega)).trans h4, (cell_set_ne w X 3 5 v (by omega)).trans h5⟩
theorem Box.set4 {w : World} {X : Nat} {d : D} {a b c : Value} (h : Box w X d a b c) (v : Value) : Box (w.setCell ⟨X, 4, none⟩ v) X d a v c := by
 obtain ⟨h0, h1, h2, h3, h4, h5⟩ := h
 exact ⟨(cell_set_ne w X 4 0 v (by omega)).trans h0, (cell_set_ne w X 4 1 v (by omega)).trans h1, (cell_set_ne w X 4 2 v (by omega)).trans h2, (cell_set_ne w X 4 3 v (by omega)).trans h3, cell_set_eq w X 4 v _ h4, (cell_set_ne w X 4 5 v (by omega)).trans h5⟩
theorem Box.set5 {w : World} {X : Nat} {d : D} {a b c : Value} (h : Box w X d a b c) (v : Value) : Box (w.setCell ⟨X, 5, none⟩ v) X d a b v := by
 obtain ⟨h0, h1, h2, h3, h4, h5⟩ := h
 exact ⟨(cell_set_ne w X 5 0 v (by omega)).trans h0, (cell_set_ne w X 5 1 v (by omega)).trans h1, (cell_set_ne w X 5 2 v (by omega)).trans h2, (cell_set_ne w X 5 3 v (by omega)).trans h3, (cell_set_ne w X 5 4 v (by omega)).trans h4, cell_set_eq w X 5 v _ h5⟩
theorem frz_keep {S : Nat → Prop} {w w' : World} {X : Nat} (h : ∀ j, w.frozen? ⟨X, j, none⟩ = false) (hk : Keep S w w') (hX : X < w.heap.size) (hS : ¬ S X) : ∀ j, w'.frozen? ⟨X, j, none⟩ = false := fun j => (hk.frozen j hX hS).trans (h j)
theorem keep1 (w : World) (X j : Nat) (v : Value) : Keep (fun k => k = X) w (w.setCell ⟨X, j, none⟩ v) := (Keep.refl (fun k => k = X) w).setCell rfl j v
theorem IRow.mono {F G : Nat → Prop} {w : World} {v : Value} {m : List Int} (h : IRow F w v m) (hFG : ∀ b, F b → b < w.heap.size → G b) : IRow G w v m := by
 obtain ⟨a, c, h1, h2, h3⟩ := h
 refine ⟨a, c, h1, h2, fun hn => ?_⟩
 obtain ⟨b, o, e1, e2, e3, e4⟩ := h3 hn
 exact ⟨b, o, e1, hFG b e2 e3, e3, e4⟩
theorem Row.mono {F G : Nat → Prop} {w : World} {v : Value} {l : List D} (h : Row F w v l) (hFG : ∀ b, F b → b < w.heap.size → G b) : Row G w v l := by
 obtain ⟨a, c, h1, h2, h3⟩ := h
 refine ⟨a, c, h1, h2, fun hn => ?_⟩
 obtain ⟨b, o, e1, e2, e3, e4⟩ := h3 hn
 exact ⟨b, o, e1, hFG b e2 e3, e3, Reps.mono hFG l e4⟩
def six6 (w : World) (Y : Nat) (x : D) (a b c : Value) : World := (((((w.setCell ⟨Y, 0, none⟩ (.int .i64 x.k)).setCell ⟨Y, 1, none⟩ (.int .i64 x.n)).setCell ⟨Y, 2, none⟩ (.string x.s)).setCell ⟨Y, 3, none⟩ a).setCell ⟨Y, 4, none⟩ b).setCell ⟨Y, 5, none⟩ c
theorem six6_keep (w : World) (Y : Nat) (x : D) (a b c : Value) : Keep (fun k => k = Y) w (six6 w Y x a b c) := (((((keep1 w Y 0 _).setCell rfl 1 _).setCell rfl 2 _).setCell rfl 3 _).setCell rfl 4 _).setCell rfl 5 _
end Dt
namespace Dt
theorem rep_zero (F : Nat → Prop) (w : World) : Rep F w (.mk 0 0 ⟨#[]⟩ [] [] []) (.slice none 0 0) (.slice none 0 0) (.slice none 0 0) :=
 (rep_iff _ _ _ _ _ _).2 ⟨⟨none, 0, rfl, Nat.le_refl _, fun h => absurd rfl h⟩, ⟨none, 0, rfl, Nat.le_refl _, fun h => absurd rfl h⟩, ⟨none, 0, rfl, Nat.le_refl _, fun h => absurd rfl h⟩⟩
end Dt
end Go.Proofs.Ytcopdfihaheplaa
namespace Go.Proofs.Ytcopdfihaheplaa
open Go.RowKit
namespace Dt
mutual
def strip (b : Bool) : D → D
 | .mk k n s m l t => .mk k n s (if b then m else []) (strips b l) (strips b t)
def strips (b : Bool) : List D → List D
 | [] => []
 | d :: r => strip b d :: strips b r
end
theorem strips_length (b : Bool) : ∀ l : List D, (strips b l).length = l.length
 | [] => by rw [strips]
 | d :: r => by rw [strips, List.length_cons, List.length_cons, strips_length b r]
theorem strips_snoc (b : Bool) : ∀ (l : List D) (j : Nat) (h : j < l.length), strips b (l.take (j + 1)) = strips b (l.take j) ++ [strip b l[j]]
 | [], j, h => absurd h (by simp)
 | d :: r, 0, h => by simp [strips]
 | d :: r, j + 1, h => by
  have := strips_snoc b r j (by simpa using h)
  simp only [List.take_succ_cons, strips, List.getElem_cons_succ, this, List.cons_append]
theorem strip_k (b : Bool) (x : D) : (strip b x).k = x.k := by cases x; rw [strip]; rfl
theorem strip_n (b : Bool) (x : D) : (strip b x).n = x.n := by cases x; rw [strip]; rfl
theorem strip_s (b : Bool) (x : D) : (strip b x).s = x.s := by cases x; rw [strip]; rfl
def mrk (b : Bool) (x : D) : List Int := if b then x.m else []
theorem strip_m (b : Bool) (x : D) : (strip b x).m = mrk b x := by cases x; rw [strip]; rfl
theorem strip_l (b : Bool) (x : D) : (strip b x).l = strips b x.l := by cases x; rw [strip]; rfl
theorem strip_t (b : Bool) (x : D) : (strip b x).t = strips b x.t := by cases x; rw [strip]; rfl
def Made (b : Bool) (x : D) : Prop := ∀ (F : Nat → Prop) (vm vl vt : Value) (w : World), Wf x → Fine x → Rep F w x vm vl vt →
 Calls Try.prog 26 #[.agg #[.int .i64 x.k, .int .i64 x.n, .string x.s, vm, vl, vt], .bool b] w fun e w' => Fresh w.heap.size w' (strip b x) e ∧ Below w.heap.size w w'
def ElS (w : World) (X f : Nat) (v : Value) (g o : Nat) (y : D) (a b c : Value) : Prop := w.cell? ⟨X, f, none⟩ = some v ∧ Six w g o y a b c
theorem ElS.keep {S : Nat → Prop} {w w' : World} {X f : Nat} {v : Value} {g o : Nat} {y : D} {a b c : Value} (h : ElS w X f v g o y a b c) (hk : Keep S w w') (hX : ¬ S X) (hg : ¬ S g) : ElS w' X f v g o y a b c :=
 ⟨(hk.cell f (block_lt_of_cell h.1) hX).trans h.1, h.2.keep hk (block_lt_of_cell h.2.c0) hg⟩
def InvL (b : Bool) (w4 : World) (O : Nat) (x : D) (vm vt : Value) (L : List D) (ps : List P) (v : Value) (wr : World) : Prop :=
 Rowing wr w4.heap.size v ps ∧ ps.map P.d = strips b (L.take ps.length) ∧ Keep (fun k => k = O) w4 wr ∧ Box wr O x vm v vt ∧ (∀ j, wr.frozen? ⟨O, j, none⟩ = false)
theorem InvL.step {b : Bool} {w4 wr w1 wA w5 : World} {O : Nat} {x : D} {vm vt : Value} {L : List D} {ps : List P} {v v' : Value} (h : InvL b w4 O x vm vt L ps v wr) (hO : O < w4.heap.size) (hj : ps.length < L.length) {p : P} (hpd : p.d = strip b L[ps.length])
  (h1 : Below wr.heap.size wr w1) (hp : Rep (fun k => wr.heap.size ≤ k) w1 p.d p.vm p.vl p.vt) (hA : Below w1.heap.size w1 wA)
  (hown : w5.ownsRow w4.heap.size 25 6 v' (ps.length + 1) (flatP ps ++ p.cells)) (hg : wA.grownBy w5 v.ownBlock) (hat : v'.ownBlock = v.ownBlock ∨ v'.ownBlock = some wA.heap.size) :
  w5.cell? ⟨O, 4, none⟩ = some v ∧ w5.frozen? ⟨O, 4, none⟩ = false ∧ InvL b w4 O x vm vt L (ps ++ [p]) v' (w5.setCell ⟨O, 4, none⟩ v') := by
 obtain ⟨hR, hm, hk, hb, hf⟩ := h
 have hsz := hk.size
 obtain ⟨k1, k2⟩ := hR.push hsz h1 hp hA hown hg hat
 have hvO : ¬ v.ownBlock = some O := fun e => by have := (own_lt hR.row O e).1; omega
 have hb5 := hb.keep k2 hvO
 have hf5 := frz_keep hf k2 (by omega) hvO
 have hk5 : Keep (fun k => k = O) w4 w5 := ((hk.mono (T := fun k => k = O ∨ w4.heap.size ≤ k) (fun k _ e => .inl e)).trans (k2.mono (fun k _ e => .inr (own_lt hR.row k e).1))).mono (fun k hk e => e.elim id (fun e => by omega))
 have hl : ps.length < (L.take (ps.length + 1)).length := by rw [List.length_take]; omega
 refine ⟨hb5.2.2.2.2.1, hf5 4, k1.keep (keep1 w5 O 4 v') (fun k hk _ e => by omega), ?_, hk5.setCell rfl 4 v', hb5.set4 v', fun j => (frz_set w5 O 4 v' O j).trans (hf5 j)⟩
 rw [List.map_append, hm, List.length_append, List.map_cons, List.map_nil, hpd]
 exact (strips_snoc b L ps.length hj).symm
theorem InvL.el {b : Bool} {_w w4 wr : World} {O X : Nat} {x : D} {vm vt : Value} {L : List D} {ps : List P} {v : Value} (h : InvL b w4 O x vm vt L ps v wr) {a : Option Addr} {c : Nat} {n : Nat} (hRow : Row (fun k => k < n) w4 (.slice a L.length c) L) (hn : n ≤ O) (hX : w4.cell? ⟨X, 4, none⟩ = some (.slice a L.length c)) (hXO : X ≠ O) (hj : ps.length < L.length) :
  ∃ g o y a1 b1 c1, a = some ⟨g, o, none⟩ ∧ y = L[ps.length] ∧ ElS wr X 4 (.slice a L.length c) g (o + ps.length * 6) y a1 b1 c1 ∧ Rep (fun k => k < n) wr y a1 b1 c1 ∧
   (∀ w', Keep (fun k => k = O ∨ w4.heap.size ≤ k) wr w' → ElS w' X 4 (.slice a L.length c) g (o + ps.length * 6) y a1 b1 c1) := by
 obtain ⟨hR, hm, hk, hb, hf⟩ := h
 have hr := hRow.keep hk (fun b hb _ e => by omega)
 obtain ⟨a', c', h1, h2, h3⟩ := hr
 cases h1
 obtain ⟨g, o, e1, e2, e3, e4⟩ := h3 (by intro e; rw [e] at hj; simp at hj)
 obtain ⟨vm', vl', vt', hs, hrep⟩ := e4.at ps.length hj
 have hXl : X < w4.heap.size := block_lt_of_cell hX
 have hgl : g < w4.heap.size := by
  obtain ⟨a2, c2, q1, q2, q3⟩ := hRow
  cases q1
  obtain ⟨g2, o2, r1, r2, r3, r4⟩ := q3 (by intro e; rw [e] at hj; simp at hj)
  rw [e1] at r1; cases r1; exact r3
 have hel : ElS wr X 4 (.slice a L.length c) g (o + ps.length * 6) L[ps.length] vm' vl' vt' := ⟨(hk.cell 4 hXl hXO).trans hX, hs⟩
 exact ⟨g, o, _, vm', vl', vt', e1, rfl, hel, hrep, fun w' hk' => hel.keep hk' (fun e => by omega) (fun e => by omega)⟩
def InvT (b : Bool) (w4 : World) (O : Nat) (x : D) (vm vl : Value) (L : List D) (ps : List P) (v : Value) (wr : World) : Prop :=
 Rowing wr w4.heap.size v ps ∧ ps.map P.d = strips b (L.take ps.length) ∧ Keep (fun k => k = O) w4 wr ∧ Box wr O x vm vl v ∧ (∀ j, wr.frozen? ⟨O, j, none⟩ = false)
theorem InvT.step {b : Bool} {w4 wr w1 wA w5 : World} {O : Nat} {x : D} {vm vl : Value} {L : List D} {ps : List P} {v v' : Value} (h : InvT b w4 O x vm vl L ps v wr) (hO : O < w4.heap.size) (hj : ps.length < L.length) {p : P} (hpd : p.d = strip b L[ps.length])
  (h1 : Below wr.heap.size wr w1) (hp : Rep (fun k => wr.heap.size ≤ k) w1 p.d p.vm p.vl p.vt) (hA : Below w1.heap.size w1 wA)
  (hown : w5.ownsRow w4.heap.size 25 6 v' (ps.length + 1) (flatP ps ++ p.cells)) (hg : wA.grownBy w5 v.ownBlock) (hat : v'.ownBlock = v.ownBlock ∨ v'.ownBlock = some wA.heap.size) :
  w5.cell? ⟨O, 5, none⟩ = some v ∧ w5.frozen? ⟨O, 5, none⟩ = false ∧ InvT b w4 O x vm vl L (ps ++ [p]) v' (w5.setCell ⟨O, 5, none⟩ v') := by
 obtain ⟨hR, hm, hk, hb, hf⟩ := h
 have hsz := hk.size
 obtain ⟨k1, k2⟩ := hR.push hsz h1 hp hA hown hg hat
 have hvO : ¬ v.ownBlock = some O := fun e => by have := (own_lt hR.row O e).1; omega
 have hb5 := hb.keep k2 hvO
 have hf5 := frz_keep hf k2 (by omega) hvO
 have hk5 : Keep (fun k => k = O) w4 w5 := ((hk.mono (T := fun k => k = O ∨ w4.heap.size ≤ k) (fun k _ e => .inl e)).trans (k2.mono (fun k _ e => .inr (own_lt hR.row k e).1))).mono (fun k hk e => e.elim id (fun e => by omega))
 have hl : ps.length < (L.take (ps.length + 1)).length := by rw [List.length_take]; omega
 refine ⟨hb5.2.2.2.2.2, hf5 5, k1.keep (keep1 w5 O 5 v') (fun k hk _ e => by omega), ?_, hk5.setCell rfl 5 v', hb5.set5 v', fun j => (frz_set w5 O 5 v' O j).trans (hf5 j)⟩
 rw [List.map_append, hm, List.length_append, List.map_cons, List.map_nil, hpd]
 exact (strips_snoc b L ps.length hj).symm
theorem InvT.el {b : Bool} {_w w4 wr : World} {O X : Nat} {x : D} {vm vl : Value} {L : List D} {ps : List P} {v : Value} (h : InvT b w4 O x vm vl L ps v wr) {a : Option Addr} {c : Nat} {n : Nat} (hRow : Row (fun k => k < n) w4 (.slice a L.length c) L) (hn : n ≤ O) (hX : w4.cell? ⟨X, 5, none⟩ = some (.slice a L.length c)) (hXO : X ≠ O) (hj : ps.length < L.length) :
  ∃ g o y a1 b1 c1, a = some ⟨g, o, none⟩ ∧ y = L[ps.length] ∧ ElS wr X 5 (.slice a L.length c) g (o + ps.length * 6) y a1 b1 c1 ∧ Rep (fun k => k < n) wr y a1 b1 c1 ∧
   (∀ w', Keep (fun k => k = O ∨ w4.heap.size ≤ k) wr w' → ElS w' X 5 (.slice a L.length c) g (o + ps.length * 6) y a1 b1 c1) := by
 obtain ⟨hR, hm, hk, hb, hf⟩ := h
 have hr := hRow.keep hk (fun b hb _ e => by omega)
 obtain ⟨a', c', h1, h2, h3⟩ := hr
 cases h1
 obtain ⟨g, o, e1, e2, e3, e4⟩ := h3 (by intro e; rw [e] at hj; simp at hj)
 obtain ⟨vm', vl', vt', hs, hrep⟩ := e4.at ps.length hj
 have hXl : X < w4.heap.size := block_lt_of_cell hX
 have hgl : g < w4.heap.size := by
  obtain ⟨a2, c2, q1, q2, q3⟩ := hRow
  cases q1
  obtain ⟨g2, o2, r1, r2, r3, r4⟩ := q3 (by intro e; rw [e] at hj; simp at hj)
  rw [e1] at r1; cases r1; exact r3
 have hel : ElS wr X 5 (.slice a L.length c) g (o + ps.length * 6) L[ps.length] vm' vl' vt' := ⟨(hk.cell 5 hXl hXO).trans hX, hs⟩
 exact ⟨g, o, _, vm', vl', vt', e1, rfl, hel, hrep, fun w' hk' => hel.keep hk' (fun e => by omega) (fun e => by omega)⟩
def Mid4 (b : Bool) (w : World) (x : D) (vm vl vt : Value) (wx : World) : Prop := ∃ a c, Box wx (w.heap.size + 1 + 1) x (.slice a (mrk b x).length c) (.slice none 0 0) (.slice none 0 0) ∧ IRow (fun k => w.heap.size + 1 + 1 < k) wx (.slice a (mrk b x).length c) (mrk b x) ∧ Box wx w.heap.size x vm vl vt ∧ Box wx (w.heap.size + 1) (.mk 0 0 ⟨#[]⟩ [] [] []) (.slice none 0 0) (.slice none 0 0) (.slice none 0 0) ∧ (∀ j, wx.frozen? ⟨w.heap.size + 1, j, none⟩ = false) ∧ (∀ j, wx.frozen? ⟨w.heap.size + 1 + 1, j, none⟩ = false) ∧ Below w.heap.size w wx ∧ w.heap.size + 1 + 1 < wx.heap.size
theorem Mid4.start {w w1 w2 w3 : World} {x : D} {vm vl vt : Value} (h1 : w.alloc (.cells #[.int .i64 x.k, .int .i64 x.n, .string x.s, vm, vl, vt] 25) = w1) (h2 : w1.alloc (.cells #[.int .i64 0, .int .i64 0, .string ⟨#[]⟩, .slice none 0 0, .slice none 0 0, .slice none 0 0] 25) = w2) (h3 : w2.alloc (.cells #[.int .i64 x.k, .int .i64 x.n, .string x.s, .slice none 0 0, .slice none 0 0, .slice none 0 0] 25) = w3) :
  Box w3 (w.heap.size + 1 + 1) x (.slice none 0 0) (.slice none 0 0) (.slice none 0 0) ∧ Box w3 w.heap.size x vm vl vt ∧ Box w3 (w.heap.size + 1) (.mk 0 0 ⟨#[]⟩ [] [] []) (.slice none 0 0) (.slice none 0 0) (.slice none 0 0) ∧ (∀ j, w3.frozen? ⟨w.heap.size + 1, j, none⟩ = false) ∧ (∀ j, w3.frozen? ⟨w.heap.size + 1 + 1, j, none⟩ = false) ∧ Below w.heap.size w w3 ∧ w3.heap.size = w.heap.size + 1 + 1 + 1 ∧ w1.heap.size = w.heap.size + 1 ∧ w2.heap.size = w.heap.size + 1 + 1 ∧ Box w1 w.heap.size x vm vl vt ∧ Box w2 w.heap.size x vm vl vt := by
 have s1 : w1.heap.size = w.heap.size + 1 := by rw [← h1]; simp
 have s2 : w2.heap.size = w.heap.size + 1 + 1 := by rw [← h2, World.size_alloc, s1]
 have s3 : w3.heap.size = w.heap.size + 1 + 1 + 1 := by rw [← h3, World.size_alloc, s2]
 have hb1 : Below w.heap.size w w1 := by rw [← h1]; exact (Below.refl _ _).alloc (Nat.le_refl _) _
 have hb2 : Below w1.heap.size w1 w2 := by rw [← h2]; exact (Below.refl _ _).alloc (Nat.le_refl _) _
 have hb3 : Below w2.heap.size w2 w3 := by rw [← h3]; exact (Below.refl _ _).alloc (Nat.le_refl _) _
 have a1 := six_new w x.k x.n x.s vm vl vt 25
 rw [h1] at a1
 have B1 : Box w1 w.heap.size x vm vl vt := ⟨a1 0 (by omega), a1 1 (by omega), a1 2 (by omega), a1 3 (by omega), a1 4 (by omega), a1 5 (by omega)⟩
 have a2 := six_new w1 0 0 ⟨#[]⟩ (.slice none 0 0) (.slice none 0 0) (.slice none 0 0) 25
 rw [h2, s1] at a2
 have B2 : Box w2 (w.heap.size + 1) (.mk 0 0 ⟨#[]⟩ [] [] []) (.slice none 0 0) (.slice none 0 0) (.slice none 0 0) := ⟨a2 0 (by omega), a2 1 (by omega), a2 2 (by omega), a2 3 (by omega), a2 4 (by omega), a2 5 (by omega)⟩
 have a3 := six_new w2 x.k x.n x.s (.slice none 0 0) (.slice none 0 0) (.slice none 0 0) 25
 rw [h3, s2] at a3
 have B3 : Box w3 (w.heap.size + 1 + 1) x (.slice none 0 0) (.slice none 0 0) (.slice none 0 0) := ⟨a3 0 (by omega), a3 1 (by omega), a3 2 (by omega), a3 3 (by omega), a3 4 (by omega), a3 5 (by omega)⟩
 have f2 : ∀ j, w2.frozen? ⟨w.heap.size + 1, j, none⟩ = false := fun j => by
  have := frz_new w1 #[.int .i64 0, .int .i64 0, .string ⟨#[]⟩, .slice none 0 0, .slice none 0 0, .slice none 0 0] 25 j
  rw [h2, s1] at this; exact this
 have f3 : ∀ j, w3.frozen? ⟨w.heap.size + 1 + 1, j, none⟩ = false := fun j => by
  have := frz_new w2 #[.int .i64 x.k, .int .i64 x.n, .string x.s, .slice none 0 0, .slice none 0 0, .slice none 0 0] 25 j
  rw [h3, s2] at this; exact this
 exact ⟨B3, (B1.below hb2).below hb3, B2.below hb3, fun j => (hb3.frozen (p := ⟨w.heap.size + 1, j, none⟩) (by show w.heap.size + 1 < _; omega)).trans (f2 j), f3, (hb1.trans (hb2.mono (by omega))).trans (hb3.mono (by omega)), s3, s1, s2, B1, B1.below hb2⟩
theorem IRow.src' {F : Nat → Prop} {w : World} {a : Option Addr} {c : Nat} {m : List Int} (h : IRow F w (.slice a m.length c) m) : Ap.Src w (.slice a m.length c) m.length (m.map (Value.int .i64)) ∨ (a = none ∧ m = []) := by
 by_cases ha : a = none
 ·right
  refine ⟨ha, ?_⟩
  obtain ⟨a', c', h1, h2, h3⟩ := h
  cases h1
  cases m with
  | nil => rfl
  | cons x r => obtain ⟨b, o, e, _⟩ := h3 (by simp); rw [ha] at e; cases e
 ·exact .inl (h.src ha)
theorem Mid4.marks {b : Bool} {w w3 w5 : World} {x : D} {vm vl vt : Value} (q1 : Box w3 (w.heap.size + 1 + 1) x (.slice none 0 0) (.slice none 0 0) (.slice none 0 0)) (q2 : Box w3 w.heap.size x vm vl vt) (q3 : Box w3 (w.heap.size + 1) (.mk 0 0 ⟨#[]⟩ [] [] []) (.slice none 0 0) (.slice none 0 0) (.slice none 0 0)) (q4 : ∀ j, w3.frozen? ⟨w.heap.size + 1, j, none⟩ = false) (q5 : ∀ j, w3.frozen? ⟨w.heap.size + 1 + 1, j, none⟩ = false) (q6 : Below w.heap.size w w3) (s3 : w3.heap.size = w.heap.size + 1 + 1 + 1)
  (hb : Below w3.heap.size w3 w5) {a : Option Addr} {c : Nat} (hi : IRow (fun k => w3.heap.size ≤ k) w5 (.slice a (mrk b x).length c) (mrk b x)) :
  w5.cell? ⟨w.heap.size + 1 + 1, 3, none⟩ = some (.slice none 0 0) ∧ w5.frozen? ⟨w.heap.size + 1 + 1, 3, none⟩ = false ∧ Mid4 b w x vm vl vt (w5.setCell ⟨w.heap.size + 1 + 1, 3, none⟩ (.slice a (mrk b x).length c)) := by
 have hf5 : ∀ j, w5.frozen? ⟨w.heap.size + 1 + 1, j, none⟩ = false := fun j => (hb.frozen (p := ⟨w.heap.size + 1 + 1, j, none⟩) (by show w.heap.size + 1 + 1 < _; omega)).trans (q5 j)
 have hf4 : ∀ j, w5.frozen? ⟨w.heap.size + 1, j, none⟩ = false := fun j => (hb.frozen (p := ⟨w.heap.size + 1, j, none⟩) (by show w.heap.size + 1 < _; omega)).trans (q4 j)
 have hbx := q1.below hb
 have hk := keep1 w5 (w.heap.size + 1 + 1) 3 (.slice a (mrk b x).length c)
 have hs := hb.size
 refine ⟨hbx.2.2.2.1, hf5 3, a, c, hbx.set3 _, IRow.mono (IRow.keep hi hk (fun b hb _ e => by omega)) (fun _ hb _ => by omega), (q2.below hb).keep hk (by omega), (q3.below hb).keep hk (by omega), fun j => (frz_set _ _ _ _ _ _).trans (hf4 j), fun j => (frz_set _ _ _ _ _ _).trans (hf5 j), (q6.trans (hb.mono q6.size)).trans (hk.to_below (fun k e => by omega) (by omega)), ?_⟩
 have := hk.size
 omega
theorem Mid4.none' {b : Bool} {w w3 : World} {x : D} {vm vl vt : Value} (q1 : Box w3 (w.heap.size + 1 + 1) x (.slice none 0 0) (.slice none 0 0) (.slice none 0 0)) (q2 : Box w3 w.heap.size x vm vl vt) (q3 : Box w3 (w.heap.size + 1) (.mk 0 0 ⟨#[]⟩ [] [] []) (.slice none 0 0) (.slice none 0 0) (.slice none 0 0)) (q4 : ∀ j, w3.frozen? ⟨w.heap.size + 1, j, none⟩ = false) (q5 : ∀ j, w3.frozen? ⟨w.heap.size + 1 + 1, j, none⟩ = false) (q6 : Below w.heap.size w w3) (s3 : w3.heap.size = w.heap.size + 1 + 1 + 1) (hb : b = false) :
  Mid4 b w x vm vl vt w3 := by
 subst hb
 exact ⟨none, 0, q1, ⟨none, 0, rfl, Nat.le_refl _, fun h => absurd rfl h⟩, q2, q3, q4, q5, q6, by omega⟩
theorem made_end {b : Bool} {w wc wo wr : World} {x : D} {vx vy vz vm vL v : Value} {ps : List P} (hi : IRow (fun k => w.heap.size + 1 + 1 < k) wc vm (mrk b x)) (hZ : Box wc (w.heap.size + 1) (.mk 0 0 ⟨#[]⟩ [] [] []) vx vy vz) (hf : ∀ j, wc.frozen? ⟨w.heap.size + 1, j, none⟩ = false) (hbl : Below w.heap.size w wc) (hs : w.heap.size + 1 + 1 < wc.heap.size)
  (hL : Row (fun k => wc.heap.size ≤ k) wo vL (strips b x.l)) (kL : Keep (fun k => k = w.heap.size + 1 + 1) wc wo) (hI : InvT b wo (w.heap.size + 1 + 1) x vm vL x.t ps v wr) (hlen : ps.length = x.t.length) :
  Box wr (w.heap.size + 1 + 1) x vm vL v ∧ Box wr (w.heap.size + 1) (.mk 0 0 ⟨#[]⟩ [] [] []) vx vy vz ∧ (∀ j, wr.frozen? ⟨w.heap.size + 1, j, none⟩ = false) ∧ Fresh w.heap.size (six6 wr (w.heap.size + 1) x vm vL v) (strip b x) (.returned (.agg #[.int .i64 x.k, .int .i64 x.n, .string x.s, vm, vL, v])) ∧ Below w.heap.size w (six6 wr (w.heap.size + 1) x vm vL v) := by
 obtain ⟨h1, h2, h3, h4, h5⟩ := hI
 have kk : Keep (fun k => k = w.heap.size + 1 + 1) wc wr := kL.trans h3
 have k6 := six6_keep wr (w.heap.size + 1) x vm vL v
 have s1 := kL.size
 have s2 := h3.size
 have s3 := k6.size
 have hT := h1.to_row
 rw [h2, hlen, List.take_length] at hT
 have gI : IRow (fun k => w.heap.size ≤ k) (six6 wr (w.heap.size + 1) x vm vL v) vm (mrk b x) := IRow.mono (IRow.keep (IRow.keep hi kk (fun b hb _ e => by omega)) k6 (fun b hb _ e => by omega)) (fun _ hb _ => by omega)
 have gL : Row (fun k => w.heap.size ≤ k) (six6 wr (w.heap.size + 1) x vm vL v) vL (strips b x.l) := Row.mono (Row.keep (Row.keep hL h3 (fun b hb _ e => by omega)) k6 (fun b hb _ e => by omega)) (fun _ hb _ => by omega)
 have gT : Row (fun k => w.heap.size ≤ k) (six6 wr (w.heap.size + 1) x vm vL v) v (strips b x.t) := Row.mono (Row.keep hT k6 (fun b hb _ e => by omega)) (fun _ hb _ => by omega)
 refine ⟨h4, hZ.keep kk (by omega), fun j => (kk.frozen j (by omega) (by omega)).trans (hf j), ⟨vm, vL, v, by rw [strip_k, strip_n, strip_s], (rep_iff _ _ _ _ _ _).2 ⟨by rw [strip_m]; exact gI, by rw [strip_l]; exact gL, by rw [strip_t]; exact gT⟩⟩, (hbl.trans (kk.to_below (fun k e => by omega) (by omega))).trans (k6.to_below (fun k e => by omega) (by omega))⟩
end Dt
set_option maxRecDepth 100000 in
set_option maxHeartbeats 8000000 in
theorem made_step (b : Bool) (x : Dt.D) (hl : ∀ y ∈ x.l, Dt.Made b y) (ht : ∀ y ∈ x.t, Dt.Made b y) : Dt.Made b x := by
 intro F vm vl vt w hW hF hR
 obtain ⟨hm, ⟨al, cal, rfl, hcl⟩, ⟨at_, cat_, rfl, hct⟩⟩ := (Dt.rep_iff _ _ _ _ _ _).1 hR
 have hrl := ((Dt.rep_iff _ _ _ _ _ _).1 hR).2.1
 have hrt := ((Dt.rep_iff _ _ _ _ _ _).1 hR).2.2
 have hm0 := hm
 obtain ⟨am, cm, rfl, hcm⟩ := hm
 obtain ⟨f1, f2, f3, f4, f5⟩ := Dt.fine_parts hF
 obtain ⟨w1, hw1⟩ : ∃ w1, w.alloc (.cells #[.int .i64 x.k, .int .i64 x.n, .string x.s, .slice am x.m.length cm, .slice al x.l.length cal, .slice at_ x.t.length cat_] 25) = w1 := ⟨_, rfl⟩
 obtain ⟨w2, hw2⟩ : ∃ w2, w1.alloc (.cells #[.int .i64 0, .int .i64 0, .string ⟨#[]⟩, .slice none 0 0, .slice none 0 0, .slice none 0 0] 25) = w2 := ⟨_, rfl⟩
 obtain ⟨w3, hw3⟩ : ∃ w3, w2.alloc (.cells #[.int .i64 x.k, .int .i64 x.n, .string x.s, .slice none 0 0, .slice none 0 0, .slice none 0 0] 25) = w3 := ⟨_, rfl⟩
 obtain ⟨q1, q2, q3, q4, q5, q6, s3, s1, s2, q7, q8⟩ := Dt.Mid4.start hw1 hw2 hw3
 have HRL := Lib.hid hrl
 have HRT := Lib.hid hrt
 have HM0 := Lib.hid hm0
 have HL := Lib.hid hl
 have HT := Lib.hid ht
 have HW := Lib.hid hW
 have HF4 := Lib.hid f4
 have HF5 := Lib.hid f5
 have HB3 := Lib.hid q6
 have HQ4 := Lib.hid q4
 have HQ5 := Lib.hid q5
 have HQ3 := Lib.hid q3
 have HS3 := Lib.hid s3
 obtain ⟨b0, b1, b2, b3, b4, b5⟩ := q8
 obtain ⟨c0, c1, c2, c3, c4, c5⟩ := id q1
 obtain ⟨d0, d1, d2, d3, d4, d5⟩ := id q2
 have HQ1 := Lib.hid q1
 have HQ2 := Lib.hid q2
 obtain ⟨i0, hi, hz0, hz1, hz2⟩ := info_parts Dt.infoD
 clear hl ht hW hF hR hrl hrt hm0 hcm hcl hct f4 f5 q1 q2 q3 q4 q5 q6 q7 s3
 have HW3 := Lib.hid hw3
 clear hw3
 go_enter Try.func26, Try.ntmps26
 go_upto_if 15 with fail
 rw [HW3.out]
 clear hw1 hw2 s1 s2 b0 b1 b2 b3 b4 b5
 go_cut [] (fun wx => Dt.Mid4 b w x (.slice am x.m.length cm) (.slice al x.l.length cal) (.slice at_ x.t.length cat_) wx)
 case first =>
  have HX3 := Lib.hid ((HM0.out).below HB3.out)
  have HRUN : Hid (∀ w5 a c, Below w3.heap.size w3 w5 → Dt.IRow (fun k => w3.heap.size ≤ k) w5 (.slice a (Dt.mrk b x).length c) (Dt.mrk b x) → w5.cell? ⟨w.heap.size + 1 + 1, 3, none⟩ = some (.slice none 0 0) ∧ w5.frozen? ⟨w.heap.size + 1 + 1, 3, none⟩ = false ∧ Dt.Mid4 b w x (.slice am x.m.length cm) (.slice al x.l.length cal) (.slice at_ x.t.length cat_) (w5.setCell ⟨w.heap.size + 1 + 1, 3, none⟩ (.slice a (Dt.mrk b x).length c))) :=
   fun w5 a c h1 h2 => Dt.Mid4.marks HQ1.out HQ2.out HQ3.out HQ4.out HQ5.out HB3.out HS3.out h1 h2
  have HNO : Hid (b = false → Dt.Mid4 b w x (.slice am x.m.length cm) (.slice al x.l.length cal) (.slice at_ x.t.length cat_) w3) := fun h => Dt.Mid4.none' HQ1.out HQ2.out HQ3.out HQ4.out HQ5.out HB3.out HS3.out h
  clear HQ1 HQ2 HQ3 HQ4 HQ5 HL HT HF4 HF5 HRL HRT
  cases b with
  | false =>
   go_wp2
   go_meet
   exact HNO.out (by simp)
  | true =>
   obtain ⟨i1, hi1, hy0, hy1, hy2⟩ := info_parts Dt.infoI
   have hm1 : 0 + x.m.length ≤ maxLen := by unfold maxLen; omega
   have hm2 : (0 + x.m.length) * 8 ≤ 140737488355328 := by omega
   have HO : Hid (w3.ownsRow w3.heap.size 3 1 (.slice none 0 0) 0 []) := World.ownsRow_nil _ _ _ _
   rcases HX3.out.src' with hsrc | ⟨rfl, hmn⟩
   ·have HS := Lib.hid hsrc
    clear hsrc
    go_wp2_with (at_builtin; refine Ap.list rfl _ _ 22 rfl w3.heap.size 3 i1 (.int .i64 0) 1 8 Try.underlying22 hi1 hy0 hy1 hy2 rfl (by decide) (.slice none 0 0) 0 [] rfl HO.out (.slice am x.m.length cm) x.m.length (x.m.map (Value.int .i64)) rfl HS.out (by simp) (by intro u hu; obtain ⟨x, _, rfl⟩ := List.mem_map.1 hu; rfl) hm1 hm2 (Nat.le_refl _) ?_; intro v' w5 hown hg hat; obtain ⟨a5, c5, rfl⟩ := Dt.row_form hown; obtain ⟨z1, z2, HM⟩ := HRUN.out w5 a5 c5 ⟨hg.os, hg.tape, hg.output, hg.size, fun k hk => hg.block k hk (by intro e; cases e)⟩ (show Dt.IRow _ w5 (.slice a5 x.m.length c5) x.m from Dt.IRow.of_own (by simpa using hown)); have HMM := Lib.hid HM; clear HM hown hg hat; rw [Nat.zero_add])
    go_meet
    exact HMM.out
   ·have HMN := Lib.hid hmn
    obtain ⟨z1, z2, HM⟩ := HRUN.out w3 none 0 (Below.refl _ _) (show Dt.IRow _ w3 (.slice none x.m.length 0) x.m from by rw [HMN.out]; exact ⟨none, 0, rfl, Nat.le_refl _, fun h => absurd rfl h⟩)
    rw [show (Dt.mrk true x).length = 0 from by show x.m.length = 0; rw [HMN.out]; rfl] at HM
    have HMM := Lib.hid HM
    clear HM hmn
    go_wp2_with (at_builtin; refine Pt.list_none rfl _ _ 22 rfl w3.heap.size 3 i1 1 cm Try.underlying22 hi1 (.slice none 0 0) 0 [] rfl HO.out (by rw [show Act.eval _ _ = (Value.slice none x.m.length cm) from rfl, HMN.out]; rfl) ?_)
    go_meet
    exact HMM.out
 case rest =>
  obtain ⟨a5, cq5, hb5, hi5, hx5, hr5, hf5, hfo5, hbl5, hs5⟩ := hcut
  clear c0 c1 c2 c3 c4 c5 d0 d1 d2 d3 d4 d5 HQ1 HQ2 HQ3 HQ4 HQ5 HB3 HS3
  have HO4 : Hid (w.heap.size + 1 + 1 < wc.heap.size) := hs5
  have HROW : Hid (Dt.Row (fun k => k < w.heap.size) wc (.slice al x.l.length cal) x.l) := (HRL.out.mono (fun _ _ h => h)).below hbl5
  have HX := Lib.hid hx5.2.2.2.2.1
  have HI0 : Hid (Dt.InvL b wc (w.heap.size + 1 + 1) x (.slice a5 (Dt.mrk b x).length cq5) (.slice none 0 0) x.l [] (.slice none 0 0) wc) := ⟨Dt.Rowing.nil _ _, by simp [Dt.strips], Keep.refl _ _, hb5, hfo5⟩
  obtain ⟨c0, c1, c2, c3, c4, c5⟩ := id hb5
  obtain ⟨d0, d1, d2, d3, d4, d5⟩ := id hx5
  have HBX := Lib.hid hx5
  have HBR := Lib.hid hr5
  have HFR := Lib.hid hf5
  have HBL := Lib.hid hbl5
  have HI5 := Lib.hid hi5
  clear hb5 hi5 hx5 hr5 hf5 hfo5 hbl5 hs5
  go_wp2
  go_loopw [6] (fun v wr => ∃ (ps : List Dt.P) (av : Option Addr) (cv : Nat), v = .int .i64 ps.length ∧ ps.length ≤ x.l.length ∧ Hid (Dt.InvL b wc (w.heap.size + 1 + 1) x (.slice a5 (Dt.mrk b x).length cq5) (.slice none 0 0) x.l ps (.slice av ps.length cv) wr)) (fun v _ => x.l.length - (intOf v).toNat)
  case atStart => exact ⟨[], none, 0, rfl, Nat.zero_le _, HI0⟩
  case round =>
   clear c0 c1 c2 c3 c4 c5 d0 d1 d2 d3 d4 d5
   obtain ⟨ps, av, cv, rfl, hj, HI⟩ := hrel
   by_cases hltn : ps.length < x.l.length
   ·have hlti : (ps.length : Int) < (x.l.length : Int) := by omega
    obtain ⟨g, o, y, vb1, vb2, vb3, hag, hy, hel, hrp, hS⟩ := HI.out.el (_w := w) HROW.out (by omega) HX.out (by omega) hltn
    obtain ⟨b1, m1, p1, b2, m2, p2, b3, m3, p3, rfl, rfl, rfl⟩ := hrp.forms
    have HY := Lib.hid hy
    have HC : Hid (∀ u, Below wr.heap.size wr u → Calls Try.prog 26 #[.agg #[.int .i64 y.k, .int .i64 y.n, .string y.s, .slice b1 m1 p1, .slice b2 m2 p2, .slice b3 m3 p3], .bool b] u fun e w' => Dt.Fresh u.heap.size w' (Dt.strip b y) e ∧ Below u.heap.size u w') := fun u hu => HL.out y (by rw [hy]; exact List.getElem_mem _) _ _ _ _ u (by rw [hy]; exact (Dt.wf_l HW.out).at _ hltn) (by rw [hy]; exact Dt.Fines.at HF4.out _ (List.getElem_mem _)) (hrp.below hu)
    have HBD : Hid (Below wr.heap.size wr wr.drew) := (Below.refl _ wr).drew
    have HS := Lib.hid hS
    obtain ⟨xc, xr⟩ := id hel
    obtain ⟨oc0, oc1, oc2, oc3, oc4, oc5⟩ := HI.out.2.2.2.1
    have of := HI.out.2.2.2.2 4
    subst hag
    clear hy hel hrp hS
    go_upto_block 1 with fail
    go_cut [] (fun wx => ∃ p av' cv', Dt.InvL b wc (w.heap.size + 1 + 1) x (.slice a5 (Dt.mrk b x).length cq5) (.slice none 0 0) x.l (ps ++ [p]) (.slice av' (ps.length + 1) cv') wx)
    case first =>
     go_wp2_with fail
     have hmx : ps.length + 1 ≤ maxLen := by unfold maxLen; omega
     have hby : (ps.length + 1) * 104 ≤ 140737488355328 := by omega
     have HBD0 : Hid (Below wr.heap.size wr wr.drew) := (Below.refl _ wr).drew
     have oF : wr.drew.cell? ⟨w.heap.size + 1 + 1, 4, none⟩ = some (.slice av ps.length cv) := HI.out.2.2.2.1.2.2.2.2.1
     have hOl : w.heap.size + 1 + 1 < wr.drew.heap.size := block_lt_of_cell oF
     have hSd : Dt.ElS wr.drew w.heap.size 4 (.slice (some ⟨g, o, none⟩) x.l.length cal) g (o + ps.length * 6) y (.slice b1 m1 p1) (.slice b2 m2 p2) (.slice b3 m3 p3) := HS.out _ ((Keep.refl _ _).below HBD0.out)
     have hpj0 : (0 : Int) ≤ (ps.length : Int) := by omega
     have HKW : Hid (∀ w6, Below wr.heap.size wr w6 → ∀ {o : Obj} {w7 : World}, (w6.alloc o).grownBy w7 (Value.slice av ps.length cv).ownBlock → Keep (fun k => k = w.heap.size + 1 + 1 ∨ wc.heap.size ≤ k) wr w7) := by
      intro w6 h6 o w7 hg
      have hA := h6.trans (((Below.refl _ w6).alloc (Nat.le_refl _) o).mono h6.size)
      have hrow := HI.out.1.row
      exact ⟨hg.os.trans hA.os, hg.tape.trans hA.tape, hg.output.trans hA.output, Nat.le_trans hA.size hg.size, fun k hk hn => (hg.block k (by have := hA.size; omega) (fun e => hn (.inr (Dt.own_lt hrow k e.symm).1))).trans (hA.block k hk)⟩
     refine wp_region_noPanic ?_
     refine wp_region_held_drew (S := fun w' => Dt.ElS w' w.heap.size 4 (.slice (some ⟨g, o, none⟩) x.l.length cal) g (o + ps.length * 6) y (.slice b1 m1 p1) (.slice b2 m2 p2) (.slice b3 m3 p3)) (by kernel_rfl) hSd (fun hHeld => ?_)
     refine wpAnyH_take (i := 0) (oi := ⟨_, _, _, _, _, _⟩) (v := ?_) rfl (by kernel_rfl) (by kernel_rfl) (by kernel_rfl) (fun _ _ _ h => h) (Or.inl ⟨by rfl, ?_⟩) (by assumption) ?_
     rotate_left
     ·intro w hSw
      try dsimp only at hSw
      go_simp
      try with_reducible rfl
     simp only [Act.put, List.setIfInBounds_toArray, List.set_cons_zero, List.set_cons_succ]
     refine wpAnyH_take (i := 2) (oi := ⟨_, _, _, _, _, _⟩) (v := ?_) rfl (by kernel_rfl) (by kernel_rfl) (by kernel_rfl) (fun _ _ _ h => h) (Or.inl ⟨by rfl, ?_⟩) (by assumption) ?_
     rotate_left
     ·intro w hSw
      try dsimp only at hSw
      go_simp
      try with_reducible rfl
     simp only [Act.put, List.setIfInBounds_toArray, List.set_cons_zero, List.set_cons_succ]
     refine wpAnyH_take (i := 3) (oi := ⟨_, _, _, _, _, _⟩) (v := ?_) rfl (by kernel_rfl) (by kernel_rfl) (by kernel_rfl) (fun _ _ _ h => h) (Or.inl ⟨by rfl, ?_⟩) (by assumption) ?_
     rotate_left
     ·intro w hSw
      obtain ⟨g9, g0, g1, g2, g3, g4, g5⟩ := hSw
      go_simp
      try with_reducible rfl
     simp only [Act.put, List.setIfInBounds_toArray, List.set_cons_zero, List.set_cons_succ]
     refine wpAnyH_take (i := 4) (oi := ⟨_, _, _, _, _, _⟩) (v := ?_) rfl (by kernel_rfl) (by kernel_rfl) (by kernel_rfl) (fun _ _ _ h => h) (Or.inl ⟨by rfl, ?_⟩) (by assumption) ?_
     rotate_left
     ·intro w hSw
      try dsimp only at hSw
      go_simp
      try with_reducible rfl
     simp only [Act.put, List.setIfInBounds_toArray, List.set_cons_zero, List.set_cons_succ]
     refine wpAnyH_take (i := 5) (oi := ⟨_, _, _, _, _, _⟩) (v := ?_) rfl (by kernel_rfl) (by kernel_rfl) (by kernel_rfl) (fun _ _ _ h => h) (Or.inl ⟨by rfl, ?_⟩) (by assumption) ?_
     rotate_left
     ·intro w hSw
      try dsimp only at hSw
      go_simp
      try with_reducible rfl
     simp only [Act.put, List.setIfInBounds_toArray, List.set_cons_zero, List.set_cons_succ]
     refine wpAnyH_take (i := 6) (oi := ⟨_, _, _, _, _, _⟩) (v := ?_) rfl (by kernel_rfl) (by kernel_rfl) (by kernel_rfl) (fun _ _ _ h => h) (Or.inl ⟨by rfl, ?_⟩) (by assumption) ?_
     rotate_left
     ·intro w hSw
      obtain ⟨g9, g0, g1, g2, g3, g4, g5⟩ := hSw
      go_simp
      try with_reducible rfl
     simp only [Act.put, List.setIfInBounds_toArray, List.set_cons_zero, List.set_cons_succ]
     refine wpAnyH_take (i := 7) (oi := ⟨_, _, _, _, _, _⟩) (v := ?_) rfl (by kernel_rfl) (by kernel_rfl) (by kernel_rfl) (fun _ _ _ h => h) (Or.inl ⟨by rfl, ?_⟩) (by assumption) ?_
     rotate_left
     ·intro w hSw
      try dsimp only at hSw
      go_simp
      try with_reducible rfl
     simp only [Act.put, List.setIfInBounds_toArray, List.set_cons_zero, List.set_cons_succ]
     refine wpAnyH_ready (rs := [1, 8]) (by kernel_rfl) (by simp) ?_
     refine AllReadyH.cons (o := ⟨_, _, _, _, _, _⟩) rfl (fun K hK => ?_) ?_
     ·go_simp
      refine hK.out _ _ ?_ (fun hHeld => ?_)
      ·exact hSd
      clear hK K
      try simp only [Act.put, List.setIfInBounds_toArray, List.set_cons_zero, List.set_cons_succ]
      refine wpAnyH_ready (rs := [8]) (by kernel_rfl) (by simp) ?_
      refine AllReadyH.cons (o := ⟨_, _, _, _, _, _⟩) rfl (fun K hK => ?_) AllReadyH.nil
      go_simp
      refine (HC.out _ HBD.out).mono ?_
      rintro e w6 ⟨⟨um, ul, ut, rfl, hr6⟩, hb6⟩
      obtain ⟨e1, r1, t1, e2, r2, t2, e3, r3, t3, rfl, rfl, rfl⟩ := hr6.forms
      have o6 := (hb6.cell (p := ⟨w.heap.size + 1 + 1, 4, none⟩) hOl).trans oF
      rw [Dt.strip_k, Dt.strip_n, Dt.strip_s]
      dsimp only
      refine hK.out _ _ ?_ (fun hHeld => ?_)
      ·exact HS.out _ ((Keep.refl _ _).below (HBD0.out.trans (hb6.mono HBD0.out.size)))
      clear hK K
      try simp only [Act.put, List.setIfInBounds_toArray, List.set_cons_zero, List.set_cons_succ]
      have HR6 : Hid (Dt.Rep (fun k => wr.heap.size ≤ k) w6 (Dt.strip b y) (.slice e1 r1 t1) (.slice e2 r2 t2) (.slice e3 r3 t3)) := hr6
      have HB6 : Hid (Below wr.heap.size wr w6) := HBD0.out.trans (hb6.mono HBD0.out.size)
      have HCE : Hid ((Dt.P.mk (Dt.strip b y) (.slice e1 r1 t1) (.slice e2 r2 t2) (.slice e3 r3 t3)).cells = [.int .i64 y.k, .int .i64 y.n, .string y.s, .slice e1 r1 t1, .slice e2 r2 t2, .slice e3 r3 t3]) := by show Dt.P.cells _ = _; unfold Dt.P.cells; simp only [Dt.strip_k, Dt.strip_n, Dt.strip_s]
      have HOW : Hid (w6.ownsRow wc.heap.size 25 6 (.slice av ps.length cv) ps.length (Dt.flatP ps)) := Dt.own_below HI.out.1.row HB6.out
      have hbs : wc.heap.size ≤ (w6.alloc (.cells #[.int .i64 y.k, .int .i64 y.n, .string y.s, .slice e1 r1 t1, .slice e2 r2 t2, .slice e3 r3 t3] 25)).heap.size := by rw [World.size_alloc]; have := HB6.out.size; have := HI.out.2.2.1.size; omega
      refine wpAnyH_ready (rs := [9]) (by kernel_rfl) (by simp) ?_
      refine AllReadyH.cons (o := ⟨_, _, _, _, _, _⟩) rfl (fun K hK => ?_) AllReadyH.nil
      go_simp
      refine hK.out _ _ ?_ (fun hHeld => ?_)
      ·exact HS.out _ ((Keep.refl _ _).below (HB6.out.trans (((Below.refl _ w6).alloc (Nat.le_refl _) _).mono HB6.out.size)))
      clear hK K
      try simp only [Act.put, List.setIfInBounds_toArray, List.set_cons_zero, List.set_cons_succ]
      refine wpAnyH_ready (rs := [10]) (by kernel_rfl) (by simp) ?_
      refine AllReadyH.cons (o := ⟨_, _, _, _, _, _⟩) rfl (fun K hK => ?_) AllReadyH.nil
      refine step_append_lies _ (by rfl) _ _ 23 (by rfl) wc.heap.size 25 i0 (.agg #[.int .i64 0, .int .i64 0, .string ⟨#[]⟩, .slice none 0 0, .slice none 0 0, .slice none 0 0]) 6 104 Try.underlying23 hi hz0 hz1 hz2 rfl (by decide) (.slice av ps.length cv) ps.length (Dt.flatP ps) (by rfl) (HOW.out.alloc _) ⟨w6.heap.size, 0, none⟩ 1 1 [.int .i64 y.k, .int .i64 y.n, .string y.s, .slice e1 r1 t1, .slice e2 r2 t2, .slice e3 r3 t3] (by rfl) rfl (World.news_of_block (w := w6.alloc _) (B := w6.heap.size) (cs := #[.int .i64 y.k, .int .i64 y.n, .string y.s, .slice e1 r1 t1, .slice e2 r2 t2, .slice e3 r3 t3]) (t := 25) (fr := (0, 0)) (heap_alloc_new w6 _)) (by simp [Value.oneCell']) (by omega) hmx hby hbs _ rfl ?_
      intro g' cap w7 hown hgrow hat hlt
      obtain ⟨z4, zf, hst⟩ := HI.out.step (p := Dt.P.mk (Dt.strip b y) (.slice e1 r1 t1) (.slice e2 r2 t2) (.slice e3 r3 t3)) HO4.out hltn (by rw [HY.out]) HB6.out HR6.out ((Below.refl _ w6).alloc (Nat.le_refl _) _) (by rw [show (Dt.P.mk (Dt.strip b y) (.slice e1 r1 t1) (.slice e2 r2 t2) (.slice e3 r3 t3)).cells = [.int .i64 y.k, .int .i64 y.n, .string y.s, .slice e1 r1 t1, .slice e2 r2 t2, .slice e3 r3 t3] from HCE.out]; exact hown) hgrow (hat.imp (fun e => by rw [e]; rfl) (fun e => by rw [e]; rfl))
      refine hK.out _ _ ?_ (fun hHeld => ?_)
      ·exact HS.out _ (HKW.out _ HB6.out hgrow)
      clear hK K
      try simp only [Act.put, List.setIfInBounds_toArray, List.set_cons_zero, List.set_cons_succ]
      refine wpAnyH_take (i := 11) (oi := ⟨_, _, _, _, _, _⟩) (v := ?_) rfl (by kernel_rfl) (by kernel_rfl) (by kernel_rfl) (fun _ _ _ h => h) (Or.inl ⟨by rfl, ?_⟩) (by assumption) ?_
      rotate_left
      ·intro w hSw
       try dsimp only at hSw
       go_simp
       try with_reducible rfl
      simp only [Act.put, List.setIfInBounds_toArray, List.set_cons_zero, List.set_cons_succ]
      refine wpAnyH_ready (rs := [12]) (by kernel_rfl) (by simp) ?_
      refine AllReadyH.cons (o := ⟨_, _, _, _, _, _⟩) rfl (fun K hK => ?_) AllReadyH.nil
      go_simp
      refine hK.out _ _ ?_ (fun hHeld => ?_)
      ·exact HS.out _ ((HKW.out _ HB6.out hgrow).setCell (.inl rfl) _ _)
      clear hK K
      try simp only [Act.put, List.setIfInBounds_toArray, List.set_cons_zero, List.set_cons_succ]
      refine wpAnyH_done (by kernel_rfl) ?_ _
      refine NoPanic.normal ?_
      go_wp2_with fail
      go_meet
      exact ⟨_, _, _, hst⟩
     refine AllReadyH.cons (o := ⟨_, _, _, _, _, _⟩) rfl (fun K hK => ?_) AllReadyH.nil
     go_simp
     refine (HC.out _ HBD.out).mono ?_
     rintro e w6 ⟨⟨um, ul, ut, rfl, hr6⟩, hb6⟩
     obtain ⟨e1, r1, t1, e2, r2, t2, e3, r3, t3, rfl, rfl, rfl⟩ := hr6.forms
     have o6 := (hb6.cell (p := ⟨w.heap.size + 1 + 1, 4, none⟩) hOl).trans oF
     rw [Dt.strip_k, Dt.strip_n, Dt.strip_s]
     dsimp only
     refine hK.out _ _ ?_ (fun hHeld => ?_)
     ·exact HS.out _ ((Keep.refl _ _).below (HBD0.out.trans (hb6.mono HBD0.out.size)))
     clear hK K
     try simp only [Act.put, List.setIfInBounds_toArray, List.set_cons_zero, List.set_cons_succ]
     have HR6 : Hid (Dt.Rep (fun k => wr.heap.size ≤ k) w6 (Dt.strip b y) (.slice e1 r1 t1) (.slice e2 r2 t2) (.slice e3 r3 t3)) := hr6
     have HB6 : Hid (Below wr.heap.size wr w6) := HBD0.out.trans (hb6.mono HBD0.out.size)
     have HCE : Hid ((Dt.P.mk (Dt.strip b y) (.slice e1 r1 t1) (.slice e2 r2 t2) (.slice e3 r3 t3)).cells = [.int .i64 y.k, .int .i64 y.n, .string y.s, .slice e1 r1 t1, .slice e2 r2 t2, .slice e3 r3 t3]) := by show Dt.P.cells _ = _; unfold Dt.P.cells; simp only [Dt.strip_k, Dt.strip_n, Dt.strip_s]
     have HOW : Hid (w6.ownsRow wc.heap.size 25 6 (.slice av ps.length cv) ps.length (Dt.flatP ps)) := Dt.own_below HI.out.1.row HB6.out
     have hbs : wc.heap.size ≤ (w6.alloc (.cells #[.int .i64 y.k, .int .i64 y.n, .string y.s, .slice e1 r1 t1, .slice e2 r2 t2, .slice e3 r3 t3] 25)).heap.size := by rw [World.size_alloc]; have := HB6.out.size; have := HI.out.2.2.1.size; omega
     have o6a := (((Below.refl _ w6).alloc (Nat.le_refl _) (.cells #[.int .i64 y.k, .int .i64 y.n, .string y.s, .slice e1 r1 t1, .slice e2 r2 t2, .slice e3 r3 t3] 25)).cell (p := ⟨w.heap.size + 1 + 1, 4, none⟩) (block_lt_of_cell o6)).trans o6
     refine wpAnyH_ready (rs := [1, 9]) (by kernel_rfl) (by simp) ?_
     refine AllReadyH.cons (o := ⟨_, _, _, _, _, _⟩) rfl (fun K hK => ?_) ?_
     ·go_simp
      refine hK.out _ _ ?_ (fun hHeld => ?_)
      ·exact HS.out _ ((Keep.refl _ _).below (HBD0.out.trans (hb6.mono HBD0.out.size)))
      clear hK K
      try simp only [Act.put, List.setIfInBounds_toArray, List.set_cons_zero, List.set_cons_succ]
      refine wpAnyH_ready (rs := [9]) (by kernel_rfl) (by simp) ?_
      refine AllReadyH.cons (o := ⟨_, _, _, _, _, _⟩) rfl (fun K hK => ?_) AllReadyH.nil
      go_simp
      refine hK.out _ _ ?_ (fun hHeld => ?_)
      ·exact HS.out _ ((Keep.refl _ _).below (HB6.out.trans (((Below.refl _ w6).alloc (Nat.le_refl _) _).mono HB6.out.size)))
      clear hK K
      try simp only [Act.put, List.setIfInBounds_toArray, List.set_cons_zero, List.set_cons_succ]
      refine wpAnyH_ready (rs := [10]) (by kernel_rfl) (by simp) ?_
      refine AllReadyH.cons (o := ⟨_, _, _, _, _, _⟩) rfl (fun K hK => ?_) AllReadyH.nil
      refine step_append_lies _ (by rfl) _ _ 23 (by rfl) wc.heap.size 25 i0 (.agg #[.int .i64 0, .int .i64 0, .string ⟨#[]⟩, .slice none 0 0, .slice none 0 0, .slice none 0 0]) 6 104 Try.underlying23 hi hz0 hz1 hz2 rfl (by decide) (.slice av ps.length cv) ps.length (Dt.flatP ps) (by rfl) (HOW.out.alloc _) ⟨w6.heap.size, 0, none⟩ 1 1 [.int .i64 y.k, .int .i64 y.n, .string y.s, .slice e1 r1 t1, .slice e2 r2 t2, .slice e3 r3 t3] (by rfl) rfl (World.news_of_block (w := w6.alloc _) (B := w6.heap.size) (cs := #[.int .i64 y.k, .int .i64 y.n, .string y.s, .slice e1 r1 t1, .slice e2 r2 t2, .slice e3 r3 t3]) (t := 25) (fr := (0, 0)) (heap_alloc_new w6 _)) (by simp [Value.oneCell']) (by omega) hmx hby hbs _ rfl ?_
      intro g' cap w7 hown hgrow hat hlt
      obtain ⟨z4, zf, hst⟩ := HI.out.step (p := Dt.P.mk (Dt.strip b y) (.slice e1 r1 t1) (.slice e2 r2 t2) (.slice e3 r3 t3)) HO4.out hltn (by rw [HY.out]) HB6.out HR6.out ((Below.refl _ w6).alloc (Nat.le_refl _) _) (by rw [show (Dt.P.mk (Dt.strip b y) (.slice e1 r1 t1) (.slice e2 r2 t2) (.slice e3 r3 t3)).cells = [.int .i64 y.k, .int .i64 y.n, .string y.s, .slice e1 r1 t1, .slice e2 r2 t2, .slice e3 r3 t3] from HCE.out]; exact hown) hgrow (hat.imp (fun e => by rw [e]; rfl) (fun e => by rw [e]; rfl))
      refine hK.out _ _ ?_ (fun hHeld => ?_)
      ·exact HS.out _ (HKW.out _ HB6.out hgrow)
      clear hK K
      try simp only [Act.put, List.setIfInBounds_toArray, List.set_cons_zero, List.set_cons_succ]
      refine wpAnyH_take (i := 11) (oi := ⟨_, _, _, _, _, _⟩) (v := ?_) rfl (by kernel_rfl) (by kernel_rfl) (by kernel_rfl) (fun _ _ _ h => h) (Or.inl ⟨by rfl, ?_⟩) (by assumption) ?_
      rotate_left
      ·intro w hSw
       try dsimp only at hSw
       go_simp
       try with_reducible rfl
      simp only [Act.put, List.setIfInBounds_toArray, List.set_cons_zero, List.set_cons_succ]
      refine wpAnyH_ready (rs := [12]) (by kernel_rfl) (by simp) ?_
      refine AllReadyH.cons (o := ⟨_, _, _, _, _, _⟩) rfl (fun K hK => ?_) AllReadyH.nil
      go_simp
      refine hK.out _ _ ?_ (fun hHeld => ?_)
      ·exact HS.out _ ((HKW.out _ HB6.out hgrow).setCell (.inl rfl) _ _)
      clear hK K
      try simp only [Act.put, List.setIfInBounds_toArray, List.set_cons_zero, List.set_cons_succ]
      refine wpAnyH_done (by kernel_rfl) ?_ _
      refine NoPanic.normal ?_
      go_wp2_with fail
      go_meet
      exact ⟨_, _, _, hst⟩
     refine AllReadyH.cons (o := ⟨_, _, _, _, _, _⟩) rfl (fun K hK => ?_) AllReadyH.nil
     go_simp
     refine hK.out _ _ ?_ (fun hHeld => ?_)
     ·exact HS.out _ ((Keep.refl _ _).below (HB6.out.trans (((Below.refl _ w6).alloc (Nat.le_refl _) _).mono HB6.out.size)))
     clear hK K
     try simp only [Act.put, List.setIfInBounds_toArray, List.set_cons_zero, List.set_cons_succ]
     refine wpAnyH_ready (rs := [1]) (by kernel_rfl) (by simp) ?_
     refine AllReadyH.cons (o := ⟨_, _, _, _, _, _⟩) rfl (fun K hK => ?_) AllReadyH.nil
     go_simp
     refine hK.out _ _ ?_ (fun hHeld => ?_)
     ·exact HS.out _ ((Keep.refl _ _).below (HB6.out.trans (((Below.refl _ w6).alloc (Nat.le_refl _) _).mono HB6.out.size)))
     clear hK K
     try simp only [Act.put, List.setIfInBounds_toArray, List.set_cons_zero, List.set_cons_succ]
     refine wpAnyH_ready (rs := [10]) (by kernel_rfl) (by simp) ?_
     refine AllReadyH.cons (o := ⟨_, _, _, _, _, _⟩) rfl (fun K hK => ?_) AllReadyH.nil
     refine step_append_lies _ (by rfl) _ _ 23 (by rfl) wc.heap.size 25 i0 (.agg #[.int .i64 0, .int .i64 0, .string ⟨#[]⟩, .slice none 0 0, .slice none 0 0, .slice none 0 0]) 6 104 Try.underlying23 hi hz0 hz1 hz2 rfl (by decide) (.slice av ps.length cv) ps.length (Dt.flatP ps) (by rfl) (HOW.out.alloc _) ⟨w6.heap.size, 0, none⟩ 1 1 [.int .i64 y.k, .int .i64 y.n, .string y.s, .slice e1 r1 t1, .slice e2 r2 t2, .slice e3 r3 t3] (by rfl) rfl (World.news_of_block (w := w6.alloc _) (B := w6.heap.size) (cs := #[.int .i64 y.k, .int .i64 y.n, .string y.s, .slice e1 r1 t1, .slice e2 r2 t2, .slice e3 r3 t3]) (t := 25) (fr := (0, 0)) (heap_alloc_new w6 _)) (by simp [Value.oneCell']) (by omega) hmx hby hbs _ rfl ?_
     intro g' cap w7 hown hgrow hat hlt
     obtain ⟨z4, zf, hst⟩ := HI.out.step (p := Dt.P.mk (Dt.strip b y) (.slice e1 r1 t1) (.slice e2 r2 t2) (.slice e3 r3 t3)) HO4.out hltn (by rw [HY.out]) HB6.out HR6.out ((Below.refl _ w6).alloc (Nat.le_refl _) _) (by rw [show (Dt.P.mk (Dt.strip b y) (.slice e1 r1 t1) (.slice e2 r2 t2) (.slice e3 r3 t3)).cells = [.int .i64 y.k, .int .i64 y.n, .string y.s, .slice e1 r1 t1, .slice e2 r2 t2, .slice e3 r3 t3] from HCE.out]; exact hown) hgrow (hat.imp (fun e => by rw [e]; rfl) (fun e => by rw [e]; rfl))
     refine hK.out _ _ ?_ (fun hHeld => ?_)
     ·exact HS.out _ (HKW.out _ HB6.out hgrow)
     clear hK K
     try simp only [Act.put, List.setIfInBounds_toArray, List.set_cons_zero, List.set_cons_succ]
     refine wpAnyH_take (i := 11) (oi := ⟨_, _, _, _, _, _⟩) (v := ?_) rfl (by kernel_rfl) (by kernel_rfl) (by kernel_rfl) (fun _ _ _ h => h) (Or.inl ⟨by rfl, ?_⟩) (by assumption) ?_
     rotate_left
     ·intro w hSw
      try dsimp only at hSw
      go_simp
      try with_reducible rfl
     simp only [Act.put, List.setIfInBounds_toArray, List.set_cons_zero, List.set_cons_succ]
     refine wpAnyH_ready (rs := [12]) (by kernel_rfl) (by simp) ?_
     refine AllReadyH.cons (o := ⟨_, _, _, _, _, _⟩) rfl (fun K hK => ?_) AllReadyH.nil
     go_simp
     refine hK.out _ _ ?_ (fun hHeld => ?_)
     ·exact HS.out _ ((HKW.out _ HB6.out hgrow).setCell (.inl rfl) _ _)
     clear hK K
     try simp only [Act.put, List.setIfInBounds_toArray, List.set_cons_zero, List.set_cons_succ]
     refine wpAnyH_done (by kernel_rfl) ?_ _
     refine NoPanic.normal ?_
     go_wp2_with fail
     go_meet
     exact ⟨_, _, _, hst⟩
    case rest =>
     obtain ⟨p, av', cv', hI'⟩ := hcut
     have HI' := Lib.hid hI'
     clear hI' xc xr oc0 oc1 oc2 oc3 oc4 oc5 of
     go_wp2
     go_roundw
     case rel => exact ⟨ps ++ [p], av', cv', by simp, by simp; omega, by simpa using HI'⟩
     case measure => simp [intOf]; omega
   ·have hje : ps.length = x.l.length := by omega
    have hgei : (x.l.length : Int) ≤ (x.l.length : Int) := by omega
    have HLL : Hid (Dt.Row (fun k => wc.heap.size ≤ k) wr (.slice av x.l.length cv) (Dt.strips b x.l)) := by
     have h := HI.out.1.to_row
     rw [HI.out.2.1, hje, List.take_length] at h
     exact h
    have HKL := Lib.hid HI.out.2.2.1
    have HOB : Hid (Dt.Box wr (w.heap.size + 1 + 1) x (.slice a5 (Dt.mrk b x).length cq5) (.slice av x.l.length cv) (.slice none 0 0)) := by have h := HI.out.2.2.2.1; rw [hje] at h; exact h
    have HOF := Lib.hid HI.out.2.2.2.2
    have HROT : Hid (Dt.Row (fun k => k < w.heap.size) wr (.slice at_ x.t.length cat_) x.t) := Dt.Row.keep ((HRT.out.mono (fun _ _ h => h)).below HBL.out) HKL.out (fun k h _ e => by omega)
    have HXT := Lib.hid (HBX.out.keep HKL.out (by omega)).2.2.2.2.2
    have HO5 : Hid (w.heap.size + 1 + 1 < wr.heap.size) := Nat.lt_of_lt_of_le HO4.out HKL.out.size
    have xf := (HBX.out.keep HKL.out (by omega)).2.2.2.2.1
    rw [hje]
    clear HI hje hltn hj
    obtain ⟨wo, hwo⟩ : ∃ wo, wo = wr := ⟨_, rfl⟩
    rw [← hwo] at HLL HKL HOB HOF HROT HXT HO5 xf ⊢
    clear hwo
    go_wp2
    go_loopw [7] (fun v wr => ∃ (ps : List Dt.P) (au : Option Addr) (cu : Nat), v = .int .i64 ps.length ∧ ps.length ≤ x.t.length ∧ Hid (Dt.InvT b wo (w.heap.size + 1 + 1) x (.slice a5 (Dt.mrk b x).length cq5) (.slice av x.l.length cv) x.t ps (.slice au ps.length cu) wr)) (fun v _ => x.t.length - (intOf v).toNat)
    case atStart => exact ⟨[], none, 0, rfl, Nat.zero_le _, ⟨Dt.Rowing.nil _ _, by simp [Dt.strips], Keep.refl _ _, HOB.out, HOF.out⟩⟩
    case round =>
     clear xf
     obtain ⟨ps, au, cu, rfl, hj, HI⟩ := hrel
     by_cases hltn : ps.length < x.t.length
     ·have hlti : (ps.length : Int) < (x.t.length : Int) := by omega
      obtain ⟨g, o, y, vb1, vb2, vb3, hag, hy, hel, hrp, hS⟩ := HI.out.el (_w := w) HROT.out (by omega) HXT.out (by omega) hltn
      obtain ⟨b1, m1, p1, b2, m2, p2, b3, m3, p3, rfl, rfl, rfl⟩ := hrp.forms
      have HY := Lib.hid hy
      have HC : Hid (∀ u, Below wr.heap.size wr u → Calls Try.prog 26 #[.agg #[.int .i64 y.k, .int .i64 y.n, .string y.s, .slice b1 m1 p1, .slice b2 m2 p2, .slice b3 m3 p3], .bool b] u fun e w' => Dt.Fresh u.heap.size w' (Dt.strip b y) e ∧ Below u.heap.size u w') := fun u hu => HT.out y (by rw [hy]; exact List.getElem_mem _) _ _ _ _ u (by rw [hy]; exact (Dt.wf_t HW.out).at _ hltn) (by rw [hy]; exact Dt.Fines.at HF5.out _ (List.getElem_mem _)) (hrp.below hu)
      have HBD : Hid (Below wr.heap.size wr wr.drew) := (Below.refl _ wr).drew
      have HS := Lib.hid hS
      obtain ⟨xc, xr⟩ := id hel
      obtain ⟨oc0, oc1, oc2, oc3, oc4, oc5⟩ := HI.out.2.2.2.1
      have of := HI.out.2.2.2.2 5
      subst hag
      clear hy hel hrp hS
      go_upto_block 3 with fail
      go_cut [] (fun wx => ∃ p au' cu', Dt.InvT b wo (w.heap.size + 1 + 1) x (.slice a5 (Dt.mrk b x).length cq5) (.slice av x.l.length cv) x.t (ps ++ [p]) (.slice au' (ps.length + 1) cu') wx)
      case first =>
       go_wp2_with fail
       have hmx : ps.length + 1 ≤ maxLen := by unfold maxLen; omega
       have hby : (ps.length + 1) * 104 ≤ 140737488355328 := by omega
       have HBD0 : Hid (Below wr.heap.size wr wr.drew) := (Below.refl _ wr).drew
       have oF : wr.drew.cell? ⟨w.heap.size + 1 + 1, 5, none⟩ = some (.slice au ps.length cu) := HI.out.2.2.2.1.2.2.2.2.2
       have hOl : w.heap.size + 1 + 1 < wr.drew.heap.size := block_lt_of_cell oF
       have hSd : Dt.ElS wr.drew w.heap.size 5 (.slice (some ⟨g, o, none⟩) x.t.length cat_) g (o + ps.length * 6) y (.slice b1 m1 p1) (.slice b2 m2 p2) (.slice b3 m3 p3) := HS.out _ ((Keep.refl _ _).below HBD0.out)
       have hpj0 : (0 : Int) ≤ (ps.length : Int) := by omega
       have HKW : Hid (∀ w6, Below wr.heap.size wr w6 → ∀ {o : Obj} {w7 : World}, (w6.alloc o).grownBy w7 (Value.slice au ps.length cu).ownBlock → Keep (fun k => k = w.heap.size + 1 + 1 ∨ wo.heap.size ≤ k) wr w7) := by
        intro w6 h6 o w7 hg
        have hA := h6.trans (((Below.refl _ w6).alloc (Nat.le_refl _) o).mono h6.size)
        have hrow := HI.out.1.row
        exact ⟨hg.os.trans hA.os, hg.tape.trans hA.tape, hg.output.trans hA.output, Nat.le_trans hA.size hg.size, fun k hk hn => (hg.block k (by have := hA.size; omega) (fun e => hn (.inr (Dt.own_lt hrow k e.symm).1))).trans (hA.block k hk)⟩
       refine wp_region_noPanic ?_
       refine wp_region_held_drew (S := fun w' => Dt.ElS w' w.heap.size 5 (.slice (some ⟨g, o, none⟩) x.t.length cat_) g (o + ps.length * 6) y (.slice b1 m1 p1) (.slice b2 m2 p2) (.slice b3 m3 p3)) (by kernel_rfl) hSd (fun hHeld => ?_)
       refine wpAnyH_take (i := 0) (oi := ⟨_, _, _, _, _, _⟩) (v := ?_) rfl (by kernel_rfl) (by kernel_rfl) (by kernel_rfl) (fun _ _ _ h => h) (Or.inl ⟨by rfl, ?_⟩) (by assumption) ?_
       rotate_left
       ·intro w hSw
        try dsimp only at hSw
        go_simp
        try with_reducible rfl
       simp only [Act.put, List.setIfInBounds_toArray, List.set_cons_zero, List.set_cons_succ]
       refine wpAnyH_take (i := 2) (oi := ⟨_, _, _, _, _, _⟩) (v := ?_) rfl (by kernel_rfl) (by kernel_rfl) (by kernel_rfl) (fun _ _ _ h => h) (Or.inl ⟨by rfl, ?_⟩) (by assumption) ?_
       rotate_left
       ·intro w hSw
        try dsimp only at hSw
        go_simp
        try with_reducible rfl
       simp only [Act.put, List.setIfInBounds_toArray, List.set_cons_zero, List.set_cons_succ]
       refine wpAnyH_take (i := 3) (oi := ⟨_, _, _, _, _, _⟩) (v := ?_) rfl (by kernel_rfl) (by kernel_rfl) (by kernel_rfl) (fun _ _ _ h => h) (Or.inl ⟨by rfl, ?_⟩) (by assumption) ?_
       rotate_left
       ·intro w hSw
        obtain ⟨g9, g0, g1, g2, g3, g4, g5⟩ := hSw
        go_simp
        try with_reducible rfl
       simp only [Act.put, List.setIfInBounds_toArray, List.set_cons_zero, List.set_cons_succ]
       refine wpAnyH_take (i := 4) (oi := ⟨_, _, _, _, _, _⟩) (v := ?_) rfl (by kernel_rfl) (by kernel_rfl) (by kernel_rfl) (fun _ _ _ h => h) (Or.inl ⟨by rfl, ?_⟩) (by assumption) ?_
       rotate_left
       ·intro w hSw
        try dsimp only at hSw
        go_simp
        try with_reducible rfl
       simp only [Act.put, List.setIfInBounds_toArray, List.set_cons_zero, List.set_cons_succ]
       refine wpAnyH_take (i := 5) (oi := ⟨_, _, _, _, _, _⟩) (v := ?_) rfl (by kernel_rfl) (by kernel_rfl) (by kernel_rfl) (fun _ _ _ h => h) (Or.inl ⟨by rfl, ?_⟩) (by assumption) ?_
       rotate_left
       ·intro w hSw
        try dsimp only at hSw
        go_simp
        try with_reducible rfl
       simp only [Act.put, List.setIfInBounds_toArray, List.set_cons_zero, List.set_cons_succ]
       refine wpAnyH_take (i := 6) (oi := ⟨_, _, _, _, _, _⟩) (v := ?_) rfl (by kernel_rfl) (by kernel_rfl) (by kernel_rfl) (fun _ _ _ h => h) (Or.inl ⟨by rfl, ?_⟩) (by assumption) ?_
       rotate_left
       ·intro w hSw
        obtain ⟨g9, g0, g1, g2, g3, g4, g5⟩ := hSw
        go_simp
        try with_reducible rfl
       simp only [Act.put, List.setIfInBounds_toArray, List.set_cons_zero, List.set_cons_succ]
       refine wpAnyH_take (i := 7) (oi := ⟨_, _, _, _, _, _⟩) (v := ?_) rfl (by kernel_rfl) (by kernel_rfl) (by kernel_rfl) (fun _ _ _ h => h) (Or.inl ⟨by rfl, ?_⟩) (by assumption) ?_
       rotate_left
       ·intro w hSw
        try dsimp only at hSw
        go_simp
        try with_reducible rfl
       simp only [Act.put, List.setIfInBounds_toArray, List.set_cons_zero, List.set_cons_succ]
       refine wpAnyH_ready (rs := [1, 8]) (by kernel_rfl) (by simp) ?_
       refine AllReadyH.cons (o := ⟨_, _, _, _, _, _⟩) rfl (fun K hK => ?_) ?_
       ·go_simp
        refine hK.out _ _ ?_ (fun hHeld => ?_)
        ·exact hSd
        clear hK K
        try simp only [Act.put, List.setIfInBounds_toArray, List.set_cons_zero, List.set_cons_succ]
        refine wpAnyH_ready (rs := [8]) (by kernel_rfl) (by simp) ?_
        refine AllReadyH.cons (o := ⟨_, _, _, _, _, _⟩) rfl (fun K hK => ?_) AllReadyH.nil
        go_simp
        refine (HC.out _ HBD.out).mono ?_
        rintro e w6 ⟨⟨um, ul, ut, rfl, hr6⟩, hb6⟩
        obtain ⟨e1, r1, t1, e2, r2, t2, e3, r3, t3, rfl, rfl, rfl⟩ := hr6.forms
        have o6 := (hb6.cell (p := ⟨w.heap.size + 1 + 1, 5, none⟩) hOl).trans oF
        rw [Dt.strip_k, Dt.strip_n, Dt.strip_s]
        dsimp only
        refine hK.out _ _ ?_ (fun hHeld => ?_)
        ·exact HS.out _ ((Keep.refl _ _).below (HBD0.out.trans (hb6.mono HBD0.out.size)))
        clear hK K
        try simp only [Act.put, List.setIfInBounds_toArray, List.set_cons_zero, List.set_cons_succ]
        have HR6 : Hid (Dt.Rep (fun k => wr.heap.size ≤ k) w6 (Dt.strip b y) (.slice e1 r1 t1) (.slice e2 r2 t2) (.slice e3 r3 t3)) := hr6
        have HB6 : Hid (Below wr.heap.size wr w6) := HBD0.out.trans (hb6.mono HBD0.out.size)
        have HCE : Hid ((Dt.P.mk (Dt.strip b y) (.slice e1 r1 t1) (.slice e2 r2 t2) (.slice e3 r3 t3)).cells = [.int .i64 y.k, .int .i64 y.n, .string y.s, .slice e1 r1 t1, .slice e2 r2 t2, .slice e3 r3 t3]) := by show Dt.P.cells _ = _; unfold Dt.P.cells; simp only [Dt.strip_k, Dt.strip_n, Dt.strip_s]
        have HOW : Hid (w6.ownsRow wo.heap.size 25 6 (.slice au ps.length cu) ps.length (Dt.flatP ps)) := Dt.own_below HI.out.1.row HB6.out
        have hbs : wo.heap.size ≤ (w6.alloc (.cells #[.int .i64 y.k, .int .i64 y.n, .string y.s, .slice e1 r1 t1, .slice e2 r2 t2, .slice e3 r3 t3] 25)).heap.size := by rw [World.size_alloc]; have := HB6.out.size; have := HI.out.2.2.1.size; omega
        refine wpAnyH_ready (rs := [9]) (by kernel_rfl) (by simp) ?_
        refine AllReadyH.cons (o := ⟨_, _, _, _, _, _⟩) rfl (fun K hK => ?_) AllReadyH.nil
        go_simp
        refine hK.out _ _ ?_ (fun hHeld => ?_)
        ·exact HS.out _ ((Keep.refl _ _).below (HB6.out.trans (((Below.refl _ w6).alloc (Nat.le_refl _) _).mono HB6.out.size)))
        clear hK K
        try simp only [Act.put, List.setIfInBounds_toArray, List.set_cons_zero, List.set_cons_succ]
        refine wpAnyH_ready (rs := [10]) (by kernel_rfl) (by simp) ?_
        refine AllReadyH.cons (o := ⟨_, _, _, _, _, _⟩) rfl (fun K hK => ?_) AllReadyH.nil
        refine step_append_lies _ (by rfl) _ _ 23 (by rfl) wo.heap.size 25 i0 (.agg #[.int .i64 0, .int .i64 0, .string ⟨#[]⟩, .slice none 0 0, .slice none 0 0, .slice none 0 0]) 6 104 Try.underlying23 hi hz0 hz1 hz2 rfl (by decide) (.slice au ps.length cu) ps.length (Dt.flatP ps) (by rfl) (HOW.out.alloc _) ⟨w6.heap.size, 0, none⟩ 1 1 [.int .i64 y.k, .int .i64 y.n, .string y.s, .slice e1 r1 t1, .slice e2 r2 t2, .slice e3 r3 t3] (by rfl) rfl (World.news_of_block (w := w6.alloc _) (B := w6.heap.size) (cs := #[.int .i64 y.k, .int .i64 y.n, .string y.s, .slice e1 r1 t1, .slice e2 r2 t2, .slice e3 r3 t3]) (t := 25) (fr := (0, 0)) (heap_alloc_new w6 _)) (by simp [Value.oneCell']) (by omega) hmx hby hbs _ rfl ?_
        intro g' cap w7 hown hgrow hat hlt
        obtain ⟨z4, zf, hst⟩ := HI.out.step (p := Dt.P.mk (Dt.strip b y) (.slice e1 r1 t1) (.slice e2 r2 t2) (.slice e3 r3 t3)) HO5.out hltn (by rw [HY.out]) HB6.out HR6.out ((Below.refl _ w6).alloc (Nat.le_refl _) _) (by rw [show (Dt.P.mk (Dt.strip b y) (.slice e1 r1 t1) (.slice e2 r2 t2) (.slice e3 r3 t3)).cells = [.int .i64 y.k, .int .i64 y.n, .string y.s, .slice e1 r1 t1, .slice e2 r2 t2, .slice e3 r3 t3] from HCE.out]; exact hown) hgrow (hat.imp (fun e => by rw [e]; rfl) (fun e => by rw [e]; rfl))
        refine hK.out _ _ ?_ (fun hHeld => ?_)
        ·exact HS.out _ (HKW.out _ HB6.out hgrow)
        clear hK K
        try simp only [Act.put, List.setIfInBounds_toArray, List.set_cons_zero, List.set_cons_succ]
        refine wpAnyH_take (i := 11) (oi := ⟨_, _, _, _, _, _⟩) (v := ?_) rfl (by kernel_rfl) (by kernel_rfl) (by kernel_rfl) (fun _ _ _ h => h) (Or.inl ⟨by rfl, ?_⟩) (by assumption) ?_
        rotate_left
        ·intro w hSw
         try dsimp only at hSw
         go_simp
         try with_reducible rfl
        simp only [Act.put, List.setIfInBounds_toArray, List.set_cons_zero, List.set_cons_succ]
        refine wpAnyH_ready (rs := [12]) (by kernel_rfl) (by simp) ?_
        refine AllReadyH.cons (o := ⟨_, _, _, _, _, _⟩) rfl (fun K hK => ?_) AllReadyH.nil
        go_simp
        refine hK.out _ _ ?_ (fun hHeld => ?_)
        ·exact HS.out _ ((HKW.out _ HB6.out hgrow).setCell (.inl rfl) _ _)
        clear hK K
        try simp only [Act.put, List.setIfInBounds_toArray, List.set_cons_zero, List.set_cons_succ]
        refine wpAnyH_done (by kernel_rfl) ?_ _
        refine NoPanic.normal ?_
        go_wp2_with fail
        go_meet
        exact ⟨_, _, _, hst⟩
       refine AllReadyH.cons (o := ⟨_, _, _, _, _, _⟩) rfl (fun K hK => ?_) AllReadyH.nil
       go_simp
       refine (HC.out _ HBD.out).mono ?_
       rintro e w6 ⟨⟨um, ul, ut, rfl, hr6⟩, hb6⟩
       obtain ⟨e1, r1, t1, e2, r2, t2, e3, r3, t3, rfl, rfl, rfl⟩ := hr6.forms
       have o6 := (hb6.cell (p := ⟨w.heap.size + 1 + 1, 5, none⟩) hOl).trans oF
       rw [Dt.strip_k, Dt.strip_n, Dt.strip_s]
       dsimp only
       refine hK.out _ _ ?_ (fun hHeld => ?_)
       ·exact HS.out _ ((Keep.refl _ _).below (HBD0.out.trans (hb6.mono HBD0.out.size)))
       clear hK K
       try simp only [Act.put, List.setIfInBounds_toArray, List.set_cons_zero, List.set_cons_succ]
       have HR6 : Hid (Dt.Rep (fun k => wr.heap.size ≤ k) w6 (Dt.strip b y) (.slice e1 r1 t1) (.slice e2 r2 t2) (.slice e3 r3 t3)) := hr6
       have HB6 : Hid (Below wr.heap.size wr w6) := HBD0.out.trans (hb6.mono HBD0.out.size)
       have HCE : Hid ((Dt.P.mk (Dt.strip b y) (.slice e1 r1 t1) (.slice e2 r2 t2) (.slice e3 r3 t3)).cells = [.int .i64 y.k, .int .i64 y.n, .string y.s, .slice e1 r1 t1, .slice e2 r2 t2, .slice e3 r3 t3]) := by show Dt.P.cells _ = _; unfold Dt.P.cells; simp only [Dt.strip_k, Dt.strip_n, Dt.strip_s]
       have HOW : Hid (w6.ownsRow wo.heap.size 25 6 (.slice au ps.length cu) ps.length (Dt.flatP ps)) := Dt.own_below HI.out.1.row HB6.out
       have hbs : wo.heap.size ≤ (w6.alloc (.cells #[.int .i64 y.k, .int .i64 y.n, .string y.s, .slice e1 r1 t1, .slice e2 r2 t2, .slice e3 r3 t3] 25)).heap.size := by rw [World.size_alloc]; have := HB6.out.size; have := HI.out.2.2.1.size; omega
       have o6a := (((Below.refl _ w6).alloc (Nat.le_refl _) (.cells #[.int .i64 y.k, .int .i64 y.n, .string y.s, .slice e1 r1 t1, .slice e2 r2 t2, .slice e3 r3 t3] 25)).cell (p := ⟨w.heap.size + 1 + 1, 5, none⟩) (block_lt_of_cell o6)).trans o6
       refine wpAnyH_ready (rs := [1, 9]) (by kernel_rfl) (by simp) ?_
       refine AllReadyH.cons (o := ⟨_, _, _, _, _, _⟩) rfl (fun K hK => ?_) ?_
       ·go_simp
        refine hK.out _ _ ?_ (fun hHeld => ?_)
        ·exact HS.out _ ((Keep.refl _ _).below (HBD0.out.trans (hb6.mono HBD0.out.size)))
        clear hK K
        try simp only [Act.put, List.setIfInBounds_toArray, List.set_cons_zero, List.set_cons_succ]
        refine wpAnyH_ready (rs := [9]) (by kernel_rfl) (by simp) ?_
        refine AllReadyH.cons (o := ⟨_, _, _, _, _, _⟩) rfl (fun K hK => ?_) AllReadyH.nil
        go_simp
        refine hK.out _ _ ?_ (fun hHeld => ?_)
        ·exact HS.out _ ((Keep.refl _ _).below (HB6.out.trans (((Below.refl _ w6).alloc (Nat.le_refl _) _).mono HB6.out.size)))
        clear hK K
        try simp only [Act.put, List.setIfInBounds_toArray, List.set_cons_zero, List.set_cons_succ]
        refine wpAnyH_ready (rs := [10]) (by kernel_rfl) (by simp) ?_
        refine AllReadyH.cons (o := ⟨_, _, _, _, _, _⟩) rfl (fun K hK => ?_) AllReadyH.nil
        refine step_append_lies _ (by rfl) _ _ 23 (by rfl) wo.heap.size 25 i0 (.agg #[.int .i64 0, .int .i64 0, .string ⟨#[]⟩, .slice none 0 0, .slice none 0 0, .slice none 0 0]) 6 104 Try.underlying23 hi hz0 hz1 hz2 rfl (by decide) (.slice au ps.length cu) ps.length (Dt.flatP ps) (by rfl) (HOW.out.alloc _) ⟨w6.heap.size, 0, none⟩ 1 1 [.int .i64 y.k, .int .i64 y.n, .string y.s, .slice e1 r1 t1, .slice e2 r2 t2, .slice e3 r3 t3] (by rfl) rfl (World.news_of_block (w := w6.alloc _) (B := w6.heap.size) (cs := #[.int .i64 y.k, .int .i64 y.n, .string y.s, .slice e1 r1 t1, .slice e2 r2 t2, .slice e3 r3 t3]) (t := 25) (fr := (0, 0)) (heap_alloc_new w6 _)) (by simp [Value.oneCell']) (by omega) hmx hby hbs _ rfl ?_
        intro g' cap w7 hown hgrow hat hlt
        obtain ⟨z4, zf, hst⟩ := HI.out.step (p := Dt.P.mk (Dt.strip b y) (.slice e1 r1 t1) (.slice e2 r2 t2) (.slice e3 r3 t3)) HO5.out hltn (by rw [HY.out]) HB6.out HR6.out ((Below.refl _ w6).alloc (Nat.le_refl _) _) (by rw [show (Dt.P.mk (Dt.strip b y) (.slice e1 r1 t1) (.slice e2 r2 t2) (.slice e3 r3 t3)).cells = [.int .i64 y.k, .int .i64 y.n, .string y.s, .slice e1 r1 t1, .slice e2 r2 t2, .slice e3 r3 t3] from HCE.out]; exact hown) hgrow (hat.imp (fun e => by rw [e]; rfl) (fun e => by rw [e]; rfl))
        refine hK.out _ _ ?_ (fun hHeld => ?_)
        ·exact HS.out _ (HKW.out _ HB6.out hgrow)
        clear hK K
        try simp only [Act.put, List.setIfInBounds_toArray, List.set_cons_zero, List.set_cons_succ]
        refine wpAnyH_take (i := 11) (oi := ⟨_, _, _, _, _, _⟩) (v := ?_) rfl (by kernel_rfl) (by kernel_rfl) (by kernel_rfl) (fun _ _ _ h => h) (Or.inl ⟨by rfl, ?_⟩) (by assumption) ?_
        rotate_left
        ·intro w hSw
         try dsimp only at hSw
         go_simp
         try with_reducible rfl
        simp only [Act.put, List.setIfInBounds_toArray, List.set_cons_zero, List.set_cons_succ]
        refine wpAnyH_ready (rs := [12]) (by kernel_rfl) (by simp) ?_
        refine AllReadyH.cons (o := ⟨_, _, _, _, _, _⟩) rfl (fun K hK => ?_) AllReadyH.nil
        go_simp
        refine hK.out _ _ ?_ (fun hHeld => ?_)
        ·exact HS.out _ ((HKW.out _ HB6.out hgrow).setCell (.inl rfl) _ _)
        clear hK K
        try simp only [Act.put, List.setIfInBounds_toArray, List.set_cons_zero, List.set_cons_succ]
        refine wpAnyH_done (by kernel_rfl) ?_ _
        refine NoPanic.normal ?_
        go_wp2_with fail
        go_meet
        exact ⟨_, _, _, hst⟩
       refine AllReadyH.cons (o := ⟨_, _, _, _, _, _⟩) rfl (fun K hK => ?_) AllReadyH.nil
       go_simp
       refine hK.out _ _ ?_ (fun hHeld => ?_)
       ·exact HS.out _ ((Keep.refl _ _).below (HB6.out.trans (((Below.refl _ w6).alloc (Nat.le_refl _) _).mono HB6.out.size)))
       clear hK K
       try simp only [Act.put, List.setIfInBounds_toArray, List.set_cons_zero, List.set_cons_succ]
       refine wpAnyH_ready (rs := [1]) (by kernel_rfl) (by simp) ?_
       refine AllReadyH.cons (o := ⟨_, _, _, _, _, _⟩) rfl (fun K hK => ?_) AllReadyH.nil
       go_simp
       refine hK.out _ _ ?_ (fun hHeld => ?_)
       ·exact HS.out _ ((Keep.refl _ _).below (HB6.out.trans (((Below.refl _ w6).alloc (Nat.le_refl _) _).mono HB6.out.size)))
       clear hK K
       try simp only [Act.put, List.setIfInBounds_toArray, List.set_cons_zero, List.set_cons_succ]
       refine wpAnyH_ready (rs := [10]) (by kernel_rfl) (by simp) ?_
       refine AllReadyH.cons (o := ⟨_, _, _, _, _, _⟩) rfl (fun K hK => ?_) AllReadyH.nil
       refine step_append_lies _ (by rfl) _ _ 23 (by rfl) wo.heap.size 25 i0 (.agg #[.int .i64 0, .int .i64 0, .string ⟨#[]⟩, .slice none 0 0, .slice none 0 0, .slice none 0 0]) 6 104 Try.underlying23 hi hz0 hz1 hz2 rfl (by decide) (.slice au ps.length cu) ps.length (Dt.flatP ps) (by rfl) (HOW.out.alloc _) ⟨w6.heap.size, 0, none⟩ 1 1 [.int .i64 y.k, .int .i64 y.n, .string y.s, .slice e1 r1 t1, .slice e2 r2 t2, .slice e3 r3 t3] (by rfl) rfl (World.news_of_block (w := w6.alloc _) (B := w6.heap.size) (cs := #[.int .i64 y.k, .int .i64 y.n, .string y.s, .slice e1 r1 t1, .slice e2 r2 t2, .slice e3 r3 t3]) (t := 25) (fr := (0, 0)) (heap_alloc_new w6 _)) (by simp [Value.oneCell']) (by omega) hmx hby hbs _ rfl ?_
       intro g' cap w7 hown hgrow hat hlt
       obtain ⟨z4, zf, hst⟩ := HI.out.step (p := Dt.P.mk (Dt.strip b y) (.slice e1 r1 t1) (.slice e2 r2 t2) (.slice e3 r3 t3)) HO5.out hltn (by rw [HY.out]) HB6.out HR6.out ((Below.refl _ w6).alloc (Nat.le_refl _) _) (by rw [show (Dt.P.mk (Dt.strip b y) (.slice e1 r1 t1) (.slice e2 r2 t2) (.slice e3 r3 t3)).cells = [.int .i64 y.k, .int .i64 y.n, .string y.s, .slice e1 r1 t1, .slice e2 r2 t2, .slice e3 r3 t3] from HCE.out]; exact hown) hgrow (hat.imp (fun e => by rw [e]; rfl) (fun e => by rw [e]; rfl))
       refine hK.out _ _ ?_ (fun hHeld => ?_)
       ·exact HS.out _ (HKW.out _ HB6.out hgrow)
       clear hK K
       try simp only [Act.put, List.setIfInBounds_toArray, List.set_cons_zero, List.set_cons_succ]
       refine wpAnyH_take (i := 11) (oi := ⟨_, _, _, _, _, _⟩) (v := ?_) rfl (by kernel_rfl) (by kernel_rfl) (by kernel_rfl) (fun _ _ _ h => h) (Or.inl ⟨by rfl, ?_⟩) (by assumption) ?_
       rotate_left
       ·intro w hSw
        try dsimp only at hSw
        go_simp
        try with_reducible rfl
       simp only [Act.put, List.setIfInBounds_toArray, List.set_cons_zero, List.set_cons_succ]
       refine wpAnyH_ready (rs := [12]) (by kernel_rfl) (by simp) ?_
       refine AllReadyH.cons (o := ⟨_, _, _, _, _, _⟩) rfl (fun K hK => ?_) AllReadyH.nil
       go_simp
       refine hK.out _ _ ?_ (fun hHeld => ?_)
       ·exact HS.out _ ((HKW.out _ HB6.out hgrow).setCell (.inl rfl) _ _)
       clear hK K
       try simp only [Act.put, List.setIfInBounds_toArray, List.set_cons_zero, List.set_cons_succ]
       refine wpAnyH_done (by kernel_rfl) ?_ _
       refine NoPanic.normal ?_
       go_wp2_with fail
       go_meet
       exact ⟨_, _, _, hst⟩
      case rest =>
       obtain ⟨p, au', cu', hI'⟩ := hcut
       have HI' := Lib.hid hI'
       clear hI' xc xr oc0 oc1 oc2 oc3 oc4 oc5 of
       go_wp2
       go_roundw
       case rel => exact ⟨ps ++ [p], au', cu', by simp, by simp; omega, by simpa using HI'⟩
       case measure => simp [intOf]; omega
     ·have hje : ps.length = x.t.length := by omega
      have hgei : (x.t.length : Int) ≤ (x.t.length : Int) := by omega
      obtain ⟨hbo, hbz, hfz, hEND⟩ := Dt.made_end HI5.out HBR.out HFR.out HBL.out HO4.out HLL.out HKL.out HI.out hje
      rw [hje] at hbo hEND ⊢
      have HEND := Lib.hid hEND
      obtain ⟨b0, b1, b2, b3, b4, b5⟩ := hbo
      obtain ⟨d0, d1, d2, d3, d4, d5⟩ := hbz
      have k0 := hfz 0
      have k1 := hfz 1
      have k2 := hfz 2
      have k3 := hfz 3
      have k4 := hfz 4
      have k5 := hfz 5
      have xf := (HBX.out.keep (HKL.out.trans HI.out.2.2.1) (by omega)).2.2.2.2.2
      clear hEND hfz HI hje hltn hj
      go_wp2
      refine bodyPost_ret (v := .agg #[.int .i64 x.k, .int .i64 x.n, .string x.s, .slice a5 (Dt.mrk b x).length cq5, .slice av x.l.length cv, .slice au x.t.length cu]) ?_ rfl ?_
      ·simp [results, Try.results26, go_sem, *]
      ·exact HEND.out
mutual
theorem Dt.made_any (b : Bool) : ∀ x : Dt.D, Dt.Made b x
 | .mk k n s m l t => made_step b (.mk k n s m l t) (Dt.mades_any b l) (Dt.mades_any b t)
theorem Dt.mades_any (b : Bool) : ∀ (l : List Dt.D) (y : Dt.D), y ∈ l → Dt.Made b y
 | [], _, h => absurd h (by simp)
 | x :: r, y, h => (List.mem_cons.1 h).elim (fun e => by rw [e]; exact Dt.made_any b x) (fun h' => Dt.mades_any b r y h')
end
end Go.Proofs.Ytcopdfihaheplaa
namespace Go.Proofs.Ytcopdfihaheplaa
open Go.ChangeShapes Go.WideShapes Go.RowKit Go.Deep
namespace Dt
section
variable {H : Type} {enc : TypeId × Value → H} {P : Program} {w : World} {base : Nat} {spare : Nat → Bool} {held : Bool}
theorem weights_all {e : TypeId} : ∀ {l : List (DataW H)} {d : DataW H}, d ∈ l → ∀ n ∈ d.weights P e, n ∈ DataW.weightsAll P e l
 | a :: l, d, hd, n, hn => by
  simp only [DataW.weightsAll, List.mem_append]
  rcases List.mem_cons.1 hd with rfl | hd
  ·exact .inl hn
  ·exact .inr (weights_all hd n hn)
def Fits (P : Program) (t : TypeId) (d : DataW H) : Prop := ∀ n ∈ d.weights P t, n ≤ reachBytes
theorem trod_six {t : TypeId} {f0 f1 f2 f3 f4 f5 : Field} {fuel : Nat} {cs : List Value} {x : DataW H × List MemPlace} (hs : P.underlying t = some (.struct #[f0, f1, f2, f3, f4, f5])) (hone : oneCellFields P #[f0, f1, f2, f3, f4, f5] = true) (hC : P.cellsOf t = 6)
  (h : DataW.trod enc P w base spare held fuel t cs = some x) (hf : Fits P t x.1) :
  ∃ (v0 v1 v2 v3 v4 v5 : Value) (y0 y1 y2 y3 y4 y5 : DataW H × List MemPlace) (n : Nat), fuel = n + 1 ∧ cs = [v0, v1, v2, v3, v4, v5] ∧
   (DataW.trod enc P w base spare held n f0.type [v0] = some y0 ∧ Fits P f0.type y0.1) ∧ (DataW.trod enc P w base spare held n f1.type [v1] = some y1 ∧ Fits P f1.type y1.1) ∧ (DataW.trod enc P w base spare held n f2.type [v2] = some y2 ∧ Fits P f2.type y2.1) ∧ (DataW.trod enc P w base spare held n f3.type [v3] = some y3 ∧ Fits P f3.type y3.1) ∧ (DataW.trod enc P w base spare held n f4.type [v4] = some y4 ∧ Fits P f4.type y4.1) ∧ (DataW.trod enc P w base spare held n f5.type [v5] = some y5 ∧ Fits P f5.type y5.1) := by
 obtain ⟨xs, n, hn, hx, hsz, hlen, hg⟩ := DataW.trod_struct hs h
 match cs, hsz.trans hC with
 | [c0, c1, c2, c3, c4, c5], _ =>
  obtain ⟨o0, k0⟩ := hone_of hone 0 f0 rfl
  obtain ⟨o1, k1⟩ := hone_of hone 1 f1 rfl
  obtain ⟨o2, k2⟩ := hone_of hone 2 f2 rfl
  obtain ⟨o3, k3⟩ := hone_of hone 3 f3 rfl
  obtain ⟨o4, k4⟩ := hone_of hone 4 f4 rfl
  obtain ⟨o5, k5⟩ := hone_of hone 5 f5 rfl
  match xs, hlen with
  | [y0, y1, y2, y3, y4, y5], _ =>
   have hw : ∀ (i : Nat) (f : Field) (y : DataW H × List MemPlace), #[f0, f1, f2, f3, f4, f5][i]? = some f → [y0, y1, y2, y3, y4, y5][i]? = some y → Fits P f.type y.1 := by
    intro i f y h1 h2 m hm
    refine hf m ?_
    rw [hx]
    show m ∈ (DataW.agg ([y0, y1, y2, y3, y4, y5].map (·.1))).weights P t
    simp only [DataW.weights, hs]
    refine DataW.weights_mem_each (j := i) (t := f.type) (d := y.1) ?_ ?_ m hm
    ·rw [List.getElem?_map, Array.getElem?_toList, h1]; rfl
    ·rw [List.getElem?_map, h2]; rfl
   exact ⟨c0, c1, c2, c3, c4, c5, y0, y1, y2, y3, y4, y5, n, hn, rfl, ⟨by simpa [o0, k0] using hg 0 f0 rfl, hw 0 f0 y0 rfl rfl⟩, ⟨by simpa [o1, k1] using hg 1 f1 rfl, hw 1 f1 y1 rfl rfl⟩, ⟨by simpa [o2, k2] using hg 2 f2 rfl, hw 2 f2 y2 rfl rfl⟩, ⟨by simpa [o3, k3] using hg 3 f3 rfl, hw 3 f3 y3 rfl rfl⟩, ⟨by simpa [o4, k4] using hg 4 f4 rfl, hw 4 f4 y4 rfl rfl⟩, ⟨by simpa [o5, k5] using hg 5 f5 rfl, hw 5 f5 y5 rfl rfl⟩⟩
theorem open_row {t e : TypeId} {fuel : Nat} {cs : List Value} {x : DataW H × List MemPlace} (ht : P.underlying t = some (.slice e)) (h : DataW.trod enc P w base spare held fuel t cs = some x) (hf : Fits P t x.1) :
  (cs = [.slice none 0 0]) ∨ ∃ (a : Addr) (len cap n : Nat), fuel = n + 1 ∧ cs = [.slice (some a) len cap] ∧ len ≤ cap ∧ len * P.bytesOf e ≤ reachBytes ∧
   ∀ i, i < len → ∃ cs' y, w.cells? base (a.add (i * P.cellsOf e)) (P.cellsOf e) = some cs' ∧ DataW.trod enc P w base spare held n e cs' = some y ∧ Fits P e y.1 := by
 rcases DataW.trod_slice ht h with ⟨h0, _⟩ | ⟨a, len, cap, elems, rest, n, hn, hcs, hx, hb, hl, hm, hlen, hel, _, _⟩
 ·exact .inl h0
 refine .inr ⟨a, len, cap, n, hn, hcs, hl, ?_, fun i hi => ?_⟩
 ·have h9 := hf ((elems.length + rest.length) * P.bytesOf e) (by rw [hx]; simp [DataW.weights, ht])
  rw [hlen] at h9
  exact Nat.le_trans (Nat.mul_le_mul_right _ (Nat.le_add_right _ _)) h9
 ·have h1 := hel i hi
  rw [List.getElem?_eq_getElem (by omega)] at h1
  obtain ⟨cs', h2, h3⟩ := Option.bind_eq_some_iff.1 h1
  refine ⟨cs', elems[i], h2, h3, fun m hm' => hf m ?_⟩
  rw [hx]
  simp only [DataW.weights, ht, List.mem_cons, List.mem_append]
  exact .inr (.inl (weights_all (List.mem_map_of_mem (List.getElem_mem _)) m hm'))
end
theorem gather {α : Type} (Q : Nat → α → Prop) : ∀ n, (∀ i, i < n → ∃ t, Q i t) → ∃ l : List α, l.length = n ∧ ∀ j, (h : j < l.length) → Q j l[j]
 | 0, _ => ⟨[], rfl, fun j h => absurd h (by simp)⟩
 | n + 1, h => by
  obtain ⟨l, hl, hq⟩ := gather Q n (fun i hi => h i (by omega))
  obtain ⟨t, ht⟩ := h n (by omega)
  refine ⟨l ++ [t], by simp [hl], fun j hj => ?_⟩
  by_cases e : j < l.length
  ·rw [List.getElem_append_left e]; exact hq j e
  ·have : j = l.length := by simp at hj; omega
   subst this
   rw [List.getElem_append_right (by omega)]
   simpa [hl] using ht
theorem add_none {b o i : Nat} : (⟨b, o, none⟩ : Addr).add i = ⟨b, o + i, none⟩ := by unfold Addr.add; split <;> simp_all
theorem spot_none {w : World} {b o : Nat} {spot : Option Nat} {i : Nat} {v : Value} (h : w.cell? ((⟨b, o, spot⟩ : Addr).add i) = some v) (hi : i = 0) : spot = none := by
 subst hi
 have := World.cell?_spot h
 simpa [Addr.add] using this
section
variable {H : Type} {enc : TypeId × Value → H} {w : World} {base : Nat} {spare : Nat → Bool} {held : Bool}
set_option maxRecDepth 100000 in
theorem open_ints {fuel : Nat} {v : Value} {x : DataW H × List MemPlace} (h : DataW.trod enc Try.prog w base spare held fuel 22 [v] = some x) (hf : Fits Try.prog 22 x.1) :
  ∃ m : List Int, IRow (fun _ => True) w v m ∧ m.length ≤ 140737488355328 ∧ ∀ y ∈ m, -9223372036854775808 ≤ y ∧ y ≤ 9223372036854775807 := by
 rcases open_row Try.underlying22 h hf with h0 | ⟨a, len, cap, n, -, hcs, hl, hb, hel⟩
 ·obtain rfl : v = .slice none 0 0 := by simpa using h0
  exact ⟨[], ⟨none, 0, rfl, Nat.le_refl _, fun h => absurd rfl h⟩, by simp, by simp⟩
 ·obtain rfl : v = .slice (some a) len cap := by simpa using hcs
  have hC : Try.prog.cellsOf 3 = 1 := by kernel_rfl
  have hB : Try.prog.bytesOf 3 = 8 := by kernel_rfl
  rw [hB] at hb
  rw [hC] at hel
  have hr : reachBytes = 140737488351232 := by decide
  obtain ⟨m, hm, hq⟩ := gather (fun i (y : Int) => w.cell? (a.add i) = some (.int .i64 y) ∧ -9223372036854775808 ≤ y ∧ y ≤ 9223372036854775807) len (fun i hi => by
   obtain ⟨cs', y, hc, ht, _⟩ := hel i hi
   obtain ⟨z, e0, _, hz⟩ := DataW.trod_int Try.underlying3 ht
   subst e0
   obtain ⟨_, _, hat⟩ := World.cells?_some hc
   have g0 := hat 0 (by omega)
   rw [Nat.mul_one] at g0
   have hz' : (decide (IntKind.i64.min ≤ z) && decide (z ≤ IntKind.i64.max)) = true := hz
   rw [show IntKind.i64.min = -9223372036854775808 by decide, show IntKind.i64.max = 9223372036854775807 by decide] at hz'
   simp only [Bool.and_eq_true, decide_eq_true_eq] at hz'
   refine ⟨z, ?_, hz'⟩
   have e9 : (a.add i).add 0 = a.add i := by unfold Addr.add; rw [if_pos rfl]
   rw [e9] at g0
   exact g0)
  refine ⟨m, ⟨some a, cap, by rw [hm], by omega, fun hn => ?_⟩, by omega, fun y hy => ?_⟩
  ·have hpos : 0 < m.length := List.length_pos_iff.2 hn
   obtain ⟨b, off, spot⟩ := a
   obtain rfl := spot_none (hq 0 hpos).1 rfl
   refine ⟨b, off, rfl, trivial, ?_, fun j hj => ?_⟩
   ·have := (hq 0 hpos).1
    rw [add_none] at this
    exact block_lt_of_cell this
   ·have := (hq j hj).1
    rw [add_none] at this
    exact this
  ·obtain ⟨j, hj, rfl⟩ := List.getElem_of_mem hy
   exact (hq j hj).2
theorem wfs_of {l : List D} (h : ∀ j, (hj : j < l.length) → Wf l[j]) : Wfs l := by
 induction l with
 | nil => rw [Wfs]; trivial
 | cons a l ih =>
  rw [Wfs]
  exact ⟨h 0 (by simp), ih (fun j hj => h (j + 1) (by simpa using hj))⟩
set_option maxRecDepth 100000 in
theorem open_data {fuel : Nat} {v : Value} {x : DataW H × List MemPlace} (h : DataW.trod enc Try.prog w base spare held fuel 23 [v] = some x) (hf : Fits Try.prog 23 x.1)
  (ih : ∀ n, n < fuel → ∀ cs y, DataW.trod enc Try.prog w base spare held n 25 cs = some y → Fits Try.prog 25 y.1 → ∃ (d : D) (vm vl vt : Value), cs = [.int .i64 d.k, .int .i64 d.n, .string d.s, vm, vl, vt] ∧ Wf d ∧ Rep (fun _ => True) w d vm vl vt) :
  ∃ l : List D, Row (fun _ => True) w v l ∧ l.length ≤ 140737488355328 ∧ Wfs l := by
 rcases open_row Try.underlying23 h hf with h0 | ⟨a, len, cap, n, hn, hcs, hl, hb, hel⟩
 ·obtain rfl : v = .slice none 0 0 := by simpa using h0
  exact ⟨[], ⟨none, 0, rfl, Nat.le_refl _, fun h => absurd rfl h⟩, by simp, by rw [Wfs]; trivial⟩
 ·obtain rfl : v = .slice (some a) len cap := by simpa using hcs
  have hC : Try.prog.cellsOf 25 = 6 := by kernel_rfl
  have hB : Try.prog.bytesOf 25 = 104 := by kernel_rfl
  rw [hB] at hb
  rw [hC] at hel
  have hr : reachBytes = 140737488351232 := by decide
  obtain ⟨l, hm, hq⟩ := gather (fun i (d : D) => Wf d ∧ ∃ vm vl vt, Rep (fun _ => True) w d vm vl vt ∧ ∀ j, j < 6 → w.cell? ((a.add (i * 6)).add j) = [Value.int .i64 d.k, .int .i64 d.n, .string d.s, vm, vl, vt][j]?) len (fun i hi => by
   obtain ⟨cs', y, hc, ht, hfy⟩ := hel i hi
   obtain ⟨d, vm, vl, vt, e0, hw, hr⟩ := ih n (by omega) cs' y ht hfy
   subst e0
   obtain ⟨_, _, hat⟩ := World.cells?_some hc
   exact ⟨d, hw, vm, vl, vt, hr, hat⟩)
  refine ⟨l, ⟨some a, cap, by rw [hm], by omega, fun hne => ?_⟩, by omega, wfs_of (fun j hj => (hq j hj).1)⟩
  have hpos : 0 < l.length := List.length_pos_iff.2 hne
  obtain ⟨b, off, spot⟩ := a
  obtain ⟨_, vm, vl, vt, _, h6⟩ := hq 0 hpos
  have e0 := h6 0 (by omega)
  rw [Nat.zero_mul] at e0
  have hsp : spot = none := by
   have e9 : (((⟨b, off, spot⟩ : Addr).add 0).add 0) = (⟨b, off, spot⟩ : Addr).add 0 := by unfold Addr.add; simp
   rw [e9] at e0
   exact spot_none e0 rfl
  subst hsp
  rw [add_none, add_none] at e0
  refine ⟨b, off, rfl, trivial, block_lt_of_cell e0, Reps.of (fun j hj => ?_)⟩
  obtain ⟨_, vm, vl, vt, hrep, h6⟩ := hq j hj
  refine ⟨vm, vl, vt, ⟨?_, ?_, ?_, ?_, ?_, ?_⟩, hrep⟩
  ·have := h6 0 (by omega); rw [add_none, add_none] at this; exact this
  ·have := h6 1 (by omega); rw [add_none, add_none] at this; exact this
  ·have := h6 2 (by omega); rw [add_none, add_none] at this; exact this
  ·have := h6 3 (by omega); rw [add_none, add_none] at this; exact this
  ·have := h6 4 (by omega); rw [add_none, add_none] at this; exact this
  ·have := h6 5 (by omega); rw [add_none, add_none] at this; exact this
set_option maxRecDepth 100000 in
theorem open_fuel : ∀ (fuel : Nat) (cs : List Value) (y : DataW H × List MemPlace), DataW.trod enc Try.prog w base spare held fuel 25 cs = some y → Fits Try.prog 25 y.1 → ∃ (d : D) (vm vl vt : Value), cs = [.int .i64 d.k, .int .i64 d.n, .string d.s, vm, vl, vt] ∧ Wf d ∧ Rep (fun _ => True) w d vm vl vt := by
 intro fuel
 induction fuel using Nat.strongRecOn with
 | _ fuel ih =>
  intro cs y h hf
  have hC : Try.prog.cellsOf 25 = 6 := by kernel_rfl
  obtain ⟨v0, v1, v2, v3, v4, v5, y0, y1, y2, y3, y4, y5, n, rfl, rfl, ⟨h0, _⟩, ⟨h1, _⟩, ⟨h2, f2⟩, ⟨h3, f3⟩, ⟨h4, f4⟩, ⟨h5, f5⟩⟩ := trod_six Try.underlying25 (by kernel_rfl) hC h hf
  obtain ⟨k, e0, _, _⟩ := DataW.trod_int Try.underlying3 h0
  obtain ⟨z, e1, _, hz⟩ := DataW.trod_int Try.underlying2 h1
  obtain ⟨s, e2, hx2, hs⟩ := DataW.trod_string Try.underlying9 h2
  obtain ⟨m, hm, hml, _⟩ := open_ints h3 f3
  have ih' : ∀ n', n' < n → ∀ cs y, DataW.trod enc Try.prog w base spare held n' 25 cs = some y → Fits Try.prog 25 y.1 → ∃ (d : D) (vm vl vt : Value), cs = [.int .i64 d.k, .int .i64 d.n, .string d.s, vm, vl, vt] ∧ Wf d ∧ Rep (fun _ => True) w d vm vl vt := fun n' hn => ih n' (by omega)
  obtain ⟨l, hl, hll, hlw⟩ := open_data h4 f4 ih'
  obtain ⟨t, ht, htl, htw⟩ := open_data h5 f5 ih'
  obtain rfl : v0 = .int .i64 k := by simpa using e0
  obtain rfl : v1 = .int .i64 z := by simpa using e1
  obtain rfl : v2 = .string s := by simpa using e2
  have hz' : (decide (IntKind.i64.min ≤ z) && decide (z ≤ IntKind.i64.max)) = true := hz
  rw [show IntKind.i64.min = -9223372036854775808 by decide, show IntKind.i64.max = 9223372036854775807 by decide] at hz'
  simp only [Bool.and_eq_true, decide_eq_true_eq] at hz'
  have hs2 : s.size ≤ 140737488355328 := by
   have hr : reachBytes = 140737488351232 := by decide
   have h9 := f2 s.data.toList.length (by rw [hx2]; simp [DataW.weights])
   have e9 : s.data.toList.length = s.size := by rw [Array.length_toList]; rfl
   omega
  refine ⟨.mk k z s m l t, v3, v4, v5, rfl, ?_, (rep_iff _ _ _ _ _ _).2 ⟨hm, hl, ht⟩⟩
  rw [Wf]
  exact ⟨hz', hs2, hml, hll, htl, hlw, htw⟩
end
end Dt
end Go.Proofs.Ytcopdfihaheplaa
namespace Go.Proofs.Ytcopdfihaheplaa
namespace Rd
open Dt Lx
inductive Res where
 | ok (d : D) (rest : List PTok)
 | bad (at_ : Nat) (e : Int)
 | out
def sgn (k : Int) : ByteArray :=
 if k = 4 then ⟨#[113, 117, 111, 116, 101]⟩
 else if k = 5 then ⟨#[113, 117, 97, 115, 105, 113, 117, 111, 116, 101]⟩
 else if k = 6 then ⟨#[117, 110, 113, 117, 111, 116, 101]⟩
 else ⟨#[117, 110, 113, 117, 111, 116, 101, 45, 115, 112, 108, 105, 99, 105, 110, 103]⟩
def leafD (t : Tok) : D := .mk (t.k - 8) t.n ⟨t.s.toArray⟩ [] [] []
def listD (l : List D) : D := .mk 6 0 ⟨#[]⟩ [] l []
def vecD (l : List D) : D := .mk 8 0 ⟨#[]⟩ [] l []
def symD (s : ByteArray) : D := .mk 5 0 s [] [] []
def quoteD (k : Int) (d : D) : D := listD [symD (sgn k), d]
def joinD (acc : List D) (x : D) : D := if x.k = 6 ∨ x.k = 7 then .mk x.k 0 ⟨#[]⟩ [] (acc ++ x.l) x.t else .mk 7 0 ⟨#[]⟩ [] acc [x]
mutual
def pd : Nat → List PTok → Res
 | 0, _ => .out
 | _ + 1, [] => .out
 | f + 1, t :: r =>
  if t.t.k = 1 then pl f t.at_ [] r
  else if t.t.k = 3 then pv f t.at_ [] r
  else if t.t.k = 2 ∨ t.t.k = 8 then .bad t.at_ 40
  else if 4 ≤ t.t.k ∧ t.t.k ≤ 7 then pq f t.at_ t.t.k r
  else .ok (leafD t.t) r
def pq : Nat → Nat → Int → List PTok → Res
 | 0, _, _, _ => .out
 | _ + 1, a, _, [] => .bad a 41
 | f + 1, _, k, x :: r => match pd f (x :: r) with
  | .ok d rest => .ok (quoteD k d) rest
  | .bad b e => .bad b e
  | .out => .out
def pl : Nat → Nat → List D → List PTok → Res
 | 0, _, _, _ => .out
 | _ + 1, a, _, [] => .bad a 41
 | f + 1, a, acc, x :: r =>
  if x.t.k = 2 then .ok (listD acc) r
  else if x.t.k = 8 ∧ acc ≠ [] then pt f a acc r
  else match pd f (x :: r) with
   | .ok d rest => pl f a (acc ++ [d]) rest
   | .bad b e => .bad b e
   | .out => .out
def pt : Nat → Nat → List D → List PTok → Res
 | 0, _, _, _ => .out
 | _ + 1, a, _, [] => .bad a 41
 | f + 1, a, acc, x :: r => match pd f (x :: r) with
  | .ok _d [] => .bad a 41
  | .ok d (y :: rest) => if y.t.k = 2 then .ok (joinD acc d) rest else .bad y.at_ 40
  | .bad b e => .bad b e
  | .out => .out
def pv : Nat → Nat → List D → List PTok → Res
 | 0, _, _, _ => .out
 | _ + 1, a, _, [] => .bad a 41
 | f + 1, a, acc, x :: r =>
  if x.t.k = 2 then .ok (vecD acc) r
  else match pd f (x :: r) with
   | .ok d rest => pv f a (acc ++ [d]) rest
   | .bad b e => .bad b e
   | .out => .out
end
def Le (n : Nat) : Res → Prop
 | .ok _ rest => rest.length ≤ n
 | _ => True
theorem res_len : ∀ f, (∀ ts n, ts.length ≤ n + 1 → Le n (pd f ts)) ∧ (∀ a k ts n, ts.length ≤ n + 1 → Le n (pq f a k ts)) ∧ (∀ a acc ts n, ts.length ≤ n + 1 → Le n (pl f a acc ts)) ∧ (∀ a acc ts n, ts.length ≤ n + 1 → Le n (pt f a acc ts)) ∧ (∀ a acc ts n, ts.length ≤ n + 1 → Le n (pv f a acc ts)) := by
 intro f
 induction f with
 | zero => exact ⟨fun _ _ _ => by rw [pd]; trivial, fun _ _ _ _ _ => by rw [pq]; trivial, fun _ _ _ _ _ => by rw [pl]; trivial, fun _ _ _ _ _ => by rw [pt]; trivial, fun _ _ _ _ _ => by rw [pv]; trivial⟩
 | succ f ih =>
  obtain ⟨h1, h2, h3, h4, h5⟩ := ih
  have lm : ∀ {r : Res} {m n : Nat}, Le m r → m ≤ n → Le n r := fun {r m n} h hmn => by
   cases r with
   | ok d rest => exact Nat.le_trans h hmn
   | bad => trivial
   | out => trivial
  refine ⟨fun ts n hn => ?_, fun a k ts n hn => ?_, fun a acc ts n hn => ?_, fun a acc ts n hn => ?_, fun a acc ts n hn => ?_⟩
  ·cases ts with
   | nil => rw [pd]; trivial
   | cons t r =>
    rw [pd]
    simp only [List.length_cons] at hn
    split
    ·exact h3 _ _ _ _ (by omega)
    split
    ·exact h5 _ _ _ _ (by omega)
    split
    ·trivial
    split
    ·exact h2 _ _ _ _ (by omega)
    ·show r.length ≤ n; omega
  ·cases ts with
   | nil => rw [pq]; trivial
   | cons x r =>
    rw [pq]
    have := h1 (x :: r) n hn
    cases hp : pd f (x :: r) with
    | ok d rest => rw [hp] at this; exact this
    | bad => trivial
    | out => trivial
  ·cases ts with
   | nil => rw [pl]; trivial
   | cons x r =>
    rw [pl]
    simp only [List.length_cons] at hn
    split
    ·show r.length ≤ n; omega
    split
    ·exact h4 _ _ _ _ (by omega)
    ·have := h1 (x :: r) n hn
     cases hp : pd f (x :: r) with
     | ok d rest => rw [hp] at this; exact h3 _ _ _ _ (by have : rest.length ≤ n := this; omega)
     | bad => trivial
     | out => trivial
  ·cases ts with
   | nil => rw [pt]; trivial
   | cons x r =>
    rw [pt]
    have := h1 (x :: r) n hn
    cases hp : pd f (x :: r) with
    | ok d rest =>
     rw [hp] at this
     cases rest with
     | nil => trivial
     | cons y rest =>
      have h6 : rest.length + 1 ≤ n := this
      simp only
      split
      ·show rest.length ≤ n; omega
      ·trivial
    | bad => trivial
    | out => trivial
  ·cases ts with
   | nil => rw [pv]; trivial
   | cons x r =>
    rw [pv]
    simp only [List.length_cons] at hn
    split
    ·show r.length ≤ n; omega
    ·have := h1 (x :: r) n hn
     cases hp : pd f (x :: r) with
     | ok d rest => rw [hp] at this; exact h5 _ _ _ _ (by have : rest.length ≤ n := this; omega)
     | bad => trivial
     | out => trivial
def Mn (n : Nat) : Res → Prop
 | .ok d rest => d.l.length + rest.length ≤ n
 | _ => True
theorem res_many : ∀ f, (∀ ts, Mn ts.length (pd f ts)) ∧ (∀ a k ts, Mn (ts.length + 1) (pq f a k ts)) ∧ (∀ a acc ts, Mn (acc.length + ts.length) (pl f a acc ts)) ∧ (∀ a acc ts, Mn (acc.length + ts.length) (pt f a acc ts)) ∧ (∀ a acc ts, Mn (acc.length + ts.length) (pv f a acc ts)) := by
 intro f
 induction f with
 | zero => exact ⟨fun _ => by rw [pd]; trivial, fun _ _ _ => by rw [pq]; trivial, fun _ _ _ => by rw [pl]; trivial, fun _ _ _ => by rw [pt]; trivial, fun _ _ _ => by rw [pv]; trivial⟩
 | succ f ih =>
  obtain ⟨h1, h2, h3, h4, h5⟩ := ih
  have lm : ∀ {r : Res} {m n : Nat}, Mn m r → m ≤ n → Mn n r := fun {r m n} h hmn => by
   cases r with
   | ok d rest => exact Nat.le_trans h hmn
   | bad => trivial
   | out => trivial
  refine ⟨fun ts => ?_, fun a k ts => ?_, fun a acc ts => ?_, fun a acc ts => ?_, fun a acc ts => ?_⟩
  ·cases ts with
   | nil => rw [pd]; trivial
   | cons t r =>
    rw [pd]
    simp only [List.length_cons]
    split
    ·exact lm (h3 _ [] r) (by simp)
    split
    ·exact lm (h5 _ [] r) (by simp)
    split
    ·trivial
    split
    ·exact h2 _ _ r
    ·show 0 + r.length ≤ _; omega
  ·cases ts with
   | nil => rw [pq]; trivial
   | cons x r =>
    rw [pq]
    have hl := (res_len f).1 (x :: r) r.length (by simp)
    cases hp : pd f (x :: r) with
    | ok d rest => rw [hp] at hl; have : rest.length ≤ r.length := hl; show 2 + rest.length ≤ _; simp only [List.length_cons]; omega
    | bad => trivial
    | out => trivial
  ·cases ts with
   | nil => rw [pl]; trivial
   | cons x r =>
    rw [pl]
    simp only [List.length_cons]
    split
    ·show acc.length + r.length ≤ _; omega
    split
    ·exact lm (h4 _ acc r) (by omega)
    ·have hl := (res_len f).1 (x :: r) r.length (by simp)
     cases hp : pd f (x :: r) with
     | ok d rest => rw [hp] at hl; have : rest.length ≤ r.length := hl; exact lm (h3 _ (acc ++ [d]) rest) (by simp; omega)
     | bad => trivial
     | out => trivial
  ·cases ts with
   | nil => rw [pt]; trivial
   | cons x r =>
    rw [pt]
    have hm := h1 (x :: r)
    cases hp : pd f (x :: r) with
    | ok d rest =>
     rw [hp] at hm
     cases rest with
     | nil => trivial
     | cons y rest =>
      have h6 : d.l.length + (rest.length + 1) ≤ (x :: r).length := hm
      simp only
      split
      ·show (joinD acc d).l.length + rest.length ≤ _
       unfold joinD
       split
       ·show (acc ++ d.l).length + rest.length ≤ _; rw [List.length_append]; omega
       ·show acc.length + rest.length ≤ _; omega
      ·trivial
    | bad => trivial
    | out => trivial
  ·cases ts with
   | nil => rw [pv]; trivial
   | cons x r =>
    rw [pv]
    simp only [List.length_cons]
    split
    ·show acc.length + r.length ≤ _; omega
    ·have hl := (res_len f).1 (x :: r) r.length (by simp)
     cases hp : pd f (x :: r) with
     | ok d rest => rw [hp] at hl; have : rest.length ≤ r.length := hl; exact lm (h5 _ (acc ++ [d]) rest) (by simp; omega)
     | bad => trivial
     | out => trivial
theorem fuel : ∀ f, (∀ ts, 2 * ts.length ≤ f → ts ≠ [] → pd f ts ≠ .out) ∧ (∀ a k ts, 2 * ts.length + 1 ≤ f → pq f a k ts ≠ .out) ∧ (∀ a acc ts, 2 * ts.length + 1 ≤ f → pl f a acc ts ≠ .out) ∧ (∀ a acc ts, 2 * ts.length + 1 ≤ f → pt f a acc ts ≠ .out) ∧ (∀ a acc ts, 2 * ts.length + 1 ≤ f → pv f a acc ts ≠ .out) := by
 intro f
 induction f with
 | zero => exact ⟨fun ts h hn => by cases ts with | nil => exact absurd rfl hn | cons => simp at h, fun _ _ _ h => by omega, fun _ _ _ h => by omega, fun _ _ _ h => by omega, fun _ _ _ h => by omega⟩
 | succ f ih =>
  obtain ⟨h1, h2, h3, h4, h5⟩ := ih
  refine ⟨fun ts h hn => ?_, fun a k ts h => ?_, fun a acc ts h => ?_, fun a acc ts h => ?_, fun a acc ts h => ?_⟩
  ·cases ts with
   | nil => exact absurd rfl hn
   | cons t r =>
    rw [pd]
    simp only [List.length_cons] at h
    split
    ·exact h3 _ _ _ (by omega)
    split
    ·exact h5 _ _ _ (by omega)
    split
    ·intro e; cases e
    split
    ·exact h2 _ _ _ (by omega)
    ·intro e; cases e
  ·cases ts with
   | nil => rw [pq]; intro e; cases e
   | cons x r =>
    rw [pq]
    have := h1 (x :: r) (by omega) (by simp)
    cases hp : pd f (x :: r) with
    | ok d rest => intro e; cases e
    | bad => intro e; cases e
    | out => exact absurd hp this
  ·cases ts with
   | nil => rw [pl]; intro e; cases e
   | cons x r =>
    rw [pl]
    have h9 := h
    simp only [List.length_cons] at h
    split
    ·intro e; cases e
    split
    ·exact h4 _ _ _ (by omega)
    ·have := h1 (x :: r) (by omega) (by simp)
     have hl := (res_len f).1 (x :: r) r.length (by simp)
     cases hp : pd f (x :: r) with
     | ok d rest => rw [hp] at hl; exact h3 _ _ _ (by have : rest.length ≤ r.length := hl; omega)
     | bad => intro e; cases e
     | out => exact absurd hp this
  ·cases ts with
   | nil => rw [pt]; intro e; cases e
   | cons x r =>
    rw [pt]
    have := h1 (x :: r) (by omega) (by simp)
    cases hp : pd f (x :: r) with
    | ok d rest =>
     cases rest with
     | nil => intro e; cases e
     | cons y rest =>
      simp only
      split
      ·intro e; cases e
      ·intro e; cases e
    | bad => intro e; cases e
    | out => exact absurd hp this
  ·cases ts with
   | nil => rw [pv]; intro e; cases e
   | cons x r =>
    rw [pv]
    simp only [List.length_cons] at h
    split
    ·intro e; cases e
    ·have := h1 (x :: r) (by simp; omega) (by simp)
     have hl := (res_len f).1 (x :: r) r.length (by simp)
     cases hp : pd f (x :: r) with
     | ok d rest => rw [hp] at hl; exact h5 _ _ _ (by have : rest.length ≤ r.length := hl; omega)
     | bad => intro e; cases e
     | out => exact absurd hp this
def rf : Nat → List PTok → List (Nat × D) → List (Nat × D) × Nat × Int
 | 0, _, acc => (acc, 0, 0)
 | _ + 1, [], acc => (acc, 0, 0)
 | f + 1, t :: r, acc =>
  if acc.length = 256 then ([], t.at_, 3)
  else match pd (2 * (r.length + 1)) (t :: r) with
   | .ok d rest => if check d = 0 then rf f rest (acc ++ [(t.at_, d)]) else ([], t.at_, check d)
   | .bad a e => ([], a, e)
   | .out => ([], 0, 0)
def read (s : List UInt8) : List (Nat × D) × Nat × Int :=
 if (lex s).2.2 ≠ 0 then ([], (lex s).2.1, (lex s).2.2) else rf ((lex s).1.length + 1) (lex s).1 []
end Rd
end Go.Proofs.Ytcopdfihaheplaa
namespace Go.Proofs.Ytcopdfihaheplaa
namespace Rd
open Dt Lx
theorem mono : ∀ f, (∀ ts, pd f ts ≠ .out → pd (f + 1) ts = pd f ts) ∧ (∀ a k ts, pq f a k ts ≠ .out → pq (f + 1) a k ts = pq f a k ts) ∧ (∀ a acc ts, pl f a acc ts ≠ .out → pl (f + 1) a acc ts = pl f a acc ts) ∧ (∀ a acc ts, pt f a acc ts ≠ .out → pt (f + 1) a acc ts = pt f a acc ts) ∧ (∀ a acc ts, pv f a acc ts ≠ .out → pv (f + 1) a acc ts = pv f a acc ts) := by
 intro f
 induction f with
 | zero => exact ⟨fun _ h => absurd (by rw [pd]) h, fun _ _ _ h => absurd (by rw [pq]) h, fun _ _ _ h => absurd (by rw [pl]) h, fun _ _ _ h => absurd (by rw [pt]) h, fun _ _ _ h => absurd (by rw [pv]) h⟩
 | succ f ih =>
  obtain ⟨hd, hq, hl, ht, hv⟩ := ih
  refine ⟨fun ts h => ?_, fun a k ts h => ?_, fun a acc ts h => ?_, fun a acc ts h => ?_, fun a acc ts h => ?_⟩
  ·cases ts with
   | nil => exact absurd (by rw [pd]) h
   | cons t r =>
    rw [pd] at h ⊢
    conv => rhs; rw [pd]
    split
    ·rename_i h1; rw [if_pos h1] at h; exact hl _ _ _ h
    rename_i h1
    rw [if_neg h1] at h
    split
    ·rename_i h2; rw [if_pos h2] at h; exact hv _ _ _ h
    rename_i h2
    rw [if_neg h2] at h
    split
    ·rfl
    rename_i h3
    rw [if_neg h3] at h
    split
    ·rename_i h4; rw [if_pos h4] at h; exact hq _ _ _ h
    ·rfl
  ·cases ts with
   | nil => rw [pq, pq]
   | cons x r =>
    rw [pq] at h ⊢
    conv => rhs; rw [pq]
    have hn : pd f (x :: r) ≠ .out := fun e => by rw [e] at h; exact h rfl
    rw [hd _ hn]
  ·cases ts with
   | nil => rw [pl, pl]
   | cons x r =>
    rw [pl] at h ⊢
    conv => rhs; rw [pl]
    split
    ·rfl
    rename_i h1
    rw [if_neg h1] at h
    split
    ·rename_i h2; rw [if_pos h2] at h; exact ht _ _ _ h
    rename_i h2
    rw [if_neg h2] at h
    have hn : pd f (x :: r) ≠ .out := fun e => by rw [e] at h; exact h rfl
    rw [hd _ hn]
    cases hp : pd f (x :: r) with
    | ok d rest => rw [hp] at h; exact hl _ _ _ h
    | bad b e => rfl
    | out => rfl
  ·cases ts with
   | nil => rw [pt, pt]
   | cons x r =>
    rw [pt] at h ⊢
    conv => rhs; rw [pt]
    have hn : pd f (x :: r) ≠ .out := fun e => by rw [e] at h; exact h rfl
    rw [hd _ hn]
  ·cases ts with
   | nil => rw [pv, pv]
   | cons x r =>
    rw [pv] at h ⊢
    conv => rhs; rw [pv]
    split
    ·rfl
    rename_i h1
    rw [if_neg h1] at h
    have hn : pd f (x :: r) ≠ .out := fun e => by rw [e] at h; exact h rfl
    rw [hd _ hn]
    cases hp : pd f (x :: r) with
    | ok d rest => rw [hp] at h; exact hv _ _ _ h
    | bad b e => rfl
    | out => rfl
theorem pd_mono {f : Nat} {ts : List PTok} (h : pd f ts ≠ .out) : ∀ g, pd (f + g) ts = pd f ts
 | 0 => rfl
 | g + 1 => by
  have h1 := pd_mono h g
  rw [← Nat.add_assoc, (mono (f + g)).1 ts (by rw [h1]; exact h), h1]
theorem rf_grow : ∀ (f : Nat) (ts : List PTok) (acc : List (Nat × D)), (rf f ts acc).1 = [] ∨ acc.length ≤ (rf f ts acc).1.length
 | 0, ts, acc => by rw [rf]; exact .inr (Nat.le_refl _)
 | f + 1, [], acc => by rw [rf]; exact .inr (Nat.le_refl _)
 | f + 1, t :: r, acc => by
  rw [rf]
  split
  ·exact .inl rfl
  split
  ·split
   ·rename_i d rest _ _
    rcases rf_grow f rest (acc ++ [(t.at_, d)]) with h | h
    ·exact .inl h
    ·rw [List.length_append] at h
     exact .inr (by omega)
   ·exact .inl rfl
  ·exact .inl rfl
  ·exact .inl rfl
theorem rf_one {f : Nat} {ts : List PTok} {p : Nat × D} (h : (rf (f + 2) ts []).1 = [p]) : pd (2 * ts.length) ts = .ok p.2 [] ∧ ts ≠ [] := by
 cases ts with
 | nil => rw [rf] at h; cases h
 | cons t r =>
  rw [rf, if_neg (by simp)] at h
  refine ⟨?_, by simp⟩
  rw [List.length_cons]
  split at h
  ·rename_i d rest hp
   split at h
   ·rw [hp]
    cases rest with
    | nil =>
     rw [rf] at h
     cases h
     rfl
    | cons u rest =>
     rw [rf, if_neg (by simp)] at h
     split at h
     ·split at h
      ·rename_i d2 rest2 _ _
       rcases rf_grow f rest2 ([] ++ [(t.at_, d)] ++ [(u.at_, d2)]) with h2 | h2
       ·rw [h] at h2; cases h2
       ·rw [h] at h2; simp at h2
      ·cases h
     ·cases h
     ·cases h
   ·cases h
  ·cases h
  ·cases h
end Rd
end Go.Proofs.Ytcopdfihaheplaa
namespace Go.Proofs.Ytcopdfihaheplaa
namespace Lx
end Lx
namespace Rd
open Dt Lx
def Sf (ts : List PTok) : Res → Prop
 | .ok _ rest => ∀ p ∈ rest, p ∈ ts
 | _ => True
theorem Sf.mono {a b : List PTok} {r : Res} (h : Sf a r) (hab : ∀ p ∈ a, p ∈ b) : Sf b r := by
 cases r with
 | ok d rest => exact fun p hp => hab p (h p hp)
 | bad => trivial
 | out => trivial
theorem res_suf : ∀ f, (∀ ts, Sf ts (pd f ts)) ∧ (∀ a k ts, Sf ts (pq f a k ts)) ∧ (∀ a acc ts, Sf ts (pl f a acc ts)) ∧ (∀ a acc ts, Sf ts (pt f a acc ts)) ∧ (∀ a acc ts, Sf ts (pv f a acc ts)) := by
 intro f
 induction f with
 | zero => exact ⟨fun _ => by rw [pd]; trivial, fun _ _ _ => by rw [pq]; trivial, fun _ _ _ => by rw [pl]; trivial, fun _ _ _ => by rw [pt]; trivial, fun _ _ _ => by rw [pv]; trivial⟩
 | succ f ih =>
  obtain ⟨hd, hq, hl, ht, hv⟩ := ih
  have tl : ∀ (x : PTok) (r : List PTok), ∀ p ∈ r, p ∈ x :: r := fun x r p hp => List.mem_cons_of_mem _ hp
  refine ⟨fun ts => ?_, fun a k ts => ?_, fun a acc ts => ?_, fun a acc ts => ?_, fun a acc ts => ?_⟩
  ·cases ts with
   | nil => rw [pd]; trivial
   | cons t r =>
    rw [pd]
    split
    ·exact (hl _ _ _).mono (tl t r)
    split
    ·exact (hv _ _ _).mono (tl t r)
    split
    ·trivial
    split
    ·exact (hq _ _ _).mono (tl t r)
    ·exact tl t r
  ·cases ts with
   | nil => rw [pq]; trivial
   | cons x r =>
    rw [pq]
    have := hd (x :: r)
    cases hp : pd f (x :: r) with
    | ok d rest => rw [hp] at this; exact this
    | bad => trivial
    | out => trivial
  ·cases ts with
   | nil => rw [pl]; trivial
   | cons x r =>
    rw [pl]
    split
    ·exact tl x r
    split
    ·exact (ht _ _ _).mono (tl x r)
    have := hd (x :: r)
    cases hp : pd f (x :: r) with
    | ok d rest => rw [hp] at this; exact (hl _ _ _).mono this
    | bad => trivial
    | out => trivial
  ·cases ts with
   | nil => rw [pt]; trivial
   | cons x r =>
    rw [pt]
    have := hd (x :: r)
    cases hp : pd f (x :: r) with
    | ok d rest =>
     rw [hp] at this
     cases rest with
     | nil => trivial
     | cons y rest =>
      simp only
      split
      ·exact fun p hp => this p (List.mem_cons_of_mem _ hp)
      ·trivial
    | bad => trivial
    | out => trivial
  ·cases ts with
   | nil => rw [pv]; trivial
   | cons x r =>
    rw [pv]
    split
    ·exact tl x r
    have := hd (x :: r)
    cases hp : pd f (x :: r) with
    | ok d rest => rw [hp] at this; exact (hv _ _ _).mono this
    | bad => trivial
    | out => trivial
theorem read_lex {s : List UInt8} (h : (read s).2.2 = 0) : (lex s).2.2 = 0 := by
 apply Classical.byContradiction
 intro h0
 unfold read at h
 rw [if_pos h0] at h
 exact h0 h
theorem lex_zeroW (s : List UInt8) (h : (lex s).2.2 = 0) : lex s = ((lex s).1, 0, 0) := by
 unfold lex at h ⊢
 split
 ·rename_i h1; rw [if_pos h1] at h; exact absurd (show (3 : Int) = 0 from h) (by decide)
 ·rename_i h1
  rw [if_neg h1] at h
  split
  ·rename_i h2; rw [if_pos h2] at h; exact absurd (show (32 : Int) = 0 from h) (by decide)
  ·rename_i h2
   rw [if_neg h2] at h
   have hn := words_norm s.length (s.length + 1) 0 s
   unfold app at hn
   rw [if_pos h] at hn
   rw [← hn]
end Rd
end Go.Proofs.Ytcopdfihaheplaa
namespace Go.Proofs.Ytcopdfihaheplaa
open Go.RowKit
def Hp (w : World) (B : Nat) (cs : Array Value) (t : TypeId) : Prop := w.heap[B]? = some (.cells cs t (0, 0))
theorem Hp.cell {w : World} {B : Nat} {cs : Array Value} {t : TypeId} (h : Hp w B cs t) (i : Nat) {v : Value} (hv : cs[i]? = some v) : w.cell? ⟨B, i, none⟩ = some v := by
 rw [Lib.cell_of_heap h]
 exact hv
theorem Hp.frz {w : World} {B : Nat} {cs : Array Value} {t : TypeId} (h : Hp w B cs t) (i : Nat) : w.frozen? ⟨B, i, none⟩ = false := Lib.frozen_of_heap h i
theorem Hp.lt {w : World} {B : Nat} {cs : Array Value} {t : TypeId} (h : Hp w B cs t) : B < w.heap.size := (Array.getElem?_eq_some_iff.1 h).1
theorem Hp.keep {S : Nat → Prop} {w w' : World} {B : Nat} {cs : Array Value} {t : TypeId} (h : Hp w B cs t) (hk : Keep S w w') (hn : ¬ S B) : Hp w' B cs t := (hk.block B h.lt hn).trans h
theorem Hp.below {w w' : World} {B : Nat} {cs : Array Value} {t : TypeId} (h : Hp w B cs t) (hb : Below w.heap.size w w') : Hp w' B cs t := (hb.block B h.lt).trans h
theorem Hp.set {w : World} {B : Nat} {cs : Array Value} {t : TypeId} (h : Hp w B cs t) (i : Nat) (v : Value) : Hp (w.setCell ⟨B, i, none⟩ v) B (cs.setIfInBounds i v) t := by
 show ((w.heap.modify B _))[B]? = _
 rw [Array.getElem?_modify, if_pos rfl, h]
 rfl
theorem Hp.new {w w1 : World} {cs : Array Value} {t : TypeId} (h : w.alloc (.cells cs t) = w1) : Hp w1 w.heap.size cs t := by rw [← h]; show (w.heap.push _)[w.heap.size]? = _; simp
theorem new_below {w w1 : World} {o : Obj} (h : w.alloc o = w1) : Below w.heap.size w w1 ∧ w1.heap.size = w.heap.size + 1 := ⟨by rw [← h]; exact (Below.refl _ w).alloc (Nat.le_refl _) o, by rw [← h, World.size_alloc]⟩
theorem set_keep (w : World) (B i : Nat) (v : Value) : Keep (fun k => k = B) w (w.setCell ⟨B, i, none⟩ v) := (Keep.refl (fun k => k = B) w).setCell rfl _ _
theorem keep_of_below {S : Nat → Prop} {w w' : World} (h : Below w.heap.size w w') : Keep S w w' := (Keep.refl S w).below h
theorem Keep.le {S T : Nat → Prop} {w w' : World} (h : Keep S w w') (hT : ∀ k, S k → T k) : Keep T w w' := h.mono (fun k _ e => hT k e)
def set6 (w : World) (B : Nat) (a b c d e f : Value) : World := (((((w.setCell ⟨B, 0, none⟩ a).setCell ⟨B, 1, none⟩ b).setCell ⟨B, 2, none⟩ c).setCell ⟨B, 3, none⟩ d).setCell ⟨B, 4, none⟩ e).setCell ⟨B, 5, none⟩ f
theorem Hp.set6 {w : World} {B : Nat} {u0 u1 u2 u3 u4 u5 : Value} {t : TypeId} (h : Hp w B #[u0, u1, u2, u3, u4, u5] t) (a b c d e f : Value) : Hp (set6 w B a b c d e f) B #[a, b, c, d, e, f] t :=
 (((((h.set 0 a).set 1 b).set 2 c).set 3 d).set 4 e).set 5 f
theorem set6_keep (w : World) (B : Nat) (a b c d e f : Value) : Keep (fun k => k = B) w (set6 w B a b c d e f) :=
 ((((((Keep.refl (fun k => k = B) w).setCell rfl 0 a).setCell rfl 1 b).setCell rfl 2 c).setCell rfl 3 d).setCell rfl 4 e).setCell rfl 5 f
def set5 (w : World) (B : Nat) (a b c d e : Value) : World := ((((w.setCell ⟨B, 0, none⟩ a).setCell ⟨B, 1, none⟩ b).setCell ⟨B, 2, none⟩ c).setCell ⟨B, 3, none⟩ d).setCell ⟨B, 4, none⟩ e
theorem Hp.set5 {w : World} {B : Nat} {u0 u1 u2 u3 u4 : Value} {t : TypeId} (h : Hp w B #[u0, u1, u2, u3, u4] t) (a b c d e : Value) : Hp (set5 w B a b c d e) B #[a, b, c, d, e] t :=
 ((((h.set 0 a).set 1 b).set 2 c).set 3 d).set 4 e
theorem set5_keep (w : World) (B : Nat) (a b c d e : Value) : Keep (fun k => k = B) w (set5 w B a b c d e) :=
 (((((Keep.refl (fun k => k = B) w).setCell rfl 0 a).setCell rfl 1 b).setCell rfl 2 c).setCell rfl 3 d).setCell rfl 4 e
theorem Hp.there {w : World} {B : Nat} {cs : Array Value} {t : TypeId} (h : Hp w B cs t) {n : Nat} (hn : n ≤ cs.size) : w.there B 0 n := fun j hj => by
 rw [Nat.zero_add]
 refine ⟨?_, h.frz j⟩
 rw [h.cell j (Array.getElem?_eq_getElem (by omega))]
 rfl
theorem setCells6 (w : World) (B : Nat) (a b c d e f : Value) : w.setCells B 0 (#[a, b, c, d, e, f] : Array Value).toList = set6 w B a b c d e f := rfl
end Go.Proofs.Ytcopdfihaheplaa
namespace Go.Proofs.Ytcopdfihaheplaa
open Go.RowKit
attribute [local go_sem] Oper.semAt_some
namespace Rd
open Lx
def tokV (p : PTok) : Value := .agg #[.int .i64 p.t.k, .int .i64 (p.at_ : Int), .int .i64 (p.to : Int), .int .i64 p.t.n, .string ⟨p.t.s.toArray⟩]
structure Src (w : World) (tb : Nat) (xs : List PTok) : Prop where
 lt : tb < w.heap.size
 tok : ∀ i, (h : i < xs.length) → w.cell? ⟨tb, i * 5, none⟩ = some (.int .i64 xs[i].t.k) ∧ w.cell? ⟨tb, i * 5 + 1, none⟩ = some (.int .i64 (xs[i].at_ : Int)) ∧ w.cell? ⟨tb, i * 5 + 2, none⟩ = some (.int .i64 (xs[i].to : Int)) ∧ w.cell? ⟨tb, i * 5 + 3, none⟩ = some (.int .i64 xs[i].t.n) ∧ w.cell? ⟨tb, i * 5 + 4, none⟩ = some (.string ⟨xs[i].t.s.toArray⟩)
theorem Src.keep {S : Nat → Prop} {w w' : World} {tb : Nat} {xs : List PTok} (h : Src w tb xs) (hk : Keep S w w') (hS : ¬ S tb) : Src w' tb xs :=
 ⟨Nat.lt_of_lt_of_le h.lt hk.size, fun i hi => by
  obtain ⟨h0, h1, h2, h3, h4⟩ := h.tok i hi
  exact ⟨(hk.cell _ h.lt hS).trans h0, (hk.cell _ h.lt hS).trans h1, (hk.cell _ h.lt hS).trans h2, (hk.cell _ h.lt hS).trans h3, (hk.cell _ h.lt hS).trans h4⟩⟩
theorem Src.below {w w' : World} {tb : Nat} {xs : List PTok} (h : Src w tb xs) (hb : Below w.heap.size w w') : Src w' tb xs := h.keep (S := fun _ => False) (keep_of_below hb) id
def St (w : World) (P tb C : Nat) (xs rest : List PTok) (at_ e : Int) : Prop :=
 ∃ (a : Option Addr) (pre : List PTok), Hp w P #[.slice a rest.length (C - pre.length), .int .i64 at_, .int .i64 e] 69 ∧ xs = pre ++ rest ∧ (rest ≠ [] → a = some ⟨tb, pre.length * 5, none⟩)
theorem St.keep {S : Nat → Prop} {w w' : World} {P tb C : Nat} {xs rest : List PTok} {at_ e : Int} (h : St w P tb C xs rest at_ e) (hk : Keep S w w') (hS : ¬ S P) : St w' P tb C xs rest at_ e := by
 obtain ⟨a, pre, h1, h2, h3⟩ := h
 exact ⟨a, pre, h1.keep hk hS, h2, h3⟩
theorem St.below {w w' : World} {P tb C : Nat} {xs rest : List PTok} {at_ e : Int} (h : St w P tb C xs rest at_ e) (hb : Below w.heap.size w w') : St w' P tb C xs rest at_ e := h.keep (S := fun _ => False) (keep_of_below hb) id
theorem St.lt {w : World} {P tb C : Nat} {xs rest : List PTok} {at_ e : Int} (h : St w P tb C xs rest at_ e) : P < w.heap.size := by
 obtain ⟨a, pre, h1, h2, h3⟩ := h
 exact h1.lt
def NextPost (P tb C : Nat) (xs : List PTok) (t : PTok) (r : List PTok) (at_ er : Int) (w : World) (e : Ending) (w' : World) : Prop :=
 e = .returned (.tuple #[tokV t, .bool true]) ∧ St w' P tb C xs r at_ er ∧ Keep (fun k => k = P) w w'
def noTok : Value := .agg #[.int .i64 0, .int .i64 0, .int .i64 0, .int .i64 0, .string ⟨#[]⟩]
def zeroD : Value := .agg #[.int .i64 0, .int .i64 0, .string ⟨#[]⟩, .slice none 0 0, .slice none 0 0, .slice none 0 0]
def NoPost (P tb C : Nat) (xs : List PTok) (at_ er : Int) (w : World) (e : Ending) (w' : World) : Prop :=
 e = .returned (.tuple #[noTok, .bool false]) ∧ St w' P tb C xs [] at_ er ∧ Keep (fun k => k = P) w w'
def FailPost (P tb C : Nat) (xs rest : List PTok) (at_ er : Int) (w : World) (e : Ending) (w' : World) : Prop :=
 e = .returned zeroD ∧ St w' P tb C xs rest at_ er ∧ Keep (fun k => k = P) w w'
end Rd
set_option maxRecDepth 100000 in
set_option maxHeartbeats 8000000 in
theorem next_yes (P tb C : Nat) (xs : List Lx.PTok) (t : Lx.PTok) (r : List Lx.PTok) (at_ er : Int) (w : World) (hS : Rd.Src w tb xs) (h : Rd.St w P tb C xs (t :: r) at_ er) (hC : xs.length ≤ C) (_hx : xs.length ≤ 4096) (_hCC : C ≤ 9223372036854775807) :
  Calls Try.prog 40 #[.pointer (some ⟨P, 0, none⟩)] w (Rd.NextPost P tb C xs t r at_ er w) := by
 obtain ⟨a, pre, hP, hpre, ha⟩ := h
 obtain rfl := ha (by simp)
 have hlen : xs.length = pre.length + (r.length + 1) := by rw [hpre]; simp
 have hi : pre.length < xs.length := by omega
 obtain ⟨x0, x1, x2, x3, x4⟩ := hS.tok pre.length hi
 have hxi : xs[pre.length] = t := by simp only [hpre]; simp
 rw [hxi] at x0 x1 x2 x3 x4
 obtain ⟨n, hn⟩ : ∃ n, r.length = n := ⟨_, rfl⟩
 obtain ⟨c, hc⟩ : ∃ c, C - pre.length = c := ⟨_, rfl⟩
 obtain ⟨q, hq⟩ : ∃ q, pre.length = q := ⟨_, rfl⟩
 rw [show (t :: r).length = n + 1 by simp [hn], hc] at hP
 have hcn : n + 1 ≤ c := by omega
 rw [hq] at x0 x1 x2 x3 x4 hP
 obtain ⟨w1, hw1⟩ : ∃ w1, w.alloc (.cells #[.int .i64 0, .int .i64 0, .int .i64 0, .int .i64 0, .string ⟨#[]⟩] 47) = w1 := ⟨_, rfl⟩
 obtain ⟨tk, htk⟩ : ∃ tk, t.t.k = tk := ⟨_, rfl⟩
 obtain ⟨tn, htn⟩ : ∃ tn, t.t.n = tn := ⟨_, rfl⟩
 obtain ⟨ts, hts⟩ : ∃ ts : ByteArray, ⟨t.t.s.toArray⟩ = ts := ⟨_, rfl⟩
 obtain ⟨ta, hta⟩ : ∃ ta : Int, (t.at_ : Int) = ta := ⟨_, rfl⟩
 obtain ⟨tz, hto⟩ : ∃ tz : Int, (t.to : Int) = tz := ⟨_, rfl⟩
 have HTV : Hid (Rd.tokV t = .agg #[.int .i64 tk, .int .i64 ta, .int .i64 tz, .int .i64 tn, .string ts]) := by show _ = _; unfold Rd.tokV; rw [htk, hta, hto, htn, hts]
 rw [htk] at x0
 rw [hta] at x1
 rw [hto] at x2
 rw [htn] at x3
 rw [hts] at x4
 obtain ⟨w2, hw2⟩ : ∃ w2, w1.alloc (.cells #[.int .i64 tk, .int .i64 ta, .int .i64 tz, .int .i64 tn, .string ts] 47) = w2 := ⟨_, rfl⟩
 obtain ⟨hb1, hs1⟩ := new_below hw1
 obtain ⟨hb2, hs2⟩ := new_below hw2
 have hR1 := Hp.new hw1
 have hT2 := Hp.new hw2
 have hP1 := hP.below hb1
 have hP2 := hP1.below hb2
 have hR2 := hR1.below hb2
 have hPl := hP.lt
 obtain ⟨R, hR⟩ : ∃ R, w.heap.size = R := ⟨_, rfl⟩
 obtain ⟨T, hT⟩ : ∃ T, w1.heap.size = T := ⟨_, rfl⟩
 rw [hR] at hR1 hR2 hs1 hPl
 rw [hT] at hT2 hs1 hs2
 have hneR : ¬ R = P := by omega
 have hneT : ¬ T = P := by omega
 have hTR : ¬ T = R := by omega
 have xs1 := fun i => hb1.cell (p := ⟨tb, i, none⟩) hS.lt
 have x0' := (xs1 _).trans x0
 have x1' := (xs1 _).trans x1
 have x2' := (xs1 _).trans x2
 have x3' := (xs1 _).trans x3
 have x4' := (xs1 _).trans x4
 have p0 := hP1.cell 0 rfl
 have q0 := hP2.cell 0 rfl
 have q1 := hP2.frz 0
 have hn0 : (((n : Int) + 1) == 0) = false := by simp; omega
 have hni : (1 : Int) ≤ (n : Int) + 1 := by omega
 have hcni : (n : Int) + 1 ≤ (c : Int) := by omega
 have hpos : (0 : Int) < (n : Int) + 1 := by omega
 have HEND : Hid (∀ (a2 : Option Addr) (w3 : World), w2.setCell ⟨P, 0, none⟩ (.slice a2 n (c - 1)) = w3 → (n ≠ 0 → a2 = some ⟨tb, q * 5 + 5, none⟩) → Rd.NextPost P tb C xs t r at_ er w (.returned (.tuple #[Rd.tokV t, .bool true])) (set5 w3 R (.int .i64 tk) (.int .i64 ta) (.int .i64 tz) (.int .i64 tn) (.string ts))) := by
  intro a2 w3 hw3 ha2
  have hk1 : Keep (fun k => k = P) w2 w3 := by rw [← hw3]; exact set_keep _ _ _ _
  have hk2 := set5_keep w3 R (.int .i64 tk) (.int .i64 ta) (.int .i64 tz) (.int .i64 tn) (.string ts)
  refine ⟨rfl, ⟨a2, pre ++ [t], ?_, by rw [hpre]; simp, fun hr => ?_⟩, ?_⟩
  ·have h3 : Hp w3 P #[.slice a2 n (c - 1), .int .i64 at_, .int .i64 er] 69 := by rw [← hw3]; exact hP2.set 0 _
   have h4 := h3.keep hk2 (fun e => hneR e.symm)
   rw [hn, show C - (pre ++ [t]).length = c - 1 by simp; omega]
   exact h4
  ·rw [ha2 (by intro e; exact hr (List.eq_nil_of_length_eq_zero (hn.trans e)))]
   simp only [List.length_append, List.length_cons, List.length_nil, hq]
   congr 2
   omega
  ·have hkA : Keep (fun k => k = P ∨ k = R) w w3 := ((keep_of_below (hR ▸ hb1 : Below w.heap.size w w1)).trans (keep_of_below hb2)).trans (hk1.le (fun k e => .inl e))
   refine (hkA.trans (hk2.le (fun k e => .inr e))).mono (fun k hk e => ?_)
   rcases e with e | e
   ·exact e
   ·omega
 have HCL : Hid (∀ (V : Value) (w3 : World), w2.setCell ⟨P, 0, none⟩ V = w3 → (∀ i v, #[Value.int .i64 tk, .int .i64 ta, .int .i64 tz, .int .i64 tn, .string ts][i]? = some v → w3.cell? ⟨T, i, none⟩ = some v) ∧ (∀ i v, #[Value.int .i64 0, .int .i64 0, .int .i64 0, .int .i64 0, .string ⟨#[]⟩][i]? = some v → w3.cell? ⟨R, i, none⟩ = some v) ∧ (∀ i, w3.frozen? ⟨R, i, none⟩ = false)) := by
  intro V w3 hw3
  have hk1 : Keep (fun k => k = P) w2 w3 := by rw [← hw3]; exact set_keep _ _ _ _
  exact ⟨fun i v hv => (hT2.keep hk1 hneT).cell i hv, fun i v hv => (hR2.keep hk1 hneR).cell i hv, fun i => (hR2.keep hk1 hneR).frz i⟩
 have hnc : c = 1 → n = 0 := fun e => by omega
 clear hxi hpre hlen hi hn hc hq htk htn hts hta hto hb1 hb2 hs1 hs2 ha hS hC _hx _hCC hR1 hT2 hP1 hP2 hR2 hP hPl xs1 x0 x1 x2 x3 x4 hcn
 by_cases hc1 : c = 1
 ·obtain ⟨w3, hw3⟩ : ∃ w3, w2.setCell ⟨P, 0, none⟩ (.slice (some ⟨tb, q * 5, none⟩) n 0) = w3 := ⟨_, rfl⟩
  have HE := Lib.hid (HEND.out (some ⟨tb, q * 5, none⟩) w3 (by rw [hc1]; exact hw3) (fun e => absurd (hnc hc1) e))
  obtain ⟨hy, hd, hf⟩ := HCL.out _ w3 hw3
  have y0 := hy 0 _ rfl
  have y1 := hy 1 _ rfl
  have y2 := hy 2 _ rfl
  have y3 := hy 3 _ rfl
  have y4 := hy 4 _ rfl
  have d0 := hd 0 _ rfl
  have d1 := hd 1 _ rfl
  have d2 := hd 2 _ rfl
  have d3 := hd 3 _ rfl
  have d4 := hd 4 _ rfl
  have k0 := hf 0
  have k1 := hf 1
  have k2 := hf 2
  have k3 := hf 3
  have k4 := hf 4
  clear hy hd hf HCL HEND hnc
  go_enter Try.func40, Try.ntmps40
  go_wp2
  refine bodyPost_ret (v := .tuple #[.agg #[.int .i64 tk, .int .i64 ta, .int .i64 tz, .int .i64 tn, .string ts], .bool true]) (by simp [results, Try.results40, go_sem, *]) rfl ?_
  rw [← HTV.out]
  exact HE.out
 ·obtain ⟨w3, hw3⟩ : ∃ w3, w2.setCell ⟨P, 0, none⟩ (.slice (some ⟨tb, q * 5 + 5, none⟩) n (c - 1)) = w3 := ⟨_, rfl⟩
  have HE := Lib.hid (HEND.out (some ⟨tb, q * 5 + 5, none⟩) w3 hw3 (fun _ => rfl))
  obtain ⟨hy, hd, hf⟩ := HCL.out _ w3 hw3
  have y0 := hy 0 _ rfl
  have y1 := hy 1 _ rfl
  have y2 := hy 2 _ rfl
  have y3 := hy 3 _ rfl
  have y4 := hy 4 _ rfl
  have d0 := hd 0 _ rfl
  have d1 := hd 1 _ rfl
  have d2 := hd 2 _ rfl
  have d3 := hd 3 _ rfl
  have d4 := hd 4 _ rfl
  have k0 := hf 0
  have k1 := hf 1
  have k2 := hf 2
  have k3 := hf 3
  have k4 := hf 4
  clear hy hd hf HCL HEND hnc
  go_enter Try.func40, Try.ntmps40
  go_wp2
  refine bodyPost_ret (v := .tuple #[.agg #[.int .i64 tk, .int .i64 ta, .int .i64 tz, .int .i64 tn, .string ts], .bool true]) (by simp [results, Try.results40, go_sem, *]) rfl ?_
  rw [← HTV.out]
  exact HE.out
set_option maxRecDepth 100000 in
set_option maxHeartbeats 8000000 in
theorem next_no (P tb C : Nat) (xs : List Lx.PTok) (at_ er : Int) (w : World) (h : Rd.St w P tb C xs [] at_ er) :
  Calls Try.prog 40 #[.pointer (some ⟨P, 0, none⟩)] w (Rd.NoPost P tb C xs at_ er w) := by
 obtain ⟨a, pre, hP, hpre, -⟩ := h
 rw [List.length_nil] at hP
 obtain ⟨w1, hw1⟩ : ∃ w1, w.alloc (.cells #[.int .i64 0, .int .i64 0, .int .i64 0, .int .i64 0, .string ⟨#[]⟩] 47) = w1 := ⟨_, rfl⟩
 obtain ⟨hb1, hs1⟩ := new_below hw1
 have hR1 := Hp.new hw1
 have hP1 := hP.below hb1
 have p0 := hP1.cell 0 rfl
 have hPl := hP.lt
 obtain ⟨R, hR⟩ : ∃ R, w.heap.size = R := ⟨_, rfl⟩
 rw [hR] at hR1 hPl
 have HEND : Hid (Rd.NoPost P tb C xs at_ er w (.returned (.tuple #[Rd.noTok, .bool false])) (set5 w1 R (.int .i64 0) (.int .i64 0) (.int .i64 0) (.int .i64 0) (.string ⟨#[]⟩))) := by
  have hk2 := set5_keep w1 R (.int .i64 0) (.int .i64 0) (.int .i64 0) (.int .i64 0) (.string ⟨#[]⟩)
  refine ⟨rfl, ⟨a, pre, hP1.keep hk2 (by omega), hpre, fun e => absurd rfl e⟩, ?_⟩
  exact ((keep_of_below hb1).trans (hk2.le (T := fun k => k = P ∨ k = R) (fun k e => .inr e))).mono (fun k hk e => by omega)
 have d0 := hR1.cell 0 rfl
 have d1 := hR1.cell 1 rfl
 have d2 := hR1.cell 2 rfl
 have d3 := hR1.cell 3 rfl
 have d4 := hR1.cell 4 rfl
 have k0 := hR1.frz 0
 have k1 := hR1.frz 1
 have k2 := hR1.frz 2
 have k3 := hR1.frz 3
 have k4 := hR1.frz 4
 clear hP hP1 hR1 hb1 hs1 hpre hPl
 go_enter Try.func40, Try.ntmps40
 go_wp2
 refine bodyPost_ret (v := .tuple #[.agg #[.int .i64 0, .int .i64 0, .int .i64 0, .int .i64 0, .string ⟨#[]⟩], .bool false]) (by simp [results, Try.results40, go_sem, *]) rfl ?_
 exact HEND.out
set_option maxRecDepth 100000 in
set_option maxHeartbeats 8000000 in
theorem fail_any (P tb C : Nat) (xs rest : List Lx.PTok) (at_ er : Int) (w : World) (h : Rd.St w P tb C xs rest 0 0) :
  Calls Try.prog 67 #[.pointer (some ⟨P, 0, none⟩), .int .i64 at_, .int .i64 er] w (Rd.FailPost P tb C xs rest at_ er w) := by
 obtain ⟨a, pre, hP, hpre, ha⟩ := h
 obtain ⟨w1, hw1⟩ : ∃ w1, w.alloc (.cells #[.int .i64 0, .int .i64 0, .string ⟨#[]⟩, .slice none 0 0, .slice none 0 0, .slice none 0 0] 25) = w1 := ⟨_, rfl⟩
 obtain ⟨hb1, hs1⟩ := new_below hw1
 have hR1 := Hp.new hw1
 have hP1 := hP.below hb1
 have p1 := hP1.cell 1 rfl
 have p2 := hP1.cell 2 rfl
 have f1 := hP1.frz 1
 have f2 := hP1.frz 2
 have hPl := hP.lt
 obtain ⟨R, hR⟩ : ∃ R, w.heap.size = R := ⟨_, rfl⟩
 rw [hR] at hR1 hPl
 obtain ⟨w2, hw2⟩ : ∃ w2, (w1.setCell ⟨P, 1, none⟩ (.int .i64 at_)).setCell ⟨P, 2, none⟩ (.int .i64 er) = w2 := ⟨_, rfl⟩
 have hk1 : Keep (fun k => k = P) w1 w2 := by rw [← hw2]; exact (set_keep _ _ _ _).trans (set_keep _ _ _ _)
 have hP2 : Hp w2 P #[.slice a rest.length (C - pre.length), .int .i64 at_, .int .i64 er] 69 := by rw [← hw2]; exact (hP1.set 1 _).set 2 _
 have hR2 := hR1.keep hk1 (by omega : ¬ R = P)
 have HEND : Hid (Rd.FailPost P tb C xs rest at_ er w (.returned Rd.zeroD) (set6 w2 R (.int .i64 0) (.int .i64 0) (.string ⟨#[]⟩) (.slice none 0 0) (.slice none 0 0) (.slice none 0 0))) := by
  have hk2 := set6_keep w2 R (.int .i64 0) (.int .i64 0) (.string ⟨#[]⟩) (.slice none 0 0) (.slice none 0 0) (.slice none 0 0)
  refine ⟨rfl, ⟨a, pre, hP2.keep hk2 (by omega), hpre, ha⟩, ?_⟩
  exact (((keep_of_below hb1).trans (hk1.le (T := fun k => k = P ∨ k = R) (fun k e => .inl e))).trans (hk2.le (fun k e => .inr e))).mono (fun k hk e => by omega)
 have d0 := hR2.cell 0 rfl
 have d1 := hR2.cell 1 rfl
 have d2 := hR2.cell 2 rfl
 have d3 := hR2.cell 3 rfl
 have d4 := hR2.cell 4 rfl
 have d5 := hR2.cell 5 rfl
 have k0 := hR2.frz 0
 have k1 := hR2.frz 1
 have k2 := hR2.frz 2
 have k3 := hR2.frz 3
 have k4 := hR2.frz 4
 have k5 := hR2.frz 5
 clear hP hP1 hR1 hb1 hs1 hpre hPl ha hk1 hP2 hR2
 go_enter Try.func67, Try.ntmps67
 go_wp2
 refine bodyPost_ret (v := .agg #[.int .i64 0, .int .i64 0, .string ⟨#[]⟩, .slice none 0 0, .slice none 0 0, .slice none 0 0]) (by simp [results, Try.results67, go_sem, *]) rfl ?_
 exact HEND.out
set_option maxRecDepth 100000 in
set_option maxHeartbeats 8000000 in
theorem stray_any (P tb C : Nat) (xs rest : List Lx.PTok) (t : Lx.PTok) (w : World) (h : Rd.St w P tb C xs rest 0 0) :
  Calls Try.prog 44 #[.pointer (some ⟨P, 0, none⟩), Rd.tokV t] w (Rd.FailPost P tb C xs rest (t.at_ : Int) 40 w) := by
 unfold Rd.tokV
 obtain ⟨tk, htk⟩ : ∃ tk, t.t.k = tk := ⟨_, rfl⟩
 obtain ⟨tn, htn⟩ : ∃ tn, t.t.n = tn := ⟨_, rfl⟩
 obtain ⟨ts, hts⟩ : ∃ ts : ByteArray, ⟨t.t.s.toArray⟩ = ts := ⟨_, rfl⟩
 obtain ⟨ta, hta⟩ : ∃ ta : Int, (t.at_ : Int) = ta := ⟨_, rfl⟩
 obtain ⟨tz, hto⟩ : ∃ tz : Int, (t.to : Int) = tz := ⟨_, rfl⟩
 rw [htk, htn, hts, hta, hto]
 clear htk htn hts hta hto
 obtain ⟨w1, hw1⟩ : ∃ w1, w.alloc (.cells #[.int .i64 tk, .int .i64 ta, .int .i64 tz, .int .i64 tn, .string ts] 47) = w1 := ⟨_, rfl⟩
 obtain ⟨w2, hw2⟩ : ∃ w2, w1.alloc (.cells #[.int .i64 0, .int .i64 0, .string ⟨#[]⟩, .slice none 0 0, .slice none 0 0, .slice none 0 0] 25) = w2 := ⟨_, rfl⟩
 obtain ⟨hb1, hs1⟩ := new_below hw1
 obtain ⟨hb2, hs2⟩ := new_below hw2
 have hT2 := (Hp.new hw1).below hb2
 have hR2 := Hp.new hw2
 have hPl := h.lt
 have hf := fail_any P tb C xs rest ta 40 w2 ((h.below hb1).below hb2)
 obtain ⟨T, hT⟩ : ∃ T, w.heap.size = T := ⟨_, rfl⟩
 obtain ⟨R, hR⟩ : ∃ R, w1.heap.size = R := ⟨_, rfl⟩
 rw [hT] at hT2 hs1 hPl
 rw [hR] at hR2 hs1 hs2
 have y1 := hT2.cell 1 rfl
 have HK : Hid (Keep (fun k => k = P ∨ T ≤ k) w w2) := (keep_of_below hb1).trans (keep_of_below hb2)
 have HR2 := Lib.hid hR2
 have HN : Hid (P < T ∧ R = T + 1 ∧ w2.heap.size = T + 2) := ⟨hPl, hs1, by omega⟩
 have HT := Lib.hid hT
 clear h hb1 hb2 hs1 hs2 hT2 hR2 hPl
 go_enter Try.func44, Try.ntmps44
 go_wp2_with fail
 refine hf.mono ?_
 rintro e w3 ⟨rfl, hst, hk⟩
 unfold Rd.zeroD
 have hR3 := HR2.out.keep hk (by have := HN.out; omega)
 have HEND : Hid (Rd.FailPost P tb C xs rest ta 40 w (.returned Rd.zeroD) (set6 w3 R (.int .i64 0) (.int .i64 0) (.string ⟨#[]⟩) (.slice none 0 0) (.slice none 0 0) (.slice none 0 0))) := by
  have hk2 := set6_keep w3 R (.int .i64 0) (.int .i64 0) (.string ⟨#[]⟩) (.slice none 0 0) (.slice none 0 0) (.slice none 0 0)
  refine ⟨rfl, hst.keep hk2 (by have := HN.out; omega), ?_⟩
  exact ((HK.out.trans (hk.le (fun k e => .inl e))).trans (hk2.le (fun k e => .inr (by have := HN.out; omega)))).mono (fun k hk e => by have := HT.out; omega)
 have d0 := hR3.cell 0 rfl
 have d1 := hR3.cell 1 rfl
 have d2 := hR3.cell 2 rfl
 have d3 := hR3.cell 3 rfl
 have d4 := hR3.cell 4 rfl
 have d5 := hR3.cell 5 rfl
 have k0 := hR3.frz 0
 have k1 := hR3.frz 1
 have k2 := hR3.frz 2
 have k3 := hR3.frz 3
 have k4 := hR3.frz 4
 have k5 := hR3.frz 5
 clear hf hst hk hR3 y1 hw1 hw2
 go_wp2
 refine bodyPost_ret (v := .agg #[.int .i64 0, .int .i64 0, .string ⟨#[]⟩, .slice none 0 0, .slice none 0 0, .slice none 0 0]) (by simp [results, Try.results44, go_sem, *]) rfl ?_
 exact HEND.out
end Go.Proofs.Ytcopdfihaheplaa
namespace Go.Proofs.Ytcopdfihaheplaa
open Go.RowKit
namespace Rd
open Dt Lx
def Says (r : Res) (x : D) (rest : List PTok) (at_ er : Int) : Prop := (r = .ok x rest ∧ at_ = 0 ∧ er = 0) ∨ (∃ (b : Nat) (c : Int), r = .bad b c ∧ at_ = (b : Int) ∧ er = c ∧ c ≠ 0)
def Nz (v : Value) : Prop := v = .slice none 0 0 ∨ ∃ ad n c, v = .slice (some ad) n c
theorem own_nz {w : World} {base size n : Nat} {e : TypeId} {v : Value} {xs : List Value} (h : w.ownsRow base e size v n xs) : Nz v := by
 rcases h.2 with ⟨h1, h0⟩ | ⟨g, cap, cur, rfl, _⟩
 ·exact .inl h1
 ·exact .inr ⟨_, _, _, rfl⟩
def OutB (b P tb C : Nat) (xs : List PTok) (w : World) (r : Res) (e : Ending) (w' : World) : Prop :=
 ∃ (x : D) (vm vl vt : Value) (rest : List PTok) (at_ er : Int), e = .returned (.agg #[.int .i64 x.k, .int .i64 x.n, .string x.s, vm, vl, vt]) ∧ Rep (fun k => b ≤ k) w' x vm vl vt ∧ Nz vl ∧ St w' P tb C xs rest at_ er ∧ Keep (fun k => k = P ∨ b ≤ k) w w' ∧ Says r x rest at_ er
def Out (P tb C : Nat) (xs : List PTok) (w : World) (r : Res) (e : Ending) (w' : World) : Prop :=
 ∃ (x : D) (vm vl vt : Value) (rest : List PTok) (at_ er : Int), e = .returned (.agg #[.int .i64 x.k, .int .i64 x.n, .string x.s, vm, vl, vt]) ∧ Rep (fun k => w.heap.size ≤ k) w' x vm vl vt ∧ Nz vl ∧ St w' P tb C xs rest at_ er ∧ Keep (fun k => k = P) w w' ∧ Says r x rest at_ er
structure G (P tb C : Nat) (xs : List PTok) : Prop where
 ne : P ≠ tb
 cap : xs.length ≤ C
 few : xs.length ≤ 4096
 C2 : C ≤ 9223372036854775807
 ok : ∀ p ∈ xs, 1 ≤ p.t.k ∧ p.t.k ≤ 13
theorem Out.fin {P tb C : Nat} {xs rest : List PTok} {w wz : World} {r : Res} {R : Nat} {x : D} {vm vl vt : Value} {at_ er : Int} (hk : Keep (fun k => k = P) w wz) (hl : w.heap.size ≤ R) (hP : P < w.heap.size)
  (hrep : Rep (fun k => w.heap.size ≤ k ∧ k ≠ R) wz x vm vl vt) (hz : Nz vl) (hst : St wz P tb C xs rest at_ er) (hs : Says r x rest at_ er) : Out P tb C xs w r (.returned (.agg #[.int .i64 x.k, .int .i64 x.n, .string x.s, vm, vl, vt])) (set6 wz R (.int .i64 x.k) (.int .i64 x.n) (.string x.s) vm vl vt) := by
 have hk2 := set6_keep wz R (.int .i64 x.k) (.int .i64 x.n) (.string x.s) vm vl vt
 refine ⟨x, vm, vl, vt, rest, at_, er, rfl, Rep.mono (fun b hb _ => hb.1) x (Rep.keep hk2 (fun b hb _ e => hb.2 e) x hrep), hz, hst.keep hk2 (by omega), ?_, hs⟩
 exact ((hk.le (T := fun k => k = P ∨ k = R) (fun k e => .inl e)).trans (hk2.le (fun k e => .inr e))).mono (fun k hk e => by omega)
theorem OutB.fin {b P tb C : Nat} {xs rest : List PTok} {w wz : World} {r : Res} {R : Nat} {x : D} {vm vl vt : Value} {at_ er : Int} (hk : Keep (fun k => k = P ∨ b ≤ k) w wz) (hl : b ≤ R) (hP : P < b)
  (hrep : Rep (fun k => b ≤ k ∧ k ≠ R) wz x vm vl vt) (hz : Nz vl) (hst : St wz P tb C xs rest at_ er) (hs : Says r x rest at_ er) : OutB b P tb C xs w r (.returned (.agg #[.int .i64 x.k, .int .i64 x.n, .string x.s, vm, vl, vt])) (set6 wz R (.int .i64 x.k) (.int .i64 x.n) (.string x.s) vm vl vt) := by
 have hk2 := set6_keep wz R (.int .i64 x.k) (.int .i64 x.n) (.string x.s) vm vl vt
 exact ⟨x, vm, vl, vt, rest, at_, er, rfl, Rep.mono (fun b hb _ => hb.1) x (Rep.keep hk2 (fun b hb _ e => hb.2 e) x hrep), hz, hst.keep hk2 (by omega), hk.trans (hk2.le (fun k e => .inr (by omega))), hs⟩
theorem rep_zero (F : Nat → Prop) (w : World) : Rep F w (.mk 0 0 ⟨#[]⟩ [] [] []) (.slice none 0 0) (.slice none 0 0) (.slice none 0 0) :=
 (rep_iff _ _ _ _ _ _).2 ⟨⟨none, 0, rfl, Nat.le_refl _, fun h => absurd rfl h⟩, ⟨none, 0, rfl, Nat.le_refl _, fun h => absurd rfl h⟩, ⟨none, 0, rfl, Nat.le_refl _, fun h => absurd rfl h⟩⟩
theorem rep_row {F : Nat → Prop} {w : World} {vl : Value} {acc : List D} (kk : Int) (h : Row F w vl acc) : Rep F w (.mk kk 0 ⟨#[]⟩ [] acc []) (.slice none 0 0) vl (.slice none 0 0) :=
 (rep_iff _ _ _ _ _ _).2 ⟨⟨none, 0, rfl, Nat.le_refl _, fun h => absurd rfl h⟩, h, ⟨none, 0, rfl, Nat.le_refl _, fun h => absurd rfl h⟩⟩
def meas (w : World) (P : Nat) : Nat := match w.cell? ⟨P, 2, none⟩, w.cell? ⟨P, 0, none⟩ with
 | some (.int _ e), some (.slice _ n _) => if e = 0 then n + 1 else 0
 | _, _ => 0
theorem St.meas {w : World} {P tb C : Nat} {xs rest : List PTok} {at_ e : Int} (h : St w P tb C xs rest at_ e) : meas w P = if e = 0 then rest.length + 1 else 0 := by
 obtain ⟨a, pre, h1, -, -⟩ := h
 unfold Rd.meas
 rw [h1.cell 2 rfl, h1.cell 0 rfl]
 rfl
theorem flatP_len (l : List Dt.P) : (flatP l).length = l.length * 6 := by
 unfold flatP
 induction l with
 | nil => rfl
 | cons q l ih => rw [List.flatMap_cons, List.length_append, ih, List.length_cons]; show 6 + _ = _; omega
theorem flatP_one (qs : List Dt.P) (h : ∀ p ∈ qs, ∃ a1 n1 c1 a2 n2 c2 a3 n3 c3, p.vm = .slice a1 n1 c1 ∧ p.vl = .slice a2 n2 c2 ∧ p.vt = .slice a3 n3 c3) : ∀ u ∈ flatP qs, u.oneCell' = true := by
 intro u hu
 obtain ⟨p, hp, hu⟩ := List.mem_flatMap.1 hu
 obtain ⟨a1, n1, c1, a2, n2, c2, a3, n3, c3, e1, e2, e3⟩ := h p hp
 unfold P.cells at hu
 rw [e1, e2, e3] at hu
 simp only [List.mem_cons, List.not_mem_nil, or_false] at hu
 rcases hu with rfl | rfl | rfl | rfl | rfl | rfl <;> rfl
theorem flatP_at {qs : List Dt.P} {j : Nat} {u : Value} (h : (flatP qs)[j]? = some u) : ∃ i r, ∃ hi : i < qs.length, r < 6 ∧ j = i * 6 + r ∧ (qs[i].cells)[r]? = some u := by
 have hl : ∀ l : List Dt.P, (flatP l).length = l.length * 6 := fun l => by
  unfold flatP
  induction l with
  | nil => rfl
  | cons q l ih => rw [List.flatMap_cons, List.length_append, ih, List.length_cons]; show 6 + _ = _; omega
 have hlt : j < qs.length * 6 := by rw [← hl]; exact (List.getElem?_eq_some_iff.1 h).1
 have hi : j / 6 < qs.length := by omega
 refine ⟨j / 6, j % 6, hi, Nat.mod_lt _ (by decide), by omega, ?_⟩
 rw [← h]
 conv => rhs; rw [← List.take_append_drop (j / 6) qs, List.drop_eq_getElem_cons hi]
 have e1 : flatP (qs.take (j / 6) ++ qs[j / 6] :: qs.drop (j / 6 + 1)) = flatP (qs.take (j / 6)) ++ (qs[j / 6].cells ++ flatP (qs.drop (j / 6 + 1))) := by unfold flatP; rw [List.flatMap_append, List.flatMap_cons]
 rw [e1, List.getElem?_append_right (by rw [hl, List.length_take]; omega), hl, List.length_take, Nat.min_eq_left (by omega)]
 rw [List.getElem?_append_left (by show _ < 6; omega)]
 congr 1
 omega
theorem pushK {S : Nat → Prop} {w w1 wA w5 : World} {base : Nat} {v v' : Value} {ls : List P} {p : P} (h : Rowing w base v ls) (hbase : base ≤ w.heap.size) (h1 : Keep S w w1) (hS : ∀ k, base ≤ k → ¬ S k) (hp : Rep (fun k => w.heap.size ≤ k) w1 p.d p.vm p.vl p.vt) (hA : Below w1.heap.size w1 wA)
  (hown : w5.ownsRow base 25 6 v' (ls.length + 1) (flatP ls ++ p.cells)) (hg : wA.grownBy w5 v.ownBlock) (hat : v'.ownBlock = v.ownBlock ∨ v'.ownBlock = some wA.heap.size) :
  Rowing w5 base v' (ls ++ [p]) ∧ Keep (fun k => S k ∨ v.ownBlock = some k) w w5 := by
 have hwA : Keep S w wA := h1.trans (keep_of_below hA)
 have hK : Keep (fun k => S k ∨ v.ownBlock = some k) w w5 := ⟨hg.os.trans hwA.os, hg.tape.trans hwA.tape, hg.output.trans hwA.output, Nat.le_trans hwA.size hg.size, fun k hk hn => (hg.block k (by have := hwA.size; omega) (fun e => hn (.inr e.symm))).trans (hwA.block k hk (fun e => hn (.inl e)))⟩
 have hK1 : Keep (fun k => v.ownBlock = some k) w1 w5 := ⟨hg.os.trans hA.os, hg.tape.trans hA.tape, hg.output.trans hA.output, Nat.le_trans hA.size hg.size, fun k hk hn => (hg.block k (by have := hA.size; omega) (fun e => hn e.symm)).trans (hA.block k hk)⟩
 have hvl : ∀ k, v.ownBlock = some k → base ≤ k ∧ k < w.heap.size := own_lt h.row
 refine ⟨⟨by rw [List.length_append, flatP_app]; exact hown, fun q hq => ?_⟩, hK⟩
 rcases List.mem_append.1 hq with hq | hq
 ·have hr0 : Rep (fun k => k < w.heap.size ∧ base ≤ k ∧ v.ownBlock ≠ some k) w q.d q.vm q.vl q.vt := Rep.mono (fun b hb hl => ⟨hl, hb⟩) q.d (h.rep q hq)
  refine Rep.mono (fun b hb _ => ⟨hb.2.1, fun e => ?_⟩) q.d (Rep.keep hK (fun b hb _ e => e.elim (hS b hb.2.1) (fun e => hb.2.2 e)) q.d hr0)
  rcases hat with e' | e'
  ·rw [e'] at e; exact hb.2.2 e
  ·rw [e'] at e; cases e; have := hwA.size; omega
 ·obtain rfl : q = p := by simpa using hq
  have hr0 : Rep (fun k => k < w1.heap.size ∧ w.heap.size ≤ k) w1 q.d q.vm q.vl q.vt := Rep.mono (fun b hb hl => ⟨hl, hb⟩) q.d hp
  refine Rep.mono (fun b hb _ => ⟨Nat.le_trans hbase hb.2, fun e => ?_⟩) q.d (Rep.keep hK1 (fun b hb _ e => by have := (hvl b e).2; omega) q.d hr0)
  rcases hat with e' | e'
  ·rw [e'] at e; have := (hvl b e).2; omega
  ·rw [e'] at e; cases e; have := hA.size; omega
theorem srcNew {w wD : World} {a b c d e f : Value} {t : TypeId} (h : w.alloc (.cells #[a, b, c, d, e, f] t) = wD) : Ap.Src wD (.slice (some ⟨w.heap.size, 0, none⟩) 1 1) 1 [a, b, c, d, e, f] :=
 .inr ⟨_, _, rfl, fun j u hu => by
  rw [Addr.add_mid, Nat.zero_add]
  have h2 : #[a, b, c, d, e, f][j]? = some u := by rw [← hu]; simp
  exact (Hp.new h).cell j h2⟩
theorem row_of_own {F : Nat → Prop} {w : World} {base n : Nat} {v : Value} {ls : List Dt.P} (hown : w.ownsRow base 25 6 v n (flatP ls)) (hn : n = ls.length) (hF : ∀ j, v.ownBlock = some j → F j) (hr : ∀ p ∈ ls, Rep F w p.d p.vm p.vl p.vt) : Row F w v (ls.map Dt.P.d) := by
 subst hn
 have hreps : ∀ g, v.ownBlock = some g → Reps F w (ls.map Dt.P.d) g 0 := by
  intro g hg
  refine Reps.of fun j hj => ?_
  have hj' : j < ls.length := by simpa using hj
  obtain ⟨g', c, rfl, _, hs⟩ := part_at hown j hj'
  cases hg
  refine ⟨ls[j].vm, ls[j].vl, ls[j].vt, by rw [Nat.zero_add]; simpa using hs, ?_⟩
  have := hr ls[j] (List.getElem_mem hj')
  simpa using this
 rcases hown.2 with ⟨h1, h0⟩ | ⟨g, cap, cur, rfl, e2, e3, e4, _⟩
 ·have : ls = [] := List.length_eq_zero_iff.1 h0
  subst this
  exact ⟨none, 0, by rw [h1]; rfl, Nat.le_refl _, fun hn => absurd rfl hn⟩
 ·exact ⟨some ⟨g, 0, none⟩, cap, by simp, by simpa using e4, fun _ => ⟨g, 0, rfl, hF g rfl, (Array.getElem?_eq_some_iff.1 e3).1, hreps g rfl⟩⟩
theorem row_parts {F : Nat → Prop} {w : World} {a : Option Addr} {n c : Nat} {l : List D} (h : Row F w (.slice a n c) l) (hz : Nz (.slice a n c)) : ∃ qs : List Dt.P, qs.map Dt.P.d = l ∧ Ap.Src w (.slice a n c) n (flatP qs) ∧ ∀ q ∈ qs, Rep F w q.d q.vm q.vl q.vt := by
 obtain ⟨a', c', e, hc, hr⟩ := h
 cases e
 cases l with
 | nil =>
  refine ⟨[], rfl, ?_, fun q hq => by cases hq⟩
  rcases hz with e | ⟨ad, n, c, e⟩
  ·cases e; exact .inl ⟨rfl, rfl, rfl⟩
  ·cases e; exact .inr ⟨ad, _, rfl, fun j u hu => by simp [flatP] at hu⟩
 | cons d0 l0 =>
  obtain ⟨g, o, rfl, -, hlt, hreps⟩ := hr (by simp)
  have hq : ∀ j : Fin (d0 :: l0).length, ∃ q : Dt.P, q.d = (d0 :: l0)[j.1] ∧ Six w g (o + j.1 * 6) q.d q.vm q.vl q.vt ∧ Rep F w q.d q.vm q.vl q.vt := fun j => by
   obtain ⟨vm, vl, vt, h1, h2⟩ := hreps.at j.1 j.2
   exact ⟨⟨_, vm, vl, vt⟩, rfl, h1, h2⟩
  refine ⟨List.ofFn (fun j => Classical.choose (hq j)), ?_, .inr ⟨⟨g, o, none⟩, _, rfl, ?_⟩, ?_⟩
  ·apply List.ext_getElem
   ·simp
   ·intro j h1 h2
    simp only [List.getElem_map, List.getElem_ofFn]
    exact (Classical.choose_spec (hq ⟨j, h2⟩)).1
  ·intro j u hu
   rw [Addr.add_mid]
   obtain ⟨i, r, hi, hr6, hjr, hg⟩ := flatP_at hu
   rw [List.length_ofFn] at hi
   rw [List.getElem_ofFn] at hg
   obtain ⟨s0, s1, s2, s3, s4, s5⟩ := (Classical.choose_spec (hq ⟨i, hi⟩)).2.1
   rw [hjr, ← Nat.add_assoc]
   obtain rfl | rfl | rfl | rfl | rfl | rfl : r = 0 ∨ r = 1 ∨ r = 2 ∨ r = 3 ∨ r = 4 ∨ r = 5 := by omega
   all_goals (simp only [P.cells] at hg; cases hg; first | exact s0 | exact s1 | exact s2 | exact s3 | exact s4 | exact s5)
  ·intro q hq2
   obtain ⟨j, rfl⟩ := List.mem_ofFn.1 hq2
   exact (Classical.choose_spec (hq j)).2.2
theorem rep_sym (F : Nat → Prop) (w : World) (s : ByteArray) : Rep F w (symD s) (.slice none 0 0) (.slice none 0 0) (.slice none 0 0) :=
 (rep_iff _ _ _ _ _ _).2 ⟨⟨none, 0, rfl, Nat.le_refl _, fun h => absurd rfl h⟩, ⟨none, 0, rfl, Nat.le_refl _, fun h => absurd rfl h⟩, ⟨none, 0, rfl, Nat.le_refl _, fun h => absurd rfl h⟩⟩
theorem own_base {w : World} {base base' size n : Nat} {e : TypeId} {v : Value} {xs : List Value} (h : w.ownsRow base e size v n xs) (hb : base' ≤ base) : w.ownsRow base' e size v n xs := by
 obtain ⟨h1, h2⟩ := h
 refine ⟨h1, h2.elim .inl (fun h3 => ?_)⟩
 obtain ⟨g, cap, cur, e1, e2, e3⟩ := h3
 exact .inr ⟨g, cap, cur, e1, Nat.le_trans hb e2, e3⟩
theorem two_forms {s : ByteArray} {y : D} {b1 b2 b3 : Option Addr} {m1 m2 m3 p1 p2 p3 : Nat} {p : Dt.P} (hp : p ∈ [Dt.P.mk (symD s) (.slice none 0 0) (.slice none 0 0) (.slice none 0 0), Dt.P.mk y (.slice b1 m1 p1) (.slice b2 m2 p2) (.slice b3 m3 p3)]) : ∃ a1 n1 c1 a2 n2 c2 a3 n3 c3, p.vm = .slice a1 n1 c1 ∧ p.vl = .slice a2 n2 c2 ∧ p.vt = .slice a3 n3 c3 := by
 simp only [List.mem_cons, List.not_mem_nil, or_false] at hp
 rcases hp with rfl | rfl
 ·exact ⟨_, _, _, _, _, _, _, _, _, rfl, rfl, rfl⟩
 ·exact ⟨_, _, _, _, _, _, _, _, _, rfl, rfl, rfl⟩
theorem two_src {w : World} {B : Nat} {s : ByteArray} {y : D} {vm vl vt : Value} {t : TypeId} (h : Hp w B #[.int .i64 5, .int .i64 0, .string s, .slice none 0 0, .slice none 0 0, .slice none 0 0, .int .i64 y.k, .int .i64 y.n, .string y.s, vm, vl, vt] t) :
  ∀ j u, (flatP [Dt.P.mk (symD s) (.slice none 0 0) (.slice none 0 0) (.slice none 0 0), Dt.P.mk y vm vl vt])[j]? = some u → w.cell? ((⟨B, 0, none⟩ : Addr).add j) = some u := by
 intro j u hu
 rw [Addr.add_mid, Nat.zero_add]
 refine h.cell j ?_
 rw [← hu, ← Array.getElem?_toList]
 rfl
end Rd
theorem Dt.Cd_keep_grown {w w' : World} {v : Value} (hg : w.grownBy w' v.ownBlock) : Keep (fun k => v.ownBlock = some k) w w' := ⟨hg.os, hg.tape, hg.output, hg.size, fun k hk hn => hg.block k hk (fun e => hn e.symm)⟩
end Go.Proofs.Ytcopdfihaheplaa
namespace Go.Proofs.Ytcopdfihaheplaa
open Go.RowKit
attribute [local go_sem] Oper.semAt_some
namespace Rd
open Dt Lx
def DatumIs (P tb C : Nat) (xs : List PTok) (f : Nat) : Prop := ∀ (ts : List PTok) (w : World), ts ≠ [] → Src w tb xs → St w P tb C xs ts 0 0 → pd f ts ≠ .out → Calls Try.prog 28 #[.pointer (some ⟨P, 0, none⟩)] w (Out P tb C xs w (pd f ts))
def VInv (a : Nat) (R : Res) (f : Nat) (acc : List D) (ts : List PTok) (at_ er : Int) : Prop := (er = 0 ∧ at_ = 0 ∧ pv f a acc ts = R ∧ R ≠ .out ∧ (∃ q, f = q + 1) ∧ acc.length + ts.length ≤ 4096) ∨ (er ≠ 0 ∧ ∃ (b : Nat), at_ = (b : Int) ∧ R = .bad b er)
end Rd
set_option maxRecDepth 100000 in
set_option maxHeartbeats 16000000 in
theorem vector_any (P tb C : Nat) (xs : List Lx.PTok) (hG : Rd.G P tb C xs) (F : Nat) (hD : ∀ g, g < F → Rd.DatumIs P tb C xs g) (t : Lx.PTok) (r : List Lx.PTok) (w : World) (hSrc : Rd.Src w tb xs) (hSt : Rd.St w P tb C xs r 0 0) (hR : Rd.pv F t.at_ [] r ≠ .out) :
  Calls Try.prog 43 #[.pointer (some ⟨P, 0, none⟩), Rd.tokV t] w (Rd.Out P tb C xs w (Rd.pv F t.at_ [] r)) := by
 unfold Rd.tokV
 obtain ⟨tk, htk⟩ : ∃ tk, t.t.k = tk := ⟨_, rfl⟩
 obtain ⟨tn, htn⟩ : ∃ tn, t.t.n = tn := ⟨_, rfl⟩
 obtain ⟨ts, hts⟩ : ∃ ts : ByteArray, ⟨t.t.s.toArray⟩ = ts := ⟨_, rfl⟩
 obtain ⟨ta, hta⟩ : ∃ ta : Nat, t.at_ = ta := ⟨_, rfl⟩
 obtain ⟨tz, hto⟩ : ∃ tz : Int, (t.to : Int) = tz := ⟨_, rfl⟩
 rw [hta] at hR ⊢
 rw [htk, htn, hts, hto]
 clear htk htn hts hta hto
 obtain ⟨RR, hRR⟩ : ∃ RR, Rd.pv F ta [] r = RR := ⟨_, rfl⟩
 have hV0 : Rd.VInv ta RR F [] r 0 0 := .inl ⟨rfl, rfl, hRR, hRR ▸ hR, by
  cases F with
  | zero => exact absurd (by rw [Rd.pv]) hR
  | succ q => exact ⟨q, rfl⟩, by
   obtain ⟨_, pre, -, hpre, -⟩ := hSt
   have := hG.few
   rw [hpre] at this
   simp at this ⊢
   omega⟩
 rw [hRR]
 obtain ⟨w1, hw1⟩ : ∃ w1, w.alloc (.cells #[.int .i64 tk, .int .i64 (ta : Int), .int .i64 tz, .int .i64 tn, .string ts] 47) = w1 := ⟨_, rfl⟩
 obtain ⟨w2, hw2⟩ : ∃ w2, w1.alloc (.cells #[.int .i64 0, .int .i64 0, .string ⟨#[]⟩, .slice none 0 0, .slice none 0 0, .slice none 0 0] 25) = w2 := ⟨_, rfl⟩
 obtain ⟨w3, hw3⟩ : ∃ w3, w2.alloc (.cells #[.int .i64 8, .int .i64 0, .string ⟨#[]⟩, .slice none 0 0, .slice none 0 0, .slice none 0 0] 25) = w3 := ⟨_, rfl⟩
 obtain ⟨hb1, hs1⟩ := new_below hw1
 obtain ⟨hb2, hs2⟩ := new_below hw2
 obtain ⟨hb3, hs3⟩ := new_below hw3
 have hT3 := ((Hp.new hw1).below hb2).below hb3
 have hR3 := (Hp.new hw2).below hb3
 have hD3 := Hp.new hw3
 have hb13 := hb1.trans ((hb2.trans (hb3.mono hb2.size)).mono hb1.size)
 obtain ⟨T, hT⟩ : ∃ T, w.heap.size = T := ⟨_, rfl⟩
 obtain ⟨R, hRb⟩ : ∃ R, w1.heap.size = R := ⟨_, rfl⟩
 obtain ⟨D, hDb⟩ : ∃ D, w2.heap.size = D := ⟨_, rfl⟩
 rw [hT] at hT3 hs1
 rw [hRb] at hR3 hs1 hs2
 rw [hDb] at hD3 hs2 hs3
 have hPl := hSt.lt
 rw [hT] at hPl
 have HN : Hid (P < T ∧ R = T + 1 ∧ D = T + 2 ∧ w3.heap.size = T + 3 ∧ w.heap.size = T) := ⟨hPl, hs1, by omega, by omega, hT⟩
 have HT3 := Lib.hid hT3
 have HR3 := Lib.hid hR3
 have HD3 := Lib.hid hD3
 have HK3 : Hid (Keep (fun k => k = P) w w3) := keep_of_below hb13
 have HST3 := Lib.hid (hSt.below hb13)
 have HSRC := Lib.hid hSrc
 have HG := Lib.hid hG
 have HD := Lib.hid hD
 have HV0 := Lib.hid hV0
 have HROW0 : Hid (Dt.Rowing w3 (D + 1) (.slice none 0 0) [] ∧ ([] : List Dt.P).length = 0) := ⟨Dt.Rowing.nil _ _, rfl⟩
 obtain ⟨i0, hi, hz0, hz1, hz2⟩ := info_parts Dt.infoD
 have HW3 := Lib.hid hw3
 have HI1 := Lib.hid hi
 have HZ0 := Lib.hid hz0
 have HZ1 := Lib.hid hz1
 have HZ2 := Lib.hid hz2
 clear hb1 hb2 hb3 hs1 hs2 hs3 hT3 hR3 hD3 hb13 hSt hSrc hG hD hV0 hRR hR hPl hi hz0 hz1 hz2 hw3
 go_enter Try.func43, Try.ntmps43
 go_wp2
 rw [HW3.out]
 clear hw1 hw2
 go_loopw [7] (fun _ wr => ∃ (k : Nat) (ps : List Dt.P) (al : Option Addr) (cl f : Nat) (us : List Lx.PTok) (at_ er : Int), Hid (Hp wr D #[.int .i64 8, .int .i64 0, .string ⟨#[]⟩, .slice none 0 0, .slice al k cl, .slice none 0 0] 25) ∧ Hid (Dt.Rowing wr (D + 1) (.slice al k cl) ps ∧ ps.length = k) ∧ Hid (Rd.St wr P tb C xs us at_ er) ∧ Hid (Rd.VInv ta RR f (ps.map Dt.P.d) us at_ er ∧ f ≤ F) ∧ Hid (Keep (fun k => k = P) w wr) ∧ Hid (Keep (fun k => k = P ∨ D ≤ k) w3 wr)) (fun _ wr => Rd.meas wr P)
 case atStart => exact ⟨0, [], none, 0, F, r, 0, 0, HD3, HROW0, HST3, ⟨HV0.out, Nat.le_refl _⟩, HK3, Keep.refl _ _⟩
 case round =>
  clear HD3 HROW0 HST3 HV0 HK3
  obtain ⟨k, ps, al, cl, f, us, at_, er, HDB, HRW, HST, HV, HK, HK2⟩ := hrel
  obtain ⟨pa, pre, hP, hpre, hpa⟩ := HST.out
  have hTr := HT3.out.keep HK2.out (by have := HN.out; omega)
  have hRr := HR3.out.keep HK2.out (by have := HN.out; omega)
  have p0 := hP.cell 0 rfl
  have p2 := hP.cell 2 rfl
  have y1 := hTr.cell 1 rfl
  have hmeas := HST.out.meas
  have hgw : D < wr.heap.size := HDB.out.lt
  have HTR := Lib.hid hTr
  have HRR := Lib.hid hRr
  have HFIN : Hid (∀ (wz : World) (rest : List Lx.PTok) (a2 e2 : Int), Keep (fun k => k = P) w wz → Dt.Row (fun k => D + 1 ≤ k) wz (.slice al k cl) (ps.map Dt.P.d) → Rd.St wz P tb C xs rest a2 e2 → Rd.Says RR (Rd.vecD (ps.map Dt.P.d)) rest a2 e2 → Rd.Out P tb C xs w RR (.returned (.agg #[.int .i64 8, .int .i64 0, .string ⟨#[]⟩, .slice none 0 0, .slice al k cl, .slice none 0 0])) (set6 wz R (.int .i64 8) (.int .i64 0) (.string ⟨#[]⟩) (.slice none 0 0) (.slice al k cl) (.slice none 0 0))) := fun wz rest a2 e2 h1 h2 h3 h4 =>
   Rd.Out.fin (x := Rd.vecD (ps.map Dt.P.d)) h1 (by have := HN.out; omega) (by have := HN.out; omega) (Dt.Rep.mono (fun b hb _ => by have := HN.out; omega) _ (Rd.rep_row 8 h2)) (Rd.own_nz HRW.out.1.row) h3 h4
  by_cases he : er = 0
  case neg =>
   have he1 : (er == 0) = false := by simpa using he
   obtain ⟨b, hb1, hb2⟩ : ∃ b : Nat, at_ = (b : Int) ∧ RR = .bad b er := HV.out.1.elim (fun h => absurd h.1 he) (fun h => h.2)
   have HE := Lib.hid (HFIN.out wr us at_ er HK.out (HRW.out.2 ▸ HRW.out.1.to_row) HST.out (.inr ⟨b, er, hb2, hb1, rfl, he⟩))
   have d0 := HDB.out.cell 0 rfl
   have d1 := HDB.out.cell 1 rfl
   have d2 := HDB.out.cell 2 rfl
   have d3 := HDB.out.cell 3 rfl
   have d4 := HDB.out.cell 4 rfl
   have d5 := HDB.out.cell 5 rfl
   have r0 := hRr.cell 0 rfl
   have r1 := hRr.cell 1 rfl
   have r2 := hRr.cell 2 rfl
   have r3 := hRr.cell 3 rfl
   have r4 := hRr.cell 4 rfl
   have r5 := hRr.cell 5 rfl
   have k0 := hRr.frz 0
   have k1 := hRr.frz 1
   have k2 := hRr.frz 2
   have k3 := hRr.frz 3
   have k4 := hRr.frz 4
   have k5 := hRr.frz 5
   clear hP hpre hpa p0 hmeas hTr hRr hb1 hb2 he HV
   go_wp2
   refine bodyPost_ret (v := .agg #[.int .i64 8, .int .i64 0, .string ⟨#[]⟩, .slice none 0 0, .slice al k cl, .slice none 0 0]) (by simp [results, Try.results43, go_sem, *]) rfl ?_
   exact HE.out
  subst he
  obtain ⟨-, rfl, hpv, hro, ⟨q, rfl⟩, hkn⟩ : (0 : Int) = 0 ∧ at_ = 0 ∧ Rd.pv f ta (ps.map Dt.P.d) us = RR ∧ RR ≠ .out ∧ (∃ q, f = q + 1) ∧ (ps.map Dt.P.d).length + us.length ≤ 4096 := HV.out.1.elim id (fun h => absurd rfl h.1)
  have hfF := HV.out.2
  cases us with
  | nil =>
   rw [Rd.pv] at hpv
   have hf := fail_any P tb C xs [] (ta : Int) 41 wr HST.out
   rw [List.length_nil] at p0
   have HPV := Lib.hid hpv
   clear hP hpre hpa hmeas hTr hRr hpv hro HV hkn
   go_wp2_with fail
   refine hf.mono ?_
   rintro e w4 ⟨rfl, hst4, hk4⟩
   unfold Rd.zeroD
   have hR4 := HRR.out.keep hk4 (by have := HN.out; omega)
   have HE := Lib.hid (Rd.Out.fin (r := RR) (x := .mk 0 0 ⟨#[]⟩ [] [] []) (HK.out.trans hk4) (R := R) (by have := HN.out; omega) (by have := HN.out; omega) (Rd.rep_zero _ _) (.inl rfl) hst4 (.inr ⟨ta, 41, HPV.out.symm, rfl, rfl, by decide⟩))
   have r0 := hR4.cell 0 rfl
   have r1 := hR4.cell 1 rfl
   have r2 := hR4.cell 2 rfl
   have r3 := hR4.cell 3 rfl
   have r4 := hR4.cell 4 rfl
   have r5 := hR4.cell 5 rfl
   have k0 := hR4.frz 0
   have k1 := hR4.frz 1
   have k2 := hR4.frz 2
   have k3 := hR4.frz 3
   have k4 := hR4.frz 4
   have k5 := hR4.frz 5
   clear hf hst4 hk4 hR4 p0 p2 y1
   go_wp2
   refine bodyPost_ret (v := .agg #[.int .i64 0, .int .i64 0, .string ⟨#[]⟩, .slice none 0 0, .slice none 0 0, .slice none 0 0]) (by simp [results, Try.results43, go_sem, *]) rfl ?_
   exact HE.out
  | cons x us =>
   obtain rfl := hpa (by simp)
   have hlen : xs.length = pre.length + (us.length + 1) := by rw [hpre]; simp
   have hpi : pre.length < xs.length := by omega
   have hsrc := HSRC.out.keep HK.out (fun e => HG.out.ne e.symm)
   obtain ⟨x0, -, -, -, -⟩ := hsrc.tok pre.length hpi
   have hxi : xs[pre.length] = x := by simp only [hpre]; simp
   rw [hxi] at x0
   have hulen : us.length ≤ 4096 := by have := HG.out.few; omega
   rw [show (x :: us).length = us.length + 1 from rfl] at p0
   obtain ⟨n, hn⟩ : ∃ n, us.length = n := ⟨_, rfl⟩
   obtain ⟨cc, hcc⟩ : ∃ cc, C - pre.length = cc := ⟨_, rfl⟩
   obtain ⟨qq, hqq⟩ : ∃ qq, pre.length * 5 = qq := ⟨_, rfl⟩
   rw [hn, hcc, hqq] at p0
   rw [hqq] at x0
   have hn0 : (((n : Int) + 1) == 0) = false := by simp; omega
   have hnp : (0 : Int) < (n : Int) + 1 := by omega
   obtain ⟨xk, hxk⟩ : ∃ xk, x.t.k = xk := ⟨_, rfl⟩
   rw [hxk] at x0
   have HLN : Hid (us.length = n) := hn
   rw [Rd.pv, hxk] at hpv
   by_cases h2 : xk = 2
   ·have h2' : (xk == 2) = true := by simpa using h2
    rw [if_pos h2] at hpv
    have hnx := next_yes P tb C xs x us 0 0 wr hsrc HST.out HG.out.cap HG.out.few HG.out.C2
    have HPV := Lib.hid hpv
    clear hP hpre hpa hmeas hTr hRr hpv hro HV hkn hlen hpi hxi hulen hn hcc hqq hxk h2 hsrc
    go_wp2_with fail
    refine hnx.mono ?_
    rintro e w4 ⟨rfl, hst4, hk4⟩
    have hR4 := HRR.out.keep hk4 (by have := HN.out; omega)
    have hD4 := HDB.out.keep hk4 (by have := HN.out; omega)
    have hrow4 := HRW.out.1.keep hk4 (fun j hj _ e => by have := HN.out; omega)
    have HE := Lib.hid (HFIN.out w4 us 0 0 (HK.out.trans hk4) hrow4.to_row hst4 (.inl ⟨HPV.out.symm, rfl, rfl⟩))
    have d0 := hD4.cell 0 rfl
    have d1 := hD4.cell 1 rfl
    have d2 := hD4.cell 2 rfl
    have d3 := hD4.cell 3 rfl
    have d4 := hD4.cell 4 rfl
    have d5 := hD4.cell 5 rfl
    have r0 := hR4.cell 0 rfl
    have r1 := hR4.cell 1 rfl
    have r2 := hR4.cell 2 rfl
    have r3 := hR4.cell 3 rfl
    have r4 := hR4.cell 4 rfl
    have r5 := hR4.cell 5 rfl
    have k0 := hR4.frz 0
    have k1 := hR4.frz 1
    have k2 := hR4.frz 2
    have k3 := hR4.frz 3
    have k4 := hR4.frz 4
    have k5 := hR4.frz 5
    clear hnx hst4 hk4 hR4 hD4 hrow4 p0 p2 y1 x0
    go_wp2
    refine bodyPost_ret (v := .agg #[.int .i64 8, .int .i64 0, .string ⟨#[]⟩, .slice none 0 0, .slice al k cl, .slice none 0 0]) (by simp [results, Try.results43, go_sem, *]) rfl ?_
    exact HE.out
   ·have h2' : (xk == 2) = false := by simpa using h2
    rw [if_neg h2] at hpv
    have hdo : Rd.pd q (x :: us) ≠ .out := fun e => by rw [e] at hpv; exact hro hpv.symm
    have hrl := (Rd.res_len q).1 (x :: us) us.length (by simp)
    have hcall := HD.out q (by omega) (x :: us) wr.drew (by simp) (hsrc.below ((Below.refl _ wr).drew)) (HST.out.below ((Below.refl _ wr).drew)) hdo
    have hnext : ∀ (y : Dt.D) (rest : List Lx.PTok) (a2 e2 : Int), Rd.Says (Rd.pd q (x :: us)) y rest a2 e2 → Rd.VInv ta RR q (ps.map Dt.P.d ++ [y]) rest a2 e2 ∧ (if e2 = 0 then rest.length + 1 else 0) < n + 2 := by
     intro y rest a2 e2 hs
     rcases hs with ⟨e, rfl, rfl⟩ | ⟨b, c, e, rfl, rfl, hc0⟩
     ·rw [e] at hpv hrl
      have hl : rest.length ≤ us.length := hrl
      refine ⟨.inl ⟨rfl, rfl, hpv, hro, ?_, by simp only [List.length_append, List.length_cons, List.length_nil] at hkn ⊢; omega⟩, by rw [if_pos rfl]; omega⟩
      cases q with
      | zero => simp only [Rd.pv] at hpv; exact absurd hpv.symm hro
      | succ q => exact ⟨q, rfl⟩
     ·rw [e] at hpv
      exact ⟨.inr ⟨hc0, b, rfl, hpv.symm⟩, by rw [if_neg hc0]; omega⟩
    obtain ⟨RES, hRES⟩ : ∃ RES, Rd.pd q (x :: us) = RES := ⟨_, rfl⟩
    rw [hRES] at hcall hnext
    have HCL := Lib.hid hcall
    have hkl : k ≤ 4096 := by have := HRW.out.2; simp only [List.length_map, List.length_cons] at hkn; omega
    have c4 := HDB.out.cell 4 rfl
    have HDALL : Hid (∀ W, Keep (fun j => j = P) wr W → W.cell? ⟨D, 4, none⟩ = some (.slice al k cl) ∧ D + 1 ≤ W.heap.size ∧ W.ownsRow (D + 1) 25 6 (.slice al k cl) k (Dt.flatP ps)) := fun W hW =>
     ⟨(HDB.out.keep hW (by have := HN.out; omega)).cell 4 rfl, by have := (HDB.out.keep hW (by have := HN.out; omega)).lt; omega, by
      have h := (HRW.out.1.keep hW (fun j hj _ e => by have := HN.out; omega)).row
      rw [HRW.out.2] at h
      exact h⟩
    have HPUSH : Hid (∀ (w2 wD w5 : World) (y : Dt.D) (b1 b2 b3 : Option Addr) (m1 m2 m3 p1 p2 p3 : Nat) (v' : Value) (rest : List Lx.PTok) (a2 e2 : Int), Keep (fun j => j = P) wr w2 → Dt.Rep (fun j => wr.heap.size ≤ j) w2 y (.slice b1 m1 p1) (.slice b2 m2 p2) (.slice b3 m3 p3) → Rd.St w2 P tb C xs rest a2 e2 → Rd.Says RES y rest a2 e2 → Below w2.heap.size w2 wD →
      w5.ownsRow (D + 1) 25 6 v' (k + 1) (Dt.flatP ps ++ [.int .i64 y.k, .int .i64 y.n, .string y.s, .slice b1 m1 p1, .slice b2 m2 p2, .slice b3 m3 p3]) → wD.grownBy w5 (Value.slice al k cl).ownBlock → (v'.ownBlock = (Value.slice al k cl).ownBlock ∨ v'.ownBlock = some wD.heap.size) →
      w5.cell? ⟨D, 4, none⟩ = some (.slice al k cl) ∧ w5.frozen? ⟨D, 4, none⟩ = false ∧ Hid (Hp (w5.setCell ⟨D, 4, none⟩ v') D #[.int .i64 8, .int .i64 0, .string ⟨#[]⟩, .slice none 0 0, v', .slice none 0 0] 25 ∧ (Dt.Rowing (w5.setCell ⟨D, 4, none⟩ v') (D + 1) v' (ps ++ [Dt.P.mk y (.slice b1 m1 p1) (.slice b2 m2 p2) (.slice b3 m3 p3)]) ∧ (ps ++ [Dt.P.mk y (.slice b1 m1 p1) (.slice b2 m2 p2) (.slice b3 m3 p3)]).length = k + 1) ∧ Rd.St (w5.setCell ⟨D, 4, none⟩ v') P tb C xs rest a2 e2 ∧ (Rd.VInv ta RR q ((ps ++ [Dt.P.mk y (.slice b1 m1 p1) (.slice b2 m2 p2) (.slice b3 m3 p3)]).map Dt.P.d) rest a2 e2 ∧ q ≤ F) ∧ Keep (fun j => j = P) w (w5.setCell ⟨D, 4, none⟩ v') ∧ Keep (fun j => j = P ∨ D ≤ j) w3 (w5.setCell ⟨D, 4, none⟩ v') ∧ Rd.meas (w5.setCell ⟨D, 4, none⟩ v') P < Rd.meas wr P)) := by
     intro w2 wD w5 y b1 b2 b3 m1 m2 m3 p1 p2 p3 v' rest a2 e2 hk2 hr2 hst2 hs2 hbD hown hgr hat
     have hN := HN.out
     have hlp := HRW.out.2
     have hown2 : w5.ownsRow (D + 1) 25 6 v' (ps.length + 1) (Dt.flatP ps ++ (Dt.P.mk y (.slice b1 m1 p1) (.slice b2 m2 p2) (.slice b3 m3 p3)).cells) := by rw [hlp]; exact hown
     obtain ⟨g1, g2⟩ := Rd.pushK HRW.out.1 (by have := HDB.out.lt; omega) hk2 (fun j hj e => by omega) hr2 hbD hown2 hgr hat
     have hvb : ∀ j, (Value.slice al k cl).ownBlock = some j → D + 1 ≤ j ∧ j < wr.heap.size := fun j e => Dt.own_lt HRW.out.1.row j e
     have hD5 := HDB.out.keep g2 (fun e => e.elim (fun e => by omega) (fun e => by have := hvb D e; omega))
     have hk6 : Keep (fun j => j = D) w5 (w5.setCell ⟨D, 4, none⟩ v') := set_keep _ _ _ _
     have hst5 : Rd.St (w5.setCell ⟨D, 4, none⟩ v') P tb C xs rest a2 e2 := by
      refine ((hst2.below hbD).keep (Dt.Cd_keep_grown hgr) (fun e => by have := hvb P e; omega)).keep hk6 (by omega)
     have hkw : Keep (fun j => j = P ∨ D ≤ j) wr (w5.setCell ⟨D, 4, none⟩ v') := (g2.le (fun j e => e.elim .inl (fun e => .inr (by have := hvb j e; omega)))).trans (hk6.le (fun j e => .inr (by omega)))
     obtain ⟨n1, n2⟩ := hnext y rest a2 e2 hs2
     refine ⟨hD5.cell 4 rfl, hD5.frz 4, hD5.set 4 _, ⟨g1.keep hk6 (fun j hj _ e => by omega), by rw [List.length_append, hlp]; rfl⟩, hst5, ⟨by rw [List.map_append]; exact n1, by omega⟩, ?_, HK2.out.trans hkw, ?_⟩
     ·exact (((HK.out.le (T := fun j => j = P ∨ D ≤ j) (fun j e => .inl e)).trans hkw)).mono (fun j hj e => by omega)
     ·rw [hst5.meas, HST.out.meas, if_pos rfl]
      simp only [List.length_cons]
      omega
    have hm1 : k + 1 ≤ maxLen := by unfold maxLen; omega
    have hm2 : (k + 1) * 104 ≤ 140737488355328 := by omega
    have HBD : Hid (Keep (fun j => j = P) wr wr.drew) := (Keep.refl _ wr).drew 1
    obtain ⟨-, HB0, -⟩ := HDALL.out wr (Keep.refl _ _)
    clear hP hpre hpa hmeas hTr hRr hpv hro HV hkn hlen hpi hxi hulen hn hcc hqq hxk h2 hsrc hdo hrl hcall hnext hRES HRW HST HK HK2 HDB HFIN HTR HRR hkl
    go_upto_region 7 with fail
    clear p0 p2 y1 x0
    go_region_law (first | (refine Ap.step rfl (.tmp 34) (.tmp 37) 23 (by kernel_rfl) (D + 1) 25 i0 (.agg #[.int .i64 0, .int .i64 0, .string ⟨#[]⟩, .slice none 0 0, .slice none 0 0, .slice none 0 0]) 6 104 Try.underlying23 HI1.out HZ0.out HZ1.out HZ2.out rfl (by decide) (.slice al k cl) k (Dt.flatP ps) (by kernel_rfl) HOWND.out (.slice (some ⟨w2.heap.size, 0, none⟩) 1 1) 1 [.int .i64 y.k, .int .i64 y.n, .string y.s, .slice b1 m1 p1, .slice b2 m2 p2, .slice b3 m3 p3] (by kernel_rfl) HSRD.out rfl (by simp [Value.oneCell']) hm1 hm2 HBS.out ?_; intro v' w5 hown hgrow hat; obtain ⟨a5, c5, rfl⟩ := Dt.row_form hown; obtain ⟨d1, f1, HFN⟩ := HPUSH.out w2 wD w5 y b1 b2 b3 m1 m2 m3 p1 p2 p3 _ rest a2 e2 HKW.out HR2W.out HSTW.out HSAY.out HBWD.out hown hgrow hat; clear hown hgrow hat) | (go_simp; refine HCL.out.mono ?_; rintro e w2 ⟨y, vm, vl, vt, rest, a2, e2, rfl, hr2, -, hst2, hk2, hsay⟩; obtain ⟨b1, m1, p1, b2, m2, p2, b3, m3, p3, rfl, rfl, rfl⟩ := hr2.forms; have HKW : Hid (Keep (fun j => j = P) wr w2) := HBD.out.trans hk2; have HR2W : Hid (Dt.Rep (fun k => wr.heap.size ≤ k) w2 y (.slice b1 m1 p1) (.slice b2 m2 p2) (.slice b3 m3 p3)) := hr2; have HSTW := Lib.hid hst2; have HSAY := Lib.hid hsay; obtain ⟨wD, hwD⟩ : ∃ wD, w2.alloc (.cells #[.int .i64 y.k, .int .i64 y.n, .string y.s, .slice b1 m1 p1, .slice b2 m2 p2, .slice b3 m3 p3] 25) = wD := ⟨_, rfl⟩; have HBWD : Hid (Below w2.heap.size w2 wD) := (new_below hwD).1; have HSRD : Hid (Ap.Src wD (.slice (some ⟨w2.heap.size, 0, none⟩) 1 1) 1 [.int .i64 y.k, .int .i64 y.n, .string y.s, .slice b1 m1 p1, .slice b2 m2 p2, .slice b3 m3 p3]) := Rd.srcNew hwD; obtain ⟨e1, -, -⟩ := HDALL.out w2 HKW.out; obtain ⟨e3, hbs, howD⟩ := HDALL.out wD (HKW.out.trans (keep_of_below HBWD.out)); have HBS := Lib.hid hbs; have HOWND := Lib.hid howD; clear hr2 hst2 hk2 hsay hbs howD; dsimp only))
    all_goals
     go_wp2
     go_roundw
     case rel =>
      obtain ⟨h1, h2, h3, h4, h5, h6, h7⟩ := HFN.out
      exact ⟨k + 1, ps ++ [Dt.P.mk y (.slice b1 m1 p1) (.slice b2 m2 p2) (.slice b3 m3 p3)], a5, c5, q, rest, a2, e2, h1, h2, h3, h4, h5, h6⟩
     case measure => exact HFN.out.2.2.2.2.2.2
end Go.Proofs.Ytcopdfihaheplaa
