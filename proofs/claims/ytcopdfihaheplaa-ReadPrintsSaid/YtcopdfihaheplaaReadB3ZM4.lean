/-
  Several texts of this proof in one: RdRB, RdRC, RdPrintsW.
-/
import Derived.Test.YtcopdfihaheplaaReadB3ZM3
import Derived.Deep.RegionHeld3
namespace Go.Proofs.Ytcopdfihaheplaa
open Go.RowKit
attribute [local go_sem] Oper.semAt_some
namespace Rd
open Dt
structure Bw (base : Nat) (w0 : World) (v0 : Value) (w : World) (acc : List UInt8) (v : Value) : Prop where
 row : w.ownsRow base 5 1 v acc.length (Lib.byteCells acc)
 kp : Keep (fun k => v0.ownBlock = some k) w0 w
 ow : v.ownBlock = v0.ownBlock ∨ ∃ k, v.ownBlock = some k ∧ w0.heap.size ≤ k
theorem Bw.start {base : Nat} {w : World} {acc : List UInt8} {v : Value} (hr : w.ownsRow base 5 1 v acc.length (Lib.byteCells acc)) : Bw base w v w acc v := ⟨hr, Keep.refl _ _, .inl rfl⟩
theorem Bw.again {base : Nat} {w0 w : World} {acc : List UInt8} {v0 v : Value} (h : Bw base w0 v0 w acc v) : Bw base w v w acc v := ⟨h.row, Keep.refl _ _, .inl rfl⟩
theorem Bw.below {base : Nat} {w0 w w' : World} {acc : List UInt8} {v0 v : Value} (h : Bw base w0 v0 w acc v) (hb : Below w.heap.size w w') : Bw base w0 v0 w' acc v :=
 ⟨Dt.own_keep h.row (S := fun _ => False) (keep_of_below hb) (fun _ _ => id), h.kp.below hb, h.ow⟩
theorem Bw.trans {base : Nat} {w0 w w' : World} {acc acc' : List UInt8} {v0 v v' : Value} (h : Bw base w0 v0 w acc v) (h2 : Bw base w v w' acc' v') : Bw base w0 v0 w' acc' v' := by
 refine ⟨h2.row, ?_, ?_⟩
 ·refine (h.kp.le (T := fun k => v0.ownBlock = some k ∨ v.ownBlock = some k) (fun k e => .inl e)).trans (h2.kp.le (fun k e => .inr e)) |>.mono (fun k hk e => ?_)
  rcases e with e | e
  ·exact e
  ·rcases h.ow with o | ⟨j, o, hj⟩
   ·exact o ▸ e
   ·rw [o] at e; cases e; omega
 ·rcases h2.ow with o | ⟨j, o, hj⟩
  ·rcases h.ow with o2 | ⟨j, o2, hj⟩
   ·exact .inl (o.trans o2)
   ·exact .inr ⟨j, o.trans o2, hj⟩
  ·exact .inr ⟨j, o, Nat.le_trans h.kp.size hj⟩
theorem Bw.from {base : Nat} {w w1 w' : World} {acc : List UInt8} {v0 v : Value} (hb : Below w.heap.size w w1) (h : Bw base w1 v0 w' acc v) : Bw base w v0 w' acc v :=
 ⟨h.row, (keep_of_below hb).trans h.kp, h.ow.elim .inl (fun ⟨k, e, hk⟩ => .inr ⟨k, e, Nat.le_trans hb.size hk⟩)⟩
theorem Bw.push {base : Nat} {w w2 : World} {acc x : List UInt8} {v v' : Value} 
  (hown : w2.ownsRow base 5 1 v' (acc.length + x.length) (Lib.byteCells acc ++ Lib.byteCells x)) (hg : w.grownBy w2 v.ownBlock) (hat : v'.ownBlock = v.ownBlock ∨ v'.ownBlock = some w.heap.size) :
  Bw base w v w2 (acc ++ x) v' := by
 refine ⟨?_, Dt.Cd_keep_grown hg, hat.elim .inl (fun e => .inr ⟨_, e, Nat.le_refl _⟩)⟩
 rw [List.length_append, Lib.byteCells_append]
 exact hown
def RP (base : Nat) (acc : List UInt8) (v0 : Value) (w : World) (e : Ending) (w' : World) : Prop := ∃ v, e = .returned v ∧ Bw base w v0 w' acc v
theorem src_form {w : World} {v : Value} {n : Nat} {l : List Value} (h : Ap.Src w v n l) : ∃ a c, v = .slice a n c := by
 rcases h with ⟨rfl, rfl, -⟩ | ⟨ad, c, rfl, -⟩
 ·exact ⟨_, _, rfl⟩
 ·exact ⟨_, _, rfl⟩
theorem byte_one (x : List UInt8) : ∀ u ∈ Lib.byteCells x, u.oneCell' = true := fun u hu => by
 unfold Lib.byteCells at hu
 obtain ⟨c, -, rfl⟩ := List.mem_map.1 hu
 rfl
theorem byte_len (x : List UInt8) : (Lib.byteCells x).length = x.length * 1 := by unfold Lib.byteCells; simp
def TextIs (d : D) : Prop := ∀ (G : Nat → Prop) (base : Nat) (acc : List UInt8) (v vm vl vt : Value) (w : World), Wf d → Fine d → Rep G w d vm vl vt → (∀ k, G k → k < base) → w.ownsRow base 5 1 v acc.length (Lib.byteCells acc) → base ≤ w.heap.size → acc.length + (txt d).length ≤ 140737488355328 →
 Calls Try.prog 30 #[v, .agg #[.int .i64 d.k, .int .i64 d.n, .string d.s, vm, vl, vt]] w (RP base (acc ++ txt d) v w)
end Rd
set_option maxRecDepth 100000 in
set_option maxHeartbeats 8000000 in
theorem text_leaf1 {G : Nat → Prop} (n : Int) (s : ByteArray) (m : List Int) (l t : List Dt.D) (base : Nat) (acc : List UInt8) (v vm vl vt : Value) (w : World) (_hs : s.size ≤ 1000000) (hR : Dt.Rep G w (.mk 1 n s m l t) vm vl vt)
  (hrow : w.ownsRow base 5 1 v acc.length (Lib.byteCells acc)) (hb : base ≤ w.heap.size) (hl : acc.length + (Rd.wt 1 n s.data.toList).length ≤ 140737488355328) :
  Calls Try.prog 30 #[v, .agg #[.int .i64 1, .int .i64 n, .string s, vm, vl, vt]] w (Rd.RP base (acc ++ Rd.wt 1 n s.data.toList) v w) := by
 obtain ⟨b1, m1, p1, b2, m2, p2, b3, m3, p3, rfl, rfl, rfl⟩ := hR.forms
 obtain ⟨w1, hw1⟩ : ∃ w1, w.alloc (.cells #[.int .i64 1, .int .i64 n, .string s, .slice b1 m1 p1, .slice b2 m2 p2, .slice b3 m3 p3] 25) = w1 := ⟨_, rfl⟩
 obtain ⟨hb1, hs1⟩ := new_below hw1
 have hX1 := Hp.new hw1
 obtain ⟨X, hX⟩ : ∃ X, w.heap.size = X := ⟨_, rfl⟩
 rw [hX] at hX1 hs1
 obtain ⟨av, cv, rfl⟩ := Dt.row_form hrow
 obtain ⟨i0, hi, hz0, hz1, hz2⟩ := info_parts Cd.infoB
 have HI0 := Lib.hid hi
 have HZ0 := Lib.hid hz0
 have HZ1 := Lib.hid hz1
 have HZ2 := Lib.hid hz2
 clear hi hz0 hz1 hz2
 obtain ⟨c, x, hx, HT⟩ : ∃ (c : Int) (x : List UInt8), Rd.wt 1 n s.data.toList = x ∧ Hid (∀ W, Calls Try.prog 71 #[.agg #[.int .i64 9, .int .i64 0, .int .i64 0, .int .i64 n, .string ⟨#[]⟩]] W fun e w' => e = .returned (.tuple #[.string ⟨x.toArray⟩, .int .i64 c]) ∧ Below W.heap.size W w') := by
  refine ⟨(Tx.text 9 n (⟨#[]⟩ : ByteArray).data.toList).elim 30 (fun _ => 0), _, rfl, fun W => ?_⟩
  have h := TextR9_any 0 0 n ⟨#[]⟩ W (by decide)
  rw [Rd.V_getD] at h
  exact h
 rw [hx] at hl ⊢
 have hcw := rWord_any 9 n c ⟨#[]⟩ x w1 HT
 have HB1 := Lib.hid hb1
 have HROW := Lib.hid hrow
 have HBB : Hid (base ≤ w.heap.size ∧ acc.length + x.length ≤ 140737488355328) := ⟨hb, hl⟩
 have x0 := hX1.cell 0 rfl
 have x1 := hX1.cell 1 rfl
 have x2 := hX1.cell 2 rfl
 have x3 := hX1.cell 3 rfl
 have x4 := hX1.cell 4 rfl
 have x5 := hX1.cell 5 rfl
 clear hX1 hb1 hs1 hR hb hx hrow hl HT
 go_enter Try.func30, Try.ntmps30
 go_wp2_with fail
 refine hcw.mono ?_
 rintro e w2 ⟨v2, rfl, hsrc, hb2⟩
 obtain ⟨a2, c2, rfl⟩ := Rd.src_form hsrc
 have hbw := ((Rd.Bw.start HROW.out).below HB1.out).below hb2
 have hrow2 := hbw.row
 have HBW := Lib.hid hbw
 have hbs : base ≤ w2.heap.size := Nat.le_trans HBB.out.1 hbw.kp.size
 have h63 : acc.length + x.length ≤ maxLen := by have := HBB.out.2; unfold maxLen; omega
 have hby : (acc.length + x.length) * 1 ≤ 140737488355328 := by have := HBB.out.2; omega
 clear hcw hb2 hbw hw1 x0 x1 x2 x3 x4 x5
 go_wp2_with (at_builtin; refine Ap.list rfl _ _ 53 rfl base 5 i0 (.int .u8 0) 1 1 Try.underlying53 HI0.out HZ0.out HZ1.out HZ2.out rfl (by decide) _ acc.length _ rfl hrow2 (.slice a2 x.length c2) x.length (Lib.byteCells x) rfl hsrc (Rd.byte_len x) (Rd.byte_one x) h63 hby hbs ?_)
 intro v3 w3 hown hgr hat
 have HE : Hid (Rd.RP base (acc ++ x) (.slice av acc.length cv) w (.returned v3) w3) := ⟨v3, rfl, HBW.out.trans (Rd.Bw.push hown hgr hat)⟩
 obtain ⟨a3, c3, rfl⟩ := Dt.row_form hown
 clear hown hgr hat hrow2 hsrc h63 hby hbs
 go_wp2
 go_ret
 exact HE.out
set_option maxRecDepth 100000 in
set_option maxHeartbeats 8000000 in
theorem text_leaf2 {G : Nat → Prop} (n : Int) (s : ByteArray) (m : List Int) (l t : List Dt.D) (base : Nat) (acc : List UInt8) (v vm vl vt : Value) (w : World) (_hs : s.size ≤ 1000000) (hR : Dt.Rep G w (.mk 2 n s m l t) vm vl vt)
  (hrow : w.ownsRow base 5 1 v acc.length (Lib.byteCells acc)) (hb : base ≤ w.heap.size) (hl : acc.length + (Rd.wt 2 n s.data.toList).length ≤ 140737488355328) :
  Calls Try.prog 30 #[v, .agg #[.int .i64 2, .int .i64 n, .string s, vm, vl, vt]] w (Rd.RP base (acc ++ Rd.wt 2 n s.data.toList) v w) := by
 obtain ⟨b1, m1, p1, b2, m2, p2, b3, m3, p3, rfl, rfl, rfl⟩ := hR.forms
 obtain ⟨w1, hw1⟩ : ∃ w1, w.alloc (.cells #[.int .i64 2, .int .i64 n, .string s, .slice b1 m1 p1, .slice b2 m2 p2, .slice b3 m3 p3] 25) = w1 := ⟨_, rfl⟩
 obtain ⟨hb1, hs1⟩ := new_below hw1
 have hX1 := Hp.new hw1
 obtain ⟨X, hX⟩ : ∃ X, w.heap.size = X := ⟨_, rfl⟩
 rw [hX] at hX1 hs1
 obtain ⟨av, cv, rfl⟩ := Dt.row_form hrow
 obtain ⟨i0, hi, hz0, hz1, hz2⟩ := info_parts Cd.infoB
 have HI0 := Lib.hid hi
 have HZ0 := Lib.hid hz0
 have HZ1 := Lib.hid hz1
 have HZ2 := Lib.hid hz2
 clear hi hz0 hz1 hz2
 obtain ⟨c, x, hx, HT⟩ : ∃ (c : Int) (x : List UInt8), Rd.wt 2 n s.data.toList = x ∧ Hid (∀ W, Calls Try.prog 71 #[.agg #[.int .i64 10, .int .i64 0, .int .i64 0, .int .i64 n, .string ⟨#[]⟩]] W fun e w' => e = .returned (.tuple #[.string ⟨x.toArray⟩, .int .i64 c]) ∧ Below W.heap.size W w') := by
  refine ⟨(Tx.text 10 n (⟨#[]⟩ : ByteArray).data.toList).elim 30 (fun _ => 0), _, rfl, fun W => ?_⟩
  have h := TextR10_any 0 0 n ⟨#[]⟩ W (by decide)
  rw [Rd.V_getD] at h
  exact h
 rw [hx] at hl ⊢
 have hcw := rWord_any 10 n c ⟨#[]⟩ x w1 HT
 have HB1 := Lib.hid hb1
 have HROW := Lib.hid hrow
 have HBB : Hid (base ≤ w.heap.size ∧ acc.length + x.length ≤ 140737488355328) := ⟨hb, hl⟩
 have x0 := hX1.cell 0 rfl
 have x1 := hX1.cell 1 rfl
 have x2 := hX1.cell 2 rfl
 have x3 := hX1.cell 3 rfl
 have x4 := hX1.cell 4 rfl
 have x5 := hX1.cell 5 rfl
 clear hX1 hb1 hs1 hR hb hx hrow hl HT
 go_enter Try.func30, Try.ntmps30
 go_wp2_with fail
 refine hcw.mono ?_
 rintro e w2 ⟨v2, rfl, hsrc, hb2⟩
 obtain ⟨a2, c2, rfl⟩ := Rd.src_form hsrc
 have hbw := ((Rd.Bw.start HROW.out).below HB1.out).below hb2
 have hrow2 := hbw.row
 have HBW := Lib.hid hbw
 have hbs : base ≤ w2.heap.size := Nat.le_trans HBB.out.1 hbw.kp.size
 have h63 : acc.length + x.length ≤ maxLen := by have := HBB.out.2; unfold maxLen; omega
 have hby : (acc.length + x.length) * 1 ≤ 140737488355328 := by have := HBB.out.2; omega
 clear hcw hb2 hbw hw1 x0 x1 x2 x3 x4 x5
 go_wp2_with (at_builtin; refine Ap.list rfl _ _ 53 rfl base 5 i0 (.int .u8 0) 1 1 Try.underlying53 HI0.out HZ0.out HZ1.out HZ2.out rfl (by decide) _ acc.length _ rfl hrow2 (.slice a2 x.length c2) x.length (Lib.byteCells x) rfl hsrc (Rd.byte_len x) (Rd.byte_one x) h63 hby hbs ?_)
 intro v3 w3 hown hgr hat
 have HE : Hid (Rd.RP base (acc ++ x) (.slice av acc.length cv) w (.returned v3) w3) := ⟨v3, rfl, HBW.out.trans (Rd.Bw.push hown hgr hat)⟩
 obtain ⟨a3, c3, rfl⟩ := Dt.row_form hown
 clear hown hgr hat hrow2 hsrc h63 hby hbs
 go_wp2
 go_ret
 exact HE.out
set_option maxRecDepth 100000 in
set_option maxHeartbeats 8000000 in
theorem text_leaf3 {G : Nat → Prop} (n : Int) (s : ByteArray) (m : List Int) (l t : List Dt.D) (base : Nat) (acc : List UInt8) (v vm vl vt : Value) (w : World) (_hs : s.size ≤ 1000000) (hR : Dt.Rep G w (.mk 3 n s m l t) vm vl vt)
  (hrow : w.ownsRow base 5 1 v acc.length (Lib.byteCells acc)) (hb : base ≤ w.heap.size) (hl : acc.length + (Rd.wt 3 n s.data.toList).length ≤ 140737488355328) :
  Calls Try.prog 30 #[v, .agg #[.int .i64 3, .int .i64 n, .string s, vm, vl, vt]] w (Rd.RP base (acc ++ Rd.wt 3 n s.data.toList) v w) := by
 obtain ⟨b1, m1, p1, b2, m2, p2, b3, m3, p3, rfl, rfl, rfl⟩ := hR.forms
 obtain ⟨w1, hw1⟩ : ∃ w1, w.alloc (.cells #[.int .i64 3, .int .i64 n, .string s, .slice b1 m1 p1, .slice b2 m2 p2, .slice b3 m3 p3] 25) = w1 := ⟨_, rfl⟩
 obtain ⟨hb1, hs1⟩ := new_below hw1
 have hX1 := Hp.new hw1
 obtain ⟨X, hX⟩ : ∃ X, w.heap.size = X := ⟨_, rfl⟩
 rw [hX] at hX1 hs1
 obtain ⟨av, cv, rfl⟩ := Dt.row_form hrow
 obtain ⟨i0, hi, hz0, hz1, hz2⟩ := info_parts Cd.infoB
 have HI0 := Lib.hid hi
 have HZ0 := Lib.hid hz0
 have HZ1 := Lib.hid hz1
 have HZ2 := Lib.hid hz2
 clear hi hz0 hz1 hz2
 obtain ⟨c, x, hx, HT⟩ : ∃ (c : Int) (x : List UInt8), Rd.wt 3 n s.data.toList = x ∧ Hid (∀ W, Calls Try.prog 71 #[.agg #[.int .i64 11, .int .i64 0, .int .i64 0, .int .i64 n, .string ⟨#[]⟩]] W fun e w' => e = .returned (.tuple #[.string ⟨x.toArray⟩, .int .i64 c]) ∧ Below W.heap.size W w') := by
  refine ⟨(Tx.text 11 n (⟨#[]⟩ : ByteArray).data.toList).elim 30 (fun _ => 0), _, rfl, fun W => ?_⟩
  have h := TextR11_any 0 0 n ⟨#[]⟩ W (by decide)
  rw [Rd.V_getD] at h
  exact h
 rw [hx] at hl ⊢
 have hcw := rWord_any 11 n c ⟨#[]⟩ x w1 HT
 have HB1 := Lib.hid hb1
 have HROW := Lib.hid hrow
 have HBB : Hid (base ≤ w.heap.size ∧ acc.length + x.length ≤ 140737488355328) := ⟨hb, hl⟩
 have x0 := hX1.cell 0 rfl
 have x1 := hX1.cell 1 rfl
 have x2 := hX1.cell 2 rfl
 have x3 := hX1.cell 3 rfl
 have x4 := hX1.cell 4 rfl
 have x5 := hX1.cell 5 rfl
 clear hX1 hb1 hs1 hR hb hx hrow hl HT
 go_enter Try.func30, Try.ntmps30
 go_wp2_with fail
 refine hcw.mono ?_
 rintro e w2 ⟨v2, rfl, hsrc, hb2⟩
 obtain ⟨a2, c2, rfl⟩ := Rd.src_form hsrc
 have hbw := ((Rd.Bw.start HROW.out).below HB1.out).below hb2
 have hrow2 := hbw.row
 have HBW := Lib.hid hbw
 have hbs : base ≤ w2.heap.size := Nat.le_trans HBB.out.1 hbw.kp.size
 have h63 : acc.length + x.length ≤ maxLen := by have := HBB.out.2; unfold maxLen; omega
 have hby : (acc.length + x.length) * 1 ≤ 140737488355328 := by have := HBB.out.2; omega
 clear hcw hb2 hbw hw1 x0 x1 x2 x3 x4 x5
 go_wp2_with (at_builtin; refine Ap.list rfl _ _ 53 rfl base 5 i0 (.int .u8 0) 1 1 Try.underlying53 HI0.out HZ0.out HZ1.out HZ2.out rfl (by decide) _ acc.length _ rfl hrow2 (.slice a2 x.length c2) x.length (Lib.byteCells x) rfl hsrc (Rd.byte_len x) (Rd.byte_one x) h63 hby hbs ?_)
 intro v3 w3 hown hgr hat
 have HE : Hid (Rd.RP base (acc ++ x) (.slice av acc.length cv) w (.returned v3) w3) := ⟨v3, rfl, HBW.out.trans (Rd.Bw.push hown hgr hat)⟩
 obtain ⟨a3, c3, rfl⟩ := Dt.row_form hown
 clear hown hgr hat hrow2 hsrc h63 hby hbs
 go_wp2
 go_ret
 exact HE.out
set_option maxRecDepth 100000 in
set_option maxHeartbeats 8000000 in
theorem text_leaf4 {G : Nat → Prop} (n : Int) (s : ByteArray) (m : List Int) (l t : List Dt.D) (base : Nat) (acc : List UInt8) (v vm vl vt : Value) (w : World) (hs : s.size ≤ 1000000) (hR : Dt.Rep G w (.mk 4 n s m l t) vm vl vt)
  (hrow : w.ownsRow base 5 1 v acc.length (Lib.byteCells acc)) (hb : base ≤ w.heap.size) (hl : acc.length + (Rd.wt 4 n s.data.toList).length ≤ 140737488355328) :
  Calls Try.prog 30 #[v, .agg #[.int .i64 4, .int .i64 n, .string s, vm, vl, vt]] w (Rd.RP base (acc ++ Rd.wt 4 n s.data.toList) v w) := by
 obtain ⟨b1, m1, p1, b2, m2, p2, b3, m3, p3, rfl, rfl, rfl⟩ := hR.forms
 obtain ⟨w1, hw1⟩ : ∃ w1, w.alloc (.cells #[.int .i64 4, .int .i64 n, .string s, .slice b1 m1 p1, .slice b2 m2 p2, .slice b3 m3 p3] 25) = w1 := ⟨_, rfl⟩
 obtain ⟨hb1, hs1⟩ := new_below hw1
 have hX1 := Hp.new hw1
 obtain ⟨X, hX⟩ : ∃ X, w.heap.size = X := ⟨_, rfl⟩
 rw [hX] at hX1 hs1
 obtain ⟨av, cv, rfl⟩ := Dt.row_form hrow
 obtain ⟨i0, hi, hz0, hz1, hz2⟩ := info_parts Cd.infoB
 have HI0 := Lib.hid hi
 have HZ0 := Lib.hid hz0
 have HZ1 := Lib.hid hz1
 have HZ2 := Lib.hid hz2
 clear hi hz0 hz1 hz2
 obtain ⟨c, x, hx, HT⟩ : ∃ (c : Int) (x : List UInt8), Rd.wt 4 n s.data.toList = x ∧ Hid (∀ W, Calls Try.prog 71 #[.agg #[.int .i64 12, .int .i64 0, .int .i64 0, .int .i64 0, .string s]] W fun e w' => e = .returned (.tuple #[.string ⟨x.toArray⟩, .int .i64 c]) ∧ Below W.heap.size W w') := by
  refine ⟨(Tx.text 12 0 (s : ByteArray).data.toList).elim 30 (fun _ => 0), _, rfl, fun W => ?_⟩
  have h := TextR12_any 0 0 0 s W hs
  rw [Rd.V_getD] at h
  exact h
 rw [hx] at hl ⊢
 have hcw := rWord_any 12 0 c s x w1 HT
 have HB1 := Lib.hid hb1
 have HROW := Lib.hid hrow
 have HBB : Hid (base ≤ w.heap.size ∧ acc.length + x.length ≤ 140737488355328) := ⟨hb, hl⟩
 have x0 := hX1.cell 0 rfl
 have x1 := hX1.cell 1 rfl
 have x2 := hX1.cell 2 rfl
 have x3 := hX1.cell 3 rfl
 have x4 := hX1.cell 4 rfl
 have x5 := hX1.cell 5 rfl
 clear hX1 hb1 hs1 hR hb hx hrow hl HT
 go_enter Try.func30, Try.ntmps30
 go_wp2_with fail
 refine hcw.mono ?_
 rintro e w2 ⟨v2, rfl, hsrc, hb2⟩
 obtain ⟨a2, c2, rfl⟩ := Rd.src_form hsrc
 have hbw := ((Rd.Bw.start HROW.out).below HB1.out).below hb2
 have hrow2 := hbw.row
 have HBW := Lib.hid hbw
 have hbs : base ≤ w2.heap.size := Nat.le_trans HBB.out.1 hbw.kp.size
 have h63 : acc.length + x.length ≤ maxLen := by have := HBB.out.2; unfold maxLen; omega
 have hby : (acc.length + x.length) * 1 ≤ 140737488355328 := by have := HBB.out.2; omega
 clear hcw hb2 hbw hw1 x0 x1 x2 x3 x4 x5
 go_wp2_with (at_builtin; refine Ap.list rfl _ _ 53 rfl base 5 i0 (.int .u8 0) 1 1 Try.underlying53 HI0.out HZ0.out HZ1.out HZ2.out rfl (by decide) _ acc.length _ rfl hrow2 (.slice a2 x.length c2) x.length (Lib.byteCells x) rfl hsrc (Rd.byte_len x) (Rd.byte_one x) h63 hby hbs ?_)
 intro v3 w3 hown hgr hat
 have HE : Hid (Rd.RP base (acc ++ x) (.slice av acc.length cv) w (.returned v3) w3) := ⟨v3, rfl, HBW.out.trans (Rd.Bw.push hown hgr hat)⟩
 obtain ⟨a3, c3, rfl⟩ := Dt.row_form hown
 clear hown hgr hat hrow2 hsrc h63 hby hbs
 go_wp2
 go_ret
 exact HE.out
set_option maxRecDepth 100000 in
set_option maxHeartbeats 8000000 in
theorem text_leaf5 {G : Nat → Prop} (n : Int) (s : ByteArray) (m : List Int) (l t : List Dt.D) (base : Nat) (acc : List UInt8) (v vm vl vt : Value) (w : World) (hs : s.size ≤ 1000000) (hR : Dt.Rep G w (.mk 5 n s m l t) vm vl vt)
  (hrow : w.ownsRow base 5 1 v acc.length (Lib.byteCells acc)) (hb : base ≤ w.heap.size) (hl : acc.length + s.data.toList.length ≤ 140737488355328) :
  Calls Try.prog 30 #[v, .agg #[.int .i64 5, .int .i64 n, .string s, vm, vl, vt]] w (Rd.RP base (acc ++ s.data.toList) v w) := by
 obtain ⟨b1, m1, p1, b2, m2, p2, b3, m3, p3, rfl, rfl, rfl⟩ := hR.forms
 obtain ⟨w1, hw1⟩ : ∃ w1, w.alloc (.cells #[.int .i64 5, .int .i64 n, .string s, .slice b1 m1 p1, .slice b2 m2 p2, .slice b3 m3 p3] 25) = w1 := ⟨_, rfl⟩
 obtain ⟨hb1, hs1⟩ := new_below hw1
 have hX1 := Hp.new hw1
 obtain ⟨X, hX⟩ : ∃ X, w.heap.size = X := ⟨_, rfl⟩
 rw [hX] at hX1 hs1
 obtain ⟨av, cv, rfl⟩ := Dt.row_form hrow
 obtain ⟨i0, hi, hz0, hz1, hz2⟩ := info_parts Cd.infoB
 have HI0 := Lib.hid hi
 have HZ0 := Lib.hid hz0
 have HZ1 := Lib.hid hz1
 have HZ2 := Lib.hid hz2
 clear hi hz0 hz1 hz2
 obtain ⟨sl, rfl⟩ : ∃ sl : List UInt8, s = ⟨sl.toArray⟩ := ⟨s.data.toList, rfl⟩
 rw [show (⟨sl.toArray⟩ : ByteArray).data.toList = sl from rfl] at hl ⊢
 have hxl : (⟨sl.toArray⟩ : ByteArray).size = sl.length := rfl
 have HB1 := Lib.hid hb1
 have hbw := (Rd.Bw.start hrow).below hb1
 have hrow1 := hbw.row
 have HBW := Lib.hid hbw
 have hbs : base ≤ w1.heap.size := by have := hb1.size; omega
 have x0 := hX1.cell 0 rfl
 have x1 := hX1.cell 1 rfl
 have x2 := hX1.cell 2 rfl
 have x3 := hX1.cell 3 rfl
 have x4 := hX1.cell 4 rfl
 have x5 := hX1.cell 5 rfl
 clear hX1 hb1 hs1 hR hb hrow hs hbw
 go_enter Try.func30, Try.ntmps30
 go_wp2_with (at_builtin; refine Ap.strList rfl _ _ 53 9 rfl base 5 i0 Try.underlying53 Try.underlying9 HI0.out HZ0.out HZ1.out HZ2.out _ _ _ rfl hrow1 ⟨sl.toArray⟩ rfl (by rw [hxl]; unfold maxLen; omega) (by rw [hxl]; omega) hbs ?_)
 intro v3 w3 hown hgr hat
 replace hown : w3.ownsRow base 5 1 v3 (acc.length + sl.length) (Lib.byteCells acc ++ Lib.byteCells sl) := hown
 have HE : Hid (Rd.RP base (acc ++ sl) (.slice av acc.length cv) w (.returned v3) w3) := ⟨v3, rfl, HBW.out.trans (Rd.Bw.push hown hgr hat)⟩
 obtain ⟨a3, c3, rfl⟩ := Dt.row_form hown
 clear hown hgr hat hrow1 hbs
 go_wp2
 go_ret
 exact HE.out
set_option maxRecDepth 100000 in
set_option maxHeartbeats 16000000 in
theorem text_short4 {G : Nat → Prop} (n : Int) (s : ByteArray) (m : List Int) (y z : Dt.D) (t : List Dt.D) (hz : Rd.TextIs z) (hW : Dt.Wf z) (hFi : Rd.Fine z) (hsh : Rd.shortL 6 [y, z] = 4) (base : Nat) (acc : List UInt8) (v vm vl vt : Value) (w : World) (hR : Dt.Rep G w (.mk 6 n s m [y, z] t) vm vl vt) (hG : ∀ k, G k → k < base)
  (hrow : w.ownsRow base 5 1 v acc.length (Lib.byteCells acc)) (hb : base ≤ w.heap.size) (hl : acc.length + ((Tx.signL 4).length + (Rd.txt z).length) ≤ 140737488355328) :
  Calls Try.prog 30 #[v, .agg #[.int .i64 6, .int .i64 n, .string s, vm, vl, vt]] w (Rd.RP base (acc ++ (Tx.signL 4 ++ Rd.txt z)) v w) := by
 have hR0 := hR
 obtain ⟨b1, m1, p1, b2, m2, p2, b3, m3, p3, rfl, rfl, rfl⟩ := hR.forms
 obtain ⟨w1, hw1⟩ : ∃ w1, w.alloc (.cells #[.int .i64 6, .int .i64 n, .string s, .slice b1 m1 p1, .slice b2 m2 p2, .slice b3 m3 p3] 25) = w1 := ⟨_, rfl⟩
 obtain ⟨hb1, hs1⟩ := new_below hw1
 have hX1 := Hp.new hw1
 obtain ⟨X, hX⟩ : ∃ X, w.heap.size = X := ⟨_, rfl⟩
 rw [hX] at hX1 hs1
 obtain ⟨av, cv, rfl⟩ := Dt.row_form hrow
 obtain ⟨i0, hi, hz0, hz1, hz2⟩ := info_parts Cd.infoB
 have HI0 := Lib.hid hi
 have HZ0 := Lib.hid hz0
 have HZ1 := Lib.hid hz1
 have HZ2 := Lib.hid hz2
 clear hi hz0 hz1 hz2
 have hq := rShort_any (.mk 6 n s m [y, z] t) _ _ _ w1 (hR.below hb1)
 rw [show Rd.shortL (Dt.D.mk 6 n s m [y, z] t).k (Dt.D.mk 6 n s m [y, z] t).l = 4 from hsh] at hq
 simp only [Dt.D.k, Dt.D.n, Dt.D.s] at hq
 obtain ⟨sg, hsg⟩ : ∃ sg, Tx.signL 4 = sg := ⟨_, rfl⟩
 have HT : Hid (∀ W, Calls Try.prog 71 #[.agg #[.int .i64 4, .int .i64 0, .int .i64 0, .int .i64 0, .string ⟨#[]⟩]] W fun e w' => e = .returned (.tuple #[.string ⟨sg.toArray⟩, .int .i64 0]) ∧ Below W.heap.size W w') := by
  rw [← hsg]
  exact fun W => TextR4_any 0 0 0 ⟨#[]⟩ W
 rw [hsg] at hl ⊢
 have hrw := ((Dt.rep_iff _ _ _ _ _ _).1 hR).2.1
 obtain ⟨al, cl, e2, -, hcs⟩ := hrw
 cases e2
 obtain ⟨g, o, hbg, hGg, hgl, hreps⟩ := hcs (by simp [Dt.D.l])
 obtain rfl := hbg
 obtain ⟨um, ul, ut, hsix, hrz⟩ := hreps.at 1 (by simp [Dt.D.l])
 obtain ⟨d1, f1, q1, d2, f2, q2, d3, f3, q3, rfl, rfl, rfl⟩ := hrz.forms
 have HSX : Hid (Dt.Six w g (o + 6) z (.slice d1 f1 q1) (.slice d2 f2 q2) (.slice d3 f3 q3)) := hsix
 have HRZ : Hid (Dt.Rep G w z (.slice d1 f1 q1) (.slice d2 f2 q2) (.slice d3 f3 q3)) := hrz
 have HGG := Lib.hid hG
 have HGL : Hid (g < base ∧ g < w.heap.size) := ⟨hG g hGg, hgl⟩
 have HZ := Lib.hid hz
 have HWZ : Hid (Dt.Wf z ∧ Rd.Fine z) := ⟨hW, hFi⟩
 have HB1 := Lib.hid hb1
 have HBB : Hid (base ≤ w.heap.size ∧ acc.length + (sg.length + (Rd.txt z).length) ≤ 140737488355328) := ⟨hb, hl⟩
 rw [show (Dt.D.mk 6 n s m [y, z] t).l.length = 2 from rfl] at hw1 hX1 hq ⊢
 have HX1 := Lib.hid hX1
 have HROW := Lib.hid hrow
 have HXX : Hid (w.heap.size = X) := hX
 have x0 := hX1.cell 0 rfl
 have x1 := hX1.cell 1 rfl
 have x2 := hX1.cell 2 rfl
 have x3 := hX1.cell 3 rfl
 have x4 := hX1.cell 4 rfl
 have x5 := hX1.cell 5 rfl
 clear hX1 hb1 hs1 hR hR0 hb hsg hcs hreps hsix hrz hG hGg hgl hz hW hFi hrow hl
 go_enter Try.func30, Try.ntmps30
 go_wp2_with fail
 refine hq.mono ?_
 rintro e w2 ⟨rfl, hb2⟩
 have HBW2 := Lib.hid ((((Rd.Bw.start HROW.out).below HB1.out).below hb2).again)
 have HX2 := Lib.hid (HX1.out.below hb2)
 have HB2 : Hid (Below w.heap.size w w2) := HB1.out.trans (hb2.mono HB1.out.size)
 have HOW : Hid (∀ k, (Value.slice av acc.length cv).ownBlock = some k → base ≤ k ∧ k < w.heap.size) := fun k e => HROW.out.lt k e
 have HSX2 := Lib.hid (HSX.out.keep (keep_of_below (S := fun _ => False) HB2.out) HGL.out.2 id)
 have HRZ2 := Lib.hid (HRZ.out.below HB2.out)
 have HKP : Hid (∀ W, Keep (fun k => (Value.slice av acc.length cv).ownBlock = some k) w2 W → (W.cell? ⟨X, 4, none⟩ = some (.slice (some ⟨g, o, none⟩) 2 p2) ∧ Dt.Six W g (o + 6) z (.slice d1 f1 q1) (.slice d2 f2 q2) (.slice d3 f3 q3))) := fun W hk =>
  ⟨(HX2.out.keep hk (fun e => by have := (HOW.out X e).2; have := HXX.out; omega)).cell 4 rfl, HSX2.out.keep hk (by have := HGL.out.2; have := HB2.out.size; omega) (fun e => by have := (HOW.out g e).1; have := HGL.out.1; omega)⟩
 have HRP : Hid (∀ W, Keep (fun k => (Value.slice av acc.length cv).ownBlock = some k) w2 W → Dt.Rep G W z (.slice d1 f1 q1) (.slice d2 f2 q2) (.slice d3 f3 q3)) := fun W hk => Dt.Rep.keep hk (fun b hb _ e => by have := (HOW.out b e).1; have := HGG.out b hb; omega) z HRZ2.out
 have HBD : Hid (Rd.Bw base w2 (.slice av acc.length cv) w2.drew acc (.slice av acc.length cv)) := HBW2.out.below (Below.refl _ w2).drew
 have HBB : Hid (base ≤ w2.heap.size ∧ acc.length + (sg.length + (Rd.txt z).length) ≤ 140737488355328) := ⟨Nat.le_trans HBB.out.1 HB2.out.size, HBB.out.2⟩
 have HS0 := HKP.out _ HBD.out.kp
 clear hq hb2 hw1 x0 x1 x2 x3 x4 x5 HSX HRZ HX1
 go_upto_region 14 with fail
 refine wp_region_noPanic ?_
 refine wp_region_held_drew (S := fun W => W.cell? ⟨X, 4, none⟩ = some (.slice (some ⟨g, o, none⟩) 2 p2) ∧ Dt.Six W g (o + 6) z (.slice d1 f1 q1) (.slice d2 f2 q2) (.slice d3 f3 q3)) (by kernel_rfl) HS0 (fun hHeld => ?_)
 refine wpAnyH_take (i := 0) (oi := ⟨_, _, _, _, _, _⟩) (v := ?_) rfl (by kernel_rfl) (by kernel_rfl) (by kernel_rfl) (fun _ _ _ h => h) (Or.inl ⟨by rfl, ?_⟩) (by assumption) ?_
 rotate_left
 ·intro w hSw
  clear hSw
  go_simp
  try with_reducible rfl
 simp only [Act.put, List.setIfInBounds_toArray, List.set_cons_zero, List.set_cons_succ]
 refine wpAnyH_take (i := 1) (oi := ⟨_, _, _, _, _, _⟩) (v := ?_) rfl (by kernel_rfl) (by kernel_rfl) (by kernel_rfl) (fun _ _ _ h => h) (Or.inl ⟨by rfl, ?_⟩) (by assumption) ?_
 rotate_left
 ·intro w hSw
  clear hSw
  go_simp
  try with_reducible rfl
 simp only [Act.put, List.setIfInBounds_toArray, List.set_cons_zero, List.set_cons_succ]
 refine wpAnyH_take (i := 2) (oi := ⟨_, _, _, _, _, _⟩) (v := ?_) rfl (by kernel_rfl) (by kernel_rfl) (by kernel_rfl) (fun _ _ _ h => h) (Or.inl ⟨by rfl, ?_⟩) (by assumption) ?_
 rotate_left
 ·intro w hSw
  clear hSw
  go_simp
  try with_reducible rfl
 simp only [Act.put, List.setIfInBounds_toArray, List.set_cons_zero, List.set_cons_succ]
 refine wpAnyH_take (i := 5) (oi := ⟨_, _, _, _, _, _⟩) (v := ?_) rfl (by kernel_rfl) (by kernel_rfl) (by kernel_rfl) (fun _ _ _ h => h) (Or.inl ⟨by rfl, ?_⟩) (by assumption) ?_
 rotate_left
 ·intro w hSw
  clear hSw
  go_simp
  try with_reducible rfl
 simp only [Act.put, List.setIfInBounds_toArray, List.set_cons_zero, List.set_cons_succ]
 refine wpAnyH_take (i := 6) (oi := ⟨_, _, _, _, _, _⟩) (v := ?_) rfl (by kernel_rfl) (by kernel_rfl) (by kernel_rfl) (fun _ _ _ h => h) (Or.inl ⟨by rfl, ?_⟩) (by assumption) ?_
 rotate_left
 ·intro w hSw
  obtain ⟨x4, y0, y1, y2, y3, y4, y5⟩ := hSw
  go_simp
  try with_reducible rfl
 simp only [Act.put, List.setIfInBounds_toArray, List.set_cons_zero, List.set_cons_succ]
 refine wpAnyH_take (i := 7) (oi := ⟨_, _, _, _, _, _⟩) (v := ?_) rfl (by kernel_rfl) (by kernel_rfl) (by kernel_rfl) (fun _ _ _ h => h) (Or.inl ⟨by rfl, ?_⟩) (by assumption) ?_
 rotate_left
 ·intro w hSw
  clear hSw
  go_simp
  try with_reducible rfl
 simp only [Act.put, List.setIfInBounds_toArray, List.set_cons_zero, List.set_cons_succ]
 refine wpAnyH_take (i := 8) (oi := ⟨_, _, _, _, _, _⟩) (v := ?_) rfl (by kernel_rfl) (by kernel_rfl) (by kernel_rfl) (fun _ _ _ h => h) (Or.inl ⟨by rfl, ?_⟩) (by assumption) ?_
 rotate_left
 ·intro w hSw
  obtain ⟨x4, y0, y1, y2, y3, y4, y5⟩ := hSw
  go_simp
  try with_reducible rfl
 simp only [Act.put, List.setIfInBounds_toArray, List.set_cons_zero, List.set_cons_succ]
 refine wpAnyH_ready (rs := [3]) (by kernel_rfl) (by simp) ?_
 refine AllReadyH.cons (o := ⟨_, _, _, _, _, _⟩) rfl (fun K hK => ?_) AllReadyH.nil
 go_simp
 refine (rWord_any 4 0 0 ⟨#[]⟩ sg _ HT).mono ?_
 rintro e w3 ⟨v3, rfl, hsrc3, hb3⟩
 obtain ⟨a3, c3, rfl⟩ := Rd.src_form hsrc3
 have HBW3 := Lib.hid (HBD.out.below hb3)
 have HSRC3 := Lib.hid hsrc3
 have hrow3 := HBW3.out.row
 clear hb3 hsrc3
 dsimp only
 refine hK.out _ _ ?_ (fun hHeld => ?_)
 ·exact HKP.out _ HBW3.out.kp
 clear hK K
 try simp only [Act.put, List.setIfInBounds_toArray, List.set_cons_zero, List.set_cons_succ]
 refine wpAnyH_ready (rs := [4]) (by kernel_rfl) (by simp) ?_
 refine AllReadyH.cons (o := ⟨_, _, _, _, _, _⟩) rfl (fun K hK => ?_) AllReadyH.nil
 refine Ap.wp (.tmp 52) (.tmp 55) 53 rfl base 5 i0 (.int .u8 0) 1 1 Try.underlying53 HI0.out HZ0.out HZ1.out HZ2.out rfl (by decide) _ acc.length _ rfl hrow3 (.slice a3 sg.length c3) sg.length (Lib.byteCells sg) rfl HSRC3.out (Rd.byte_len sg) (Rd.byte_one sg) (by have := HBB.out.2; unfold maxLen; omega) (by have := HBB.out.2; omega) (Nat.le_trans HBB.out.1 HBW3.out.kp.size) ?_
 intro v4 w4 hown hgr hat
 have HBW4 := Lib.hid (HBW3.out.trans (Rd.Bw.push hown hgr hat))
 obtain ⟨a4, c4, rfl⟩ := Dt.row_form hown
 clear hown hgr hat
 refine hK.out _ _ ?_ (fun hHeld => ?_)
 ·exact HKP.out _ HBW4.out.kp
 clear hK K
 try simp only [Act.put, List.setIfInBounds_toArray, List.set_cons_zero, List.set_cons_succ]
 refine wpAnyH_ready (rs := [9]) (by kernel_rfl) (by simp) ?_
 refine AllReadyH.cons (o := ⟨_, _, _, _, _, _⟩) rfl (fun K hK => ?_) AllReadyH.nil
 go_simp
 have hcz := HZ.out G base (acc ++ sg) (.slice a4 (acc.length + sg.length) c4) (.slice d1 f1 q1) (.slice d2 f2 q2) (.slice d3 f3 q3) w4 HWZ.out.1 HWZ.out.2 (HRP.out _ HBW4.out.kp) HGG.out (by have := HBW4.out.row; exact this) (Nat.le_trans HBB.out.1 HBW4.out.kp.size) (by have := HBB.out.2; rw [List.length_append]; omega)
 refine hcz.mono ?_
 rintro e w5 ⟨v5, rfl, hbw5⟩
 obtain ⟨a5, c5, hv5⟩ := Dt.row_form hbw5.row
 obtain ⟨N5, hN5⟩ : ∃ N5, (acc ++ sg ++ Rd.txt z).length = N5 := ⟨_, rfl⟩
 rw [hN5] at hv5
 subst hv5
 have HBW5 := Lib.hid (HBW4.out.trans hbw5)
 clear hcz hbw5 hN5
 dsimp only
 refine hK.out _ _ ?_ (fun hHeld => ?_)
 ·exact HKP.out _ HBW5.out.kp
 clear hK K
 try simp only [Act.put, List.setIfInBounds_toArray, List.set_cons_zero, List.set_cons_succ]
 refine wpAnyH_take (i := 10) (oi := ⟨_, _, _, _, _, _⟩) (v := ?_) rfl (by kernel_rfl) (by kernel_rfl) (by kernel_rfl) (fun _ _ _ h => h) (Or.inl ⟨by rfl, ?_⟩) (by assumption) ?_
 rotate_left
 ·intro w hSw
  clear hSw
  go_simp
  try with_reducible rfl
 simp only [Act.put, List.setIfInBounds_toArray, List.set_cons_zero, List.set_cons_succ]
 refine wpAnyH_done (by kernel_rfl) ?_ _
 refine NoPanic.normal ?_
 have HE : Hid (Rd.RP base (acc ++ (sg ++ Rd.txt z)) (.slice av acc.length cv) w (.returned (.slice a5 N5 c5)) w5) := ⟨_, rfl, by rw [← List.append_assoc]; exact Rd.Bw.from HB2.out HBW5.out⟩
 clear HKP HRP HS0 HBD HBW3 HBW4 HBW5
 go_wp2
 go_ret
 exact HE.out
set_option maxRecDepth 100000 in
set_option maxHeartbeats 16000000 in
theorem text_short5 {G : Nat → Prop} (n : Int) (s : ByteArray) (m : List Int) (y z : Dt.D) (t : List Dt.D) (hz : Rd.TextIs z) (hW : Dt.Wf z) (hFi : Rd.Fine z) (hsh : Rd.shortL 6 [y, z] = 5) (base : Nat) (acc : List UInt8) (v vm vl vt : Value) (w : World) (hR : Dt.Rep G w (.mk 6 n s m [y, z] t) vm vl vt) (hG : ∀ k, G k → k < base)
  (hrow : w.ownsRow base 5 1 v acc.length (Lib.byteCells acc)) (hb : base ≤ w.heap.size) (hl : acc.length + ((Tx.signL 5).length + (Rd.txt z).length) ≤ 140737488355328) :
  Calls Try.prog 30 #[v, .agg #[.int .i64 6, .int .i64 n, .string s, vm, vl, vt]] w (Rd.RP base (acc ++ (Tx.signL 5 ++ Rd.txt z)) v w) := by
 have hR0 := hR
 obtain ⟨b1, m1, p1, b2, m2, p2, b3, m3, p3, rfl, rfl, rfl⟩ := hR.forms
 obtain ⟨w1, hw1⟩ : ∃ w1, w.alloc (.cells #[.int .i64 6, .int .i64 n, .string s, .slice b1 m1 p1, .slice b2 m2 p2, .slice b3 m3 p3] 25) = w1 := ⟨_, rfl⟩
 obtain ⟨hb1, hs1⟩ := new_below hw1
 have hX1 := Hp.new hw1
 obtain ⟨X, hX⟩ : ∃ X, w.heap.size = X := ⟨_, rfl⟩
 rw [hX] at hX1 hs1
 obtain ⟨av, cv, rfl⟩ := Dt.row_form hrow
 obtain ⟨i0, hi, hz0, hz1, hz2⟩ := info_parts Cd.infoB
 have HI0 := Lib.hid hi
 have HZ0 := Lib.hid hz0
 have HZ1 := Lib.hid hz1
 have HZ2 := Lib.hid hz2
 clear hi hz0 hz1 hz2
 have hq := rShort_any (.mk 6 n s m [y, z] t) _ _ _ w1 (hR.below hb1)
 rw [show Rd.shortL (Dt.D.mk 6 n s m [y, z] t).k (Dt.D.mk 6 n s m [y, z] t).l = 5 from hsh] at hq
 simp only [Dt.D.k, Dt.D.n, Dt.D.s] at hq
 obtain ⟨sg, hsg⟩ : ∃ sg, Tx.signL 5 = sg := ⟨_, rfl⟩
 have HT : Hid (∀ W, Calls Try.prog 71 #[.agg #[.int .i64 5, .int .i64 0, .int .i64 0, .int .i64 0, .string ⟨#[]⟩]] W fun e w' => e = .returned (.tuple #[.string ⟨sg.toArray⟩, .int .i64 0]) ∧ Below W.heap.size W w') := by
  rw [← hsg]
  exact fun W => TextR5_any 0 0 0 ⟨#[]⟩ W
 rw [hsg] at hl ⊢
 have hrw := ((Dt.rep_iff _ _ _ _ _ _).1 hR).2.1
 obtain ⟨al, cl, e2, -, hcs⟩ := hrw
 cases e2
 obtain ⟨g, o, hbg, hGg, hgl, hreps⟩ := hcs (by simp [Dt.D.l])
 obtain rfl := hbg
 obtain ⟨um, ul, ut, hsix, hrz⟩ := hreps.at 1 (by simp [Dt.D.l])
 obtain ⟨d1, f1, q1, d2, f2, q2, d3, f3, q3, rfl, rfl, rfl⟩ := hrz.forms
 have HSX : Hid (Dt.Six w g (o + 6) z (.slice d1 f1 q1) (.slice d2 f2 q2) (.slice d3 f3 q3)) := hsix
 have HRZ : Hid (Dt.Rep G w z (.slice d1 f1 q1) (.slice d2 f2 q2) (.slice d3 f3 q3)) := hrz
 have HGG := Lib.hid hG
 have HGL : Hid (g < base ∧ g < w.heap.size) := ⟨hG g hGg, hgl⟩
 have HZ := Lib.hid hz
 have HWZ : Hid (Dt.Wf z ∧ Rd.Fine z) := ⟨hW, hFi⟩
 have HB1 := Lib.hid hb1
 have HBB : Hid (base ≤ w.heap.size ∧ acc.length + (sg.length + (Rd.txt z).length) ≤ 140737488355328) := ⟨hb, hl⟩
 rw [show (Dt.D.mk 6 n s m [y, z] t).l.length = 2 from rfl] at hw1 hX1 hq ⊢
 have HX1 := Lib.hid hX1
 have HROW := Lib.hid hrow
 have HXX : Hid (w.heap.size = X) := hX
 have x0 := hX1.cell 0 rfl
 have x1 := hX1.cell 1 rfl
 have x2 := hX1.cell 2 rfl
 have x3 := hX1.cell 3 rfl
 have x4 := hX1.cell 4 rfl
 have x5 := hX1.cell 5 rfl
 clear hX1 hb1 hs1 hR hR0 hb hsg hcs hreps hsix hrz hG hGg hgl hz hW hFi hrow hl
 go_enter Try.func30, Try.ntmps30
 go_wp2_with fail
 refine hq.mono ?_
 rintro e w2 ⟨rfl, hb2⟩
 have HBW2 := Lib.hid ((((Rd.Bw.start HROW.out).below HB1.out).below hb2).again)
 have HX2 := Lib.hid (HX1.out.below hb2)
 have HB2 : Hid (Below w.heap.size w w2) := HB1.out.trans (hb2.mono HB1.out.size)
 have HOW : Hid (∀ k, (Value.slice av acc.length cv).ownBlock = some k → base ≤ k ∧ k < w.heap.size) := fun k e => HROW.out.lt k e
 have HSX2 := Lib.hid (HSX.out.keep (keep_of_below (S := fun _ => False) HB2.out) HGL.out.2 id)
 have HRZ2 := Lib.hid (HRZ.out.below HB2.out)
 have HKP : Hid (∀ W, Keep (fun k => (Value.slice av acc.length cv).ownBlock = some k) w2 W → (W.cell? ⟨X, 4, none⟩ = some (.slice (some ⟨g, o, none⟩) 2 p2) ∧ Dt.Six W g (o + 6) z (.slice d1 f1 q1) (.slice d2 f2 q2) (.slice d3 f3 q3))) := fun W hk =>
  ⟨(HX2.out.keep hk (fun e => by have := (HOW.out X e).2; have := HXX.out; omega)).cell 4 rfl, HSX2.out.keep hk (by have := HGL.out.2; have := HB2.out.size; omega) (fun e => by have := (HOW.out g e).1; have := HGL.out.1; omega)⟩
 have HRP : Hid (∀ W, Keep (fun k => (Value.slice av acc.length cv).ownBlock = some k) w2 W → Dt.Rep G W z (.slice d1 f1 q1) (.slice d2 f2 q2) (.slice d3 f3 q3)) := fun W hk => Dt.Rep.keep hk (fun b hb _ e => by have := (HOW.out b e).1; have := HGG.out b hb; omega) z HRZ2.out
 have HBD : Hid (Rd.Bw base w2 (.slice av acc.length cv) w2.drew acc (.slice av acc.length cv)) := HBW2.out.below (Below.refl _ w2).drew
 have HBB : Hid (base ≤ w2.heap.size ∧ acc.length + (sg.length + (Rd.txt z).length) ≤ 140737488355328) := ⟨Nat.le_trans HBB.out.1 HB2.out.size, HBB.out.2⟩
 have HS0 := HKP.out _ HBD.out.kp
 clear hq hb2 hw1 x0 x1 x2 x3 x4 x5 HSX HRZ HX1
 go_upto_region 14 with fail
 refine wp_region_noPanic ?_
 refine wp_region_held_drew (S := fun W => W.cell? ⟨X, 4, none⟩ = some (.slice (some ⟨g, o, none⟩) 2 p2) ∧ Dt.Six W g (o + 6) z (.slice d1 f1 q1) (.slice d2 f2 q2) (.slice d3 f3 q3)) (by kernel_rfl) HS0 (fun hHeld => ?_)
 refine wpAnyH_take (i := 0) (oi := ⟨_, _, _, _, _, _⟩) (v := ?_) rfl (by kernel_rfl) (by kernel_rfl) (by kernel_rfl) (fun _ _ _ h => h) (Or.inl ⟨by rfl, ?_⟩) (by assumption) ?_
 rotate_left
 ·intro w hSw
  clear hSw
  go_simp
  try with_reducible rfl
 simp only [Act.put, List.setIfInBounds_toArray, List.set_cons_zero, List.set_cons_succ]
 refine wpAnyH_take (i := 1) (oi := ⟨_, _, _, _, _, _⟩) (v := ?_) rfl (by kernel_rfl) (by kernel_rfl) (by kernel_rfl) (fun _ _ _ h => h) (Or.inl ⟨by rfl, ?_⟩) (by assumption) ?_
 rotate_left
 ·intro w hSw
  clear hSw
  go_simp
  try with_reducible rfl
 simp only [Act.put, List.setIfInBounds_toArray, List.set_cons_zero, List.set_cons_succ]
 refine wpAnyH_take (i := 2) (oi := ⟨_, _, _, _, _, _⟩) (v := ?_) rfl (by kernel_rfl) (by kernel_rfl) (by kernel_rfl) (fun _ _ _ h => h) (Or.inl ⟨by rfl, ?_⟩) (by assumption) ?_
 rotate_left
 ·intro w hSw
  clear hSw
  go_simp
  try with_reducible rfl
 simp only [Act.put, List.setIfInBounds_toArray, List.set_cons_zero, List.set_cons_succ]
 refine wpAnyH_take (i := 5) (oi := ⟨_, _, _, _, _, _⟩) (v := ?_) rfl (by kernel_rfl) (by kernel_rfl) (by kernel_rfl) (fun _ _ _ h => h) (Or.inl ⟨by rfl, ?_⟩) (by assumption) ?_
 rotate_left
 ·intro w hSw
  clear hSw
  go_simp
  try with_reducible rfl
 simp only [Act.put, List.setIfInBounds_toArray, List.set_cons_zero, List.set_cons_succ]
 refine wpAnyH_take (i := 6) (oi := ⟨_, _, _, _, _, _⟩) (v := ?_) rfl (by kernel_rfl) (by kernel_rfl) (by kernel_rfl) (fun _ _ _ h => h) (Or.inl ⟨by rfl, ?_⟩) (by assumption) ?_
 rotate_left
 ·intro w hSw
  obtain ⟨x4, y0, y1, y2, y3, y4, y5⟩ := hSw
  go_simp
  try with_reducible rfl
 simp only [Act.put, List.setIfInBounds_toArray, List.set_cons_zero, List.set_cons_succ]
 refine wpAnyH_take (i := 7) (oi := ⟨_, _, _, _, _, _⟩) (v := ?_) rfl (by kernel_rfl) (by kernel_rfl) (by kernel_rfl) (fun _ _ _ h => h) (Or.inl ⟨by rfl, ?_⟩) (by assumption) ?_
 rotate_left
 ·intro w hSw
  clear hSw
  go_simp
  try with_reducible rfl
 simp only [Act.put, List.setIfInBounds_toArray, List.set_cons_zero, List.set_cons_succ]
 refine wpAnyH_take (i := 8) (oi := ⟨_, _, _, _, _, _⟩) (v := ?_) rfl (by kernel_rfl) (by kernel_rfl) (by kernel_rfl) (fun _ _ _ h => h) (Or.inl ⟨by rfl, ?_⟩) (by assumption) ?_
 rotate_left
 ·intro w hSw
  obtain ⟨x4, y0, y1, y2, y3, y4, y5⟩ := hSw
  go_simp
  try with_reducible rfl
 simp only [Act.put, List.setIfInBounds_toArray, List.set_cons_zero, List.set_cons_succ]
 refine wpAnyH_ready (rs := [3]) (by kernel_rfl) (by simp) ?_
 refine AllReadyH.cons (o := ⟨_, _, _, _, _, _⟩) rfl (fun K hK => ?_) AllReadyH.nil
 go_simp
 refine (rWord_any 5 0 0 ⟨#[]⟩ sg _ HT).mono ?_
 rintro e w3 ⟨v3, rfl, hsrc3, hb3⟩
 obtain ⟨a3, c3, rfl⟩ := Rd.src_form hsrc3
 have HBW3 := Lib.hid (HBD.out.below hb3)
 have HSRC3 := Lib.hid hsrc3
 have hrow3 := HBW3.out.row
 clear hb3 hsrc3
 dsimp only
 refine hK.out _ _ ?_ (fun hHeld => ?_)
 ·exact HKP.out _ HBW3.out.kp
 clear hK K
 try simp only [Act.put, List.setIfInBounds_toArray, List.set_cons_zero, List.set_cons_succ]
 refine wpAnyH_ready (rs := [4]) (by kernel_rfl) (by simp) ?_
 refine AllReadyH.cons (o := ⟨_, _, _, _, _, _⟩) rfl (fun K hK => ?_) AllReadyH.nil
 refine Ap.wp (.tmp 52) (.tmp 55) 53 rfl base 5 i0 (.int .u8 0) 1 1 Try.underlying53 HI0.out HZ0.out HZ1.out HZ2.out rfl (by decide) _ acc.length _ rfl hrow3 (.slice a3 sg.length c3) sg.length (Lib.byteCells sg) rfl HSRC3.out (Rd.byte_len sg) (Rd.byte_one sg) (by have := HBB.out.2; unfold maxLen; omega) (by have := HBB.out.2; omega) (Nat.le_trans HBB.out.1 HBW3.out.kp.size) ?_
 intro v4 w4 hown hgr hat
 have HBW4 := Lib.hid (HBW3.out.trans (Rd.Bw.push hown hgr hat))
 obtain ⟨a4, c4, rfl⟩ := Dt.row_form hown
 clear hown hgr hat
 refine hK.out _ _ ?_ (fun hHeld => ?_)
 ·exact HKP.out _ HBW4.out.kp
 clear hK K
 try simp only [Act.put, List.setIfInBounds_toArray, List.set_cons_zero, List.set_cons_succ]
 refine wpAnyH_ready (rs := [9]) (by kernel_rfl) (by simp) ?_
 refine AllReadyH.cons (o := ⟨_, _, _, _, _, _⟩) rfl (fun K hK => ?_) AllReadyH.nil
 go_simp
 have hcz := HZ.out G base (acc ++ sg) (.slice a4 (acc.length + sg.length) c4) (.slice d1 f1 q1) (.slice d2 f2 q2) (.slice d3 f3 q3) w4 HWZ.out.1 HWZ.out.2 (HRP.out _ HBW4.out.kp) HGG.out (by have := HBW4.out.row; exact this) (Nat.le_trans HBB.out.1 HBW4.out.kp.size) (by have := HBB.out.2; rw [List.length_append]; omega)
 refine hcz.mono ?_
 rintro e w5 ⟨v5, rfl, hbw5⟩
 obtain ⟨a5, c5, hv5⟩ := Dt.row_form hbw5.row
 obtain ⟨N5, hN5⟩ : ∃ N5, (acc ++ sg ++ Rd.txt z).length = N5 := ⟨_, rfl⟩
 rw [hN5] at hv5
 subst hv5
 have HBW5 := Lib.hid (HBW4.out.trans hbw5)
 clear hcz hbw5 hN5
 dsimp only
 refine hK.out _ _ ?_ (fun hHeld => ?_)
 ·exact HKP.out _ HBW5.out.kp
 clear hK K
 try simp only [Act.put, List.setIfInBounds_toArray, List.set_cons_zero, List.set_cons_succ]
 refine wpAnyH_take (i := 10) (oi := ⟨_, _, _, _, _, _⟩) (v := ?_) rfl (by kernel_rfl) (by kernel_rfl) (by kernel_rfl) (fun _ _ _ h => h) (Or.inl ⟨by rfl, ?_⟩) (by assumption) ?_
 rotate_left
 ·intro w hSw
  clear hSw
  go_simp
  try with_reducible rfl
 simp only [Act.put, List.setIfInBounds_toArray, List.set_cons_zero, List.set_cons_succ]
 refine wpAnyH_done (by kernel_rfl) ?_ _
 refine NoPanic.normal ?_
 have HE : Hid (Rd.RP base (acc ++ (sg ++ Rd.txt z)) (.slice av acc.length cv) w (.returned (.slice a5 N5 c5)) w5) := ⟨_, rfl, by rw [← List.append_assoc]; exact Rd.Bw.from HB2.out HBW5.out⟩
 clear HKP HRP HS0 HBD HBW3 HBW4 HBW5
 go_wp2
 go_ret
 exact HE.out
set_option maxRecDepth 100000 in
set_option maxHeartbeats 16000000 in
theorem text_short6 {G : Nat → Prop} (n : Int) (s : ByteArray) (m : List Int) (y z : Dt.D) (t : List Dt.D) (hz : Rd.TextIs z) (hW : Dt.Wf z) (hFi : Rd.Fine z) (hsh : Rd.shortL 6 [y, z] = 6) (base : Nat) (acc : List UInt8) (v vm vl vt : Value) (w : World) (hR : Dt.Rep G w (.mk 6 n s m [y, z] t) vm vl vt) (hG : ∀ k, G k → k < base)
  (hrow : w.ownsRow base 5 1 v acc.length (Lib.byteCells acc)) (hb : base ≤ w.heap.size) (hl : acc.length + ((Tx.signL 6).length + (Rd.txt z).length) ≤ 140737488355328) :
  Calls Try.prog 30 #[v, .agg #[.int .i64 6, .int .i64 n, .string s, vm, vl, vt]] w (Rd.RP base (acc ++ (Tx.signL 6 ++ Rd.txt z)) v w) := by
 have hR0 := hR
 obtain ⟨b1, m1, p1, b2, m2, p2, b3, m3, p3, rfl, rfl, rfl⟩ := hR.forms
 obtain ⟨w1, hw1⟩ : ∃ w1, w.alloc (.cells #[.int .i64 6, .int .i64 n, .string s, .slice b1 m1 p1, .slice b2 m2 p2, .slice b3 m3 p3] 25) = w1 := ⟨_, rfl⟩
 obtain ⟨hb1, hs1⟩ := new_below hw1
 have hX1 := Hp.new hw1
 obtain ⟨X, hX⟩ : ∃ X, w.heap.size = X := ⟨_, rfl⟩
 rw [hX] at hX1 hs1
 obtain ⟨av, cv, rfl⟩ := Dt.row_form hrow
 obtain ⟨i0, hi, hz0, hz1, hz2⟩ := info_parts Cd.infoB
 have HI0 := Lib.hid hi
 have HZ0 := Lib.hid hz0
 have HZ1 := Lib.hid hz1
 have HZ2 := Lib.hid hz2
 clear hi hz0 hz1 hz2
 have hq := rShort_any (.mk 6 n s m [y, z] t) _ _ _ w1 (hR.below hb1)
 rw [show Rd.shortL (Dt.D.mk 6 n s m [y, z] t).k (Dt.D.mk 6 n s m [y, z] t).l = 6 from hsh] at hq
 simp only [Dt.D.k, Dt.D.n, Dt.D.s] at hq
 obtain ⟨sg, hsg⟩ : ∃ sg, Tx.signL 6 = sg := ⟨_, rfl⟩
 have HT : Hid (∀ W, Calls Try.prog 71 #[.agg #[.int .i64 6, .int .i64 0, .int .i64 0, .int .i64 0, .string ⟨#[]⟩]] W fun e w' => e = .returned (.tuple #[.string ⟨sg.toArray⟩, .int .i64 0]) ∧ Below W.heap.size W w') := by
  rw [← hsg]
  exact fun W => TextR6_any 0 0 0 ⟨#[]⟩ W
 rw [hsg] at hl ⊢
 have hrw := ((Dt.rep_iff _ _ _ _ _ _).1 hR).2.1
 obtain ⟨al, cl, e2, -, hcs⟩ := hrw
 cases e2
 obtain ⟨g, o, hbg, hGg, hgl, hreps⟩ := hcs (by simp [Dt.D.l])
 obtain rfl := hbg
 obtain ⟨um, ul, ut, hsix, hrz⟩ := hreps.at 1 (by simp [Dt.D.l])
 obtain ⟨d1, f1, q1, d2, f2, q2, d3, f3, q3, rfl, rfl, rfl⟩ := hrz.forms
 have HSX : Hid (Dt.Six w g (o + 6) z (.slice d1 f1 q1) (.slice d2 f2 q2) (.slice d3 f3 q3)) := hsix
 have HRZ : Hid (Dt.Rep G w z (.slice d1 f1 q1) (.slice d2 f2 q2) (.slice d3 f3 q3)) := hrz
 have HGG := Lib.hid hG
 have HGL : Hid (g < base ∧ g < w.heap.size) := ⟨hG g hGg, hgl⟩
 have HZ := Lib.hid hz
 have HWZ : Hid (Dt.Wf z ∧ Rd.Fine z) := ⟨hW, hFi⟩
 have HB1 := Lib.hid hb1
 have HBB : Hid (base ≤ w.heap.size ∧ acc.length + (sg.length + (Rd.txt z).length) ≤ 140737488355328) := ⟨hb, hl⟩
 rw [show (Dt.D.mk 6 n s m [y, z] t).l.length = 2 from rfl] at hw1 hX1 hq ⊢
 have HX1 := Lib.hid hX1
 have HROW := Lib.hid hrow
 have HXX : Hid (w.heap.size = X) := hX
 have x0 := hX1.cell 0 rfl
 have x1 := hX1.cell 1 rfl
 have x2 := hX1.cell 2 rfl
 have x3 := hX1.cell 3 rfl
 have x4 := hX1.cell 4 rfl
 have x5 := hX1.cell 5 rfl
 clear hX1 hb1 hs1 hR hR0 hb hsg hcs hreps hsix hrz hG hGg hgl hz hW hFi hrow hl
 go_enter Try.func30, Try.ntmps30
 go_wp2_with fail
 refine hq.mono ?_
 rintro e w2 ⟨rfl, hb2⟩
 have HBW2 := Lib.hid ((((Rd.Bw.start HROW.out).below HB1.out).below hb2).again)
 have HX2 := Lib.hid (HX1.out.below hb2)
 have HB2 : Hid (Below w.heap.size w w2) := HB1.out.trans (hb2.mono HB1.out.size)
 have HOW : Hid (∀ k, (Value.slice av acc.length cv).ownBlock = some k → base ≤ k ∧ k < w.heap.size) := fun k e => HROW.out.lt k e
 have HSX2 := Lib.hid (HSX.out.keep (keep_of_below (S := fun _ => False) HB2.out) HGL.out.2 id)
 have HRZ2 := Lib.hid (HRZ.out.below HB2.out)
 have HKP : Hid (∀ W, Keep (fun k => (Value.slice av acc.length cv).ownBlock = some k) w2 W → (W.cell? ⟨X, 4, none⟩ = some (.slice (some ⟨g, o, none⟩) 2 p2) ∧ Dt.Six W g (o + 6) z (.slice d1 f1 q1) (.slice d2 f2 q2) (.slice d3 f3 q3))) := fun W hk =>
  ⟨(HX2.out.keep hk (fun e => by have := (HOW.out X e).2; have := HXX.out; omega)).cell 4 rfl, HSX2.out.keep hk (by have := HGL.out.2; have := HB2.out.size; omega) (fun e => by have := (HOW.out g e).1; have := HGL.out.1; omega)⟩
 have HRP : Hid (∀ W, Keep (fun k => (Value.slice av acc.length cv).ownBlock = some k) w2 W → Dt.Rep G W z (.slice d1 f1 q1) (.slice d2 f2 q2) (.slice d3 f3 q3)) := fun W hk => Dt.Rep.keep hk (fun b hb _ e => by have := (HOW.out b e).1; have := HGG.out b hb; omega) z HRZ2.out
 have HBD : Hid (Rd.Bw base w2 (.slice av acc.length cv) w2.drew acc (.slice av acc.length cv)) := HBW2.out.below (Below.refl _ w2).drew
 have HBB : Hid (base ≤ w2.heap.size ∧ acc.length + (sg.length + (Rd.txt z).length) ≤ 140737488355328) := ⟨Nat.le_trans HBB.out.1 HB2.out.size, HBB.out.2⟩
 have HS0 := HKP.out _ HBD.out.kp
 clear hq hb2 hw1 x0 x1 x2 x3 x4 x5 HSX HRZ HX1
 go_upto_region 14 with fail
 refine wp_region_noPanic ?_
 refine wp_region_held_drew (S := fun W => W.cell? ⟨X, 4, none⟩ = some (.slice (some ⟨g, o, none⟩) 2 p2) ∧ Dt.Six W g (o + 6) z (.slice d1 f1 q1) (.slice d2 f2 q2) (.slice d3 f3 q3)) (by kernel_rfl) HS0 (fun hHeld => ?_)
 refine wpAnyH_take (i := 0) (oi := ⟨_, _, _, _, _, _⟩) (v := ?_) rfl (by kernel_rfl) (by kernel_rfl) (by kernel_rfl) (fun _ _ _ h => h) (Or.inl ⟨by rfl, ?_⟩) (by assumption) ?_
 rotate_left
 ·intro w hSw
  clear hSw
  go_simp
  try with_reducible rfl
 simp only [Act.put, List.setIfInBounds_toArray, List.set_cons_zero, List.set_cons_succ]
 refine wpAnyH_take (i := 1) (oi := ⟨_, _, _, _, _, _⟩) (v := ?_) rfl (by kernel_rfl) (by kernel_rfl) (by kernel_rfl) (fun _ _ _ h => h) (Or.inl ⟨by rfl, ?_⟩) (by assumption) ?_
 rotate_left
 ·intro w hSw
  clear hSw
  go_simp
  try with_reducible rfl
 simp only [Act.put, List.setIfInBounds_toArray, List.set_cons_zero, List.set_cons_succ]
 refine wpAnyH_take (i := 2) (oi := ⟨_, _, _, _, _, _⟩) (v := ?_) rfl (by kernel_rfl) (by kernel_rfl) (by kernel_rfl) (fun _ _ _ h => h) (Or.inl ⟨by rfl, ?_⟩) (by assumption) ?_
 rotate_left
 ·intro w hSw
  clear hSw
  go_simp
  try with_reducible rfl
 simp only [Act.put, List.setIfInBounds_toArray, List.set_cons_zero, List.set_cons_succ]
 refine wpAnyH_take (i := 5) (oi := ⟨_, _, _, _, _, _⟩) (v := ?_) rfl (by kernel_rfl) (by kernel_rfl) (by kernel_rfl) (fun _ _ _ h => h) (Or.inl ⟨by rfl, ?_⟩) (by assumption) ?_
 rotate_left
 ·intro w hSw
  clear hSw
  go_simp
  try with_reducible rfl
 simp only [Act.put, List.setIfInBounds_toArray, List.set_cons_zero, List.set_cons_succ]
 refine wpAnyH_take (i := 6) (oi := ⟨_, _, _, _, _, _⟩) (v := ?_) rfl (by kernel_rfl) (by kernel_rfl) (by kernel_rfl) (fun _ _ _ h => h) (Or.inl ⟨by rfl, ?_⟩) (by assumption) ?_
 rotate_left
 ·intro w hSw
  obtain ⟨x4, y0, y1, y2, y3, y4, y5⟩ := hSw
  go_simp
  try with_reducible rfl
 simp only [Act.put, List.setIfInBounds_toArray, List.set_cons_zero, List.set_cons_succ]
 refine wpAnyH_take (i := 7) (oi := ⟨_, _, _, _, _, _⟩) (v := ?_) rfl (by kernel_rfl) (by kernel_rfl) (by kernel_rfl) (fun _ _ _ h => h) (Or.inl ⟨by rfl, ?_⟩) (by assumption) ?_
 rotate_left
 ·intro w hSw
  clear hSw
  go_simp
  try with_reducible rfl
 simp only [Act.put, List.setIfInBounds_toArray, List.set_cons_zero, List.set_cons_succ]
 refine wpAnyH_take (i := 8) (oi := ⟨_, _, _, _, _, _⟩) (v := ?_) rfl (by kernel_rfl) (by kernel_rfl) (by kernel_rfl) (fun _ _ _ h => h) (Or.inl ⟨by rfl, ?_⟩) (by assumption) ?_
 rotate_left
 ·intro w hSw
  obtain ⟨x4, y0, y1, y2, y3, y4, y5⟩ := hSw
  go_simp
  try with_reducible rfl
 simp only [Act.put, List.setIfInBounds_toArray, List.set_cons_zero, List.set_cons_succ]
 refine wpAnyH_ready (rs := [3]) (by kernel_rfl) (by simp) ?_
 refine AllReadyH.cons (o := ⟨_, _, _, _, _, _⟩) rfl (fun K hK => ?_) AllReadyH.nil
 go_simp
 refine (rWord_any 6 0 0 ⟨#[]⟩ sg _ HT).mono ?_
 rintro e w3 ⟨v3, rfl, hsrc3, hb3⟩
 obtain ⟨a3, c3, rfl⟩ := Rd.src_form hsrc3
 have HBW3 := Lib.hid (HBD.out.below hb3)
 have HSRC3 := Lib.hid hsrc3
 have hrow3 := HBW3.out.row
 clear hb3 hsrc3
 dsimp only
 refine hK.out _ _ ?_ (fun hHeld => ?_)
 ·exact HKP.out _ HBW3.out.kp
 clear hK K
 try simp only [Act.put, List.setIfInBounds_toArray, List.set_cons_zero, List.set_cons_succ]
 refine wpAnyH_ready (rs := [4]) (by kernel_rfl) (by simp) ?_
 refine AllReadyH.cons (o := ⟨_, _, _, _, _, _⟩) rfl (fun K hK => ?_) AllReadyH.nil
 refine Ap.wp (.tmp 52) (.tmp 55) 53 rfl base 5 i0 (.int .u8 0) 1 1 Try.underlying53 HI0.out HZ0.out HZ1.out HZ2.out rfl (by decide) _ acc.length _ rfl hrow3 (.slice a3 sg.length c3) sg.length (Lib.byteCells sg) rfl HSRC3.out (Rd.byte_len sg) (Rd.byte_one sg) (by have := HBB.out.2; unfold maxLen; omega) (by have := HBB.out.2; omega) (Nat.le_trans HBB.out.1 HBW3.out.kp.size) ?_
 intro v4 w4 hown hgr hat
 have HBW4 := Lib.hid (HBW3.out.trans (Rd.Bw.push hown hgr hat))
 obtain ⟨a4, c4, rfl⟩ := Dt.row_form hown
 clear hown hgr hat
 refine hK.out _ _ ?_ (fun hHeld => ?_)
 ·exact HKP.out _ HBW4.out.kp
 clear hK K
 try simp only [Act.put, List.setIfInBounds_toArray, List.set_cons_zero, List.set_cons_succ]
 refine wpAnyH_ready (rs := [9]) (by kernel_rfl) (by simp) ?_
 refine AllReadyH.cons (o := ⟨_, _, _, _, _, _⟩) rfl (fun K hK => ?_) AllReadyH.nil
 go_simp
 have hcz := HZ.out G base (acc ++ sg) (.slice a4 (acc.length + sg.length) c4) (.slice d1 f1 q1) (.slice d2 f2 q2) (.slice d3 f3 q3) w4 HWZ.out.1 HWZ.out.2 (HRP.out _ HBW4.out.kp) HGG.out (by have := HBW4.out.row; exact this) (Nat.le_trans HBB.out.1 HBW4.out.kp.size) (by have := HBB.out.2; rw [List.length_append]; omega)
 refine hcz.mono ?_
 rintro e w5 ⟨v5, rfl, hbw5⟩
 obtain ⟨a5, c5, hv5⟩ := Dt.row_form hbw5.row
 obtain ⟨N5, hN5⟩ : ∃ N5, (acc ++ sg ++ Rd.txt z).length = N5 := ⟨_, rfl⟩
 rw [hN5] at hv5
 subst hv5
 have HBW5 := Lib.hid (HBW4.out.trans hbw5)
 clear hcz hbw5 hN5
 dsimp only
 refine hK.out _ _ ?_ (fun hHeld => ?_)
 ·exact HKP.out _ HBW5.out.kp
 clear hK K
 try simp only [Act.put, List.setIfInBounds_toArray, List.set_cons_zero, List.set_cons_succ]
 refine wpAnyH_take (i := 10) (oi := ⟨_, _, _, _, _, _⟩) (v := ?_) rfl (by kernel_rfl) (by kernel_rfl) (by kernel_rfl) (fun _ _ _ h => h) (Or.inl ⟨by rfl, ?_⟩) (by assumption) ?_
 rotate_left
 ·intro w hSw
  clear hSw
  go_simp
  try with_reducible rfl
 simp only [Act.put, List.setIfInBounds_toArray, List.set_cons_zero, List.set_cons_succ]
 refine wpAnyH_done (by kernel_rfl) ?_ _
 refine NoPanic.normal ?_
 have HE : Hid (Rd.RP base (acc ++ (sg ++ Rd.txt z)) (.slice av acc.length cv) w (.returned (.slice a5 N5 c5)) w5) := ⟨_, rfl, by rw [← List.append_assoc]; exact Rd.Bw.from HB2.out HBW5.out⟩
 clear HKP HRP HS0 HBD HBW3 HBW4 HBW5
 go_wp2
 go_ret
 exact HE.out
set_option maxRecDepth 100000 in
set_option maxHeartbeats 16000000 in
theorem text_short7 {G : Nat → Prop} (n : Int) (s : ByteArray) (m : List Int) (y z : Dt.D) (t : List Dt.D) (hz : Rd.TextIs z) (hW : Dt.Wf z) (hFi : Rd.Fine z) (hsh : Rd.shortL 6 [y, z] = 7) (base : Nat) (acc : List UInt8) (v vm vl vt : Value) (w : World) (hR : Dt.Rep G w (.mk 6 n s m [y, z] t) vm vl vt) (hG : ∀ k, G k → k < base)
  (hrow : w.ownsRow base 5 1 v acc.length (Lib.byteCells acc)) (hb : base ≤ w.heap.size) (hl : acc.length + ((Tx.signL 7).length + (Rd.txt z).length) ≤ 140737488355328) :
  Calls Try.prog 30 #[v, .agg #[.int .i64 6, .int .i64 n, .string s, vm, vl, vt]] w (Rd.RP base (acc ++ (Tx.signL 7 ++ Rd.txt z)) v w) := by
 have hR0 := hR
 obtain ⟨b1, m1, p1, b2, m2, p2, b3, m3, p3, rfl, rfl, rfl⟩ := hR.forms
 obtain ⟨w1, hw1⟩ : ∃ w1, w.alloc (.cells #[.int .i64 6, .int .i64 n, .string s, .slice b1 m1 p1, .slice b2 m2 p2, .slice b3 m3 p3] 25) = w1 := ⟨_, rfl⟩
 obtain ⟨hb1, hs1⟩ := new_below hw1
 have hX1 := Hp.new hw1
 obtain ⟨X, hX⟩ : ∃ X, w.heap.size = X := ⟨_, rfl⟩
 rw [hX] at hX1 hs1
 obtain ⟨av, cv, rfl⟩ := Dt.row_form hrow
 obtain ⟨i0, hi, hz0, hz1, hz2⟩ := info_parts Cd.infoB
 have HI0 := Lib.hid hi
 have HZ0 := Lib.hid hz0
 have HZ1 := Lib.hid hz1
 have HZ2 := Lib.hid hz2
 clear hi hz0 hz1 hz2
 have hq := rShort_any (.mk 6 n s m [y, z] t) _ _ _ w1 (hR.below hb1)
 rw [show Rd.shortL (Dt.D.mk 6 n s m [y, z] t).k (Dt.D.mk 6 n s m [y, z] t).l = 7 from hsh] at hq
 simp only [Dt.D.k, Dt.D.n, Dt.D.s] at hq
 obtain ⟨sg, hsg⟩ : ∃ sg, Tx.signL 7 = sg := ⟨_, rfl⟩
 have HT : Hid (∀ W, Calls Try.prog 71 #[.agg #[.int .i64 7, .int .i64 0, .int .i64 0, .int .i64 0, .string ⟨#[]⟩]] W fun e w' => e = .returned (.tuple #[.string ⟨sg.toArray⟩, .int .i64 0]) ∧ Below W.heap.size W w') := by
  rw [← hsg]
  exact fun W => TextR7_any 0 0 0 ⟨#[]⟩ W
 rw [hsg] at hl ⊢
 have hrw := ((Dt.rep_iff _ _ _ _ _ _).1 hR).2.1
 obtain ⟨al, cl, e2, -, hcs⟩ := hrw
 cases e2
 obtain ⟨g, o, hbg, hGg, hgl, hreps⟩ := hcs (by simp [Dt.D.l])
 obtain rfl := hbg
 obtain ⟨um, ul, ut, hsix, hrz⟩ := hreps.at 1 (by simp [Dt.D.l])
 obtain ⟨d1, f1, q1, d2, f2, q2, d3, f3, q3, rfl, rfl, rfl⟩ := hrz.forms
 have HSX : Hid (Dt.Six w g (o + 6) z (.slice d1 f1 q1) (.slice d2 f2 q2) (.slice d3 f3 q3)) := hsix
 have HRZ : Hid (Dt.Rep G w z (.slice d1 f1 q1) (.slice d2 f2 q2) (.slice d3 f3 q3)) := hrz
 have HGG := Lib.hid hG
 have HGL : Hid (g < base ∧ g < w.heap.size) := ⟨hG g hGg, hgl⟩
 have HZ := Lib.hid hz
 have HWZ : Hid (Dt.Wf z ∧ Rd.Fine z) := ⟨hW, hFi⟩
 have HB1 := Lib.hid hb1
 have HBB : Hid (base ≤ w.heap.size ∧ acc.length + (sg.length + (Rd.txt z).length) ≤ 140737488355328) := ⟨hb, hl⟩
 rw [show (Dt.D.mk 6 n s m [y, z] t).l.length = 2 from rfl] at hw1 hX1 hq ⊢
 have HX1 := Lib.hid hX1
 have HROW := Lib.hid hrow
 have HXX : Hid (w.heap.size = X) := hX
 have x0 := hX1.cell 0 rfl
 have x1 := hX1.cell 1 rfl
 have x2 := hX1.cell 2 rfl
 have x3 := hX1.cell 3 rfl
 have x4 := hX1.cell 4 rfl
 have x5 := hX1.cell 5 rfl
 clear hX1 hb1 hs1 hR hR0 hb hsg hcs hreps hsix hrz hG hGg hgl hz hW hFi hrow hl
 go_enter Try.func30, Try.ntmps30
 go_wp2_with fail
 refine hq.mono ?_
 rintro e w2 ⟨rfl, hb2⟩
 have HBW2 := Lib.hid ((((Rd.Bw.start HROW.out).below HB1.out).below hb2).again)
 have HX2 := Lib.hid (HX1.out.below hb2)
 have HB2 : Hid (Below w.heap.size w w2) := HB1.out.trans (hb2.mono HB1.out.size)
 have HOW : Hid (∀ k, (Value.slice av acc.length cv).ownBlock = some k → base ≤ k ∧ k < w.heap.size) := fun k e => HROW.out.lt k e
 have HSX2 := Lib.hid (HSX.out.keep (keep_of_below (S := fun _ => False) HB2.out) HGL.out.2 id)
 have HRZ2 := Lib.hid (HRZ.out.below HB2.out)
 have HKP : Hid (∀ W, Keep (fun k => (Value.slice av acc.length cv).ownBlock = some k) w2 W → (W.cell? ⟨X, 4, none⟩ = some (.slice (some ⟨g, o, none⟩) 2 p2) ∧ Dt.Six W g (o + 6) z (.slice d1 f1 q1) (.slice d2 f2 q2) (.slice d3 f3 q3))) := fun W hk =>
  ⟨(HX2.out.keep hk (fun e => by have := (HOW.out X e).2; have := HXX.out; omega)).cell 4 rfl, HSX2.out.keep hk (by have := HGL.out.2; have := HB2.out.size; omega) (fun e => by have := (HOW.out g e).1; have := HGL.out.1; omega)⟩
 have HRP : Hid (∀ W, Keep (fun k => (Value.slice av acc.length cv).ownBlock = some k) w2 W → Dt.Rep G W z (.slice d1 f1 q1) (.slice d2 f2 q2) (.slice d3 f3 q3)) := fun W hk => Dt.Rep.keep hk (fun b hb _ e => by have := (HOW.out b e).1; have := HGG.out b hb; omega) z HRZ2.out
 have HBD : Hid (Rd.Bw base w2 (.slice av acc.length cv) w2.drew acc (.slice av acc.length cv)) := HBW2.out.below (Below.refl _ w2).drew
 have HBB : Hid (base ≤ w2.heap.size ∧ acc.length + (sg.length + (Rd.txt z).length) ≤ 140737488355328) := ⟨Nat.le_trans HBB.out.1 HB2.out.size, HBB.out.2⟩
 have HS0 := HKP.out _ HBD.out.kp
 clear hq hb2 hw1 x0 x1 x2 x3 x4 x5 HSX HRZ HX1
 go_upto_region 14 with fail
 refine wp_region_noPanic ?_
 refine wp_region_held_drew (S := fun W => W.cell? ⟨X, 4, none⟩ = some (.slice (some ⟨g, o, none⟩) 2 p2) ∧ Dt.Six W g (o + 6) z (.slice d1 f1 q1) (.slice d2 f2 q2) (.slice d3 f3 q3)) (by kernel_rfl) HS0 (fun hHeld => ?_)
 refine wpAnyH_take (i := 0) (oi := ⟨_, _, _, _, _, _⟩) (v := ?_) rfl (by kernel_rfl) (by kernel_rfl) (by kernel_rfl) (fun _ _ _ h => h) (Or.inl ⟨by rfl, ?_⟩) (by assumption) ?_
 rotate_left
 ·intro w hSw
  clear hSw
  go_simp
  try with_reducible rfl
 simp only [Act.put, List.setIfInBounds_toArray, List.set_cons_zero, List.set_cons_succ]
 refine wpAnyH_take (i := 1) (oi := ⟨_, _, _, _, _, _⟩) (v := ?_) rfl (by kernel_rfl) (by kernel_rfl) (by kernel_rfl) (fun _ _ _ h => h) (Or.inl ⟨by rfl, ?_⟩) (by assumption) ?_
 rotate_left
 ·intro w hSw
  clear hSw
  go_simp
  try with_reducible rfl
 simp only [Act.put, List.setIfInBounds_toArray, List.set_cons_zero, List.set_cons_succ]
 refine wpAnyH_take (i := 2) (oi := ⟨_, _, _, _, _, _⟩) (v := ?_) rfl (by kernel_rfl) (by kernel_rfl) (by kernel_rfl) (fun _ _ _ h => h) (Or.inl ⟨by rfl, ?_⟩) (by assumption) ?_
 rotate_left
 ·intro w hSw
  clear hSw
  go_simp
  try with_reducible rfl
 simp only [Act.put, List.setIfInBounds_toArray, List.set_cons_zero, List.set_cons_succ]
 refine wpAnyH_take (i := 5) (oi := ⟨_, _, _, _, _, _⟩) (v := ?_) rfl (by kernel_rfl) (by kernel_rfl) (by kernel_rfl) (fun _ _ _ h => h) (Or.inl ⟨by rfl, ?_⟩) (by assumption) ?_
 rotate_left
 ·intro w hSw
  clear hSw
  go_simp
  try with_reducible rfl
 simp only [Act.put, List.setIfInBounds_toArray, List.set_cons_zero, List.set_cons_succ]
 refine wpAnyH_take (i := 6) (oi := ⟨_, _, _, _, _, _⟩) (v := ?_) rfl (by kernel_rfl) (by kernel_rfl) (by kernel_rfl) (fun _ _ _ h => h) (Or.inl ⟨by rfl, ?_⟩) (by assumption) ?_
 rotate_left
 ·intro w hSw
  obtain ⟨x4, y0, y1, y2, y3, y4, y5⟩ := hSw
  go_simp
  try with_reducible rfl
 simp only [Act.put, List.setIfInBounds_toArray, List.set_cons_zero, List.set_cons_succ]
 refine wpAnyH_take (i := 7) (oi := ⟨_, _, _, _, _, _⟩) (v := ?_) rfl (by kernel_rfl) (by kernel_rfl) (by kernel_rfl) (fun _ _ _ h => h) (Or.inl ⟨by rfl, ?_⟩) (by assumption) ?_
 rotate_left
 ·intro w hSw
  clear hSw
  go_simp
  try with_reducible rfl
 simp only [Act.put, List.setIfInBounds_toArray, List.set_cons_zero, List.set_cons_succ]
 refine wpAnyH_take (i := 8) (oi := ⟨_, _, _, _, _, _⟩) (v := ?_) rfl (by kernel_rfl) (by kernel_rfl) (by kernel_rfl) (fun _ _ _ h => h) (Or.inl ⟨by rfl, ?_⟩) (by assumption) ?_
 rotate_left
 ·intro w hSw
  obtain ⟨x4, y0, y1, y2, y3, y4, y5⟩ := hSw
  go_simp
  try with_reducible rfl
 simp only [Act.put, List.setIfInBounds_toArray, List.set_cons_zero, List.set_cons_succ]
 refine wpAnyH_ready (rs := [3]) (by kernel_rfl) (by simp) ?_
 refine AllReadyH.cons (o := ⟨_, _, _, _, _, _⟩) rfl (fun K hK => ?_) AllReadyH.nil
 go_simp
 refine (rWord_any 7 0 0 ⟨#[]⟩ sg _ HT).mono ?_
 rintro e w3 ⟨v3, rfl, hsrc3, hb3⟩
 obtain ⟨a3, c3, rfl⟩ := Rd.src_form hsrc3
 have HBW3 := Lib.hid (HBD.out.below hb3)
 have HSRC3 := Lib.hid hsrc3
 have hrow3 := HBW3.out.row
 clear hb3 hsrc3
 dsimp only
 refine hK.out _ _ ?_ (fun hHeld => ?_)
 ·exact HKP.out _ HBW3.out.kp
 clear hK K
 try simp only [Act.put, List.setIfInBounds_toArray, List.set_cons_zero, List.set_cons_succ]
 refine wpAnyH_ready (rs := [4]) (by kernel_rfl) (by simp) ?_
 refine AllReadyH.cons (o := ⟨_, _, _, _, _, _⟩) rfl (fun K hK => ?_) AllReadyH.nil
 refine Ap.wp (.tmp 52) (.tmp 55) 53 rfl base 5 i0 (.int .u8 0) 1 1 Try.underlying53 HI0.out HZ0.out HZ1.out HZ2.out rfl (by decide) _ acc.length _ rfl hrow3 (.slice a3 sg.length c3) sg.length (Lib.byteCells sg) rfl HSRC3.out (Rd.byte_len sg) (Rd.byte_one sg) (by have := HBB.out.2; unfold maxLen; omega) (by have := HBB.out.2; omega) (Nat.le_trans HBB.out.1 HBW3.out.kp.size) ?_
 intro v4 w4 hown hgr hat
 have HBW4 := Lib.hid (HBW3.out.trans (Rd.Bw.push hown hgr hat))
 obtain ⟨a4, c4, rfl⟩ := Dt.row_form hown
 clear hown hgr hat
 refine hK.out _ _ ?_ (fun hHeld => ?_)
 ·exact HKP.out _ HBW4.out.kp
 clear hK K
 try simp only [Act.put, List.setIfInBounds_toArray, List.set_cons_zero, List.set_cons_succ]
 refine wpAnyH_ready (rs := [9]) (by kernel_rfl) (by simp) ?_
 refine AllReadyH.cons (o := ⟨_, _, _, _, _, _⟩) rfl (fun K hK => ?_) AllReadyH.nil
 go_simp
 have hcz := HZ.out G base (acc ++ sg) (.slice a4 (acc.length + sg.length) c4) (.slice d1 f1 q1) (.slice d2 f2 q2) (.slice d3 f3 q3) w4 HWZ.out.1 HWZ.out.2 (HRP.out _ HBW4.out.kp) HGG.out (by have := HBW4.out.row; exact this) (Nat.le_trans HBB.out.1 HBW4.out.kp.size) (by have := HBB.out.2; rw [List.length_append]; omega)
 refine hcz.mono ?_
 rintro e w5 ⟨v5, rfl, hbw5⟩
 obtain ⟨a5, c5, hv5⟩ := Dt.row_form hbw5.row
 obtain ⟨N5, hN5⟩ : ∃ N5, (acc ++ sg ++ Rd.txt z).length = N5 := ⟨_, rfl⟩
 rw [hN5] at hv5
 subst hv5
 have HBW5 := Lib.hid (HBW4.out.trans hbw5)
 clear hcz hbw5 hN5
 dsimp only
 refine hK.out _ _ ?_ (fun hHeld => ?_)
 ·exact HKP.out _ HBW5.out.kp
 clear hK K
 try simp only [Act.put, List.setIfInBounds_toArray, List.set_cons_zero, List.set_cons_succ]
 refine wpAnyH_take (i := 10) (oi := ⟨_, _, _, _, _, _⟩) (v := ?_) rfl (by kernel_rfl) (by kernel_rfl) (by kernel_rfl) (fun _ _ _ h => h) (Or.inl ⟨by rfl, ?_⟩) (by assumption) ?_
 rotate_left
 ·intro w hSw
  clear hSw
  go_simp
  try with_reducible rfl
 simp only [Act.put, List.setIfInBounds_toArray, List.set_cons_zero, List.set_cons_succ]
 refine wpAnyH_done (by kernel_rfl) ?_ _
 refine NoPanic.normal ?_
 have HE : Hid (Rd.RP base (acc ++ (sg ++ Rd.txt z)) (.slice av acc.length cv) w (.returned (.slice a5 N5 c5)) w5) := ⟨_, rfl, by rw [← List.append_assoc]; exact Rd.Bw.from HB2.out HBW5.out⟩
 clear HKP HRP HS0 HBD HBW3 HBW4 HBW5
 go_wp2
 go_ret
 exact HE.out
set_option maxRecDepth 100000 in
set_option maxHeartbeats 16000000 in
theorem text_list6 {G : Nat → Prop} (n : Int) (s : ByteArray) (m : List Int) (l t : List Dt.D) (hil : ∀ x ∈ l, Rd.TextIs x ∧ Dt.Wf x ∧ Rd.Fine x) (hit : ∀ x ∈ t, Rd.TextIs x ∧ Dt.Wf x ∧ Rd.Fine x) (hsh : Rd.shortL 6 l = 0) (hln : l.length ≤ 140737488355328 ∧ t.length ≤ 1) (base : Nat) (acc : List UInt8) (v vm vl vt : Value) (w : World) (hR : Dt.Rep G w (.mk 6 n s m l t) vm vl vt) (hG : ∀ k, G k → k < base)
  (hrow : w.ownsRow base 5 1 v acc.length (Lib.byteCells acc)) (hb : base ≤ w.heap.size) (hl : acc.length + ((Tx.signL 1 ++ Rd.txts l ++ Rd.txtt t ++ [41]).length) ≤ 140737488355328) :
  Calls Try.prog 30 #[v, .agg #[.int .i64 6, .int .i64 n, .string s, vm, vl, vt]] w (Rd.RP base (acc ++ (Tx.signL 1 ++ Rd.txts l ++ Rd.txtt t ++ [41])) v w) := by
 obtain ⟨b1, m1, p1, b2, m2, p2, b3, m3, p3, rfl, rfl, rfl⟩ := hR.forms
 obtain ⟨w1, hw1⟩ : ∃ w1, w.alloc (.cells #[.int .i64 6, .int .i64 n, .string s, .slice b1 m1 p1, .slice b2 m2 p2, .slice b3 m3 p3] 25) = w1 := ⟨_, rfl⟩
 obtain ⟨hb1, hs1⟩ := new_below hw1
 have hX1 := Hp.new hw1
 obtain ⟨X, hX⟩ : ∃ X, w.heap.size = X := ⟨_, rfl⟩
 rw [hX] at hX1 hs1
 obtain ⟨av, cv, rfl⟩ := Dt.row_form hrow
 obtain ⟨i0, hi, hz0, hz1, hz2⟩ := info_parts Cd.infoB
 have HI0 := Lib.hid hi
 have HZ0 := Lib.hid hz0
 have HZ1 := Lib.hid hz1
 have HZ2 := Lib.hid hz2
 clear hi hz0 hz1 hz2
 have hq := rShort_any (.mk 6 n s m l t) _ _ _ w1 (hR.below hb1)
 rw [show Rd.shortL (Dt.D.mk 6 n s m l t).k (Dt.D.mk 6 n s m l t).l = 0 from hsh] at hq
 simp only [Dt.D.k, Dt.D.n, Dt.D.s] at hq
 obtain ⟨FIN, hFIN⟩ : ∃ FIN, acc ++ (Tx.signL 1 ++ Rd.txts l ++ Rd.txtt t ++ [41]) = FIN := ⟨_, rfl⟩
 rw [hFIN]
 have HFIN := Lib.hid hFIN
 clear hFIN
 simp only [List.length_append, List.length_cons, List.length_nil] at hl
 obtain ⟨-, ⟨al, cl, e2, hcl, hcs⟩, ⟨at_, ct, e3, hct, hts⟩⟩ := (Dt.rep_iff _ _ _ _ _ _).1 hR
 cases e2
 cases e3
 rw [show (Dt.D.mk 6 n s m l t).l.length = l.length from rfl, show (Dt.D.mk 6 n s m l t).t.length = t.length from rfl] at hw1 hX1 hq
 obtain ⟨N, hN⟩ : ∃ N, l.length = N := ⟨_, rfl⟩
 obtain ⟨T, hT⟩ : ∃ T, t.length = T := ⟨_, rfl⟩
 rw [hN, hT] at hw1 hX1 hq
 rw [show (Dt.D.mk 6 n s m l t).l.length = l.length from rfl, show (Dt.D.mk 6 n s m l t).t.length = t.length from rfl, hN, hT]
 have HHL : Hid (acc.length + ((Tx.signL 1).length + (Rd.txts l).length + (Rd.txtt t).length + 1) ≤ 140737488355328) := by show _ ≤ _; omega
 have HCS := Lib.hid hcs
 have HTS := Lib.hid hts
 have HIL := Lib.hid hil
 have HIT := Lib.hid hit
 have HNT : Hid (l.length = N ∧ t.length = T ∧ N ≤ 140737488355328 ∧ T ≤ 1) := ⟨hN, hT, by omega, by omega⟩
 have HGG := Lib.hid hG
 have HB1 := Lib.hid hb1
 have HX1 := Lib.hid hX1
 have HR := Lib.hid hR
 have HROW := Lib.hid hrow
 have HB0 := Lib.hid hb
 have HXX : Hid (w.heap.size = X) := hX
 have x0 := hX1.cell 0 rfl
 have x1 := hX1.cell 1 rfl
 have x2 := hX1.cell 2 rfl
 have x3 := hX1.cell 3 rfl
 have x4 := hX1.cell 4 rfl
 have x5 := hX1.cell 5 rfl
 clear hX1 hb1 hs1 hR hb hcs hts hG hil hit hln hl hcl hct hN hT hrow
 go_enter Try.func30, Try.ntmps30
 go_wp2_with fail
 refine hq.mono ?_
 rintro e w2 ⟨rfl, hb2⟩
 have HBW2 := Lib.hid ((((Rd.Bw.start HROW.out).below HB1.out).below hb2).again)
 have HX2 := Lib.hid (HX1.out.below hb2)
 have HB2 : Hid (Below w.heap.size w w2) := HB1.out.trans (hb2.mono HB1.out.size)
 have HBS : Hid (base ≤ w2.heap.size) := Nat.le_trans HB0.out HB2.out.size
 have HOW : Hid (∀ k, (Value.slice av acc.length cv).ownBlock = some k → base ≤ k ∧ k < w.heap.size) := fun k e => HROW.out.lt k e
 have HNF : Hid (∀ W, Keep (fun k => (Value.slice av acc.length cv).ownBlock = some k) w2 W → Hp W X #[.int .i64 6, .int .i64 n, .string s, .slice b1 m1 p1, .slice b2 N p2, .slice b3 T p3] 25 ∧ (∀ (g o : Nat) (x : Dt.D) (um ul ut : Value), G g → g < w.heap.size → Dt.Six w g o x um ul ut → Dt.Six W g o x um ul ut) ∧ (∀ (x : Dt.D) (um ul ut : Value), Dt.Rep G w x um ul ut → Dt.Rep G W x um ul ut)) := fun W hk => by
  have hkw : Keep (fun k => (Value.slice av acc.length cv).ownBlock = some k) w W := (keep_of_below HB2.out).trans hk
  refine ⟨HX2.out.keep hk (fun e => by have := (HOW.out X e).2; have := HXX.out; omega), fun g o x um ul ut hg hgl h => h.keep hkw hgl (fun e => by have := (HOW.out g e).1; have := HGG.out g hg; omega), fun x um ul ut h => Dt.Rep.keep hkw (fun k hk _ e => by have := (HOW.out k e).1; have := HGG.out k hk; omega) x h⟩
 clear hq hb2 hw1 x0 x1 x2 x3 x4 x5 HX1
 have x0 := HX2.out.cell 0 rfl
 have x1 := HX2.out.cell 1 rfl
 have x2 := HX2.out.cell 2 rfl
 have x3 := HX2.out.cell 3 rfl
 have x4 := HX2.out.cell 4 rfl
 have x5 := HX2.out.cell 5 rfl
 obtain ⟨w5, hw5⟩ : ∃ w5, w2.alloc (.cells #[.int .u8 40] 5) = w5 := ⟨_, rfl⟩
 obtain ⟨hb5, hs5⟩ := new_below hw5
 have hsrc5 : Ap.Src w5 (.slice (some ⟨w2.heap.size, 0, none⟩) 1 1) 1 [.int .u8 40] := .inr ⟨_, _, rfl, fun q u hu => by
  rw [Addr.add_mid, Nat.zero_add]
  exact (Hp.new hw5).cell q (by rw [← hu]; simp)⟩
 have HBW5 := Lib.hid (HBW2.out.below hb5)
 have hrow5 := HBW5.out.row
 have hbs5 : base ≤ w5.heap.size := Nat.le_trans HBS.out HBW5.out.kp.size
 have hlen5 : (acc).length + 1 ≤ 140737488355328 := by have := HHL.out; omega
 have h635 : (acc).length + 1 ≤ maxLen := by unfold maxLen; omega
 have hby5 : ((acc).length + 1) * 1 ≤ 140737488355328 := by omega
 clear hb5 hs5
 go_wp2_with (at_builtin; refine Ap.list rfl _ _ 53 rfl base 5 i0 (.int .u8 0) 1 1 Try.underlying53 HI0.out HZ0.out HZ1.out HZ2.out rfl (by decide) _ (acc).length _ rfl hrow5 (.slice (some ⟨w2.heap.size, 0, none⟩) 1 1) 1 [.int .u8 40] rfl hsrc5 rfl (by intro u hu; simp at hu; subst hu; rfl) h635 hby5 hbs5 ?_)
 intro v6 w6 hown6 hgr6 hat6
 have hpu6 := HBW5.out.trans (Rd.Bw.push (x := [40]) hown6 hgr6 hat6)
 obtain ⟨a6, c6, hv6⟩ := Dt.row_form hown6
 obtain ⟨n6, hn6⟩ : ∃ n6, (acc).length + 1 = n6 := ⟨_, rfl⟩
 rw [hn6] at hv6
 subst hv6
 have HBW6 := Lib.hid hpu6
 clear hown6 hgr6 hat6 hpu6 hn6 hrow5 hsrc5 hlen5 h635 hby5 hbs5 hw5
 clear x0 x1 x2 x3 x4 x5
 obtain ⟨AS, hAS⟩ : ∃ AS, acc ++ [40] = AS := ⟨_, rfl⟩
 rw [hAS] at HBW6
 have HAS : Hid (AS = acc ++ Tx.signL 1 ∧ AS.length = acc.length + (Tx.signL 1).length) := by
  refine ⟨by rw [← hAS]; simp [Tx.signL], by rw [← hAS]; simp [Tx.signL]⟩
 clear hAS
 have hx6 := (HNF.out w6 HBW6.out.kp).1
 have x4 := hx6.cell 4 rfl
 clear hx6
 go_wp2
 go_loopw [6, 0] (fun vi vb wr => ∃ (j : Nat) (aj : Option Addr) (nj cj : Nat), vi = .int .i64 j ∧ vb = .slice aj nj cj ∧ j ≤ N ∧ Hid (Rd.Bw base w2 (.slice av acc.length cv) wr (AS ++ Rd.txts (l.take j)) (.slice aj nj cj))) (fun vi _ _ => N - (intOf vi).toNat)
 case atStart => exact ⟨0, _, _, _, rfl, rfl, by omega, by rw [List.take_zero, Rd.txts, List.append_nil]; exact HBW6.out⟩
 case round =>
  clear HBW6
  obtain ⟨j, aj, nj, cj, rfl, rfl, hj, HBJ⟩ := hrel
  by_cases hlt : j < N
  case pos =>
   have hlti : (j : Int) < (N : Int) := by omega
   have HJW : Hid (wrap64 ((j : Int) + 1) = (j : Int) + 1) := by have := HNT.out; show _ = _; unfold wrap64; omega
   have hjl : j < l.length := by have := HNT.out; omega
   obtain ⟨g, o, rfl, hGg, hgl, hreps⟩ := HCS.out (by intro e; have e' : l = [] := e; rw [e'] at hjl; exact absurd hjl (by simp))
   obtain ⟨um, ul, ut, hsix, hrz⟩ := hreps.at j hjl
   obtain ⟨d1, f1, q1, d2, f2, q2, d3, f3, q3, rfl, rfl, rfl⟩ := hrz.forms
   obtain ⟨z, hz⟩ : ∃ z, l[j] = z := ⟨_, rfl⟩
   have HTK : Hid (Rd.txts (l.take (j + 1)) = Rd.txts (l.take j) ++ (if j = 0 then [] else [32]) ++ Rd.txt z) := by show _ = _; rw [Rd.txts_take l j hjl, hz]
   have HIZ := Lib.hid (HIL.out l[j] (List.getElem_mem hjl))
   rw [hz] at HIZ
   have HRZ : Hid (Dt.Rep G w z (.slice d1 f1 q1) (.slice d2 f2 q2) (.slice d3 f3 q3)) := by rw [← hz]; exact hrz
   have HSX : Hid (Dt.Six w g (o + j * 6) z (.slice d1 f1 q1) (.slice d2 f2 q2) (.slice d3 f3 q3)) := by rw [← hz]; exact hsix
   have HGL : Hid (G g ∧ g < w.heap.size) := ⟨hGg, hgl⟩
   have HLE : Hid ((Rd.txts (l.take (j + 1))).length ≤ (Rd.txts l).length) := Rd.txts_le l (j + 1)
   clear hsix hrz hreps hz hjl hGg hgl
   obtain ⟨hx, hsx, hrx⟩ := HNF.out wr HBJ.out.kp
   have x4 := hx.cell 4 rfl
   clear hx
   by_cases hj0 : j = 0
   case pos =>
    subst hj0
    obtain ⟨y0, y1, y2, y3, y4, y5⟩ := hsx g (o + 0 * 6) z _ _ _ HGL.out.1 HGL.out.2 HSX.out
    simp only [Nat.zero_mul, Nat.add_zero] at y0 y1 y2 y3 y4 y5
    have hc := HIZ.out.1 G base (AS ++ Rd.txts (l.take 0)) (.slice aj nj cj) _ _ _ wr HIZ.out.2.1 HIZ.out.2.2 (hrx z _ _ _ HRZ.out) HGG.out HBJ.out.row (Nat.le_trans HBS.out HBJ.out.kp.size) (by have h1 := HTK.out; have h2 := HLE.out; have h3 := HHL.out; have h4 := HAS.out.2; rw [h1] at h2; simp only [List.length_append] at h2 ⊢; omega)
    clear hsx hrx
    go_wp2_with fail
    refine hc.mono ?_
    rintro e w8 ⟨v8, rfl, hp8⟩
    obtain ⟨a8, c8, hv8⟩ := Dt.row_form hp8.row
    obtain ⟨n8, hn8⟩ : ∃ n8, (AS ++ Rd.txts (l.take 0) ++ Rd.txt z).length = n8 := ⟨_, rfl⟩
    rw [hn8] at hv8
    subst hv8
    have HN8 : Hid (Rd.Bw base w2 (.slice av acc.length cv) w8 (AS ++ Rd.txts (l.take 1)) (.slice a8 n8 c8)) := by
     have := HBJ.out.trans hp8
     have h1 := HTK.out
     simp only [Nat.zero_add, if_pos] at h1
     show Rd.Bw _ _ _ _ _ _
     rw [h1, List.append_nil, ← List.append_assoc]
     exact this
    clear hc hp8 y0 y1 y2 y3 y4 y5 hn8 HBJ x4
    go_wp2
    go_roundw
    case rel => exact ⟨1, a8, n8, c8, by simp, rfl, by omega, HN8⟩
    case measure => simp [intOf]; omega
   case neg =>
    have hji : (0 : Int) < (j : Int) := by omega
    obtain ⟨AC, hAC⟩ : ∃ AC, AS ++ Rd.txts (l.take j) = AC := ⟨_, rfl⟩
    rw [hAC] at HBJ
    have HAC := Lib.hid hAC
    clear hAC hsx hrx
    have HBWJ := HBJ
    obtain ⟨w7, hw7⟩ : ∃ w7, wr.alloc (.cells #[.int .u8 32] 5) = w7 := ⟨_, rfl⟩
    obtain ⟨hb7, hs7⟩ := new_below hw7
    have hsrc7 : Ap.Src w7 (.slice (some ⟨wr.heap.size, 0, none⟩) 1 1) 1 [.int .u8 32] := .inr ⟨_, _, rfl, fun q u hu => by
     rw [Addr.add_mid, Nat.zero_add]
     exact (Hp.new hw7).cell q (by rw [← hu]; simp)⟩
    have HBW7 := Lib.hid (HBWJ.out.below hb7)
    have hrow7 := HBW7.out.row
    have hbs7 : base ≤ w7.heap.size := Nat.le_trans HBS.out HBW7.out.kp.size
    have hlen7 : (AC).length + 1 ≤ 140737488355328 := by have h1 := HTK.out; have h2 := HLE.out; have h3 := HHL.out; have h4 := HAS.out.2; have h5 := congrArg List.length HAC.out; rw [h1, if_neg hj0] at h2; simp only [List.length_append, List.length_cons, List.length_nil] at h2 h5; omega
    have h637 : (AC).length + 1 ≤ maxLen := by unfold maxLen; omega
    have hby7 : ((AC).length + 1) * 1 ≤ 140737488355328 := by omega
    clear hb7 hs7
    go_wp2_with (at_builtin; refine Ap.list rfl _ _ 53 rfl base 5 i0 (.int .u8 0) 1 1 Try.underlying53 HI0.out HZ0.out HZ1.out HZ2.out rfl (by decide) (.slice aj nj cj) (AC).length _ rfl hrow7 (.slice (some ⟨wr.heap.size, 0, none⟩) 1 1) 1 [.int .u8 32] rfl hsrc7 rfl (by intro u hu; simp at hu; subst hu; rfl) h637 hby7 hbs7 ?_)
    intro v8 w8 hown8 hgr8 hat8
    have hpu8 := HBW7.out.trans (Rd.Bw.push (x := [32]) hown8 hgr8 hat8)
    obtain ⟨a8, c8, hv8⟩ := Dt.row_form hown8
    obtain ⟨n8, hn8⟩ : ∃ n8, (AC).length + 1 = n8 := ⟨_, rfl⟩
    rw [hn8] at hv8
    subst hv8
    have HBW8 := Lib.hid hpu8
    clear hown8 hgr8 hat8 hpu8 hn8 hrow7 hsrc7 hlen7 h637 hby7 hbs7 hw7
    obtain ⟨hx, hsx, hrx⟩ := HNF.out w8 HBW8.out.kp
    replace x4 := hx.cell 4 rfl
    obtain ⟨y0, y1, y2, y3, y4, y5⟩ := hsx g (o + j * 6) z _ _ _ HGL.out.1 HGL.out.2 HSX.out
    have hc := HIZ.out.1 G base (AC ++ [32]) (.slice a8 n8 c8) _ _ _ w8 HIZ.out.2.1 HIZ.out.2.2 (hrx z _ _ _ HRZ.out) HGG.out HBW8.out.row (Nat.le_trans HBS.out HBW8.out.kp.size) (by have h1 := HTK.out; have h2 := HLE.out; have h3 := HHL.out; have h4 := HAS.out.2; have h5 := congrArg List.length HAC.out; rw [h1, if_neg hj0] at h2; simp only [List.length_append, List.length_cons, List.length_nil] at h2 h5 ⊢; omega)
    clear hx hsx hrx
    go_wp2_with fail
    refine hc.mono ?_
    rintro e w9 ⟨v9, rfl, hp9⟩
    obtain ⟨a9, c9, hv9⟩ := Dt.row_form hp9.row
    obtain ⟨n9, hn9⟩ : ∃ n9, (AC ++ [32] ++ Rd.txt z).length = n9 := ⟨_, rfl⟩
    rw [hn9] at hv9
    subst hv9
    have HN9 : Hid (Rd.Bw base w2 (.slice av acc.length cv) w9 (AS ++ Rd.txts (l.take (j + 1))) (.slice a9 n9 c9)) := by
     have := HBW8.out.trans hp9
     show Rd.Bw _ _ _ _ _ _
     rw [HTK.out, if_neg hj0, ← List.append_assoc, ← List.append_assoc, HAC.out]
     exact this
    clear hc hp9 y0 y1 y2 y3 y4 y5 hn9 HBJ HBWJ HBW8 HBW7 x4
    go_wp2
    go_roundw
    case rel => exact ⟨j + 1, a9, n9, c9, by rw [HJW.out]; simp, rfl, by omega, HN9⟩
    case measure => rw [HJW.out]; simp [intOf]; omega
  case neg =>
   have hge : (N : Int) ≤ (j : Int) := by omega
   have hge' : ¬ (j : Int) < (N : Int) := by omega
   have hbj := HBJ.out
   rw [List.take_of_length_le (by have := HNT.out; omega)] at hbj
   obtain ⟨AC, hAC⟩ : ∃ AC, AS ++ Rd.txts l = AC := ⟨_, rfl⟩
   rw [hAC] at hbj
   have HAC := Lib.hid hAC
   have HBR := Lib.hid hbj
   have hx := (HNF.out wr hbj.kp).1
   have x4 := hx.cell 4 rfl
   have x5 := hx.cell 5 rfl
   clear hAC HBJ hbj hx
   go_wp2
   go_loopw [7, 0] (fun vi vb ws => ∃ (i : Nat) (ai : Option Addr) (ni ci : Nat), vi = .int .i64 i ∧ vb = .slice ai ni ci ∧ i ≤ T ∧ Hid (Rd.Bw base w2 (.slice av acc.length cv) ws (AC ++ Rd.txtt (t.take i)) (.slice ai ni ci))) (fun vi _ _ => T - (intOf vi).toNat)
   case atStart => exact ⟨0, _, _, _, rfl, rfl, by omega, by rw [List.take_zero, Rd.txtt, List.append_nil]; exact HBR.out⟩
   case round =>
    clear HBR x4 x5
    obtain ⟨i, ai, ni, ci, rfl, rfl, hi, HBI⟩ := hrel
    by_cases hlt2 : i < T
    case pos =>
     obtain rfl : i = 0 := by have := HNT.out; omega
     have hlti : (0 : Int) < (T : Int) := by omega
     have hbi := HBI.out
     rw [List.take_zero, Rd.txtt, List.append_nil] at hbi
     have HBI0 := Lib.hid hbi
     have hTl : 0 < t.length := by have := HNT.out; omega
     obtain ⟨g, o, rfl, hGg, hgl, hreps⟩ := HTS.out (by intro e; have e' : t = [] := e; rw [e'] at hTl; exact absurd hTl (by simp))
     obtain ⟨um, ul, ut, hsix, hrz⟩ := hreps.at 0 hTl
     obtain ⟨d1, f1, q1, d2, f2, q2, d3, f3, q3, rfl, rfl, rfl⟩ := hrz.forms
     obtain ⟨z, hz⟩ : ∃ z, t[0] = z := ⟨_, rfl⟩
     have HIZ := Lib.hid (HIT.out t[0] (List.getElem_mem hTl))
     have htz : t = [z] := by
      have h1 := HNT.out
      match t, hTl, hz with
      | [y], _, hz => rw [← hz]; rfl
      | _ :: _ :: _, _, _ => simp at h1; omega
     rw [hz] at HIZ
     have HRZ : Hid (Dt.Rep G w z (.slice d1 f1 q1) (.slice d2 f2 q2) (.slice d3 f3 q3)) := by rw [← hz]; exact hrz
     have HSX : Hid (Dt.Six w g o z (.slice d1 f1 q1) (.slice d2 f2 q2) (.slice d3 f3 q3)) := by
      rw [← hz]
      rw [Nat.zero_mul, Nat.add_zero] at hsix
      exact hsix
     have HTZ : Hid (Rd.txtt t = 32 :: 46 :: 32 :: Rd.txt z ∧ Rd.txtt (t.take 1) = 32 :: 46 :: 32 :: Rd.txt z) := by
      rw [htz]
      exact ⟨by rw [Rd.txtt], by rw [List.take_succ_cons, Rd.txtt]⟩
     have HKP : Hid (∀ W, Keep (fun k => (Value.slice av acc.length cv).ownBlock = some k) w2 W → (W.cell? ⟨X, 5, none⟩ = some (.slice (some ⟨g, o, none⟩) T p3) ∧ Dt.Six W g o z (.slice d1 f1 q1) (.slice d2 f2 q2) (.slice d3 f3 q3))) := fun W hk =>
      ⟨(HNF.out W hk).1.cell 5 rfl, (HNF.out W hk).2.1 g o z _ _ _ hGg hgl HSX.out⟩
     have HBD : Hid (Rd.Bw base w2 (.slice av acc.length cv) wr.drew AC (.slice ai ni ci)) := HBI0.out.below (Below.refl _ wr).drew
     have HS0 := HKP.out _ HBD.out.kp
     have hrowd := HBD.out.row
     have x5 := HKP.out _ hbi.kp |>.1
     have hlen3 : AC.length + 3 + (Rd.txt z).length ≤ 140737488355328 := by have h3 := HHL.out; have h4 := HAS.out.2; have h5 := congrArg List.length HAC.out; have h6 := congrArg List.length HTZ.out.1; simp only [List.length_append, List.length_cons] at h5 h6; omega
     clear hbi hsix hrz hreps hz htz HBI hTl hGg hgl
     go_upto_region 27 with fail
     clear x5
     refine wp_region_noPanic ?_
     refine wp_region_held_drew (S := fun W => W.cell? ⟨X, 5, none⟩ = some (.slice (some ⟨g, o, none⟩) T p3) ∧ Dt.Six W g o z (.slice d1 f1 q1) (.slice d2 f2 q2) (.slice d3 f3 q3)) (by kernel_rfl) HS0 (fun hHeld => ?_)
     refine wpAnyH_take (i := 0) (oi := ⟨_, _, _, _, _, _⟩) (v := ?_) rfl (by kernel_rfl) (by kernel_rfl) (by kernel_rfl) (fun _ _ _ h => h) (Or.inl ⟨by rfl, ?_⟩) (by assumption) ?_
     rotate_left
     ·intro w hSw
      clear hSw
      go_simp
      try with_reducible rfl
     simp only [Act.put, List.setIfInBounds_toArray, List.set_cons_zero, List.set_cons_succ]
     refine wpAnyH_take (i := 2) (oi := ⟨_, _, _, _, _, _⟩) (v := ?_) rfl (by kernel_rfl) (by kernel_rfl) (by kernel_rfl) (fun _ _ _ h => h) (Or.inl ⟨by rfl, ?_⟩) (by assumption) ?_
     rotate_left
     ·intro w hSw
      clear hSw
      go_simp
      try with_reducible rfl
     simp only [Act.put, List.setIfInBounds_toArray, List.set_cons_zero, List.set_cons_succ]
     refine wpAnyH_take (i := 3) (oi := ⟨_, _, _, _, _, _⟩) (v := ?_) rfl (by kernel_rfl) (by kernel_rfl) (by kernel_rfl) (fun _ _ _ h => h) (Or.inl ⟨by rfl, ?_⟩) (by assumption) ?_
     rotate_left
     ·intro w hSw
      obtain ⟨x5, y0, y1, y2, y3, y4, y5⟩ := hSw
      go_simp
      try with_reducible rfl
     simp only [Act.put, List.setIfInBounds_toArray, List.set_cons_zero, List.set_cons_succ]
     refine wpAnyH_take (i := 4) (oi := ⟨_, _, _, _, _, _⟩) (v := ?_) rfl (by kernel_rfl) (by kernel_rfl) (by kernel_rfl) (fun _ _ _ h => h) (Or.inl ⟨by rfl, ?_⟩) (by assumption) ?_
     rotate_left
     ·intro w hSw
      clear hSw
      go_simp
      try with_reducible rfl
     simp only [Act.put, List.setIfInBounds_toArray, List.set_cons_zero, List.set_cons_succ]
     refine wpAnyH_take (i := 5) (oi := ⟨_, _, _, _, _, _⟩) (v := ?_) rfl (by kernel_rfl) (by kernel_rfl) (by kernel_rfl) (fun _ _ _ h => h) (Or.inl ⟨by rfl, ?_⟩) (by assumption) ?_
     rotate_left
     ·intro w hSw
      clear hSw
      go_simp
      try with_reducible rfl
     simp only [Act.put, List.setIfInBounds_toArray, List.set_cons_zero, List.set_cons_succ]
     refine wpAnyH_take (i := 6) (oi := ⟨_, _, _, _, _, _⟩) (v := ?_) rfl (by kernel_rfl) (by kernel_rfl) (by kernel_rfl) (fun _ _ _ h => h) (Or.inl ⟨by rfl, ?_⟩) (by assumption) ?_
     rotate_left
     ·intro w hSw
      obtain ⟨x5, y0, y1, y2, y3, y4, y5⟩ := hSw
      go_simp
      try with_reducible rfl
     simp only [Act.put, List.setIfInBounds_toArray, List.set_cons_zero, List.set_cons_succ]
     refine wpAnyH_ready (rs := [1]) (by kernel_rfl) (by simp) ?_
     refine AllReadyH.cons (o := ⟨_, _, _, _, _, _⟩) rfl (fun K hK => ?_) AllReadyH.nil
     refine Ap.strWp (.tmp 97) (.const (.string ⟨#[32, 46, 32]⟩)) 53 9 rfl base 5 i0 Try.underlying53 Try.underlying9 HI0.out HZ0.out HZ1.out HZ2.out (.slice ai ni ci) AC.length _ rfl hrowd ⟨#[32, 46, 32]⟩ rfl (by show AC.length + 3 ≤ _; unfold maxLen; omega) (by show AC.length + 3 ≤ _; omega) (Nat.le_trans HBS.out HBD.out.kp.size) ?_
     intro v4 w4 hown hgr hat
     have HBW4 := Lib.hid (HBD.out.trans (Rd.Bw.push (x := [32, 46, 32]) hown hgr hat))
     obtain ⟨a4, c4, hv4⟩ := Dt.row_form hown
     obtain ⟨n4, hn4⟩ : ∃ n4, AC.length + (⟨#[32, 46, 32]⟩ : ByteArray).size = n4 := ⟨_, rfl⟩
     rw [hn4] at hv4
     subst hv4
     clear hown hgr hat hn4
     refine hK.out _ _ ?_ (fun hHeld => ?_)
     ·exact HKP.out _ HBW4.out.kp
     clear hK K
     try simp only [Act.put, List.setIfInBounds_toArray, List.set_cons_zero, List.set_cons_succ]
     refine wpAnyH_ready (rs := [7]) (by kernel_rfl) (by simp) ?_
     refine AllReadyH.cons (o := ⟨_, _, _, _, _, _⟩) rfl (fun K hK => ?_) AllReadyH.nil
     go_simp
     have hcz := HIZ.out.1 G base (AC ++ [32, 46, 32]) (.slice a4 n4 c4) (.slice d1 f1 q1) (.slice d2 f2 q2) (.slice d3 f3 q3) w4 HIZ.out.2.1 HIZ.out.2.2 ((HNF.out w4 HBW4.out.kp).2.2 z _ _ _ HRZ.out) HGG.out HBW4.out.row (Nat.le_trans HBS.out HBW4.out.kp.size) (by simp only [List.length_append, List.length_cons, List.length_nil]; omega)
     refine hcz.mono ?_
     rintro e w9 ⟨v9, rfl, hbw9⟩
     obtain ⟨a9, c9, hv9⟩ := Dt.row_form hbw9.row
     obtain ⟨n9, hn9⟩ : ∃ n9, (AC ++ [32, 46, 32] ++ Rd.txt z).length = n9 := ⟨_, rfl⟩
     rw [hn9] at hv9
     subst hv9
     have HBW9 := Lib.hid (HBW4.out.trans hbw9)
     clear hcz hbw9 hn9
     dsimp only
     refine hK.out _ _ ?_ (fun hHeld => ?_)
     ·exact HKP.out _ HBW9.out.kp
     clear hK K
     try simp only [Act.put, List.setIfInBounds_toArray, List.set_cons_zero, List.set_cons_succ]
     refine wpAnyH_take (i := 8) (oi := ⟨_, _, _, _, _, _⟩) (v := ?_) rfl (by kernel_rfl) (by kernel_rfl) (by kernel_rfl) (fun _ _ _ h => h) (Or.inl ⟨by rfl, ?_⟩) (by assumption) ?_
     rotate_left
     ·intro w hSw
      clear hSw
      go_simp
      try with_reducible rfl
     simp only [Act.put, List.setIfInBounds_toArray, List.set_cons_zero]
     refine wpAnyH_done (by kernel_rfl) ?_ _
     refine NoPanic.normal ?_
     have HN9 : Hid (Rd.Bw base w2 (.slice av acc.length cv) w9 (AC ++ Rd.txtt (t.take 1)) (.slice a9 n9 c9)) := by
      have := HBW9.out
      show Rd.Bw _ _ _ _ _ _
      rw [HTZ.out.2]
      rw [List.append_assoc] at this
      exact this
     clear HKP HS0 HBD HBW9 HBW4 HBI0
     go_wp2
     go_roundw
     case rel => exact ⟨1, a9, n9, c9, by simp, rfl, by omega, HN9⟩
     case measure => simp [intOf]; omega
    case neg =>
     have hge2 : (T : Int) ≤ (i : Int) := by omega
     have hge2' : ¬ (i : Int) < (T : Int) := by omega
     have hbi := HBI.out
     rw [List.take_of_length_le (by have := HNT.out; omega)] at hbi
     obtain ⟨AE, hAE⟩ : ∃ AE, AC ++ Rd.txtt t = AE := ⟨_, rfl⟩
     rw [hAE] at hbi
     have HAE := Lib.hid hAE
     have HBWI := Lib.hid hbi
     have x5 := (HNF.out wr hbi.kp).1.cell 5 rfl
     clear hAE HBI hbi
     obtain ⟨w7, hw7⟩ : ∃ w7, wr.alloc (.cells #[.int .u8 41] 5) = w7 := ⟨_, rfl⟩
     obtain ⟨hb7, hs7⟩ := new_below hw7
     have hsrc7 : Ap.Src w7 (.slice (some ⟨wr.heap.size, 0, none⟩) 1 1) 1 [.int .u8 41] := .inr ⟨_, _, rfl, fun q u hu => by
      rw [Addr.add_mid, Nat.zero_add]
      exact (Hp.new hw7).cell q (by rw [← hu]; simp)⟩
     have HBW7 := Lib.hid (HBWI.out.below hb7)
     have hrow7 := HBW7.out.row
     have hbs7 : base ≤ w7.heap.size := Nat.le_trans HBS.out HBW7.out.kp.size
     have hlen7 : (AE).length + 1 ≤ 140737488355328 := by have h1 := HHL.out; have h4 := HAS.out.2; have h5 := congrArg List.length HAC.out; have h6 := congrArg List.length HAE.out; simp only [List.length_append] at h5 h6; omega
     have h637 : (AE).length + 1 ≤ maxLen := by unfold maxLen; omega
     have hby7 : ((AE).length + 1) * 1 ≤ 140737488355328 := by omega
     clear hb7 hs7
     go_wp2_with (at_builtin; refine Ap.list rfl _ _ 53 rfl base 5 i0 (.int .u8 0) 1 1 Try.underlying53 HI0.out HZ0.out HZ1.out HZ2.out rfl (by decide) (.slice ai ni ci) (AE).length _ rfl hrow7 (.slice (some ⟨wr.heap.size, 0, none⟩) 1 1) 1 [.int .u8 41] rfl hsrc7 rfl (by intro u hu; simp at hu; subst hu; rfl) h637 hby7 hbs7 ?_)
     intro v8 w8 hown8 hgr8 hat8
     have hpu8 := HBW7.out.trans (Rd.Bw.push (x := [41]) hown8 hgr8 hat8)
     obtain ⟨a8, c8, hv8⟩ := Dt.row_form hown8
     obtain ⟨n8, hn8⟩ : ∃ n8, (AE).length + 1 = n8 := ⟨_, rfl⟩
     rw [hn8] at hv8
     subst hv8
     have HBW8 := Lib.hid hpu8
     clear hown8 hgr8 hat8 hpu8 hn8 hrow7 hsrc7 hlen7 h637 hby7 hbs7 hw7
     have HE : Hid (Rd.RP base FIN (.slice av acc.length cv) w (.returned (.slice a8 n8 c8)) w8) := ⟨_, rfl, by
      have h1 := HBW8.out
      rw [← HAE.out, ← HAC.out, HAS.out.1] at h1
      rw [← HFIN.out]
      simp only [List.append_assoc] at h1 ⊢
      exact Rd.Bw.from HB2.out h1⟩
     clear HBW8 HBW7 HBWI
     go_wp2
     go_ret
     exact HE.out
set_option maxRecDepth 100000 in
set_option maxHeartbeats 16000000 in
theorem text_list7 {G : Nat → Prop} (n : Int) (s : ByteArray) (m : List Int) (l t : List Dt.D) (hil : ∀ x ∈ l, Rd.TextIs x ∧ Dt.Wf x ∧ Rd.Fine x) (hit : ∀ x ∈ t, Rd.TextIs x ∧ Dt.Wf x ∧ Rd.Fine x) (hsh : Rd.shortL 7 l = 0) (hln : l.length ≤ 140737488355328 ∧ t.length ≤ 1) (base : Nat) (acc : List UInt8) (v vm vl vt : Value) (w : World) (hR : Dt.Rep G w (.mk 7 n s m l t) vm vl vt) (hG : ∀ k, G k → k < base)
  (hrow : w.ownsRow base 5 1 v acc.length (Lib.byteCells acc)) (hb : base ≤ w.heap.size) (hl : acc.length + ((Tx.signL 1 ++ Rd.txts l ++ Rd.txtt t ++ [41]).length) ≤ 140737488355328) :
  Calls Try.prog 30 #[v, .agg #[.int .i64 7, .int .i64 n, .string s, vm, vl, vt]] w (Rd.RP base (acc ++ (Tx.signL 1 ++ Rd.txts l ++ Rd.txtt t ++ [41])) v w) := by
 obtain ⟨b1, m1, p1, b2, m2, p2, b3, m3, p3, rfl, rfl, rfl⟩ := hR.forms
 obtain ⟨w1, hw1⟩ : ∃ w1, w.alloc (.cells #[.int .i64 7, .int .i64 n, .string s, .slice b1 m1 p1, .slice b2 m2 p2, .slice b3 m3 p3] 25) = w1 := ⟨_, rfl⟩
 obtain ⟨hb1, hs1⟩ := new_below hw1
 have hX1 := Hp.new hw1
 obtain ⟨X, hX⟩ : ∃ X, w.heap.size = X := ⟨_, rfl⟩
 rw [hX] at hX1 hs1
 obtain ⟨av, cv, rfl⟩ := Dt.row_form hrow
 obtain ⟨i0, hi, hz0, hz1, hz2⟩ := info_parts Cd.infoB
 have HI0 := Lib.hid hi
 have HZ0 := Lib.hid hz0
 have HZ1 := Lib.hid hz1
 have HZ2 := Lib.hid hz2
 clear hi hz0 hz1 hz2
 have hq := rShort_any (.mk 7 n s m l t) _ _ _ w1 (hR.below hb1)
 rw [show Rd.shortL (Dt.D.mk 7 n s m l t).k (Dt.D.mk 7 n s m l t).l = 0 from hsh] at hq
 simp only [Dt.D.k, Dt.D.n, Dt.D.s] at hq
 obtain ⟨FIN, hFIN⟩ : ∃ FIN, acc ++ (Tx.signL 1 ++ Rd.txts l ++ Rd.txtt t ++ [41]) = FIN := ⟨_, rfl⟩
 rw [hFIN]
 have HFIN := Lib.hid hFIN
 clear hFIN
 simp only [List.length_append, List.length_cons, List.length_nil] at hl
 obtain ⟨-, ⟨al, cl, e2, hcl, hcs⟩, ⟨at_, ct, e3, hct, hts⟩⟩ := (Dt.rep_iff _ _ _ _ _ _).1 hR
 cases e2
 cases e3
 rw [show (Dt.D.mk 7 n s m l t).l.length = l.length from rfl, show (Dt.D.mk 7 n s m l t).t.length = t.length from rfl] at hw1 hX1 hq
 obtain ⟨N, hN⟩ : ∃ N, l.length = N := ⟨_, rfl⟩
 obtain ⟨T, hT⟩ : ∃ T, t.length = T := ⟨_, rfl⟩
 rw [hN, hT] at hw1 hX1 hq
 rw [show (Dt.D.mk 7 n s m l t).l.length = l.length from rfl, show (Dt.D.mk 7 n s m l t).t.length = t.length from rfl, hN, hT]
 have HHL : Hid (acc.length + ((Tx.signL 1).length + (Rd.txts l).length + (Rd.txtt t).length + 1) ≤ 140737488355328) := by show _ ≤ _; omega
 have HCS := Lib.hid hcs
 have HTS := Lib.hid hts
 have HIL := Lib.hid hil
 have HIT := Lib.hid hit
 have HNT : Hid (l.length = N ∧ t.length = T ∧ N ≤ 140737488355328 ∧ T ≤ 1) := ⟨hN, hT, by omega, by omega⟩
 have HGG := Lib.hid hG
 have HB1 := Lib.hid hb1
 have HX1 := Lib.hid hX1
 have HR := Lib.hid hR
 have HROW := Lib.hid hrow
 have HB0 := Lib.hid hb
 have HXX : Hid (w.heap.size = X) := hX
 have x0 := hX1.cell 0 rfl
 have x1 := hX1.cell 1 rfl
 have x2 := hX1.cell 2 rfl
 have x3 := hX1.cell 3 rfl
 have x4 := hX1.cell 4 rfl
 have x5 := hX1.cell 5 rfl
 clear hX1 hb1 hs1 hR hb hcs hts hG hil hit hln hl hcl hct hN hT hrow
 go_enter Try.func30, Try.ntmps30
 go_wp2_with fail
 refine hq.mono ?_
 rintro e w2 ⟨rfl, hb2⟩
 have HBW2 := Lib.hid ((((Rd.Bw.start HROW.out).below HB1.out).below hb2).again)
 have HX2 := Lib.hid (HX1.out.below hb2)
 have HB2 : Hid (Below w.heap.size w w2) := HB1.out.trans (hb2.mono HB1.out.size)
 have HBS : Hid (base ≤ w2.heap.size) := Nat.le_trans HB0.out HB2.out.size
 have HOW : Hid (∀ k, (Value.slice av acc.length cv).ownBlock = some k → base ≤ k ∧ k < w.heap.size) := fun k e => HROW.out.lt k e
 have HNF : Hid (∀ W, Keep (fun k => (Value.slice av acc.length cv).ownBlock = some k) w2 W → Hp W X #[.int .i64 7, .int .i64 n, .string s, .slice b1 m1 p1, .slice b2 N p2, .slice b3 T p3] 25 ∧ (∀ (g o : Nat) (x : Dt.D) (um ul ut : Value), G g → g < w.heap.size → Dt.Six w g o x um ul ut → Dt.Six W g o x um ul ut) ∧ (∀ (x : Dt.D) (um ul ut : Value), Dt.Rep G w x um ul ut → Dt.Rep G W x um ul ut)) := fun W hk => by
  have hkw : Keep (fun k => (Value.slice av acc.length cv).ownBlock = some k) w W := (keep_of_below HB2.out).trans hk
  refine ⟨HX2.out.keep hk (fun e => by have := (HOW.out X e).2; have := HXX.out; omega), fun g o x um ul ut hg hgl h => h.keep hkw hgl (fun e => by have := (HOW.out g e).1; have := HGG.out g hg; omega), fun x um ul ut h => Dt.Rep.keep hkw (fun k hk _ e => by have := (HOW.out k e).1; have := HGG.out k hk; omega) x h⟩
 clear hq hb2 hw1 x0 x1 x2 x3 x4 x5 HX1
 have x0 := HX2.out.cell 0 rfl
 have x1 := HX2.out.cell 1 rfl
 have x2 := HX2.out.cell 2 rfl
 have x3 := HX2.out.cell 3 rfl
 have x4 := HX2.out.cell 4 rfl
 have x5 := HX2.out.cell 5 rfl
 obtain ⟨w5, hw5⟩ : ∃ w5, w2.alloc (.cells #[.int .u8 40] 5) = w5 := ⟨_, rfl⟩
 obtain ⟨hb5, hs5⟩ := new_below hw5
 have hsrc5 : Ap.Src w5 (.slice (some ⟨w2.heap.size, 0, none⟩) 1 1) 1 [.int .u8 40] := .inr ⟨_, _, rfl, fun q u hu => by
  rw [Addr.add_mid, Nat.zero_add]
  exact (Hp.new hw5).cell q (by rw [← hu]; simp)⟩
 have HBW5 := Lib.hid (HBW2.out.below hb5)
 have hrow5 := HBW5.out.row
 have hbs5 : base ≤ w5.heap.size := Nat.le_trans HBS.out HBW5.out.kp.size
 have hlen5 : (acc).length + 1 ≤ 140737488355328 := by have := HHL.out; omega
 have h635 : (acc).length + 1 ≤ maxLen := by unfold maxLen; omega
 have hby5 : ((acc).length + 1) * 1 ≤ 140737488355328 := by omega
 clear hb5 hs5
 go_wp2_with (at_builtin; refine Ap.list rfl _ _ 53 rfl base 5 i0 (.int .u8 0) 1 1 Try.underlying53 HI0.out HZ0.out HZ1.out HZ2.out rfl (by decide) _ (acc).length _ rfl hrow5 (.slice (some ⟨w2.heap.size, 0, none⟩) 1 1) 1 [.int .u8 40] rfl hsrc5 rfl (by intro u hu; simp at hu; subst hu; rfl) h635 hby5 hbs5 ?_)
 intro v6 w6 hown6 hgr6 hat6
 have hpu6 := HBW5.out.trans (Rd.Bw.push (x := [40]) hown6 hgr6 hat6)
 obtain ⟨a6, c6, hv6⟩ := Dt.row_form hown6
 obtain ⟨n6, hn6⟩ : ∃ n6, (acc).length + 1 = n6 := ⟨_, rfl⟩
 rw [hn6] at hv6
 subst hv6
 have HBW6 := Lib.hid hpu6
 clear hown6 hgr6 hat6 hpu6 hn6 hrow5 hsrc5 hlen5 h635 hby5 hbs5 hw5
 clear x0 x1 x2 x3 x4 x5
 obtain ⟨AS, hAS⟩ : ∃ AS, acc ++ [40] = AS := ⟨_, rfl⟩
 rw [hAS] at HBW6
 have HAS : Hid (AS = acc ++ Tx.signL 1 ∧ AS.length = acc.length + (Tx.signL 1).length) := by
  refine ⟨by rw [← hAS]; simp [Tx.signL], by rw [← hAS]; simp [Tx.signL]⟩
 clear hAS
 have hx6 := (HNF.out w6 HBW6.out.kp).1
 have x4 := hx6.cell 4 rfl
 clear hx6
 go_wp2
 go_loopw [6, 0] (fun vi vb wr => ∃ (j : Nat) (aj : Option Addr) (nj cj : Nat), vi = .int .i64 j ∧ vb = .slice aj nj cj ∧ j ≤ N ∧ Hid (Rd.Bw base w2 (.slice av acc.length cv) wr (AS ++ Rd.txts (l.take j)) (.slice aj nj cj))) (fun vi _ _ => N - (intOf vi).toNat)
 case atStart => exact ⟨0, _, _, _, rfl, rfl, by omega, by rw [List.take_zero, Rd.txts, List.append_nil]; exact HBW6.out⟩
 case round =>
  clear HBW6
  obtain ⟨j, aj, nj, cj, rfl, rfl, hj, HBJ⟩ := hrel
  by_cases hlt : j < N
  case pos =>
   have hlti : (j : Int) < (N : Int) := by omega
   have HJW : Hid (wrap64 ((j : Int) + 1) = (j : Int) + 1) := by have := HNT.out; show _ = _; unfold wrap64; omega
   have hjl : j < l.length := by have := HNT.out; omega
   obtain ⟨g, o, rfl, hGg, hgl, hreps⟩ := HCS.out (by intro e; have e' : l = [] := e; rw [e'] at hjl; exact absurd hjl (by simp))
   obtain ⟨um, ul, ut, hsix, hrz⟩ := hreps.at j hjl
   obtain ⟨d1, f1, q1, d2, f2, q2, d3, f3, q3, rfl, rfl, rfl⟩ := hrz.forms
   obtain ⟨z, hz⟩ : ∃ z, l[j] = z := ⟨_, rfl⟩
   have HTK : Hid (Rd.txts (l.take (j + 1)) = Rd.txts (l.take j) ++ (if j = 0 then [] else [32]) ++ Rd.txt z) := by show _ = _; rw [Rd.txts_take l j hjl, hz]
   have HIZ := Lib.hid (HIL.out l[j] (List.getElem_mem hjl))
   rw [hz] at HIZ
   have HRZ : Hid (Dt.Rep G w z (.slice d1 f1 q1) (.slice d2 f2 q2) (.slice d3 f3 q3)) := by rw [← hz]; exact hrz
   have HSX : Hid (Dt.Six w g (o + j * 6) z (.slice d1 f1 q1) (.slice d2 f2 q2) (.slice d3 f3 q3)) := by rw [← hz]; exact hsix
   have HGL : Hid (G g ∧ g < w.heap.size) := ⟨hGg, hgl⟩
   have HLE : Hid ((Rd.txts (l.take (j + 1))).length ≤ (Rd.txts l).length) := Rd.txts_le l (j + 1)
   clear hsix hrz hreps hz hjl hGg hgl
   obtain ⟨hx, hsx, hrx⟩ := HNF.out wr HBJ.out.kp
   have x4 := hx.cell 4 rfl
   clear hx
   by_cases hj0 : j = 0
   case pos =>
    subst hj0
    obtain ⟨y0, y1, y2, y3, y4, y5⟩ := hsx g (o + 0 * 6) z _ _ _ HGL.out.1 HGL.out.2 HSX.out
    simp only [Nat.zero_mul, Nat.add_zero] at y0 y1 y2 y3 y4 y5
    have hc := HIZ.out.1 G base (AS ++ Rd.txts (l.take 0)) (.slice aj nj cj) _ _ _ wr HIZ.out.2.1 HIZ.out.2.2 (hrx z _ _ _ HRZ.out) HGG.out HBJ.out.row (Nat.le_trans HBS.out HBJ.out.kp.size) (by have h1 := HTK.out; have h2 := HLE.out; have h3 := HHL.out; have h4 := HAS.out.2; rw [h1] at h2; simp only [List.length_append] at h2 ⊢; omega)
    clear hsx hrx
    go_wp2_with fail
    refine hc.mono ?_
    rintro e w8 ⟨v8, rfl, hp8⟩
    obtain ⟨a8, c8, hv8⟩ := Dt.row_form hp8.row
    obtain ⟨n8, hn8⟩ : ∃ n8, (AS ++ Rd.txts (l.take 0) ++ Rd.txt z).length = n8 := ⟨_, rfl⟩
    rw [hn8] at hv8
    subst hv8
    have HN8 : Hid (Rd.Bw base w2 (.slice av acc.length cv) w8 (AS ++ Rd.txts (l.take 1)) (.slice a8 n8 c8)) := by
     have := HBJ.out.trans hp8
     have h1 := HTK.out
     simp only [Nat.zero_add, if_pos] at h1
     show Rd.Bw _ _ _ _ _ _
     rw [h1, List.append_nil, ← List.append_assoc]
     exact this
    clear hc hp8 y0 y1 y2 y3 y4 y5 hn8 HBJ x4
    go_wp2
    go_roundw
    case rel => exact ⟨1, a8, n8, c8, by simp, rfl, by omega, HN8⟩
    case measure => simp [intOf]; omega
   case neg =>
    have hji : (0 : Int) < (j : Int) := by omega
    obtain ⟨AC, hAC⟩ : ∃ AC, AS ++ Rd.txts (l.take j) = AC := ⟨_, rfl⟩
    rw [hAC] at HBJ
    have HAC := Lib.hid hAC
    clear hAC hsx hrx
    have HBWJ := HBJ
    obtain ⟨w7, hw7⟩ : ∃ w7, wr.alloc (.cells #[.int .u8 32] 5) = w7 := ⟨_, rfl⟩
    obtain ⟨hb7, hs7⟩ := new_below hw7
    have hsrc7 : Ap.Src w7 (.slice (some ⟨wr.heap.size, 0, none⟩) 1 1) 1 [.int .u8 32] := .inr ⟨_, _, rfl, fun q u hu => by
     rw [Addr.add_mid, Nat.zero_add]
     exact (Hp.new hw7).cell q (by rw [← hu]; simp)⟩
    have HBW7 := Lib.hid (HBWJ.out.below hb7)
    have hrow7 := HBW7.out.row
    have hbs7 : base ≤ w7.heap.size := Nat.le_trans HBS.out HBW7.out.kp.size
    have hlen7 : (AC).length + 1 ≤ 140737488355328 := by have h1 := HTK.out; have h2 := HLE.out; have h3 := HHL.out; have h4 := HAS.out.2; have h5 := congrArg List.length HAC.out; rw [h1, if_neg hj0] at h2; simp only [List.length_append, List.length_cons, List.length_nil] at h2 h5; omega
    have h637 : (AC).length + 1 ≤ maxLen := by unfold maxLen; omega
    have hby7 : ((AC).length + 1) * 1 ≤ 140737488355328 := by omega
    clear hb7 hs7
    go_wp2_with (at_builtin; refine Ap.list rfl _ _ 53 rfl base 5 i0 (.int .u8 0) 1 1 Try.underlying53 HI0.out HZ0.out HZ1.out HZ2.out rfl (by decide) (.slice aj nj cj) (AC).length _ rfl hrow7 (.slice (some ⟨wr.heap.size, 0, none⟩) 1 1) 1 [.int .u8 32] rfl hsrc7 rfl (by intro u hu; simp at hu; subst hu; rfl) h637 hby7 hbs7 ?_)
    intro v8 w8 hown8 hgr8 hat8
    have hpu8 := HBW7.out.trans (Rd.Bw.push (x := [32]) hown8 hgr8 hat8)
    obtain ⟨a8, c8, hv8⟩ := Dt.row_form hown8
    obtain ⟨n8, hn8⟩ : ∃ n8, (AC).length + 1 = n8 := ⟨_, rfl⟩
    rw [hn8] at hv8
    subst hv8
    have HBW8 := Lib.hid hpu8
    clear hown8 hgr8 hat8 hpu8 hn8 hrow7 hsrc7 hlen7 h637 hby7 hbs7 hw7
    obtain ⟨hx, hsx, hrx⟩ := HNF.out w8 HBW8.out.kp
    replace x4 := hx.cell 4 rfl
    obtain ⟨y0, y1, y2, y3, y4, y5⟩ := hsx g (o + j * 6) z _ _ _ HGL.out.1 HGL.out.2 HSX.out
    have hc := HIZ.out.1 G base (AC ++ [32]) (.slice a8 n8 c8) _ _ _ w8 HIZ.out.2.1 HIZ.out.2.2 (hrx z _ _ _ HRZ.out) HGG.out HBW8.out.row (Nat.le_trans HBS.out HBW8.out.kp.size) (by have h1 := HTK.out; have h2 := HLE.out; have h3 := HHL.out; have h4 := HAS.out.2; have h5 := congrArg List.length HAC.out; rw [h1, if_neg hj0] at h2; simp only [List.length_append, List.length_cons, List.length_nil] at h2 h5 ⊢; omega)
    clear hx hsx hrx
    go_wp2_with fail
    refine hc.mono ?_
    rintro e w9 ⟨v9, rfl, hp9⟩
    obtain ⟨a9, c9, hv9⟩ := Dt.row_form hp9.row
    obtain ⟨n9, hn9⟩ : ∃ n9, (AC ++ [32] ++ Rd.txt z).length = n9 := ⟨_, rfl⟩
    rw [hn9] at hv9
    subst hv9
    have HN9 : Hid (Rd.Bw base w2 (.slice av acc.length cv) w9 (AS ++ Rd.txts (l.take (j + 1))) (.slice a9 n9 c9)) := by
     have := HBW8.out.trans hp9
     show Rd.Bw _ _ _ _ _ _
     rw [HTK.out, if_neg hj0, ← List.append_assoc, ← List.append_assoc, HAC.out]
     exact this
    clear hc hp9 y0 y1 y2 y3 y4 y5 hn9 HBJ HBWJ HBW8 HBW7 x4
    go_wp2
    go_roundw
    case rel => exact ⟨j + 1, a9, n9, c9, by rw [HJW.out]; simp, rfl, by omega, HN9⟩
    case measure => rw [HJW.out]; simp [intOf]; omega
  case neg =>
   have hge : (N : Int) ≤ (j : Int) := by omega
   have hge' : ¬ (j : Int) < (N : Int) := by omega
   have hbj := HBJ.out
   rw [List.take_of_length_le (by have := HNT.out; omega)] at hbj
   obtain ⟨AC, hAC⟩ : ∃ AC, AS ++ Rd.txts l = AC := ⟨_, rfl⟩
   rw [hAC] at hbj
   have HAC := Lib.hid hAC
   have HBR := Lib.hid hbj
   have hx := (HNF.out wr hbj.kp).1
   have x4 := hx.cell 4 rfl
   have x5 := hx.cell 5 rfl
   clear hAC HBJ hbj hx
   go_wp2
   go_loopw [7, 0] (fun vi vb ws => ∃ (i : Nat) (ai : Option Addr) (ni ci : Nat), vi = .int .i64 i ∧ vb = .slice ai ni ci ∧ i ≤ T ∧ Hid (Rd.Bw base w2 (.slice av acc.length cv) ws (AC ++ Rd.txtt (t.take i)) (.slice ai ni ci))) (fun vi _ _ => T - (intOf vi).toNat)
   case atStart => exact ⟨0, _, _, _, rfl, rfl, by omega, by rw [List.take_zero, Rd.txtt, List.append_nil]; exact HBR.out⟩
   case round =>
    clear HBR x4 x5
    obtain ⟨i, ai, ni, ci, rfl, rfl, hi, HBI⟩ := hrel
    by_cases hlt2 : i < T
    case pos =>
     obtain rfl : i = 0 := by have := HNT.out; omega
     have hlti : (0 : Int) < (T : Int) := by omega
     have hbi := HBI.out
     rw [List.take_zero, Rd.txtt, List.append_nil] at hbi
     have HBI0 := Lib.hid hbi
     have hTl : 0 < t.length := by have := HNT.out; omega
     obtain ⟨g, o, rfl, hGg, hgl, hreps⟩ := HTS.out (by intro e; have e' : t = [] := e; rw [e'] at hTl; exact absurd hTl (by simp))
     obtain ⟨um, ul, ut, hsix, hrz⟩ := hreps.at 0 hTl
     obtain ⟨d1, f1, q1, d2, f2, q2, d3, f3, q3, rfl, rfl, rfl⟩ := hrz.forms
     obtain ⟨z, hz⟩ : ∃ z, t[0] = z := ⟨_, rfl⟩
     have HIZ := Lib.hid (HIT.out t[0] (List.getElem_mem hTl))
     have htz : t = [z] := by
      have h1 := HNT.out
      match t, hTl, hz with
      | [y], _, hz => rw [← hz]; rfl
      | _ :: _ :: _, _, _ => simp at h1; omega
     rw [hz] at HIZ
     have HRZ : Hid (Dt.Rep G w z (.slice d1 f1 q1) (.slice d2 f2 q2) (.slice d3 f3 q3)) := by rw [← hz]; exact hrz
     have HSX : Hid (Dt.Six w g o z (.slice d1 f1 q1) (.slice d2 f2 q2) (.slice d3 f3 q3)) := by
      rw [← hz]
      rw [Nat.zero_mul, Nat.add_zero] at hsix
      exact hsix
     have HTZ : Hid (Rd.txtt t = 32 :: 46 :: 32 :: Rd.txt z ∧ Rd.txtt (t.take 1) = 32 :: 46 :: 32 :: Rd.txt z) := by
      rw [htz]
      exact ⟨by rw [Rd.txtt], by rw [List.take_succ_cons, Rd.txtt]⟩
     have HKP : Hid (∀ W, Keep (fun k => (Value.slice av acc.length cv).ownBlock = some k) w2 W → (W.cell? ⟨X, 5, none⟩ = some (.slice (some ⟨g, o, none⟩) T p3) ∧ Dt.Six W g o z (.slice d1 f1 q1) (.slice d2 f2 q2) (.slice d3 f3 q3))) := fun W hk =>
      ⟨(HNF.out W hk).1.cell 5 rfl, (HNF.out W hk).2.1 g o z _ _ _ hGg hgl HSX.out⟩
     have HBD : Hid (Rd.Bw base w2 (.slice av acc.length cv) wr.drew AC (.slice ai ni ci)) := HBI0.out.below (Below.refl _ wr).drew
     have HS0 := HKP.out _ HBD.out.kp
     have hrowd := HBD.out.row
     have x5 := HKP.out _ hbi.kp |>.1
     have hlen3 : AC.length + 3 + (Rd.txt z).length ≤ 140737488355328 := by have h3 := HHL.out; have h4 := HAS.out.2; have h5 := congrArg List.length HAC.out; have h6 := congrArg List.length HTZ.out.1; simp only [List.length_append, List.length_cons] at h5 h6; omega
     clear hbi hsix hrz hreps hz htz HBI hTl hGg hgl
     go_upto_region 27 with fail
     clear x5
     refine wp_region_noPanic ?_
     refine wp_region_held_drew (S := fun W => W.cell? ⟨X, 5, none⟩ = some (.slice (some ⟨g, o, none⟩) T p3) ∧ Dt.Six W g o z (.slice d1 f1 q1) (.slice d2 f2 q2) (.slice d3 f3 q3)) (by kernel_rfl) HS0 (fun hHeld => ?_)
     refine wpAnyH_take (i := 0) (oi := ⟨_, _, _, _, _, _⟩) (v := ?_) rfl (by kernel_rfl) (by kernel_rfl) (by kernel_rfl) (fun _ _ _ h => h) (Or.inl ⟨by rfl, ?_⟩) (by assumption) ?_
     rotate_left
     ·intro w hSw
      clear hSw
      go_simp
      try with_reducible rfl
     simp only [Act.put, List.setIfInBounds_toArray, List.set_cons_zero, List.set_cons_succ]
     refine wpAnyH_take (i := 2) (oi := ⟨_, _, _, _, _, _⟩) (v := ?_) rfl (by kernel_rfl) (by kernel_rfl) (by kernel_rfl) (fun _ _ _ h => h) (Or.inl ⟨by rfl, ?_⟩) (by assumption) ?_
     rotate_left
     ·intro w hSw
      clear hSw
      go_simp
      try with_reducible rfl
     simp only [Act.put, List.setIfInBounds_toArray, List.set_cons_zero, List.set_cons_succ]
     refine wpAnyH_take (i := 3) (oi := ⟨_, _, _, _, _, _⟩) (v := ?_) rfl (by kernel_rfl) (by kernel_rfl) (by kernel_rfl) (fun _ _ _ h => h) (Or.inl ⟨by rfl, ?_⟩) (by assumption) ?_
     rotate_left
     ·intro w hSw
      obtain ⟨x5, y0, y1, y2, y3, y4, y5⟩ := hSw
      go_simp
      try with_reducible rfl
     simp only [Act.put, List.setIfInBounds_toArray, List.set_cons_zero, List.set_cons_succ]
     refine wpAnyH_take (i := 4) (oi := ⟨_, _, _, _, _, _⟩) (v := ?_) rfl (by kernel_rfl) (by kernel_rfl) (by kernel_rfl) (fun _ _ _ h => h) (Or.inl ⟨by rfl, ?_⟩) (by assumption) ?_
     rotate_left
     ·intro w hSw
      clear hSw
      go_simp
      try with_reducible rfl
     simp only [Act.put, List.setIfInBounds_toArray, List.set_cons_zero, List.set_cons_succ]
     refine wpAnyH_take (i := 5) (oi := ⟨_, _, _, _, _, _⟩) (v := ?_) rfl (by kernel_rfl) (by kernel_rfl) (by kernel_rfl) (fun _ _ _ h => h) (Or.inl ⟨by rfl, ?_⟩) (by assumption) ?_
     rotate_left
     ·intro w hSw
      clear hSw
      go_simp
      try with_reducible rfl
     simp only [Act.put, List.setIfInBounds_toArray, List.set_cons_zero, List.set_cons_succ]
     refine wpAnyH_take (i := 6) (oi := ⟨_, _, _, _, _, _⟩) (v := ?_) rfl (by kernel_rfl) (by kernel_rfl) (by kernel_rfl) (fun _ _ _ h => h) (Or.inl ⟨by rfl, ?_⟩) (by assumption) ?_
     rotate_left
     ·intro w hSw
      obtain ⟨x5, y0, y1, y2, y3, y4, y5⟩ := hSw
      go_simp
      try with_reducible rfl
     simp only [Act.put, List.setIfInBounds_toArray, List.set_cons_zero, List.set_cons_succ]
     refine wpAnyH_ready (rs := [1]) (by kernel_rfl) (by simp) ?_
     refine AllReadyH.cons (o := ⟨_, _, _, _, _, _⟩) rfl (fun K hK => ?_) AllReadyH.nil
     refine Ap.strWp (.tmp 97) (.const (.string ⟨#[32, 46, 32]⟩)) 53 9 rfl base 5 i0 Try.underlying53 Try.underlying9 HI0.out HZ0.out HZ1.out HZ2.out (.slice ai ni ci) AC.length _ rfl hrowd ⟨#[32, 46, 32]⟩ rfl (by show AC.length + 3 ≤ _; unfold maxLen; omega) (by show AC.length + 3 ≤ _; omega) (Nat.le_trans HBS.out HBD.out.kp.size) ?_
     intro v4 w4 hown hgr hat
     have HBW4 := Lib.hid (HBD.out.trans (Rd.Bw.push (x := [32, 46, 32]) hown hgr hat))
     obtain ⟨a4, c4, hv4⟩ := Dt.row_form hown
     obtain ⟨n4, hn4⟩ : ∃ n4, AC.length + (⟨#[32, 46, 32]⟩ : ByteArray).size = n4 := ⟨_, rfl⟩
     rw [hn4] at hv4
     subst hv4
     clear hown hgr hat hn4
     refine hK.out _ _ ?_ (fun hHeld => ?_)
     ·exact HKP.out _ HBW4.out.kp
     clear hK K
     try simp only [Act.put, List.setIfInBounds_toArray, List.set_cons_zero, List.set_cons_succ]
     refine wpAnyH_ready (rs := [7]) (by kernel_rfl) (by simp) ?_
     refine AllReadyH.cons (o := ⟨_, _, _, _, _, _⟩) rfl (fun K hK => ?_) AllReadyH.nil
     go_simp
     have hcz := HIZ.out.1 G base (AC ++ [32, 46, 32]) (.slice a4 n4 c4) (.slice d1 f1 q1) (.slice d2 f2 q2) (.slice d3 f3 q3) w4 HIZ.out.2.1 HIZ.out.2.2 ((HNF.out w4 HBW4.out.kp).2.2 z _ _ _ HRZ.out) HGG.out HBW4.out.row (Nat.le_trans HBS.out HBW4.out.kp.size) (by simp only [List.length_append, List.length_cons, List.length_nil]; omega)
     refine hcz.mono ?_
     rintro e w9 ⟨v9, rfl, hbw9⟩
     obtain ⟨a9, c9, hv9⟩ := Dt.row_form hbw9.row
     obtain ⟨n9, hn9⟩ : ∃ n9, (AC ++ [32, 46, 32] ++ Rd.txt z).length = n9 := ⟨_, rfl⟩
     rw [hn9] at hv9
     subst hv9
     have HBW9 := Lib.hid (HBW4.out.trans hbw9)
     clear hcz hbw9 hn9
     dsimp only
     refine hK.out _ _ ?_ (fun hHeld => ?_)
     ·exact HKP.out _ HBW9.out.kp
     clear hK K
     try simp only [Act.put, List.setIfInBounds_toArray, List.set_cons_zero, List.set_cons_succ]
     refine wpAnyH_take (i := 8) (oi := ⟨_, _, _, _, _, _⟩) (v := ?_) rfl (by kernel_rfl) (by kernel_rfl) (by kernel_rfl) (fun _ _ _ h => h) (Or.inl ⟨by rfl, ?_⟩) (by assumption) ?_
     rotate_left
     ·intro w hSw
      clear hSw
      go_simp
      try with_reducible rfl
     simp only [Act.put, List.setIfInBounds_toArray, List.set_cons_zero]
     refine wpAnyH_done (by kernel_rfl) ?_ _
     refine NoPanic.normal ?_
     have HN9 : Hid (Rd.Bw base w2 (.slice av acc.length cv) w9 (AC ++ Rd.txtt (t.take 1)) (.slice a9 n9 c9)) := by
      have := HBW9.out
      show Rd.Bw _ _ _ _ _ _
      rw [HTZ.out.2]
      rw [List.append_assoc] at this
      exact this
     clear HKP HS0 HBD HBW9 HBW4 HBI0
     go_wp2
     go_roundw
     case rel => exact ⟨1, a9, n9, c9, by simp, rfl, by omega, HN9⟩
     case measure => simp [intOf]; omega
    case neg =>
     have hge2 : (T : Int) ≤ (i : Int) := by omega
     have hge2' : ¬ (i : Int) < (T : Int) := by omega
     have hbi := HBI.out
     rw [List.take_of_length_le (by have := HNT.out; omega)] at hbi
     obtain ⟨AE, hAE⟩ : ∃ AE, AC ++ Rd.txtt t = AE := ⟨_, rfl⟩
     rw [hAE] at hbi
     have HAE := Lib.hid hAE
     have HBWI := Lib.hid hbi
     have x5 := (HNF.out wr hbi.kp).1.cell 5 rfl
     clear hAE HBI hbi
     obtain ⟨w7, hw7⟩ : ∃ w7, wr.alloc (.cells #[.int .u8 41] 5) = w7 := ⟨_, rfl⟩
     obtain ⟨hb7, hs7⟩ := new_below hw7
     have hsrc7 : Ap.Src w7 (.slice (some ⟨wr.heap.size, 0, none⟩) 1 1) 1 [.int .u8 41] := .inr ⟨_, _, rfl, fun q u hu => by
      rw [Addr.add_mid, Nat.zero_add]
      exact (Hp.new hw7).cell q (by rw [← hu]; simp)⟩
     have HBW7 := Lib.hid (HBWI.out.below hb7)
     have hrow7 := HBW7.out.row
     have hbs7 : base ≤ w7.heap.size := Nat.le_trans HBS.out HBW7.out.kp.size
     have hlen7 : (AE).length + 1 ≤ 140737488355328 := by have h1 := HHL.out; have h4 := HAS.out.2; have h5 := congrArg List.length HAC.out; have h6 := congrArg List.length HAE.out; simp only [List.length_append] at h5 h6; omega
     have h637 : (AE).length + 1 ≤ maxLen := by unfold maxLen; omega
     have hby7 : ((AE).length + 1) * 1 ≤ 140737488355328 := by omega
     clear hb7 hs7
     go_wp2_with (at_builtin; refine Ap.list rfl _ _ 53 rfl base 5 i0 (.int .u8 0) 1 1 Try.underlying53 HI0.out HZ0.out HZ1.out HZ2.out rfl (by decide) (.slice ai ni ci) (AE).length _ rfl hrow7 (.slice (some ⟨wr.heap.size, 0, none⟩) 1 1) 1 [.int .u8 41] rfl hsrc7 rfl (by intro u hu; simp at hu; subst hu; rfl) h637 hby7 hbs7 ?_)
     intro v8 w8 hown8 hgr8 hat8
     have hpu8 := HBW7.out.trans (Rd.Bw.push (x := [41]) hown8 hgr8 hat8)
     obtain ⟨a8, c8, hv8⟩ := Dt.row_form hown8
     obtain ⟨n8, hn8⟩ : ∃ n8, (AE).length + 1 = n8 := ⟨_, rfl⟩
     rw [hn8] at hv8
     subst hv8
     have HBW8 := Lib.hid hpu8
     clear hown8 hgr8 hat8 hpu8 hn8 hrow7 hsrc7 hlen7 h637 hby7 hbs7 hw7
     have HE : Hid (Rd.RP base FIN (.slice av acc.length cv) w (.returned (.slice a8 n8 c8)) w8) := ⟨_, rfl, by
      have h1 := HBW8.out
      rw [← HAE.out, ← HAC.out, HAS.out.1] at h1
      rw [← HFIN.out]
      simp only [List.append_assoc] at h1 ⊢
      exact Rd.Bw.from HB2.out h1⟩
     clear HBW8 HBW7 HBWI
     go_wp2
     go_ret
     exact HE.out
set_option maxRecDepth 100000 in
set_option maxHeartbeats 16000000 in
theorem text_list8 {G : Nat → Prop} (n : Int) (s : ByteArray) (m : List Int) (l t : List Dt.D) (hil : ∀ x ∈ l, Rd.TextIs x ∧ Dt.Wf x ∧ Rd.Fine x) (hit : ∀ x ∈ t, Rd.TextIs x ∧ Dt.Wf x ∧ Rd.Fine x) (hsh : Rd.shortL 8 l = 0) (hln : l.length ≤ 140737488355328 ∧ t.length ≤ 1) (base : Nat) (acc : List UInt8) (v vm vl vt : Value) (w : World) (hR : Dt.Rep G w (.mk 8 n s m l t) vm vl vt) (hG : ∀ k, G k → k < base)
  (hrow : w.ownsRow base 5 1 v acc.length (Lib.byteCells acc)) (hb : base ≤ w.heap.size) (hl : acc.length + ((Tx.signL 3 ++ Rd.txts l ++ Rd.txtt t ++ [41]).length) ≤ 140737488355328) :
  Calls Try.prog 30 #[v, .agg #[.int .i64 8, .int .i64 n, .string s, vm, vl, vt]] w (Rd.RP base (acc ++ (Tx.signL 3 ++ Rd.txts l ++ Rd.txtt t ++ [41])) v w) := by
 obtain ⟨b1, m1, p1, b2, m2, p2, b3, m3, p3, rfl, rfl, rfl⟩ := hR.forms
 obtain ⟨w1, hw1⟩ : ∃ w1, w.alloc (.cells #[.int .i64 8, .int .i64 n, .string s, .slice b1 m1 p1, .slice b2 m2 p2, .slice b3 m3 p3] 25) = w1 := ⟨_, rfl⟩
 obtain ⟨hb1, hs1⟩ := new_below hw1
 have hX1 := Hp.new hw1
 obtain ⟨X, hX⟩ : ∃ X, w.heap.size = X := ⟨_, rfl⟩
 rw [hX] at hX1 hs1
 obtain ⟨av, cv, rfl⟩ := Dt.row_form hrow
 obtain ⟨i0, hi, hz0, hz1, hz2⟩ := info_parts Cd.infoB
 have HI0 := Lib.hid hi
 have HZ0 := Lib.hid hz0
 have HZ1 := Lib.hid hz1
 have HZ2 := Lib.hid hz2
 clear hi hz0 hz1 hz2
 have hq := rShort_any (.mk 8 n s m l t) _ _ _ w1 (hR.below hb1)
 rw [show Rd.shortL (Dt.D.mk 8 n s m l t).k (Dt.D.mk 8 n s m l t).l = 0 from hsh] at hq
 simp only [Dt.D.k, Dt.D.n, Dt.D.s] at hq
 obtain ⟨FIN, hFIN⟩ : ∃ FIN, acc ++ (Tx.signL 3 ++ Rd.txts l ++ Rd.txtt t ++ [41]) = FIN := ⟨_, rfl⟩
 rw [hFIN]
 have HFIN := Lib.hid hFIN
 clear hFIN
 simp only [List.length_append, List.length_cons, List.length_nil] at hl
 obtain ⟨-, ⟨al, cl, e2, hcl, hcs⟩, ⟨at_, ct, e3, hct, hts⟩⟩ := (Dt.rep_iff _ _ _ _ _ _).1 hR
 cases e2
 cases e3
 rw [show (Dt.D.mk 8 n s m l t).l.length = l.length from rfl, show (Dt.D.mk 8 n s m l t).t.length = t.length from rfl] at hw1 hX1 hq
 obtain ⟨N, hN⟩ : ∃ N, l.length = N := ⟨_, rfl⟩
 obtain ⟨T, hT⟩ : ∃ T, t.length = T := ⟨_, rfl⟩
 rw [hN, hT] at hw1 hX1 hq
 rw [show (Dt.D.mk 8 n s m l t).l.length = l.length from rfl, show (Dt.D.mk 8 n s m l t).t.length = t.length from rfl, hN, hT]
 have HHL : Hid (acc.length + ((Tx.signL 3).length + (Rd.txts l).length + (Rd.txtt t).length + 1) ≤ 140737488355328) := by show _ ≤ _; omega
 have HCS := Lib.hid hcs
 have HTS := Lib.hid hts
 have HIL := Lib.hid hil
 have HIT := Lib.hid hit
 have HNT : Hid (l.length = N ∧ t.length = T ∧ N ≤ 140737488355328 ∧ T ≤ 1) := ⟨hN, hT, by omega, by omega⟩
 have HGG := Lib.hid hG
 have HB1 := Lib.hid hb1
 have HX1 := Lib.hid hX1
 have HR := Lib.hid hR
 have HROW := Lib.hid hrow
 have HB0 := Lib.hid hb
 have HXX : Hid (w.heap.size = X) := hX
 have x0 := hX1.cell 0 rfl
 have x1 := hX1.cell 1 rfl
 have x2 := hX1.cell 2 rfl
 have x3 := hX1.cell 3 rfl
 have x4 := hX1.cell 4 rfl
 have x5 := hX1.cell 5 rfl
 clear hX1 hb1 hs1 hR hb hcs hts hG hil hit hln hl hcl hct hN hT hrow
 go_enter Try.func30, Try.ntmps30
 go_wp2_with fail
 refine hq.mono ?_
 rintro e w2 ⟨rfl, hb2⟩
 have HBW2 := Lib.hid ((((Rd.Bw.start HROW.out).below HB1.out).below hb2).again)
 have HX2 := Lib.hid (HX1.out.below hb2)
 have HB2 : Hid (Below w.heap.size w w2) := HB1.out.trans (hb2.mono HB1.out.size)
 have HBS : Hid (base ≤ w2.heap.size) := Nat.le_trans HB0.out HB2.out.size
 have HOW : Hid (∀ k, (Value.slice av acc.length cv).ownBlock = some k → base ≤ k ∧ k < w.heap.size) := fun k e => HROW.out.lt k e
 have HNF : Hid (∀ W, Keep (fun k => (Value.slice av acc.length cv).ownBlock = some k) w2 W → Hp W X #[.int .i64 8, .int .i64 n, .string s, .slice b1 m1 p1, .slice b2 N p2, .slice b3 T p3] 25 ∧ (∀ (g o : Nat) (x : Dt.D) (um ul ut : Value), G g → g < w.heap.size → Dt.Six w g o x um ul ut → Dt.Six W g o x um ul ut) ∧ (∀ (x : Dt.D) (um ul ut : Value), Dt.Rep G w x um ul ut → Dt.Rep G W x um ul ut)) := fun W hk => by
  have hkw : Keep (fun k => (Value.slice av acc.length cv).ownBlock = some k) w W := (keep_of_below HB2.out).trans hk
  refine ⟨HX2.out.keep hk (fun e => by have := (HOW.out X e).2; have := HXX.out; omega), fun g o x um ul ut hg hgl h => h.keep hkw hgl (fun e => by have := (HOW.out g e).1; have := HGG.out g hg; omega), fun x um ul ut h => Dt.Rep.keep hkw (fun k hk _ e => by have := (HOW.out k e).1; have := HGG.out k hk; omega) x h⟩
 clear hq hb2 hw1 x0 x1 x2 x3 x4 x5 HX1
 have x0 := HX2.out.cell 0 rfl
 have x1 := HX2.out.cell 1 rfl
 have x2 := HX2.out.cell 2 rfl
 have x3 := HX2.out.cell 3 rfl
 have x4 := HX2.out.cell 4 rfl
 have x5 := HX2.out.cell 5 rfl
 have hk8 : ((8 : Int) == 8) = true := rfl
 obtain ⟨w3, hw3⟩ : ∃ w3, w2.alloc (.cells #[.int .u8 35] 5) = w3 := ⟨_, rfl⟩
 obtain ⟨hb3, hs3⟩ := new_below hw3
 have hsrc3 : Ap.Src w3 (.slice (some ⟨w2.heap.size, 0, none⟩) 1 1) 1 [.int .u8 35] := .inr ⟨_, _, rfl, fun q u hu => by
  rw [Addr.add_mid, Nat.zero_add]
  exact (Hp.new hw3).cell q (by rw [← hu]; simp)⟩
 have HBW3 := Lib.hid (HBW2.out.below hb3)
 have hrow3 := HBW3.out.row
 have hbs3 : base ≤ w3.heap.size := Nat.le_trans HBS.out HBW3.out.kp.size
 have hlen3 : (acc).length + 1 ≤ 140737488355328 := by have := HHL.out; omega
 have h633 : (acc).length + 1 ≤ maxLen := by unfold maxLen; omega
 have hby3 : ((acc).length + 1) * 1 ≤ 140737488355328 := by omega
 clear hb3 hs3
 go_wp2_with (at_builtin; refine Ap.list rfl _ _ 53 rfl base 5 i0 (.int .u8 0) 1 1 Try.underlying53 HI0.out HZ0.out HZ1.out HZ2.out rfl (by decide) _ (acc).length _ rfl hrow3 (.slice (some ⟨w2.heap.size, 0, none⟩) 1 1) 1 [.int .u8 35] rfl hsrc3 rfl (by intro u hu; simp at hu; subst hu; rfl) h633 hby3 hbs3 ?_)
 intro v4 w4 hown4 hgr4 hat4
 have hpu4 := HBW3.out.trans (Rd.Bw.push (x := [35]) hown4 hgr4 hat4)
 obtain ⟨a4, c4, hv4⟩ := Dt.row_form hown4
 obtain ⟨n4, hn4⟩ : ∃ n4, (acc).length + 1 = n4 := ⟨_, rfl⟩
 rw [hn4] at hv4
 subst hv4
 have HBW4 := Lib.hid hpu4
 clear hown4 hgr4 hat4 hpu4 hn4 hrow3 hsrc3 hlen3 h633 hby3 hbs3 hw3
 clear x0 x1 x2 x3 x4 x5
 obtain ⟨A4, hA4⟩ : ∃ A4, acc ++ [35] = A4 := ⟨_, rfl⟩
 rw [hA4] at HBW4
 have HA4 := Lib.hid hA4
 clear hA4
 obtain ⟨w5, hw5⟩ : ∃ w5, w4.alloc (.cells #[.int .u8 40] 5) = w5 := ⟨_, rfl⟩
 obtain ⟨hb5, hs5⟩ := new_below hw5
 have hsrc5 : Ap.Src w5 (.slice (some ⟨w4.heap.size, 0, none⟩) 1 1) 1 [.int .u8 40] := .inr ⟨_, _, rfl, fun q u hu => by
  rw [Addr.add_mid, Nat.zero_add]
  exact (Hp.new hw5).cell q (by rw [← hu]; simp)⟩
 have HBW5 := Lib.hid (HBW4.out.below hb5)
 have hrow5 := HBW5.out.row
 have hbs5 : base ≤ w5.heap.size := Nat.le_trans HBS.out HBW5.out.kp.size
 have hlen5 : (A4).length + 1 ≤ 140737488355328 := by have h1 := HHL.out; have h2 := congrArg List.length HA4.out; simp only [List.length_append, List.length_cons, List.length_nil, show (Tx.signL 3).length = 2 from rfl] at h1 h2 ⊢; omega
 have h635 : (A4).length + 1 ≤ maxLen := by unfold maxLen; omega
 have hby5 : ((A4).length + 1) * 1 ≤ 140737488355328 := by omega
 clear hb5 hs5
 go_wp2_with (at_builtin; refine Ap.list rfl _ _ 53 rfl base 5 i0 (.int .u8 0) 1 1 Try.underlying53 HI0.out HZ0.out HZ1.out HZ2.out rfl (by decide) (.slice a4 n4 c4) (A4).length _ rfl hrow5 (.slice (some ⟨w4.heap.size, 0, none⟩) 1 1) 1 [.int .u8 40] rfl hsrc5 rfl (by intro u hu; simp at hu; subst hu; rfl) h635 hby5 hbs5 ?_)
 intro v6 w6 hown6 hgr6 hat6
 have hpu6 := HBW5.out.trans (Rd.Bw.push (x := [40]) hown6 hgr6 hat6)
 obtain ⟨a6, c6, hv6⟩ := Dt.row_form hown6
 obtain ⟨n6, hn6⟩ : ∃ n6, (A4).length + 1 = n6 := ⟨_, rfl⟩
 rw [hn6] at hv6
 subst hv6
 have HBW6 := Lib.hid hpu6
 clear hown6 hgr6 hat6 hpu6 hn6 hrow5 hsrc5 hlen5 h635 hby5 hbs5 hw5
 rw [← HA4.out] at HBW6
 obtain ⟨AS, hAS⟩ : ∃ AS, acc ++ [35] ++ [40] = AS := ⟨_, rfl⟩
 rw [hAS] at HBW6
 have HAS : Hid (AS = acc ++ Tx.signL 3 ∧ AS.length = acc.length + (Tx.signL 3).length) := by
  refine ⟨by rw [← hAS]; simp [Tx.signL], by rw [← hAS]; simp [Tx.signL]⟩
 clear hAS
 have hx6 := (HNF.out w6 HBW6.out.kp).1
 have x4 := hx6.cell 4 rfl
 clear hx6
 go_wp2
 go_loopw [6, 0] (fun vi vb wr => ∃ (j : Nat) (aj : Option Addr) (nj cj : Nat), vi = .int .i64 j ∧ vb = .slice aj nj cj ∧ j ≤ N ∧ Hid (Rd.Bw base w2 (.slice av acc.length cv) wr (AS ++ Rd.txts (l.take j)) (.slice aj nj cj))) (fun vi _ _ => N - (intOf vi).toNat)
 case atStart => exact ⟨0, _, _, _, rfl, rfl, by omega, by rw [List.take_zero, Rd.txts, List.append_nil]; exact HBW6.out⟩
 case round =>
  clear HBW6
  obtain ⟨j, aj, nj, cj, rfl, rfl, hj, HBJ⟩ := hrel
  by_cases hlt : j < N
  case pos =>
   have hlti : (j : Int) < (N : Int) := by omega
   have HJW : Hid (wrap64 ((j : Int) + 1) = (j : Int) + 1) := by have := HNT.out; show _ = _; unfold wrap64; omega
   have hjl : j < l.length := by have := HNT.out; omega
   obtain ⟨g, o, rfl, hGg, hgl, hreps⟩ := HCS.out (by intro e; have e' : l = [] := e; rw [e'] at hjl; exact absurd hjl (by simp))
   obtain ⟨um, ul, ut, hsix, hrz⟩ := hreps.at j hjl
   obtain ⟨d1, f1, q1, d2, f2, q2, d3, f3, q3, rfl, rfl, rfl⟩ := hrz.forms
   obtain ⟨z, hz⟩ : ∃ z, l[j] = z := ⟨_, rfl⟩
   have HTK : Hid (Rd.txts (l.take (j + 1)) = Rd.txts (l.take j) ++ (if j = 0 then [] else [32]) ++ Rd.txt z) := by show _ = _; rw [Rd.txts_take l j hjl, hz]
   have HIZ := Lib.hid (HIL.out l[j] (List.getElem_mem hjl))
   rw [hz] at HIZ
   have HRZ : Hid (Dt.Rep G w z (.slice d1 f1 q1) (.slice d2 f2 q2) (.slice d3 f3 q3)) := by rw [← hz]; exact hrz
   have HSX : Hid (Dt.Six w g (o + j * 6) z (.slice d1 f1 q1) (.slice d2 f2 q2) (.slice d3 f3 q3)) := by rw [← hz]; exact hsix
   have HGL : Hid (G g ∧ g < w.heap.size) := ⟨hGg, hgl⟩
   have HLE : Hid ((Rd.txts (l.take (j + 1))).length ≤ (Rd.txts l).length) := Rd.txts_le l (j + 1)
   clear hsix hrz hreps hz hjl hGg hgl
   obtain ⟨hx, hsx, hrx⟩ := HNF.out wr HBJ.out.kp
   have x4 := hx.cell 4 rfl
   clear hx
   by_cases hj0 : j = 0
   case pos =>
    subst hj0
    obtain ⟨y0, y1, y2, y3, y4, y5⟩ := hsx g (o + 0 * 6) z _ _ _ HGL.out.1 HGL.out.2 HSX.out
    simp only [Nat.zero_mul, Nat.add_zero] at y0 y1 y2 y3 y4 y5
    have hc := HIZ.out.1 G base (AS ++ Rd.txts (l.take 0)) (.slice aj nj cj) _ _ _ wr HIZ.out.2.1 HIZ.out.2.2 (hrx z _ _ _ HRZ.out) HGG.out HBJ.out.row (Nat.le_trans HBS.out HBJ.out.kp.size) (by have h1 := HTK.out; have h2 := HLE.out; have h3 := HHL.out; have h4 := HAS.out.2; rw [h1] at h2; simp only [List.length_append] at h2 ⊢; omega)
    clear hsx hrx
    go_wp2_with fail
    refine hc.mono ?_
    rintro e w8 ⟨v8, rfl, hp8⟩
    obtain ⟨a8, c8, hv8⟩ := Dt.row_form hp8.row
    obtain ⟨n8, hn8⟩ : ∃ n8, (AS ++ Rd.txts (l.take 0) ++ Rd.txt z).length = n8 := ⟨_, rfl⟩
    rw [hn8] at hv8
    subst hv8
    have HN8 : Hid (Rd.Bw base w2 (.slice av acc.length cv) w8 (AS ++ Rd.txts (l.take 1)) (.slice a8 n8 c8)) := by
     have := HBJ.out.trans hp8
     have h1 := HTK.out
     simp only [Nat.zero_add, if_pos] at h1
     show Rd.Bw _ _ _ _ _ _
     rw [h1, List.append_nil, ← List.append_assoc]
     exact this
    clear hc hp8 y0 y1 y2 y3 y4 y5 hn8 HBJ x4
    go_wp2
    go_roundw
    case rel => exact ⟨1, a8, n8, c8, by simp, rfl, by omega, HN8⟩
    case measure => simp [intOf]; omega
   case neg =>
    have hji : (0 : Int) < (j : Int) := by omega
    obtain ⟨AC, hAC⟩ : ∃ AC, AS ++ Rd.txts (l.take j) = AC := ⟨_, rfl⟩
    rw [hAC] at HBJ
    have HAC := Lib.hid hAC
    clear hAC hsx hrx
    have HBWJ := HBJ
    obtain ⟨w7, hw7⟩ : ∃ w7, wr.alloc (.cells #[.int .u8 32] 5) = w7 := ⟨_, rfl⟩
    obtain ⟨hb7, hs7⟩ := new_below hw7
    have hsrc7 : Ap.Src w7 (.slice (some ⟨wr.heap.size, 0, none⟩) 1 1) 1 [.int .u8 32] := .inr ⟨_, _, rfl, fun q u hu => by
     rw [Addr.add_mid, Nat.zero_add]
     exact (Hp.new hw7).cell q (by rw [← hu]; simp)⟩
    have HBW7 := Lib.hid (HBWJ.out.below hb7)
    have hrow7 := HBW7.out.row
    have hbs7 : base ≤ w7.heap.size := Nat.le_trans HBS.out HBW7.out.kp.size
    have hlen7 : (AC).length + 1 ≤ 140737488355328 := by have h1 := HTK.out; have h2 := HLE.out; have h3 := HHL.out; have h4 := HAS.out.2; have h5 := congrArg List.length HAC.out; rw [h1, if_neg hj0] at h2; simp only [List.length_append, List.length_cons, List.length_nil] at h2 h5; omega
    have h637 : (AC).length + 1 ≤ maxLen := by unfold maxLen; omega
    have hby7 : ((AC).length + 1) * 1 ≤ 140737488355328 := by omega
    clear hb7 hs7
    go_wp2_with (at_builtin; refine Ap.list rfl _ _ 53 rfl base 5 i0 (.int .u8 0) 1 1 Try.underlying53 HI0.out HZ0.out HZ1.out HZ2.out rfl (by decide) (.slice aj nj cj) (AC).length _ rfl hrow7 (.slice (some ⟨wr.heap.size, 0, none⟩) 1 1) 1 [.int .u8 32] rfl hsrc7 rfl (by intro u hu; simp at hu; subst hu; rfl) h637 hby7 hbs7 ?_)
    intro v8 w8 hown8 hgr8 hat8
    have hpu8 := HBW7.out.trans (Rd.Bw.push (x := [32]) hown8 hgr8 hat8)
    obtain ⟨a8, c8, hv8⟩ := Dt.row_form hown8
    obtain ⟨n8, hn8⟩ : ∃ n8, (AC).length + 1 = n8 := ⟨_, rfl⟩
    rw [hn8] at hv8
    subst hv8
    have HBW8 := Lib.hid hpu8
    clear hown8 hgr8 hat8 hpu8 hn8 hrow7 hsrc7 hlen7 h637 hby7 hbs7 hw7
    obtain ⟨hx, hsx, hrx⟩ := HNF.out w8 HBW8.out.kp
    replace x4 := hx.cell 4 rfl
    obtain ⟨y0, y1, y2, y3, y4, y5⟩ := hsx g (o + j * 6) z _ _ _ HGL.out.1 HGL.out.2 HSX.out
    have hc := HIZ.out.1 G base (AC ++ [32]) (.slice a8 n8 c8) _ _ _ w8 HIZ.out.2.1 HIZ.out.2.2 (hrx z _ _ _ HRZ.out) HGG.out HBW8.out.row (Nat.le_trans HBS.out HBW8.out.kp.size) (by have h1 := HTK.out; have h2 := HLE.out; have h3 := HHL.out; have h4 := HAS.out.2; have h5 := congrArg List.length HAC.out; rw [h1, if_neg hj0] at h2; simp only [List.length_append, List.length_cons, List.length_nil] at h2 h5 ⊢; omega)
    clear hx hsx hrx
    go_wp2_with fail
    refine hc.mono ?_
    rintro e w9 ⟨v9, rfl, hp9⟩
    obtain ⟨a9, c9, hv9⟩ := Dt.row_form hp9.row
    obtain ⟨n9, hn9⟩ : ∃ n9, (AC ++ [32] ++ Rd.txt z).length = n9 := ⟨_, rfl⟩
    rw [hn9] at hv9
    subst hv9
    have HN9 : Hid (Rd.Bw base w2 (.slice av acc.length cv) w9 (AS ++ Rd.txts (l.take (j + 1))) (.slice a9 n9 c9)) := by
     have := HBW8.out.trans hp9
     show Rd.Bw _ _ _ _ _ _
     rw [HTK.out, if_neg hj0, ← List.append_assoc, ← List.append_assoc, HAC.out]
     exact this
    clear hc hp9 y0 y1 y2 y3 y4 y5 hn9 HBJ HBWJ HBW8 HBW7 x4
    go_wp2
    go_roundw
    case rel => exact ⟨j + 1, a9, n9, c9, by rw [HJW.out]; simp, rfl, by omega, HN9⟩
    case measure => rw [HJW.out]; simp [intOf]; omega
  case neg =>
   have hge : (N : Int) ≤ (j : Int) := by omega
   have hge' : ¬ (j : Int) < (N : Int) := by omega
   have hbj := HBJ.out
   rw [List.take_of_length_le (by have := HNT.out; omega)] at hbj
   obtain ⟨AC, hAC⟩ : ∃ AC, AS ++ Rd.txts l = AC := ⟨_, rfl⟩
   rw [hAC] at hbj
   have HAC := Lib.hid hAC
   have HBR := Lib.hid hbj
   have hx := (HNF.out wr hbj.kp).1
   have x4 := hx.cell 4 rfl
   have x5 := hx.cell 5 rfl
   clear hAC HBJ hbj hx
   go_wp2
   go_loopw [7, 0] (fun vi vb ws => ∃ (i : Nat) (ai : Option Addr) (ni ci : Nat), vi = .int .i64 i ∧ vb = .slice ai ni ci ∧ i ≤ T ∧ Hid (Rd.Bw base w2 (.slice av acc.length cv) ws (AC ++ Rd.txtt (t.take i)) (.slice ai ni ci))) (fun vi _ _ => T - (intOf vi).toNat)
   case atStart => exact ⟨0, _, _, _, rfl, rfl, by omega, by rw [List.take_zero, Rd.txtt, List.append_nil]; exact HBR.out⟩
   case round =>
    clear HBR x4 x5
    obtain ⟨i, ai, ni, ci, rfl, rfl, hi, HBI⟩ := hrel
    by_cases hlt2 : i < T
    case pos =>
     obtain rfl : i = 0 := by have := HNT.out; omega
     have hlti : (0 : Int) < (T : Int) := by omega
     have hbi := HBI.out
     rw [List.take_zero, Rd.txtt, List.append_nil] at hbi
     have HBI0 := Lib.hid hbi
     have hTl : 0 < t.length := by have := HNT.out; omega
     obtain ⟨g, o, rfl, hGg, hgl, hreps⟩ := HTS.out (by intro e; have e' : t = [] := e; rw [e'] at hTl; exact absurd hTl (by simp))
     obtain ⟨um, ul, ut, hsix, hrz⟩ := hreps.at 0 hTl
     obtain ⟨d1, f1, q1, d2, f2, q2, d3, f3, q3, rfl, rfl, rfl⟩ := hrz.forms
     obtain ⟨z, hz⟩ : ∃ z, t[0] = z := ⟨_, rfl⟩
     have HIZ := Lib.hid (HIT.out t[0] (List.getElem_mem hTl))
     have htz : t = [z] := by
      have h1 := HNT.out
      match t, hTl, hz with
      | [y], _, hz => rw [← hz]; rfl
      | _ :: _ :: _, _, _ => simp at h1; omega
     rw [hz] at HIZ
     have HRZ : Hid (Dt.Rep G w z (.slice d1 f1 q1) (.slice d2 f2 q2) (.slice d3 f3 q3)) := by rw [← hz]; exact hrz
     have HSX : Hid (Dt.Six w g o z (.slice d1 f1 q1) (.slice d2 f2 q2) (.slice d3 f3 q3)) := by
      rw [← hz]
      rw [Nat.zero_mul, Nat.add_zero] at hsix
      exact hsix
     have HTZ : Hid (Rd.txtt t = 32 :: 46 :: 32 :: Rd.txt z ∧ Rd.txtt (t.take 1) = 32 :: 46 :: 32 :: Rd.txt z) := by
      rw [htz]
      exact ⟨by rw [Rd.txtt], by rw [List.take_succ_cons, Rd.txtt]⟩
     have HKP : Hid (∀ W, Keep (fun k => (Value.slice av acc.length cv).ownBlock = some k) w2 W → (W.cell? ⟨X, 5, none⟩ = some (.slice (some ⟨g, o, none⟩) T p3) ∧ Dt.Six W g o z (.slice d1 f1 q1) (.slice d2 f2 q2) (.slice d3 f3 q3))) := fun W hk =>
      ⟨(HNF.out W hk).1.cell 5 rfl, (HNF.out W hk).2.1 g o z _ _ _ hGg hgl HSX.out⟩
     have HBD : Hid (Rd.Bw base w2 (.slice av acc.length cv) wr.drew AC (.slice ai ni ci)) := HBI0.out.below (Below.refl _ wr).drew
     have HS0 := HKP.out _ HBD.out.kp
     have hrowd := HBD.out.row
     have x5 := HKP.out _ hbi.kp |>.1
     have hlen3 : AC.length + 3 + (Rd.txt z).length ≤ 140737488355328 := by have h3 := HHL.out; have h4 := HAS.out.2; have h5 := congrArg List.length HAC.out; have h6 := congrArg List.length HTZ.out.1; simp only [List.length_append, List.length_cons] at h5 h6; omega
     clear hbi hsix hrz hreps hz htz HBI hTl hGg hgl
     go_upto_region 27 with fail
     clear x5
     refine wp_region_noPanic ?_
     refine wp_region_held_drew (S := fun W => W.cell? ⟨X, 5, none⟩ = some (.slice (some ⟨g, o, none⟩) T p3) ∧ Dt.Six W g o z (.slice d1 f1 q1) (.slice d2 f2 q2) (.slice d3 f3 q3)) (by kernel_rfl) HS0 (fun hHeld => ?_)
     refine wpAnyH_take (i := 0) (oi := ⟨_, _, _, _, _, _⟩) (v := ?_) rfl (by kernel_rfl) (by kernel_rfl) (by kernel_rfl) (fun _ _ _ h => h) (Or.inl ⟨by rfl, ?_⟩) (by assumption) ?_
     rotate_left
     ·intro w hSw
      clear hSw
      go_simp
      try with_reducible rfl
     simp only [Act.put, List.setIfInBounds_toArray, List.set_cons_zero, List.set_cons_succ]
     refine wpAnyH_take (i := 2) (oi := ⟨_, _, _, _, _, _⟩) (v := ?_) rfl (by kernel_rfl) (by kernel_rfl) (by kernel_rfl) (fun _ _ _ h => h) (Or.inl ⟨by rfl, ?_⟩) (by assumption) ?_
     rotate_left
     ·intro w hSw
      clear hSw
      go_simp
      try with_reducible rfl
     simp only [Act.put, List.setIfInBounds_toArray, List.set_cons_zero, List.set_cons_succ]
     refine wpAnyH_take (i := 3) (oi := ⟨_, _, _, _, _, _⟩) (v := ?_) rfl (by kernel_rfl) (by kernel_rfl) (by kernel_rfl) (fun _ _ _ h => h) (Or.inl ⟨by rfl, ?_⟩) (by assumption) ?_
     rotate_left
     ·intro w hSw
      obtain ⟨x5, y0, y1, y2, y3, y4, y5⟩ := hSw
      go_simp
      try with_reducible rfl
     simp only [Act.put, List.setIfInBounds_toArray, List.set_cons_zero, List.set_cons_succ]
     refine wpAnyH_take (i := 4) (oi := ⟨_, _, _, _, _, _⟩) (v := ?_) rfl (by kernel_rfl) (by kernel_rfl) (by kernel_rfl) (fun _ _ _ h => h) (Or.inl ⟨by rfl, ?_⟩) (by assumption) ?_
     rotate_left
     ·intro w hSw
      clear hSw
      go_simp
      try with_reducible rfl
     simp only [Act.put, List.setIfInBounds_toArray, List.set_cons_zero, List.set_cons_succ]
     refine wpAnyH_take (i := 5) (oi := ⟨_, _, _, _, _, _⟩) (v := ?_) rfl (by kernel_rfl) (by kernel_rfl) (by kernel_rfl) (fun _ _ _ h => h) (Or.inl ⟨by rfl, ?_⟩) (by assumption) ?_
     rotate_left
     ·intro w hSw
      clear hSw
      go_simp
      try with_reducible rfl
     simp only [Act.put, List.setIfInBounds_toArray, List.set_cons_zero, List.set_cons_succ]
     refine wpAnyH_take (i := 6) (oi := ⟨_, _, _, _, _, _⟩) (v := ?_) rfl (by kernel_rfl) (by kernel_rfl) (by kernel_rfl) (fun _ _ _ h => h) (Or.inl ⟨by rfl, ?_⟩) (by assumption) ?_
     rotate_left
     ·intro w hSw
      obtain ⟨x5, y0, y1, y2, y3, y4, y5⟩ := hSw
      go_simp
      try with_reducible rfl
     simp only [Act.put, List.setIfInBounds_toArray, List.set_cons_zero, List.set_cons_succ]
     refine wpAnyH_ready (rs := [1]) (by kernel_rfl) (by simp) ?_
     refine AllReadyH.cons (o := ⟨_, _, _, _, _, _⟩) rfl (fun K hK => ?_) AllReadyH.nil
     refine Ap.strWp (.tmp 97) (.const (.string ⟨#[32, 46, 32]⟩)) 53 9 rfl base 5 i0 Try.underlying53 Try.underlying9 HI0.out HZ0.out HZ1.out HZ2.out (.slice ai ni ci) AC.length _ rfl hrowd ⟨#[32, 46, 32]⟩ rfl (by show AC.length + 3 ≤ _; unfold maxLen; omega) (by show AC.length + 3 ≤ _; omega) (Nat.le_trans HBS.out HBD.out.kp.size) ?_
     intro v4 w4 hown hgr hat
     have HBW4 := Lib.hid (HBD.out.trans (Rd.Bw.push (x := [32, 46, 32]) hown hgr hat))
     obtain ⟨a4, c4, hv4⟩ := Dt.row_form hown
     obtain ⟨n4, hn4⟩ : ∃ n4, AC.length + (⟨#[32, 46, 32]⟩ : ByteArray).size = n4 := ⟨_, rfl⟩
     rw [hn4] at hv4
     subst hv4
     clear hown hgr hat hn4
     refine hK.out _ _ ?_ (fun hHeld => ?_)
     ·exact HKP.out _ HBW4.out.kp
     clear hK K
     try simp only [Act.put, List.setIfInBounds_toArray, List.set_cons_zero, List.set_cons_succ]
     refine wpAnyH_ready (rs := [7]) (by kernel_rfl) (by simp) ?_
     refine AllReadyH.cons (o := ⟨_, _, _, _, _, _⟩) rfl (fun K hK => ?_) AllReadyH.nil
     go_simp
     have hcz := HIZ.out.1 G base (AC ++ [32, 46, 32]) (.slice a4 n4 c4) (.slice d1 f1 q1) (.slice d2 f2 q2) (.slice d3 f3 q3) w4 HIZ.out.2.1 HIZ.out.2.2 ((HNF.out w4 HBW4.out.kp).2.2 z _ _ _ HRZ.out) HGG.out HBW4.out.row (Nat.le_trans HBS.out HBW4.out.kp.size) (by simp only [List.length_append, List.length_cons, List.length_nil]; omega)
     refine hcz.mono ?_
     rintro e w9 ⟨v9, rfl, hbw9⟩
     obtain ⟨a9, c9, hv9⟩ := Dt.row_form hbw9.row
     obtain ⟨n9, hn9⟩ : ∃ n9, (AC ++ [32, 46, 32] ++ Rd.txt z).length = n9 := ⟨_, rfl⟩
     rw [hn9] at hv9
     subst hv9
     have HBW9 := Lib.hid (HBW4.out.trans hbw9)
     clear hcz hbw9 hn9
     dsimp only
     refine hK.out _ _ ?_ (fun hHeld => ?_)
     ·exact HKP.out _ HBW9.out.kp
     clear hK K
     try simp only [Act.put, List.setIfInBounds_toArray, List.set_cons_zero, List.set_cons_succ]
     refine wpAnyH_take (i := 8) (oi := ⟨_, _, _, _, _, _⟩) (v := ?_) rfl (by kernel_rfl) (by kernel_rfl) (by kernel_rfl) (fun _ _ _ h => h) (Or.inl ⟨by rfl, ?_⟩) (by assumption) ?_
     rotate_left
     ·intro w hSw
      clear hSw
      go_simp
      try with_reducible rfl
     simp only [Act.put, List.setIfInBounds_toArray, List.set_cons_zero]
     refine wpAnyH_done (by kernel_rfl) ?_ _
     refine NoPanic.normal ?_
     have HN9 : Hid (Rd.Bw base w2 (.slice av acc.length cv) w9 (AC ++ Rd.txtt (t.take 1)) (.slice a9 n9 c9)) := by
      have := HBW9.out
      show Rd.Bw _ _ _ _ _ _
      rw [HTZ.out.2]
      rw [List.append_assoc] at this
      exact this
     clear HKP HS0 HBD HBW9 HBW4 HBI0
     go_wp2
     go_roundw
     case rel => exact ⟨1, a9, n9, c9, by simp, rfl, by omega, HN9⟩
     case measure => simp [intOf]; omega
    case neg =>
     have hge2 : (T : Int) ≤ (i : Int) := by omega
     have hge2' : ¬ (i : Int) < (T : Int) := by omega
     have hbi := HBI.out
     rw [List.take_of_length_le (by have := HNT.out; omega)] at hbi
     obtain ⟨AE, hAE⟩ : ∃ AE, AC ++ Rd.txtt t = AE := ⟨_, rfl⟩
     rw [hAE] at hbi
     have HAE := Lib.hid hAE
     have HBWI := Lib.hid hbi
     have x5 := (HNF.out wr hbi.kp).1.cell 5 rfl
     clear hAE HBI hbi
     obtain ⟨w7, hw7⟩ : ∃ w7, wr.alloc (.cells #[.int .u8 41] 5) = w7 := ⟨_, rfl⟩
     obtain ⟨hb7, hs7⟩ := new_below hw7
     have hsrc7 : Ap.Src w7 (.slice (some ⟨wr.heap.size, 0, none⟩) 1 1) 1 [.int .u8 41] := .inr ⟨_, _, rfl, fun q u hu => by
      rw [Addr.add_mid, Nat.zero_add]
      exact (Hp.new hw7).cell q (by rw [← hu]; simp)⟩
     have HBW7 := Lib.hid (HBWI.out.below hb7)
     have hrow7 := HBW7.out.row
     have hbs7 : base ≤ w7.heap.size := Nat.le_trans HBS.out HBW7.out.kp.size
     have hlen7 : (AE).length + 1 ≤ 140737488355328 := by have h1 := HHL.out; have h4 := HAS.out.2; have h5 := congrArg List.length HAC.out; have h6 := congrArg List.length HAE.out; simp only [List.length_append] at h5 h6; omega
     have h637 : (AE).length + 1 ≤ maxLen := by unfold maxLen; omega
     have hby7 : ((AE).length + 1) * 1 ≤ 140737488355328 := by omega
     clear hb7 hs7
     go_wp2_with (at_builtin; refine Ap.list rfl _ _ 53 rfl base 5 i0 (.int .u8 0) 1 1 Try.underlying53 HI0.out HZ0.out HZ1.out HZ2.out rfl (by decide) (.slice ai ni ci) (AE).length _ rfl hrow7 (.slice (some ⟨wr.heap.size, 0, none⟩) 1 1) 1 [.int .u8 41] rfl hsrc7 rfl (by intro u hu; simp at hu; subst hu; rfl) h637 hby7 hbs7 ?_)
     intro v8 w8 hown8 hgr8 hat8
     have hpu8 := HBW7.out.trans (Rd.Bw.push (x := [41]) hown8 hgr8 hat8)
     obtain ⟨a8, c8, hv8⟩ := Dt.row_form hown8
     obtain ⟨n8, hn8⟩ : ∃ n8, (AE).length + 1 = n8 := ⟨_, rfl⟩
     rw [hn8] at hv8
     subst hv8
     have HBW8 := Lib.hid hpu8
     clear hown8 hgr8 hat8 hpu8 hn8 hrow7 hsrc7 hlen7 h637 hby7 hbs7 hw7
     have HE : Hid (Rd.RP base FIN (.slice av acc.length cv) w (.returned (.slice a8 n8 c8)) w8) := ⟨_, rfl, by
      have h1 := HBW8.out
      rw [← HAE.out, ← HAC.out, HAS.out.1] at h1
      rw [← HFIN.out]
      simp only [List.append_assoc] at h1 ⊢
      exact Rd.Bw.from HB2.out h1⟩
     clear HBW8 HBW7 HBWI
     go_wp2
     go_ret
     exact HE.out
namespace Rd
open Dt
theorem single_t {k n : Int} {s : ByteArray} {m : List Int} {l t : List D} (h : single (.mk k n s m l t) = true) : t.length ≤ 1 := by
 rcases single_cases h with ⟨-, -, -, rfl⟩ | ⟨-, -, -, rfl⟩ | ⟨-, -, -, rfl⟩ | ⟨-, -, -, -, x, rfl, -⟩ <;> simp
theorem wfs_mem : ∀ {l : List D}, Wfs l → ∀ x ∈ l, Wf x
 | [], _, x, hx => by cases hx
 | d :: r, h, x, hx => by
  rw [Wfs] at h
  rcases List.mem_cons.1 hx with rfl | hx
  ·exact h.1
  ·exact wfs_mem h.2 x hx
theorem text_mk (k n : Int) (s : ByteArray) (m : List Int) (l t : List D) (hil : ∀ x ∈ l, TextIs x) (hit : ∀ x ∈ t, TextIs x) : TextIs (.mk k n s m l t) := by
 intro G base acc v vm vl vt w hW hF hR hG hrow hb hl
 obtain ⟨hs, hfl, hft⟩ := fine_parts hF
 have hss := single_s hs
 have hwf : Wfs l ∧ Wfs t ∧ l.length ≤ 140737488355328 := by
  rw [Wf] at hW
  exact ⟨hW.2.2.2.2.2.1, hW.2.2.2.2.2.2, hW.2.2.2.1⟩
 have hl1 : ∀ x ∈ l, TextIs x ∧ Wf x ∧ Fine x := fun x hx => ⟨hil x hx, wfs_mem hwf.1 x hx, hfl x hx⟩
 have ht1 : ∀ x ∈ t, TextIs x ∧ Wf x ∧ Fine x := fun x hx => ⟨hit x hx, wfs_mem hwf.2.1 x hx, hft x hx⟩
 have ht2 := single_t hs
 rcases short_cases k l with h0 | ⟨rfl, h4, h7, x, y, rfl, hx5, -⟩
 ·by_cases hk : 1 ≤ k ∧ k ≤ 5
  ·have e1 : txt (.mk k n s m l t) = wt k n s.data.toList := by rw [txt, if_neg (by rw [h0]; simp), if_pos hk]
   rw [e1] at hl ⊢
   have hc : k = 1 ∨ k = 2 ∨ k = 3 ∨ k = 4 ∨ k = 5 := by omega
   rcases hc with rfl | rfl | rfl | rfl | rfl
   ·exact text_leaf1 n s m l t base acc v vm vl vt w hss hR hrow hb hl
   ·exact text_leaf2 n s m l t base acc v vm vl vt w hss hR hrow hb hl
   ·exact text_leaf3 n s m l t base acc v vm vl vt w hss hR hrow hb hl
   ·exact text_leaf4 n s m l t base acc v vm vl vt w hss hR hrow hb hl
   ·have hsy : Lx.symbol s.data.toList = true := by
     unfold single at hs
     dsimp only at hs
     rw [if_neg (by decide), if_neg (by decide), if_neg (by decide), if_neg (by decide), if_pos rfl] at hs
     simp only [Bool.and_eq_true] at hs
     exact hs.1.1.1.1.1
    have e2 : wt 5 n s.data.toList = s.data.toList := by
     unfold wt
     rw [if_neg (by decide)]
     obtain ⟨x, hx⟩ := Lx.text_of_ok (5 + 8) 0 s.data.toList (by decide) (by
      unfold Tx.ok
      rw [if_neg (by decide), if_neg (by decide), if_neg (by decide), if_neg (by decide), if_pos (by decide), hsy]
      rfl)
     rw [hx]
     unfold Tx.text at hx
     rw [if_pos (by decide)] at hx
     split at hx
     ·have := Option.some.inj hx
      rw [← this]
      unfold Tx.datL
      rw [if_neg (by decide), if_neg (by decide), if_neg (by decide), if_neg (by decide)]
      rfl
     ·cases hx
    rw [e2] at hl ⊢
    exact text_leaf5 n s m l t base acc v vm vl vt w hss hR hrow hb hl
  ·have e1 : txt (.mk k n s m l t) = Tx.signL (if k = 8 then 3 else 1) ++ txts l ++ txtt t ++ [41] := by rw [txt, if_neg (by rw [h0]; simp), if_neg hk]
   rw [e1] at hl ⊢
   rcases single_cases hs with ⟨c1, -⟩ | ⟨c1, -⟩ | ⟨c1, -⟩ | ⟨rfl, -⟩
   ·omega
   ·omega
   ·rcases c1 with rfl | rfl
    ·exact text_list6 n s m l t hl1 ht1 h0 ⟨hwf.2.2, ht2⟩ base acc v vm vl vt w hR hG hrow hb hl
    ·exact text_list8 n s m l t hl1 ht1 h0 ⟨hwf.2.2, ht2⟩ base acc v vm vl vt w hR hG hrow hb hl
   ·exact text_list7 n s m l t hl1 ht1 h0 ⟨hwf.2.2, ht2⟩ base acc v vm vl vt w hR hG hrow hb hl
 ·have e1 : txt (.mk 6 n s m [x, y] t) = Tx.signL (shortL 6 [x, y]) ++ txt y := by rw [txt, if_pos (by omega), txt2, txt1]
  rw [e1] at hl ⊢
  obtain ⟨i1, i2, i3⟩ := hl1 y (by simp)
  obtain ⟨K, hK⟩ : ∃ K, shortL 6 [x, y] = K := ⟨_, rfl⟩
  rw [hK] at hl h4 h7 ⊢
  rw [List.length_append] at hl
  have hc : K = 4 ∨ K = 5 ∨ K = 6 ∨ K = 7 := by omega
  rcases hc with rfl | rfl | rfl | rfl
  ·exact text_short4 n s m x y t i1 i2 i3 hK base acc v vm vl vt w hR hG hrow hb hl
  ·exact text_short5 n s m x y t i1 i2 i3 hK base acc v vm vl vt w hR hG hrow hb hl
  ·exact text_short6 n s m x y t i1 i2 i3 hK base acc v vm vl vt w hR hG hrow hb hl
  ·exact text_short7 n s m x y t i1 i2 i3 hK base acc v vm vl vt w hR hG hrow hb hl
mutual
theorem text_all : ∀ d : D, TextIs d
 | .mk k n s m l t => text_mk k n s m l t (texts_all l) (texts_all t)
theorem texts_all : ∀ (l : List D), ∀ x ∈ l, TextIs x
 | [], x, hx => by cases hx
 | d :: r, x, hx => by
  rcases List.mem_cons.1 hx with e | hx
  ·rw [e]; exact text_all d
  ·exact texts_all r x hx
end
end Rd
end Go.Proofs.Ytcopdfihaheplaa
namespace Go.Proofs.Ytcopdfihaheplaa
open Go.RowKit
attribute [local go_sem] Oper.semAt_some
set_option maxRecDepth 100000 in
set_option maxHeartbeats 8000000 in
theorem rPrint04_any {F : Nat → Prop} (x : Dt.D) (vm vl vt : Value) (w : World) (hW : Dt.Wf x) (hR : Dt.Rep F w x vm vl vt) :
  Calls Try.prog 16 #[.agg #[.int .i64 x.k, .int .i64 x.n, .string x.s, vm, vl, vt]] w fun e w' => e = .returned (Rd.PrV (Rd.pr x)) ∧ Below w.heap.size w w' := by
 have hR0 : Dt.Rep (fun k => k < w.heap.size) w x vm vl vt := Dt.Rep.mono (fun b _ hb => hb) x hR
 obtain ⟨b1, m1, p1, b2, m2, p2, b3, m3, p3, rfl, rfl, rfl⟩ := hR.forms
 obtain ⟨w1, hw1⟩ : ∃ w1, w.alloc (.cells #[.int .i64 x.k, .int .i64 x.n, .string x.s, .slice b1 m1 p1, .slice b2 m2 p2, .slice b3 m3 p3] 25) = w1 := ⟨_, rfl⟩
 obtain ⟨hb1, hs1⟩ := new_below hw1
 have hX1 := Hp.new hw1
 have hck := rCheck_any x _ _ _ w1 hW (hR.below hb1)
 have HR1 := Lib.hid (hR0.below hb1)
 have HB1 := Lib.hid hb1
 obtain ⟨X, hX⟩ : ∃ X, w.heap.size = X := ⟨_, rfl⟩
 have HXX : Hid (w.heap.size = X) := hX
 rw [hX] at hX1
 have HX1 := Lib.hid hX1
 have HW := Lib.hid hW
 have HS1 := Lib.hid hs1
 obtain ⟨CK, hCK⟩ : ∃ CK, Dt.check x = CK := ⟨_, rfl⟩
 rw [hCK] at hck
 have HCK := Lib.hid hCK
 have x0 := hX1.cell 0 rfl
 have x1 := hX1.cell 1 rfl
 have x2 := hX1.cell 2 rfl
 have x3 := hX1.cell 3 rfl
 have x4 := hX1.cell 4 rfl
 have x5 := hX1.cell 5 rfl
 clear hX1 hb1 hs1 hR hR0 hW hCK
 by_cases h0 : CK = 0
 case neg =>
  have h1 : (CK != 0) = true := by simpa using h0
  have HE : Hid (Rd.pr x = ([], CK)) := by show _ = _; unfold Rd.pr; rw [HCK.out, if_pos h0]
  clear h0
  go_enter Try.func16, Try.ntmps16
  go_wp2_with fail
  refine hck.mono ?_
  rintro e w2 ⟨rfl, hb2⟩
  have HB2 : Hid (Below w.heap.size w w2) := HB1.out.trans (hb2.mono HB1.out.size)
  clear hck hb2 hw1 x0 x1 x2 x3 x4 x5
  go_wp2
  go_ret2
  exact ⟨by rw [HE.out]; rfl, HB2.out⟩
 subst h0
 have h1 : ((0 : Int) != 0) = false := rfl
 go_enter Try.func16, Try.ntmps16
 go_wp2_with fail
 refine hck.mono ?_
 rintro e w2 ⟨rfl, hb2⟩
 have hX2 := HX1.out.below hb2
 have hlen := Rd.txt_len HCK.out
 have HB2 : Hid (Below w.heap.size w w2) := HB1.out.trans (hb2.mono HB1.out.size)
 have hc := Rd.text_all x (fun k => k < w.heap.size) w2.heap.size [] (.slice none 0 0) _ _ _ w2 HW.out (Rd.fine_of HCK.out) (HR1.out.below hb2) (fun k hk => by have := HB2.out.size; omega) (World.ownsRow_nil _ _ _ _) (Nat.le_refl _) (by rw [List.length_nil]; omega)
 rw [List.nil_append] at hc
 have x0 := hX2.cell 0 rfl
 have x1 := hX2.cell 1 rfl
 have x2 := hX2.cell 2 rfl
 have x3 := hX2.cell 3 rfl
 have x4 := hX2.cell 4 rfl
 have x5 := hX2.cell 5 rfl
 clear hck hb2 hw1 hX2 hlen
 go_wp2_with fail
 refine hc.mono ?_
 rintro e w4 ⟨v4, rfl, hp4⟩
 have hr4 := hp4.row
 obtain ⟨TX, hTX⟩ : ∃ TX, Rd.txt x = TX := ⟨_, rfl⟩
 rw [hTX] at hr4
 obtain ⟨a4, c4, rfl⟩ := Dt.row_form hr4
 have HB4 : Hid (Below w.heap.size w w4) := HB2.out.trans (hp4.kp.to_below (fun k e => by cases e) HB2.out.size)
 have hcv := rdConv_bytes TX hr4
 have HTX := Lib.hid hTX
 clear hc hp4 hr4 x0 x1 x2 x3 x4 x5 hTX
 by_cases h16 : 16384 < TX.length
 ·have h16i : (16384 : Int) < (TX.length : Int) := by omega
  have HE : Hid (Rd.pr x = ([], 3)) := by show _ = _; unfold Rd.pr; rw [HCK.out, if_neg (by simp), HTX.out, if_pos h16]
  clear h16 hcv
  go_wp2
  go_ret2
  exact ⟨by rw [HE.out]; rfl, HB4.out⟩
 ·have h16i : ¬ (16384 : Int) < (TX.length : Int) := by omega
  have HE : Hid (Rd.pr x = (TX, 0)) := by show _ = _; unfold Rd.pr; rw [HCK.out, if_neg (by simp), HTX.out, if_neg h16]
  clear h16
  go_wp2
  go_ret2
  exact ⟨by rw [HE.out]; rfl, HB4.out⟩
set_option maxRecDepth 100000 in
set_option maxHeartbeats 8000000 in
theorem rLines04_any {F : Nat → Prop} (l : List Dt.D) (vl : Value) (w : World) (hW : Dt.Wfs l) (hR : Dt.Row F w vl l) :
  Calls Try.prog 18 #[vl] w fun e w' => e = .returned (Rd.PrV (Rd.lns l)) ∧ Below w.heap.size w w' := by
 obtain ⟨al, cl, rfl, hcl, hcs⟩ := hR
 obtain ⟨N, hN⟩ : ∃ N, l.length = N := ⟨_, rfl⟩
 rw [hN]
 by_cases hl : 256 < N
 ·have HE : Hid (Rd.lns l = ([], 3)) := by show _ = _; unfold Rd.lns; rw [hN, if_pos hl]
  have hli : (256 : Int) < (N : Int) := by omega
  clear hcs hcl hl hN
  go_enter Try.func18, Try.ntmps18
  go_wp2
  go_ret2
  exact ⟨by rw [HE.out]; rfl, Below.refl _ _⟩
 have hli : ¬ (256 : Int) < (N : Int) := by omega
 have HN : Hid (l.length = N ∧ N ≤ 256) := ⟨hN, by omega⟩
 have HW := Lib.hid hW
 have HCS := Lib.hid hcs
 obtain ⟨i0, hi, hz0, hz1, hz2⟩ := info_parts Cd.infoB
 have HI0 := Lib.hid hi
 have HZ0 := Lib.hid hz0
 have HZ1 := Lib.hid hz1
 have HZ2 := Lib.hid hz2
 clear hcs hcl hl hN hW hi hz0 hz1 hz2
 go_enter Try.func18, Try.ntmps18
 go_wp2
 go_loopw [5, 4] (fun vi vo wr => ∃ (k : Nat) (ak : Option Addr) (nk ck : Nat), vi = .int .i64 k ∧ vo = .slice ak nk ck ∧ k ≤ N ∧ Hid (∀ d ∈ l.take k, (Rd.pr d).2 = 0) ∧ Hid (Rd.Bw w.heap.size w (.slice none 0 0) wr (Rd.lcat (l.take k)) (.slice ak nk ck) ∧ nk = (Rd.lcat (l.take k)).length)) (fun vi _ _ => N - (intOf vi).toNat)
 case atStart => exact ⟨0, none, 0, 0, rfl, rfl, by omega, fun d hd => by simp at hd, Rd.Bw.start (World.ownsRow_nil _ _ _ _), rfl⟩
 case round =>
  obtain ⟨k, ak, nk, ck, rfl, rfl, hk, HA, HBK⟩ := hrel
  have HB : Hid (Below w.heap.size w wr) := HBK.out.1.kp.to_below (fun k e => by cases e) (Nat.le_refl _)
  obtain ⟨AC, hAC⟩ : ∃ AC, Rd.lcat (l.take k) = AC := ⟨_, rfl⟩
  have HACL : Hid (AC.length ≤ 16385 * 256) := by
   have h1 := Rd.lcat_len (l.take k)
   have h2 : (l.take k).length ≤ 256 := by rw [List.length_take]; have := HN.out; omega
   rw [hAC] at h1
   show _ ≤ _
   omega
  rw [hAC] at HBK
  have HAC := Lib.hid hAC
  clear hAC
  by_cases hlt : k < N
  ·have hki : (k : Int) < (N : Int) := by omega
   have hkl : k < l.length := by have := HN.out; omega
   obtain ⟨g, o, rfl, -, hgl, hreps⟩ := HCS.out (by intro e; rw [e] at hkl; exact absurd hkl (by simp))
   obtain ⟨um, ul, ut, hsix, hrz⟩ := hreps.at k hkl
   obtain ⟨d1, f1, q1, d2, f2, q2, d3, f3, q3, rfl, rfl, rfl⟩ := hrz.forms
   have hwz := HW.out.at k hkl
   have hst := Rd.lcat_take l k hkl
   have hea := Rd.lerr_at l k hkl HA.out
   have hat := Rd.all_take hkl HA.out
   obtain ⟨z, hz⟩ : ∃ z, l[k] = z := ⟨_, rfl⟩
   rw [hz] at hsix hrz hwz hst hea hat
   obtain ⟨y0, y1, y2, y3, y4, y5⟩ := hsix.keep (S := fun _ => False) (keep_of_below HB.out) hgl id
   have hc := rPrint04_any z _ _ _ wr hwz (hrz.below HB.out)
   have hpl := Rd.pr_len z
   obtain ⟨R, hR⟩ : ∃ R, Rd.pr z = R := ⟨_, rfl⟩
   rw [hR] at hc hst hea hat hpl
   obtain ⟨tx, c⟩ := R
   unfold Rd.PrV at hc
   simp only at hc hst hea hat hpl
   have HST := Lib.hid hst
   have HEA := Lib.hid hea
   have HAT := Lib.hid hat
   have HPL := Lib.hid hpl
   clear hsix hrz hwz hst hea hat hreps hgl hz hkl hR hpl
   go_wp2_with fail
   refine hc.mono ?_
   rintro e w5 ⟨rfl, hb5⟩
   have HBW5 := Lib.hid (HBK.out.1.below hb5)
   have HB5 : Hid (Below w.heap.size w w5) := HB.out.trans (hb5.mono HB.out.size)
   clear hc hb5 y0 y1 y2 y3 y4 y5
   by_cases hc0 : c = 0
   case neg =>
    have h1 : (c != 0) = true := by simpa using hc0
    have HE : Hid (Rd.lns l = ([], c)) := by show _ = _; unfold Rd.lns; rw [if_neg (by have := HN.out; omega), HEA.out hc0, if_pos hc0]
    clear hc0
    go_wp2
    go_ret2
    exact ⟨by rw [HE.out]; rfl, HB5.out⟩
   subst hc0
   have h1 : ((0 : Int) != 0) = false := rfl
   have HAN := Lib.hid (HAT.out rfl)
   have hrow5 := HBW5.out.row
   have htl : (⟨tx.toArray⟩ : ByteArray).size = tx.length := rfl
   have hbs5 : w.heap.size ≤ w5.heap.size := HB5.out.size
   have h631 : AC.length + (⟨tx.toArray⟩ : ByteArray).size ≤ maxLen := by have := HACL.out; have := HPL.out; rw [htl]; unfold maxLen; omega
   have hby1 : AC.length + (⟨tx.toArray⟩ : ByteArray).size ≤ 140737488355328 := by have := HACL.out; have := HPL.out; rw [htl]; omega
   go_wp2_with (at_builtin; refine Ap.strList rfl _ _ 53 9 rfl w.heap.size 5 i0 Try.underlying53 Try.underlying9 HI0.out HZ0.out HZ1.out HZ2.out (.slice ak nk ck) _ _ rfl hrow5 ⟨tx.toArray⟩ rfl h631 hby1 hbs5 ?_)
   intro v6 w6 hown6 hgr6 hat6
   have HBW6 := Lib.hid (HBW5.out.trans (Rd.Bw.push (x := tx) hown6 hgr6 hat6))
   obtain ⟨a6, c6, hv6⟩ := Dt.row_form hown6
   obtain ⟨n6, hn6⟩ : ∃ n6, AC.length + tx.length = n6 := ⟨_, rfl⟩
   rw [hn6] at hv6
   subst hv6
   obtain ⟨A6, hA6⟩ : ∃ A6, AC ++ tx = A6 := ⟨_, rfl⟩
   rw [hA6] at HBW6
   have HA6 := Lib.hid hA6
   clear hown6 hgr6 hat6 hn6 hrow5 h631 hby1 hbs5 hA6
   obtain ⟨w7, hw7⟩ : ∃ w7, w6.alloc (.cells #[.int .u8 10] 5) = w7 := ⟨_, rfl⟩
   obtain ⟨hb7, hs7⟩ := new_below hw7
   have hsrc7 : Ap.Src w7 (.slice (some ⟨w6.heap.size, 0, none⟩) 1 1) 1 [.int .u8 10] := .inr ⟨_, _, rfl, fun q u hu => by
    rw [Addr.add_mid, Nat.zero_add]
    exact (Hp.new hw7).cell q (by rw [← hu]; simp)⟩
   have HBW7 := Lib.hid (HBW6.out.below hb7)
   have hrow7 := HBW7.out.row
   have hbs7 : w.heap.size ≤ w7.heap.size := HBW7.out.kp.size
   have hl6 : A6.length = AC.length + tx.length := by rw [← HA6.out, List.length_append]
   have h632 : A6.length + 1 ≤ maxLen := by have := HACL.out; have := HPL.out; unfold maxLen; omega
   have hby2 : (A6.length + 1) * 1 ≤ 140737488355328 := by have := HACL.out; have := HPL.out; omega
   clear hb7 hs7 hl6
   go_wp2_with (at_builtin; refine Ap.list rfl _ _ 53 rfl w.heap.size 5 i0 (.int .u8 0) 1 1 Try.underlying53 HI0.out HZ0.out HZ1.out HZ2.out rfl (by decide) (.slice a6 n6 c6) A6.length _ rfl hrow7 (.slice (some ⟨w6.heap.size, 0, none⟩) 1 1) 1 [.int .u8 10] rfl hsrc7 rfl (by intro u hu; simp at hu; subst hu; rfl) h632 hby2 hbs7 ?_)
   intro v8 w8 hown8 hgr8 hat8
   have hpu8 := HBW7.out.trans (Rd.Bw.push (x := [10]) hown8 hgr8 hat8)
   obtain ⟨a8, c8, hv8⟩ := Dt.row_form hown8
   obtain ⟨n8, hn8⟩ : ∃ n8, A6.length + 1 = n8 := ⟨_, rfl⟩
   rw [hn8] at hv8
   subst hv8
   have HN8 : Hid (Rd.Bw w.heap.size w (.slice none 0 0) w8 (Rd.lcat (l.take (k + 1))) (.slice a8 n8 c8) ∧ n8 = (Rd.lcat (l.take (k + 1))).length) := by
    have e : Rd.lcat (l.take (k + 1)) = A6 ++ [10] := by rw [HST.out, HAC.out, ← HA6.out, List.append_assoc]
    rw [e]
    exact ⟨hpu8, by rw [← hn8, List.length_append]; rfl⟩
   clear hown8 hgr8 hat8 hpu8 hn8 hrow7 hsrc7 h632 hby2 hbs7 hw7 HBW7 HBW6 HBW5 HBK
   go_wp2
   go_roundw
   case rel => exact ⟨k + 1, a8, n8, c8, by simp, rfl, by omega, HAN, HN8⟩
   case measure => simp [intOf]; omega
  ·have hge : (N : Int) ≤ (k : Int) := by omega
   have hge' : ¬ (k : Int) < (N : Int) := by omega
   have htk : l.take k = l := List.take_of_length_le (by have := HN.out; omega)
   have hA := HA.out
   rw [htk] at hA
   have hAC := HAC.out
   rw [htk] at hAC
   have he := Rd.lerr_no l hA
   have hN2 : ¬ 256 < l.length := by have := HN.out; omega
   obtain ⟨hbk, hnk⟩ := HBK.out
   subst hnk
   have hcv := rdConv_bytes AC hbk.row
   by_cases h16 : 16384 < AC.length
   ·have h16i : (16384 : Int) < (AC.length : Int) := by omega
    have HE : Hid (Rd.lns l = ([], 3)) := by show _ = _; unfold Rd.lns; rw [if_neg hN2, he, if_neg (by simp), hAC, if_pos h16]
    clear h16 he hAC hA htk hN2 hbk hcv
    go_wp2
    go_ret2
    exact ⟨by rw [HE.out]; rfl, HB.out⟩
   ·have h16i : ¬ (16384 : Int) < (AC.length : Int) := by omega
    have HE : Hid (Rd.lns l = (AC, 0)) := by show _ = _; unfold Rd.lns; rw [if_neg hN2, he, if_neg (by simp), hAC, if_neg h16]
    clear h16 he hAC hA htk hN2 hbk
    go_wp2
    go_ret2
    exact ⟨by rw [HE.out]; rfl, HB.out⟩
end Go.Proofs.Ytcopdfihaheplaa
namespace Go.Proofs.Ytcopdfihaheplaa
open Go.RowKit
attribute [local go_sem] Oper.semAt_some
set_option maxRecDepth 100000 in
set_option maxHeartbeats 16000000 in
theorem ReadPrints_law (x : Dt.D) (vm vl vt : Value) (l : List Dt.D) (vr : Value) (w : World) (hW : Dt.Wf x) (hR : Dt.Rep (fun _ => True) w x vm vl vt) (hwl : Dt.Wfs l) (hrl : Dt.Row (fun _ => True) w vr l) :
  Calls Try.prog 6 #[.agg #[.int .i64 x.k, .int .i64 x.n, .string x.s, vm, vl, vt], vr] w fun e w' => e = .returned (.bool true) ∧ Below w.heap.size w w' := by
 obtain ⟨b1, m1, p1, b2, m2, p2, b3, m3, p3, rfl, rfl, rfl⟩ := hR.forms
 have HRL := Lib.hid hrl
 obtain ⟨ar, cr, rfl, hcr, hcs⟩ := hrl
 obtain ⟨N, hN⟩ : ∃ N, l.length = N := ⟨_, rfl⟩
 obtain ⟨w1, hw1⟩ : ∃ w1, w.alloc (.cells #[.int .i64 x.k, .int .i64 x.n, .string x.s, .slice b1 m1 p1, .slice b2 m2 p2, .slice b3 m3 p3] 25) = w1 := ⟨_, rfl⟩
 obtain ⟨hb1, hs1⟩ := new_below hw1
 have hX1 := Hp.new hw1
 obtain ⟨B, hB⟩ : ∃ B, w.heap.size = B := ⟨_, rfl⟩
 have HBB : Hid (w.heap.size = B) := hB
 rw [hB] at hX1
 have HB1 := Lib.hid hb1
 have HX1 := Lib.hid hX1
 have HR := Lib.hid hR
 have HW := Lib.hid hW
 have HWL := Lib.hid hwl
 have HCS := Lib.hid hcs
 have HN : Hid (l.length = N) := hN
 rw [hN] at HRL ⊢
 clear hb1 hs1 hX1 hR hW hwl hcs hcr hB hN
 go_enter Try.func6, Try.ntmps6
 go_wp2_with fail
 rw [HBB.out]
 refine (rdAwake_any _).mono ?_
 rintro e w2 ⟨rfl, hb2⟩
 have HB2 : Hid (Below w.heap.size w w2) := HB1.out.trans (hb2.mono HB1.out.size)
 have HX2 := Lib.hid (HX1.out.below hb2)
 have hsm := small04_any x _ _ _ w2 HW.out (HR.out.below HB2.out)
 have x0 := HX2.out.cell 0 rfl
 have x1 := HX2.out.cell 1 rfl
 have x2 := HX2.out.cell 2 rfl
 have x3 := HX2.out.cell 3 rfl
 have x4 := HX2.out.cell 4 rfl
 have x5 := HX2.out.cell 5 rfl
 clear hb2 hw1 HB1 HX1
 go_wp2_with fail
 refine hsm.mono ?_
 rintro e w3 ⟨⟨b, rfl⟩, hb3⟩
 have HB3 : Hid (Below w.heap.size w w3) := HB2.out.trans (hb3.mono HB2.out.size)
 have HX3 := Lib.hid (HX2.out.below hb3)
 clear hsm hb3 x0 x1 x2 x3 x4 x5 HB2 HX2
 cases b with
 | false =>
  clear HX3
  go_wp2_with fail
  refine (rdAwake_any _).mono ?_
  rintro e w4 ⟨rfl, hb4⟩
  have HB4 : Hid (Below w.heap.size w w4) := HB3.out.trans (hb4.mono HB3.out.size)
  clear hb4
  go_wp2
  go_ret
  exact ⟨rfl, HB4.out⟩
 | true =>
 by_cases hlong : (261 : Int) < (N : Int)
 ·clear HX3
  go_wp2_with fail
  refine (rdAwake_any _).mono ?_
  rintro e w4 ⟨rfl, hb4⟩
  have HB4 : Hid (Below w.heap.size w w4) := HB3.out.trans (hb4.mono HB3.out.size)
  clear hb4
  go_wp2
  go_ret
  exact ⟨rfl, HB4.out⟩
 have hlong2 : decide ((261 : Int) < (N : Int)) = false := decide_eq_false hlong
 have HNB : Hid (N ≤ 261) := by show _ ≤ _; omega
 go_wp2_with fail
 clear hlong hlong2
 go_loopw [30, 6] (fun vi v6 wr => ∃ i : Nat, vi = .int .i64 i ∧ i ≤ N ∧ Hid (Below w3.heap.size w3 wr)) (fun vi _ _ => N - (intOf vi).toNat)
 case atStart => exact ⟨0, rfl, by omega, Below.refl _ _⟩
 case round =>
  obtain ⟨i, rfl, hi, HBI⟩ := hrel
  have HBR : Hid (Below w.heap.size w wr) := HB3.out.trans (HBI.out.mono HB3.out.size)
  by_cases hlt : i < N
  case pos =>
   have hlti : (i : Int) < (N : Int) := by omega
   have hnb : (N : Int) ≤ 261 := by have := HNB.out; omega
   have hil : i < l.length := by have := HN.out; omega
   obtain ⟨g, o, rfl, -, hgl, hreps⟩ := HCS.out (by intro e; rw [e] at hil; exact absurd hil (by simp))
   obtain ⟨um, ul, ut, hsix, hrz⟩ := hreps.at i hil
   obtain ⟨d1, f1, q1, d2, f2, q2, d3, f3, q3, rfl, rfl, rfl⟩ := hrz.forms
   have hwz := HWL.out.at i hil
   obtain ⟨z, hz⟩ : ∃ z, l[i] = z := ⟨_, rfl⟩
   rw [hz] at hsix hrz hwz
   obtain ⟨y0, y1, y2, y3, y4, y5⟩ := hsix.keep (S := fun _ => False) (keep_of_below HBR.out) hgl id
   obtain ⟨w4, hw4⟩ : ∃ w4, wr.alloc (.cells #[.int .i64 z.k, .int .i64 z.n, .string z.s, .slice d1 f1 q1, .slice d2 f2 q2, .slice d3 f3 q3] 25) = w4 := ⟨_, rfl⟩
   obtain ⟨hb4, hs4⟩ := new_below hw4
   have hZ4 := Hp.new hw4
   obtain ⟨ZB, hZB⟩ : ∃ ZB, wr.heap.size = ZB := ⟨_, rfl⟩
   rw [hZB] at hZ4
   have hc := small04_any z _ _ _ w4 hwz ((hrz.below HBR.out).below hb4)
   have HB4 : Hid (Below w3.heap.size w3 w4) := HBI.out.trans (hb4.mono HBI.out.size)
   have z0 := hZ4.cell 0 rfl
   have z1 := hZ4.cell 1 rfl
   have z2 := hZ4.cell 2 rfl
   have z3 := hZ4.cell 3 rfl
   have z4 := hZ4.cell 4 rfl
   have z5 := hZ4.cell 5 rfl
   clear hil hgl hreps hsix hrz hwz hz hb4 hs4 hZ4 HBI
   go_wp2_with fail
   refine hc.mono ?_
   rintro e w5 ⟨⟨b, rfl⟩, hb5⟩
   have HB5 : Hid (Below w3.heap.size w3 w5) := HB4.out.trans (hb5.mono HB4.out.size)
   clear hc hb5 z0 z1 z2 z3 z4 z5 y0 y1 y2 y3 y4 y5 hw4
   cases b with
   | false =>
    have HBE : Hid (Below w.heap.size w w5) := HB3.out.trans (HB5.out.mono HB3.out.size)
    go_wp2
    go_ret
    exact ⟨rfl, HBE.out⟩
   | true =>
    go_wp2
    go_roundw
    case rel => exact ⟨i + 1, by simp, by omega, HB5.out⟩
    case measure => simp [intOf]; omega
  case neg =>
   have hge : ¬ (i : Int) < (N : Int) := by omega
   have HXR := Lib.hid (HX3.out.below HBI.out)
   have hpx := rdPrint_any x _ _ _ wr HW.out (HR.out.below HBR.out)
   obtain ⟨PX, hPX⟩ : ∃ PX, Rd.pr x = PX := ⟨_, rfl⟩
   have HPX := Lib.hid hPX
   rw [hPX] at hpx
   obtain ⟨q, qc⟩ := PX
   unfold Rd.PrV at hpx
   simp only at hpx
   have x0 := HXR.out.cell 0 rfl
   have x1 := HXR.out.cell 1 rfl
   have x2 := HXR.out.cell 2 rfl
   have x3 := HXR.out.cell 3 rfl
   have x4 := HXR.out.cell 4 rfl
   have x5 := HXR.out.cell 5 rfl
   clear hPX HX3 HBI
   go_wp2_with fail
   refine hpx.mono ?_
   rintro e w6 ⟨rfl, hb6⟩
   have HB6 : Hid (Below w.heap.size w w6) := HBR.out.trans (hb6.mono HBR.out.size)
   have hx6 := HXR.out.below hb6
   have hqx := rPrint04_any x _ _ _ w6 HW.out (HR.out.below HB6.out)
   rw [HPX.out] at hqx
   unfold Rd.PrV at hqx
   simp only at hqx
   replace x0 := hx6.cell 0 rfl
   replace x1 := hx6.cell 1 rfl
   replace x2 := hx6.cell 2 rfl
   replace x3 := hx6.cell 3 rfl
   replace x4 := hx6.cell 4 rfl
   replace x5 := hx6.cell 5 rfl
   clear hpx hb6 hx6 HXR HBR
   go_wp2_with fail
   refine hqx.mono ?_
   rintro e w7 ⟨rfl, hb7⟩
   have HB7 : Hid (Below w.heap.size w w7) := HB6.out.trans (hb7.mono HB6.out.size)
   have hln := rdLines_any l _ w7 HWL.out (HRL.out.below HB7.out)
   obtain ⟨LX, hLX⟩ : ∃ LX, Rd.lns l = LX := ⟨_, rfl⟩
   have HLX := Lib.hid hLX
   rw [hLX] at hln
   obtain ⟨u, uc⟩ := LX
   unfold Rd.PrV at hln
   simp only at hln
   clear hqx hb7 hLX x0 x1 x2 x3 x4 x5 HB6
   go_wp2_with fail
   refine hln.mono ?_
   rintro e w8 ⟨rfl, hb8⟩
   have HB8 : Hid (Below w.heap.size w w8) := HB7.out.trans (hb8.mono HB7.out.size)
   have hlr := rLines04_any l _ w8 HWL.out (HRL.out.below HB8.out)
   rw [HLX.out] at hlr
   unfold Rd.PrV at hlr
   simp only at hlr
   clear hln hb8 HB7
   go_wp2_with fail
   refine hlr.mono ?_
   rintro e w9 ⟨rfl, hb9⟩
   have HB9 : Hid (Below w.heap.size w w9) := HB8.out.trans (hb9.mono HB8.out.size)
   clear hlr hb9 HB8 HPX HLX
   go_wp2
   go_ret
   exact ⟨rfl, HB9.out⟩
end Go.Proofs.Ytcopdfihaheplaa
