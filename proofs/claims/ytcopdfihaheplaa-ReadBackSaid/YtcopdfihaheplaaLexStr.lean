/-
 The walk of str: a string.
-/
import Derived.Test.YtcopdfihaheplaaLexQuoted
import Derived.Lib.QuietBelow
namespace Go.Proofs.Ytcopdfihaheplaa
open Go.RowKit Go.Sort
namespace Lx
structure Chg2 (B T : Nat) (w w' : World) : Prop where
 os : w'.os = w.os
 tape : w'.tape = w.tape
 output : w'.output = w.output
 size : w.heap.size ≤ w'.heap.size
 block : ∀ k, k < w.heap.size → k ≠ B → k ≠ T → w'.heap[k]? = w.heap[k]?
theorem Chg2.refl (B T : Nat) (w : World) : Chg2 B T w w := ⟨rfl, rfl, rfl, Nat.le_refl _, fun _ _ _ _ => rfl⟩
theorem Chg2.trans {B T : Nat} {a b c : World} (h : Chg2 B T a b) (k : Chg2 B T b c) : Chg2 B T a c :=
 ⟨k.os.trans h.os, k.tape.trans h.tape, k.output.trans h.output, Nat.le_trans h.size k.size, fun i hi h1 h2 => (k.block i (Nat.lt_of_lt_of_le hi h.size) h1 h2).trans (h.block i hi h1 h2)⟩
theorem Chg2.drew {B T : Nat} {a w : World} (h : Chg2 B T a w) (n : Nat) : Chg2 B T a (w.drewN n) := ⟨h.os, h.tape, h.output, h.size, h.block⟩
theorem Chg2.setB {B T : Nat} {a w : World} (h : Chg2 B T a w) (j : Nat) (v : Value) : Chg2 B T a (w.setCell ⟨B, j, none⟩ v) :=
 h.trans ⟨rfl, rfl, rfl, by simp [World.setCell], fun k _ hne _ => Below.heap_setCell _ _ _ _ hne⟩
theorem Chg2.setT {B T : Nat} {a w : World} (h : Chg2 B T a w) (j : Nat) (v : Value) : Chg2 B T a (w.setCell ⟨T, j, none⟩ v) :=
 h.trans ⟨rfl, rfl, rfl, by simp [World.setCell], fun k _ _ hne => Below.heap_setCell _ _ _ _ hne⟩
theorem Chg2.of_below {B T : Nat} {a w w' : World} (h : Chg2 B T a w) (hb : Below w.heap.size w w') : Chg2 B T a w' := h.trans ⟨hb.os, hb.tape, hb.output, hb.size, fun k hk _ _ => hb.block k hk⟩
structure TkAt (w : World) (T : Nat) (k a z m : Int) (x : ByteArray) : Prop where
 c0 : w.cell? ⟨T, 0, none⟩ = some (.int .i64 k)
 c1 : w.cell? ⟨T, 1, none⟩ = some (.int .i64 a)
 c2 : w.cell? ⟨T, 2, none⟩ = some (.int .i64 z)
 c3 : w.cell? ⟨T, 3, none⟩ = some (.int .i64 m)
 c4 : w.cell? ⟨T, 4, none⟩ = some (.string x)
 fz : ∀ j, w.frozen? ⟨T, j, none⟩ = false
 lt : T < w.heap.size
theorem TkAt.drew {w : World} {T : Nat} {k a z m : Int} {x : ByteArray} (h : TkAt w T k a z m x) (n : Nat) : TkAt (w.drewN n) T k a z m x := ⟨h.c0, h.c1, h.c2, h.c3, h.c4, h.fz, h.lt⟩
theorem TkAt.below {w w' : World} {T : Nat} {k a z m : Int} {x : ByteArray} (h : TkAt w T k a z m x) (hb : Below w.heap.size w w') : TkAt w' T k a z m x :=
 ⟨by rw [hb.cell (p := ⟨T, 0, none⟩) h.lt]; exact h.c0, by rw [hb.cell (p := ⟨T, 1, none⟩) h.lt]; exact h.c1, by rw [hb.cell (p := ⟨T, 2, none⟩) h.lt]; exact h.c2, by rw [hb.cell (p := ⟨T, 3, none⟩) h.lt]; exact h.c3, by rw [hb.cell (p := ⟨T, 4, none⟩) h.lt]; exact h.c4, fun j => by rw [hb.frozen (p := ⟨T, j, none⟩) h.lt]; exact h.fz j, Nat.lt_of_lt_of_le h.lt hb.size⟩
theorem TkAt.other {w : World} {T : Nat} {k a z m : Int} {x : ByteArray} (h : TkAt w T k a z m x) (B j : Nat) (v : Value) (hne : T ≠ B) : TkAt (w.setCell ⟨B, j, none⟩ v) T k a z m x :=
 ⟨by rw [World.cell?_setCell_other _ _ _ _ (by simp)]; exact h.c0, by rw [World.cell?_setCell_other _ _ _ _ (by simp)]; exact h.c1, by rw [World.cell?_setCell_other _ _ _ _ (by simp)]; exact h.c2, by rw [World.cell?_setCell_other _ _ _ _ (by simp)]; exact h.c3, by rw [World.cell?_setCell_other _ _ _ _ (by simp)]; exact h.c4, fun j => by rw [World.frozen?_setCell]; exact h.fz j, by simpa [World.setCell] using h.lt⟩
theorem TkAt.set0 {w : World} {T : Nat} {k a z m : Int} {x : ByteArray} (h : TkAt w T k a z m x) (v : Int) : TkAt (w.setCell ⟨T, 0, none⟩ (.int .i64 v)) T v a z m x :=
 ⟨World.cell?_setCell_same _ _ _ h.c0, by rw [World.cell?_setCell_other _ _ _ _ (by simp)]; exact h.c1, by rw [World.cell?_setCell_other _ _ _ _ (by simp)]; exact h.c2, by rw [World.cell?_setCell_other _ _ _ _ (by simp)]; exact h.c3, by rw [World.cell?_setCell_other _ _ _ _ (by simp)]; exact h.c4, fun j => by rw [World.frozen?_setCell]; exact h.fz j, by simpa [World.setCell] using h.lt⟩
theorem TkAt.set2 {w : World} {T : Nat} {k a z m : Int} {x : ByteArray} (h : TkAt w T k a z m x) (v : Int) : TkAt (w.setCell ⟨T, 2, none⟩ (.int .i64 v)) T k a v m x :=
 ⟨by rw [World.cell?_setCell_other _ _ _ _ (by simp)]; exact h.c0, by rw [World.cell?_setCell_other _ _ _ _ (by simp)]; exact h.c1, World.cell?_setCell_same _ _ _ h.c2, by rw [World.cell?_setCell_other _ _ _ _ (by simp)]; exact h.c3, by rw [World.cell?_setCell_other _ _ _ _ (by simp)]; exact h.c4, fun j => by rw [World.frozen?_setCell]; exact h.fz j, by simpa [World.setCell] using h.lt⟩
theorem TkAt.set3 {w : World} {T : Nat} {k a z m : Int} {x : ByteArray} (h : TkAt w T k a z m x) (v : Int) : TkAt (w.setCell ⟨T, 3, none⟩ (.int .i64 v)) T k a z v x :=
 ⟨by rw [World.cell?_setCell_other _ _ _ _ (by simp)]; exact h.c0, by rw [World.cell?_setCell_other _ _ _ _ (by simp)]; exact h.c1, by rw [World.cell?_setCell_other _ _ _ _ (by simp)]; exact h.c2, World.cell?_setCell_same _ _ _ h.c3, by rw [World.cell?_setCell_other _ _ _ _ (by simp)]; exact h.c4, fun j => by rw [World.frozen?_setCell]; exact h.fz j, by simpa [World.setCell] using h.lt⟩
theorem TkAt.set4 {w : World} {T : Nat} {k a z m : Int} {x : ByteArray} (h : TkAt w T k a z m x) (v : ByteArray) : TkAt (w.setCell ⟨T, 4, none⟩ (.string v)) T k a z m v :=
 ⟨by rw [World.cell?_setCell_other _ _ _ _ (by simp)]; exact h.c0, by rw [World.cell?_setCell_other _ _ _ _ (by simp)]; exact h.c1, by rw [World.cell?_setCell_other _ _ _ _ (by simp)]; exact h.c2, by rw [World.cell?_setCell_other _ _ _ _ (by simp)]; exact h.c3, World.cell?_setCell_same _ _ _ h.c4, fun j => by rw [World.frozen?_setCell]; exact h.fz j, by simpa [World.setCell] using h.lt⟩
theorem Scan.other {w : World} {B : Nat} {s : ByteArray} {at_ : Nat} (h : Scan w B s at_) (T j : Nat) (v : Value) (hne : B ≠ T) : Scan (w.setCell ⟨T, j, none⟩ v) B s at_ :=
 ⟨by rw [World.cell?_setCell_other _ _ _ _ (by simp)]; exact h.c0, by rw [World.cell?_setCell_other _ _ _ _ (by simp)]; exact h.c1, fun j => by rw [World.frozen?_setCell]; exact h.fz j, by simpa [World.setCell] using h.lt⟩
def TokPost (B T : Nat) (s : ByteArray) (a : Int) (r : Res) (w : World) (e : Ending) (w' : World) : Prop :=
 ∃ (n : Nat) (k m : Int) (x : ByteArray), n ≤ s.size ∧ Scan w' B s n ∧ TkAt w' T k a 0 m x ∧ Chg2 B T w w' ∧
  match r with
  | .err c => e = .returned (.int .i64 c)
  | .tok t rest => e = .returned (.int .i64 0) ∧ rest = tl s n ∧ k = t.k ∧ m = t.n ∧ x = ⟨t.s.toArray⟩
theorem TokPost.err {B T : Nat} {s : ByteArray} {a : Int} {w w' : World} {e : Ending} (n : Nat) (k m : Int) (x : ByteArray) (c : Int) (r : Res) (hr : r = .err c) (h1 : n ≤ s.size) (h2 : Scan w' B s n) (h3 : TkAt w' T k a 0 m x) (h4 : Chg2 B T w w') (he : e = .returned (.int .i64 c)) : TokPost B T s a r w e w' :=
 ⟨n, k, m, x, h1, h2, h3, h4, by rw [hr]; exact he⟩
theorem TokPost.tok {B T : Nat} {s : ByteArray} {a : Int} {w w' : World} {e : Ending} (n : Nat) (k m : Int) (x : List UInt8) (rest : List UInt8) (r : Res) (hr : r = .tok ⟨k, m, x⟩ rest) (h1 : n ≤ s.size) (h2 : Scan w' B s n) (h3 : TkAt w' T k a 0 m ⟨x.toArray⟩) (h4 : Chg2 B T w w') (hrest : rest = tl s n) (he : e = .returned (.int .i64 0)) : TokPost B T s a r w e w' :=
 ⟨n, k, m, ⟨x.toArray⟩, h1, h2, h3, h4, by rw [hr]; exact ⟨he, hrest, rfl, rfl, rfl⟩⟩
def Way (s : ByteArray) (b k : Nat) : Prop := strEnd (tl s b) = (strEnd (tl s k)).map fun p => ((tl s b).take (k - b) ++ p.1, p.2)
theorem tl_drop (s : ByteArray) (b j : Nat) : (tl s b).drop j = tl s (b + j) := by
 unfold tl; rw [List.drop_drop]
theorem Way.start (s : ByteArray) (b : Nat) : Way s b b := by
 unfold Way; simp
theorem Way.step {s : ByteArray} {b k : Nat} (j : Nat) (h : Way s b k) (hb : b ≤ k) (h2 : strEnd (tl s k) = (strEnd (tl s (k + j))).map fun p => ((tl s k).take j ++ p.1, p.2)) : Way s b (k + j) := by
 unfold Way at *
 rw [h, h2, Option.map_map]
 congr 1
 funext p
 have : (tl s b).take (k + j - b) = (tl s b).take (k - b) ++ (tl s k).take j := by
  rw [show k + j - b = (k - b) + j by omega, List.take_add, tl_drop, show b + (k - b) = k by omega]
 simp [this]
theorem strEnd_step (s : ByteArray) (k : Nat) (h : k < s.size) : strEnd (tl s k) = if s[k] == 34 then some ([], tl s (k + 1)) else if s[k] == 92 then (strEnd (tl s (k + 2))).map (fun p => ((tl s k).take 2 ++ p.1, p.2)) else (strEnd (tl s (k + 1))).map (fun p => ((tl s k).take 1 ++ p.1, p.2)) := by
 rw [tl_cons s k h]
 by_cases h1 : k + 1 < s.size
 ·rw [tl_cons s (k + 1) h1]
  conv => lhs; rw [strEnd]
  simp
 ·rw [tl_nil s (k + 1) (by omega), tl_nil s (k + 2) (by omega)]
  conv => lhs; rw [strEnd]
  split
  ·rfl
  ·simp [strEnd]
end Lx
set_option maxRecDepth 100000 in
set_option maxHeartbeats 2000000 in
theorem str_any (B T at0 : Nat) (a : Int) (s : ByteArray) (w : World) (h : Lx.Scan w B s at0) (ht : Lx.TkAt w T 0 a 0 0 ⟨#[]⟩) (hBT : B ≠ T) (hs : s.size ≤ 1000000) (ha : at0 < s.size) :
  Calls Try.prog 64 #[.pointer (some ⟨B, 0, none⟩), .pointer (some ⟨T, 0, none⟩)] w (Lx.TokPost B T s a (Lx.str (Lx.tl s at0)) w) := by
 have c1 := h.c1
 have hs1 : Lx.str (Lx.tl s at0) = match Lx.strEnd (Lx.tl s (at0 + 1)) with
   | none => .err 31
   | some (body, rest) => match Lx.quoted body with
    | some q => if q.length ≤ 256 then .tok ⟨12, 0, q⟩ rest else .err 30
    | none => .err 30 := by
  rw [Lx.str, Lx.tl_tail]
  rfl
 have HS := Lib.hid hs1
 clear hs1
 go_enter Try.func64, Try.ntmps64
 go_wp2_with fail
 go_loopw [5] (fun v wr => ∃ k : Nat, v = .int .i64 k ∧ at0 + 1 ≤ k ∧ k ≤ s.size + 1 ∧ Hid (Lx.Way s (at0 + 1) k) ∧ Below w.heap.size w wr) (fun v _ => s.size + 2 - (intOf v).toNat)
 case atStart => exact ⟨at0 + 1, by simp, by omega, by omega, Lx.Way.start _ _, Below.refl _ _⟩
 case round =>
  obtain ⟨k, rfl, hk1, hk2, HW, hbl⟩ := hrel
  have hsc := h.below hbl
  have htk := ht.below hbl
  have c0' := hsc.c0
  have c1' := hsc.c1
  have q0 := cell_regrown c0'
  have q1 := cell_regrown c1'
  have f0 := hsc.fz
  have g0 := htk.fz
  have t0' := htk.c0
  have t4' := htk.c4
  by_cases hlt : k < s.size
  case neg =>
   have hge : (s.size : Int) ≤ (k : Int) := by omega
   have HR : Hid (Lx.str (Lx.tl s at0) = .err 31) := by
    show _ = _
    rw [HS.out, HW.out, Lx.tl_nil s k (by omega)]
    simp [Lx.strEnd]
   go_wp2
   go_ret
   exact .err at0 0 0 _ 31 _ HR.out (by omega) hsc htk ((Lx.Chg2.refl B T w).of_below hbl) rfl
  have hlt' : (k : Int) < (s.size : Int) := by omega
  have hst := Lx.strEnd_step s k hlt
  have b34 := Lx.beq_nat s[k] 34 (by omega)
  cases f34 : ((s[k].toNat : Int) == 34)
  ·have f34' : ((s[k].toNat : Int) != 34) = true := by rw [bne, f34]; rfl
   rw [show (s[k] == 34) = false from b34.trans f34, if_neg (by simp)] at hst
   have b92 := Lx.beq_nat s[k] 92 (by omega)
   cases f92 : ((s[k].toNat : Int) == 92)
   ·rw [show (s[k] == 92) = false from b92.trans f92, if_neg (by simp)] at hst
    have HW2 : Hid (Lx.Way s (at0 + 1) (k + 1)) := HW.out.step 1 (by omega) hst
    clear hst b34 b92
    go_wp2
    go_roundw
    case rel => exact ⟨k + 1, by simp, by omega, by omega, HW2, hbl⟩
    case measure => simp [intOf]; omega
   ·rw [show (s[k] == 92) = true from b92.trans f92, if_pos rfl] at hst
    clear b34 b92
    have HW2 : Hid (Lx.Way s (at0 + 1) (k + 2)) := HW.out.step 2 (by omega) hst
    clear hst
    go_wp2
    go_roundw
    case rel => exact ⟨k + 2, by simp; omega, by omega, by omega, HW2, hbl⟩
    case measure => simp [intOf]; omega
  ·have f34' : ((s[k].toNat : Int) != 34) = false := by rw [bne, f34]; rfl
   rw [show (s[k] == 34) = true from b34.trans f34, if_pos rfl] at hst
   clear b34
   have hW := HW.out
   unfold Lx.Way at hW
   rw [hst] at hW
   clear hst
   obtain ⟨x, hx⟩ : ∃ x, s.extract (at0 + 1) k = x := ⟨_, rfl⟩
   have hxl : x.data.toList = (Lx.tl s (at0 + 1)).take (k - (at0 + 1)) := by rw [← hx, Lib.extract_data]; rfl
   have hxs : x.size ≤ 1000000 := by
    have := congrArg List.length hxl
    rw [Fx.size_toList, List.length_take, Lx.tl_len] at this
    omega
   have HR : Hid (Lx.str (Lx.tl s at0) = match Lx.quoted x.data.toList with
    | some q => if q.length ≤ 256 then .tok ⟨12, 0, q⟩ (Lx.tl s (k + 1)) else .err 30
    | none => .err 30) := by
    show _ = _
    rw [HS.out, hW, hxl]
    simp
   obtain ⟨o, ho⟩ : ∃ o, Lx.quoted x.data.toList = o := ⟨_, rfl⟩
   have cQ : ∀ d os, Calls Try.prog 87 #[.string x] (grow (redrawn wr d) os) fun e w'' => e = .returned (Lx.QV o) ∧ ∃ p : Regrown, w'' = grow (redrawn wr p.d) p.os := fun d os => Calls.regrown_of (by have := quoted_any x (grow (redrawn wr d) os) hxs; rw [ho] at this; exact this)
   rw [ho] at HR
   clear hW hxl ho HS HW hxs
   have HBL := Lib.hid hbl
   have HSC := Lib.hid hsc
   have HTK := Lib.hid htk
   have hw1 : IntKind.i64.wrap ((at0 : Int) + 1) = (at0 : Int) + 1 := IntWalk.i64_in _ (by omega)
   have hw2 : 0 ≤ (at0 : Int) + 1 := by omega
   have hw3 : ((at0 : Int) + 1).toNat = at0 + 1 := by omega
   have hw4 : (at0 : Int) + 1 ≤ (k : Int) := by omega
   have hw5 : (k : Int) ≤ (s.size : Int) := by omega
   have hk0 : 0 ≤ (k : Int) := by omega
   go_wp2
   cases o with
   | none =>
    have HR2 : Hid (Lx.str (Lx.tl s at0) = .err 30) := HR.out
    have cV : ∀ d os, Calls Try.prog 87 #[.string x] (grow (redrawn wr d) os) fun e w'' => e = .returned (.tuple #[.string ⟨#[]⟩, .bool false]) ∧ ∃ p : Regrown, w'' = grow (redrawn wr p.d) p.os := cQ
    clear cQ
    refine wp_region_quiet_below (by kernel_rfl) (by kernel_rfl) ?_
    repeat (go_big_quiet_step (exact cV _ _))
    refine wpQuiet_nil ?_
    intro _ hw'
    obtain ⟨⟨dq, osq⟩, hw''⟩ := hw'
    subst hw''
    have hbq := below_regrown wr dq osq
    obtain ⟨w2, hw2⟩ : ∃ w2, grow (redrawn wr dq) osq = w2 := ⟨_, rfl⟩
    rw [hw2] at hbq ⊢
    have hsc2 := HSC.out.below hbq
    have htk2 := HTK.out.below hbq
    have hch2 := ((Lx.Chg2.refl B T w).of_below HBL.out).of_below hbq
    clear hw2 cV q0 q1
    go_wp2
    go_ret
    exact .err at0 0 0 _ 30 _ HR2.out (by omega) hsc2 htk2 hch2 rfl
   | some q =>
    by_cases hl : q.length ≤ 256
    case neg =>
     have HR2 : Hid (Lx.str (Lx.tl s at0) = .err 30) := HR.out.trans (if_neg hl)
     have cV : ∀ d os, Calls Try.prog 87 #[.string x] (grow (redrawn wr d) os) fun e w'' => e = .returned (.tuple #[.string ⟨q.toArray⟩, .bool false]) ∧ ∃ p : Regrown, w'' = grow (redrawn wr p.d) p.os := (by rw [show Lx.QV (some q) = .tuple #[.string ⟨q.toArray⟩, .bool false] by simp [Lx.QV, hl]] at cQ; exact cQ)
     clear cQ
     refine wp_region_quiet_below (by kernel_rfl) (by kernel_rfl) ?_
     repeat (go_big_quiet_step (exact cV _ _))
     refine wpQuiet_nil ?_
     intro _ hw'
     obtain ⟨⟨dq, osq⟩, hw''⟩ := hw'
     subst hw''
     have hbq := below_regrown wr dq osq
     obtain ⟨w2, hw2⟩ : ∃ w2, grow (redrawn wr dq) osq = w2 := ⟨_, rfl⟩
     rw [hw2] at hbq ⊢
     have hsc2 := HSC.out.below hbq
     have htk2 := HTK.out.below hbq
     have hch2 := ((Lx.Chg2.refl B T w).of_below HBL.out).of_below hbq
     clear hw2 cV q0 q1
     go_wp2
     go_ret
     exact .err at0 0 0 _ 30 _ HR2.out (by omega) hsc2 htk2 hch2 rfl
    case pos =>
     have HR2 : Hid (Lx.str (Lx.tl s at0) = .tok ⟨12, 0, q⟩ (Lx.tl s (k + 1))) := HR.out.trans (if_pos hl)
     have cV : ∀ d os, Calls Try.prog 87 #[.string x] (grow (redrawn wr d) os) fun e w'' => e = .returned (.tuple #[.string ⟨q.toArray⟩, .bool true]) ∧ ∃ p : Regrown, w'' = grow (redrawn wr p.d) p.os := (by rw [show Lx.QV (some q) = .tuple #[.string ⟨q.toArray⟩, .bool true] by simp [Lx.QV, hl]] at cQ; exact cQ)
     clear cQ
     refine wp_region_quiet_below (by kernel_rfl) (by kernel_rfl) ?_
     repeat (go_big_quiet_step (exact cV _ _))
     refine wpQuiet_nil ?_
     intro _ hw'
     obtain ⟨⟨dq, osq⟩, hw''⟩ := hw'
     subst hw''
     have hbq := below_regrown wr dq osq
     obtain ⟨w2, hw2⟩ : ∃ w2, grow (redrawn wr dq) osq = w2 := ⟨_, rfl⟩
     rw [hw2] at hbq ⊢
     have hsc2 := HSC.out.below hbq
     have htk2 := HTK.out.below hbq
     have hch2 := ((Lx.Chg2.refl B T w).of_below HBL.out).of_below hbq
     clear hw2 cV q0 q1
     have d0 := htk2.c0
     have d4 := (htk2.set0 12).c4
     have e1 := (((hsc2.other T 0 (.int .i64 12) hBT)).other T 4 (.string ⟨q.toArray⟩) hBT).c1
     have z0 := htk2.fz
     have z1 := (htk2.set0 12).fz
     have z2 := (((hsc2.other T 0 (.int .i64 12) hBT)).other T 4 (.string ⟨q.toArray⟩) hBT).fz
     have HTK2 := Lib.hid htk2
     have HSC2 := Lib.hid hsc2
     have HCH2 := Lib.hid hch2
     clear htk2 hsc2 hch2
     go_wp2
     go_ret
     exact .tok (k + 1) 12 0 q _ _ HR2.out (by omega) (((HSC2.out.other T 0 (.int .i64 12) hBT).other T 4 (.string ⟨q.toArray⟩) hBT).step' _ _ (by omega)) (((HTK2.out.set0 12).set4 ⟨q.toArray⟩).other B 1 _ (Ne.symm hBT)) (((HCH2.out.setT 0 _).setT 4 _).setB 1 _) rfl rfl
end Go.Proofs.Ytcopdfihaheplaa
