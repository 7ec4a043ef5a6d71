/-
  code.put, code.text: numbers and texts are put behind bytes.
-/
import Derived.Test.YtlckjphnbfahgaaGreatDoorCdAt
import Derived.Test.YtlckjphnbfahgaaGreatDoorApp
import Derived.Lib.AppendStr
import Derived.Lib.UnsafeStr
namespace Go.Proofs.YtlckjphnbfahgaaGreatDoor
open Go.RowKit
attribute [local go_sem] Oper.semAt_some
namespace Cd
def two (n : Int) : List UInt8 := [UInt8.ofNat (n / 256 % 256).toNat, UInt8.ofNat (n % 256).toNat]
def twos (l : List Int) : List UInt8 := l.flatMap two
theorem u8_of (n : Int) : (((UInt8.ofNat (n % 256).toNat).toNat : Nat) : Int) = n % 256 := by
  have h1 : 0 ≤ n % 256 := Int.emod_nonneg _ (by decide)
  have h2 : n % 256 < 256 := Int.emod_lt_of_pos _ (by decide)
  rw [UInt8.toNat_ofNat']
  omega
theorem two_cells (n : Int) : Lib.byteCells (two n) = [.int .u8 (n / 256 % 256), .int .u8 (n % 256)] := by
  unfold two Lib.byteCells
  rw [List.map_cons, List.map_cons, List.map_nil, u8_of, u8_of]
theorem twos_length (l : List Int) : (twos l).length = 2 * l.length := by
  induction l with
  | nil => rfl
  | cons x r ih =>
    have : twos (x :: r) = two x ++ twos r := List.flatMap_cons
    rw [this, List.length_append, ih, List.length_cons]
    have : (two x).length = 2 := rfl
    omega
theorem twos_take {l : List Int} {k : Nat} (hk : k < l.length) : twos (l.take (k + 1)) = twos (l.take k) ++ two l[k] := by
  unfold twos
  rw [List.take_add_one, List.getElem?_eq_getElem hk, Option.toList_some, List.flatMap_append, List.flatMap_singleton]
theorem addr0 (g j : Nat) : (⟨g, 0, none⟩ : Addr).add j = ⟨g, j, none⟩ := by
  unfold Addr.add
  split
  · rename_i h0; rw [h0]
  · rw [Nat.zero_add]
/-- a row of bytes that grows -/
structure PutI (w0 : World) (v0 : Value) (base : Nat) (w : World) (v : Value) (l : List UInt8) : Prop where
  row : w.ownsRow base 5 1 v l.length (Lib.byteCells l)
  kp : Keep (fun k => v0.ownBlock = some k) w0 w
  ow : v.ownBlock = v0.ownBlock ∨ ∃ k, v.ownBlock = some k ∧ w0.heap.size ≤ k
theorem PutI.step {w0 w w' : World} {v0 v v' : Value} {base : Nat} {l l' : List UInt8} (h : PutI w0 v0 base w v l) (hg : w.grownBy w' v.ownBlock) (hv : v'.ownBlock = v.ownBlock ∨ v'.ownBlock = some w.heap.size) (hr : w'.ownsRow base 5 1 v' l'.length (Lib.byteCells l')) : PutI w0 v0 base w' v' l' := by
  obtain ⟨-, kp, ow⟩ := h
  refine ⟨hr, ⟨hg.os.trans kp.os, hg.tape.trans kp.tape, hg.output.trans kp.output, Nat.le_trans kp.size hg.size, fun k hk hn => ?_⟩, ?_⟩
  · refine (hg.block k (Nat.lt_of_lt_of_le hk kp.size) (fun e => ?_)).trans (kp.block k hk hn)
    rcases ow with ow | ⟨j, hj, hj2⟩
    · exact hn (ow ▸ e.symm)
    · rw [hj] at e
      have := Option.some.inj e
      omega
  · rcases hv with hv | hv
    · rcases ow with ow | ⟨j, hj, hj2⟩
      · exact .inl (hv.trans ow)
      · exact .inr ⟨j, hv.trans hj, hj2⟩
    · exact .inr ⟨_, hv, kp.size⟩
theorem PutI.below {w0 w w' : World} {v0 v : Value} {base : Nat} {l : List UInt8} (h : PutI w0 v0 base w v l) (hb : Below w.heap.size w w') : PutI w0 v0 base w' v l :=
  ⟨Keep.own (S := fun _ => False) h.row ((Keep.refl _ w).below hb) (fun _ h => h.elim), h.kp.below hb, h.ow⟩
end Cd
set_option maxRecDepth 100000 in
theorem Cd.infoB : (Tryz.prog.info? 5).map (fun i => (i.zero, i.size, i.bytes)) = some (some (.int .u8 0), 1, 1) := by kernel_rfl
set_option maxRecDepth 100000 in
set_option maxHeartbeats 4000000 in
theorem put_any {F : Nat → Prop} (base : Nat) (v vl : Value) (acc : List UInt8) (l : List Int) (w : World) (h : w.ownsRow base 5 1 v acc.length (Lib.byteCells acc)) (hb : base ≤ w.heap.size) (hr : Dt.IRow F w vl l) (hF : ∀ k, F k → v.ownBlock ≠ some k) (hl : acc.length + 2 * l.length ≤ 140737488355328) :
    Calls Tryz.prog 25 #[v, vl] w fun e w' => ∃ v', e = .returned v' ∧ Cd.PutI w v base w' v' (acc ++ Cd.twos l) := by
  obtain ⟨i0, hi, hz0, hz1, hz2⟩ := info_parts Cd.infoB
  obtain ⟨a, c, rfl, -, hsrc⟩ := hr
  have HS := Lib.hid hsrc
  have H0 : Hid (Cd.PutI w v base w v (acc ++ Cd.twos (l.take 0))) := by
    show Cd.PutI _ _ _ _ _ _
    rw [List.take_zero]
    show Cd.PutI _ _ _ _ _ (acc ++ [])
    rw [List.append_nil]
    exact ⟨h, Keep.refl _ _, .inl rfl⟩
  obtain ⟨a0, c0, rfl⟩ := Dt.row_form h
  have HI0 := Lib.hid hi
  have HZ0 := Lib.hid hz0
  have HZ1 := Lib.hid hz1
  have HZ2 := Lib.hid hz2
  have HFF := Lib.hid hF
  clear hF h hsrc hi hz0 hz1 hz2
  go_enter Tryz.func25, Tryz.ntmps25
  go_wp2
  go_loopw [0, 9] (fun vb vi wr => ∃ (k : Nat) (a' : Option Addr) (c' : Nat), vb = .slice a' (acc.length + 2 * k) c' ∧ vi = .int .i64 k ∧ k ≤ l.length ∧ Hid (Cd.PutI w (.slice a0 acc.length c0) base wr (.slice a' (acc.length + 2 * k) c') (acc ++ Cd.twos (l.take k)))) (fun _ vi _ => l.length - (intOf vi).toNat)
  case atStart => exact ⟨0, a0, c0, rfl, rfl, by omega, H0⟩
  case round =>
    clear H0
    obtain ⟨k, a', c', rfl, rfl, hk, HP⟩ := hrel
    by_cases hlt : k < l.length
    · have hlti : (k : Int) < (l.length : Int) := by omega
      obtain ⟨b, o, rfl, hFb, hbl, hcs⟩ := HS.out (by intro e; rw [e] at hlt; simp at hlt)
      have hx0 := (HP.out.kp.cell (o + k) hbl (HFF.out b hFb)).trans (hcs k hlt)
      obtain ⟨x, hx⟩ : ∃ x, l[k] = x := ⟨_, rfl⟩
      have htk := Cd.twos_take hlt
      rw [hx] at hx0 htk
      have HTK := Lib.hid htk
      clear htk hx hcs
      obtain ⟨w2, hw2⟩ : ∃ w2, wr.alloc (.cells #[.int .u8 (x / 256 % 256), .int .u8 (x % 256)] 5) = w2 := ⟨_, rfl⟩
      obtain ⟨hb2, -⟩ := Cd.below_new (Below.refl _ wr) hw2 (Nat.le_refl _)
      have hP2 := HP.out.below hb2
      have hlen : (acc ++ Cd.twos (l.take k)).length = acc.length + 2 * k := by rw [List.length_append, Cd.twos_length, List.length_take, Nat.min_eq_left hk]
      have hrow2 := hP2.row
      rw [hlen] at hrow2
      have hsrc2 : ∀ (j : Nat) (u : Value), [Value.int .u8 (x / 256 % 256), .int .u8 (x % 256)][j]? = some u → w2.cell? ((⟨wr.heap.size, 0, none⟩ : Addr).add j) = some u := fun j u h => by
        have := Cd.cells_new wr [.int .u8 (x / 256 % 256), .int .u8 (x % 256)] _ hw2 j u h
        rw [Cd.addr0]
        exact this
      have hbs : base ≤ w2.heap.size := by have := hP2.kp.size; omega
      have hn1 : acc.length + 2 * k + 2 ≤ 140737488355328 := by omega
      have HP2 := Lib.hid hP2
      clear hb2 hP2 HP
      go_wp2_with (at_builtin; refine Ap.list rfl _ _ 37 rfl base 5 i0 (.int .u8 0) 1 1 Tryz.underlying37 HI0.out HZ0.out HZ1.out HZ2.out rfl (by decide) _ (acc.length + 2 * k) _ rfl hrow2 (.slice (some ⟨wr.heap.size, 0, none⟩) 2 2) 2 [.int .u8 (x / 256 % 256), .int .u8 (x % 256)] rfl (.inr ⟨_, _, rfl, hsrc2⟩) rfl (by intro u hu; simp at hu; rcases hu with rfl | rfl <;> rfl) (by unfold maxLen; omega) (by omega) hbs ?_)
      intro v' w3 hown' hgrow hv'
      obtain ⟨a3, c3, rfl⟩ := Dt.row_form hown'
      have HN : Hid (Cd.PutI w (.slice a0 acc.length c0) base w3 (.slice a3 (acc.length + 2 * k + 2) c3) (acc ++ Cd.twos (l.take (k + 1)))) := by
        have e1 : (acc ++ Cd.twos (l.take (k + 1))).length = acc.length + 2 * k + 2 := by rw [List.length_append, Cd.twos_length, List.length_take, Nat.min_eq_left hlt]; omega
        have e2 : Lib.byteCells (acc ++ Cd.twos (l.take (k + 1))) = Lib.byteCells (acc ++ Cd.twos (l.take k)) ++ [.int .u8 (x / 256 % 256), .int .u8 (x % 256)] := by
          rw [HTK.out, ← List.append_assoc, Lib.byteCells_append, Cd.two_cells]
        exact HP2.out.step hgrow hv' (by rw [e1, e2]; exact hown')
      clear hown' hgrow hv' hrow2 hsrc2 hbs
      go_wp2
      go_roundw
      case rel => exact ⟨k + 1, a3, c3, by rw [show acc.length + 2 * (k + 1) = acc.length + 2 * k + 2 by omega], by simp, by omega, by rw [show acc.length + 2 * (k + 1) = acc.length + 2 * k + 2 by omega]; exact HN⟩
      case measure => simp [intOf]; omega
    · have hge : (l.length : Int) ≤ (k : Int) := by omega
      have hP := HP.out
      rw [List.take_of_length_le (by omega)] at hP
      have HPP := Lib.hid hP
      clear hP HP
      go_wp2
      go_ret
      exact ⟨_, rfl, HPP.out⟩
/-- a text -/
def Cd.textB (s : ByteArray) : List UInt8 := Cd.two s.size ++ s.data.toList
set_option maxRecDepth 100000 in
set_option maxHeartbeats 4000000 in
theorem text_any (base : Nat) (v : Value) (acc : List UInt8) (s : ByteArray) (w : World) (h : w.ownsRow base 5 1 v acc.length (Lib.byteCells acc)) (hb : base ≤ w.heap.size) (hl : acc.length + 2 + s.size ≤ 140737488355328) :
    Calls Tryz.prog 27 #[v, .string s] w fun e w' => ∃ v', e = .returned v' ∧ w'.ownsRow base 5 1 v' (acc ++ Cd.textB s).length (Lib.byteCells (acc ++ Cd.textB s)) ∧ Below base w w' := by
  obtain ⟨i0, hi, hz0, hz1, hz2⟩ := info_parts Cd.infoB
  obtain ⟨w1, hw1⟩ : ∃ w1, w.alloc (.cells #[.int .i64 s.size] 3) = w1 := ⟨_, rfl⟩
  obtain ⟨hb1, hs1⟩ := Cd.below_new (Below.refl _ w) hw1 (Nat.le_refl _)
  have hc1 := Cd.cells_new w [.int .i64 s.size] _ hw1 0 _ rfl
  have hr1 : Dt.IRow (fun k => k = w.heap.size) w1 (.slice (some ⟨w.heap.size, 0, none⟩) 1 1) [(s.size : Int)] := ⟨_, _, rfl, Nat.le_refl _, fun _ => ⟨w.heap.size, 0, rfl, rfl, by omega, fun j hj => by
    obtain rfl : j = 0 := by simp at hj; exact hj
    exact hc1⟩⟩
  have hrow1 : w1.ownsRow base 5 1 v acc.length (Lib.byteCells acc) := Keep.own (S := fun _ => False) h ((Keep.refl _ w).below hb1) (fun _ h => h.elim)
  have hp := put_any base v _ acc [(s.size : Int)] w1 hrow1 (by omega) hr1 (fun k hk e => by have := (h.lt k e).2; omega) (by simp; omega)
  have hlt := h.lt
  have HB1 : Hid (Below base w w1) := hb1.mono hb
  obtain ⟨a0, c0, rfl⟩ := Dt.row_form h
  clear hc1 hr1 hrow1 hb1
  go_enter Tryz.func27, Tryz.ntmps27
  go_wp2_with (go_at_call 25; refine hp.mono ?_; clear hp hw1; rintro e w2 ⟨v2, rfl, hP2⟩; refine Hid.out ?_)
  refine Lib.hid ?_
  have hrow2 := hP2.row
  have hb2 : base ≤ w2.heap.size := by have := hP2.kp.size; omega
  have HB2 : Hid (Below base w w2) := HB1.out.trans (hP2.kp.to_below (fun k hk => (hlt k hk).1) (by omega))
  have hlt2 := fun k hk => (hrow2.lt k hk).1
  have hln2 : (acc ++ Cd.twos [(s.size : Int)]).length = acc.length + 2 := by rw [List.length_append, Cd.twos_length]; rfl
  obtain ⟨a2, c2, rfl⟩ := Dt.row_form hrow2
  rw [hln2] at hrow2 hlt2 ⊢
  clear hP2 hln2
  go_wp2_with (at_builtin; refine Lib.wpList_append_own_string _ rfl _ _ 37 9 rfl base 5 i0 Tryz.underlying37 Tryz.underlying9 hi hz0 hz1 hz2 _ _ _ rfl hrow2 s rfl (by unfold maxLen; omega) (by omega) hb2 ?_)
  intro v' w3 hown' hgrow _
  obtain ⟨a3, c3, rfl⟩ := Dt.row_form hown'
  have HN : Hid (w3.ownsRow base 5 1 (.slice a3 (acc.length + 2 + s.size) c3) (acc ++ Cd.textB s).length (Lib.byteCells (acc ++ Cd.textB s))) := by
    have e1 : (acc ++ Cd.textB s).length = acc.length + 2 + s.size := by
      unfold Cd.textB
      rw [List.length_append, List.length_append, Array.length_toList]
      show _ + (2 + s.size) = _
      omega
    have e2 : Lib.byteCells (acc ++ Cd.textB s) = Lib.byteCells (acc ++ Cd.twos [(s.size : Int)]) ++ Lib.strCells s := by
      unfold Cd.textB
      rw [Lib.strCells_eq, ← List.append_assoc, Lib.byteCells_append]
      rfl
    show World.ownsRow _ _ _ _ _ _ _
    rw [e1, e2]
    exact hown'
  have HB3 : Hid (Below base w w3) := HB2.out.grown hgrow (by have := HB2.out.size; omega) hlt2
  clear hown' hgrow
  go_wp2
  go_ret
  exact ⟨_, rfl, HN.out, HB3.out⟩
end Go.Proofs.YtlckjphnbfahgaaGreatDoor
