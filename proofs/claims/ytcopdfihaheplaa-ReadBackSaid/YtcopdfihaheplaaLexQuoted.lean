/-
 The walk of quoted: a string's characters.
-/
import Derived.Test.YtcopdfihaheplaaLexGap2
import Derived.Lib.SmallJoins
namespace Go.Proofs.Ytcopdfihaheplaa
open Go.RowKit
namespace Lx
def byteV (c : UInt8) : Value := .int .u8 (c.toNat : Int)
def strN : Value → Nat
 | .string s => s.size
 | _ => 0
theorem infoU8 : (Try.prog.info? 5).map (fun i => (i.zero, i.size, i.bytes)) = some (some (.int .u8 0), 1, 1) := by kernel_rfl
set_option maxRecDepth 100000 in
theorem conv_own {w : World} {base : Nat} {v : Value} (l : List UInt8) (h : w.ownsRow base 5 1 v l.length (l.map byteV)) :
  (convert 53 9 v).run Try.prog w = .ok (.string ⟨l.toArray⟩) w := by
 have h0 := h
 obtain ⟨_, h1⟩ := h
 rcases h1 with ⟨rfl, hn⟩ | ⟨g, cap, cur, rfl, _, _, _, _, _, _⟩
 ·have : l = [] := List.eq_nil_of_length_eq_zero hn
  subst this
  rw [run_convert_bytes_nil (P := Try.prog) w 53 5 Try.underlying53 Try.underlying5 0 0 9 Try.underlying9]
  rfl
 ·have hr := run_convert_bytes_arg (P := Try.prog) w 53 5 Try.underlying53 Try.underlying5 g 0 l.length cap (l.map fun c => (c.toNat : Int)) (by simp) (fun i hi => by
   rw [Nat.zero_add, h0.cellAt i (by omega)]
   simp [byteV, List.getD, List.getElem?_eq_getElem hi]) 9 Try.underlying9
  rw [hr]
  congr 2
  unfold strOfNums
  rw [List.map_map]
  congr 2
  conv => rhs; rw [← List.map_id l]
  apply List.map_congr_left
  intro c _
  simp [Function.comp]
def QV (o : Option (List UInt8)) : Value :=
 match o with
 | none => .tuple #[.string ⟨#[]⟩, .bool false]
 | some q => .tuple #[.string ⟨q.toArray⟩, .bool (decide (q.length ≤ 256))]
theorem quoted_plain (c : UInt8) (t : List UInt8) (hc : (c == 92) = false) : quoted (c :: t) = if white c && c != 32 then none else (quoted t).map (c :: ·) := by
 cases t with
 | nil =>
  conv => lhs; rw [quoted]
  rw [hc]; simp [quoted]
 | cons d r =>
  conv => lhs; rw [quoted]
  rw [hc]; simp
theorem quoted_esc (d : UInt8) (r : List UInt8) : quoted (92 :: d :: r) = (if d == 110 then (quoted r).map (10 :: ·)
   else if d == 116 then (quoted r).map (9 :: ·)
   else if d == 92 || d == 34 then (quoted r).map (d :: ·)
   else if d == 120 then (if two r < 0 then none else (quoted (r.drop 2)).map (UInt8.ofNat (two r).toNat :: ·))
   else none) := by
 rw [quoted]; rfl
theorem two_range (r : List UInt8) : 0 ≤ two r → 2 ≤ r.length ∧ two r ≤ 127 := by
 unfold two
 match r with
 | [] => intro h; simp at h
 | [_] => intro h; simp at h
 | a :: b :: t =>
  intro h
  refine ⟨by simp, ?_⟩
  revert h
  simp only
  cases ha : hexOf a with
  | none => intro h; simp at h
  | some x => cases hb : hexOf b with
   | none => intro h; simp at h
   | some y =>
    have hy : y ≤ 15 := by
     unfold hexOf at hb
     split at hb
     ·rename_i hf; simp [figure] at hf; simp at hb; omega
     ·split at hb
      ·rename_i hf; simp at hf; simp at hb; omega
      ·simp at hb
    simp only
    split
    ·intro _; omega
    ·intro h; omega
theorem quoted_92 : quoted [92] = none := by
 rw [quoted]; rfl
theorem map_acc (acc : List UInt8) (x : UInt8) (o p : Option (List UInt8)) (h : o = p.map (x :: ·)) : o.map (acc ++ ·) = p.map ((acc ++ [x]) ++ ·) := by
 rw [h, Option.map_map]
 congr 1
 funext q
 simp
theorem d_ext (d : ByteArray) (k : Nat) : (d.extract k d.size).data.toList = d.data.toList.drop k := by
 rw [Lib.extract_data]
 exact List.take_of_length_le (by rw [List.length_drop, Fx.size_toList]; exact Nat.le_refl _)
theorem d_cons (d : ByteArray) (h : 0 < d.size) : d.data.toList = d[0] :: d.data.toList.drop 1 := by
 have := tl_cons d 0 h
 unfold tl at this
 rw [List.drop_zero] at this
 exact this
end Lx
set_option maxRecDepth 100000 in
set_option maxHeartbeats 2000000 in
theorem quoted_any (s : ByteArray) (w : World) (hs : s.size ≤ 1000000) :
  Calls Try.prog 87 #[.string s] w fun e w' => e = .returned (Lx.QV (Lx.quoted s.data.toList)) ∧ Below w.heap.size w w' := by
 obtain ⟨i0, hi, hz0, hz1, hz2⟩ := info_parts Lx.infoU8
 go_enter Try.func87, Try.ntmps87
 go_wp2_with fail
 refine wp_scope_jumps 0 (fun a' w' => Hid (Lx.quoted s.data.toList = none) ∧ Below w.heap.size w w' ∧ ∃ t : Array Value, a' = ⟨t, []⟩ ∧ t.size = 69) (fun _ _ => 0) rfl ?_ ?_
 case refine_2 =>
  rintro a' w' ⟨HN, hbl, t, rfl, ht⟩
  go_wp2
  simp only [Exit.jump]
  go_ret2
  refine ⟨?_, hbl⟩
  rw [HN.out]
  simp [Lx.QV, Array.getD, ht]
 go_wp2_with fail
 go_loopw [0, 4, 5, 6] (fun sd v _ _ wr => ∃ (d : ByteArray) (acc : List UInt8) (vv : Value), sd = .string d ∧ v = vv ∧ acc.length + d.size ≤ s.size ∧ Hid (Lx.quoted s.data.toList = (Lx.quoted d.data.toList).map (acc ++ ·)) ∧ Hid (wr.ownsRow w.heap.size 5 1 vv acc.length (acc.map Lx.byteV)) ∧ Below w.heap.size w wr) (fun sd _ _ _ _ => Lx.strN sd)
 case atStart => exact ⟨s, [], _, rfl, rfl, by simp, by show _ = _; simp, World.ownsRow_nil _ _ _ _, Below.refl _ _⟩
 case round =>
  obtain ⟨d, acc, vv, rfl, rfl, hlen, HM, HO, hbl⟩ := hrel
  by_cases h0 : d.size = 0
  ·have hd : d = ⟨#[]⟩ := by
    obtain ⟨⟨l⟩⟩ := d
    cases l with
    | nil => rfl
    | cons c l => simp [ByteArray.size] at h0
   subst hd
   have HR : Hid (Lx.quoted s.data.toList = some acc) := HM.out.trans (by show (Lx.quoted []).map _ = _; rw [Lx.quoted]; simp)
   have hcv := Lx.conv_own acc HO.out
   rcases Joins.ownsRow_forms HO.out with ⟨rfl, hn⟩ | ⟨g, cap, rfl, _⟩
   ·have hz : acc = [] := List.eq_nil_of_length_eq_zero hn
    subst hz
    go_wp2
    simp only [Exit.jump]
    go_ret2
    exact ⟨by rw [HR.out]; rfl, hbl⟩
   ·by_cases hl : acc.length ≤ 256
    ·have HR2 : Hid (Lx.QV (Lx.quoted s.data.toList) = .tuple #[.string ⟨acc.toArray⟩, .bool true]) := by
      show _ = _
      rw [HR.out]; unfold Lx.QV; simp [hl]
     go_wp2
     simp only [Exit.jump]
     go_ret2
     exact ⟨by rw [HR2.out]; simp; omega, hbl⟩
    ·have HR2 : Hid (Lx.QV (Lx.quoted s.data.toList) = .tuple #[.string ⟨acc.toArray⟩, .bool false]) := by
      show _ = _
      rw [HR.out]; unfold Lx.QV; simp [hl]
     go_wp2
     simp only [Exit.jump]
     go_ret2
     exact ⟨by rw [HR2.out]; simp; omega, hbl⟩
  have hp : 0 < d.size := by omega
  have hp' : 0 < (d.size : Int) := by omega
  have hds := Lx.d_cons d hp
  obtain ⟨d1, hd1⟩ : ∃ d1, d.extract 1 d.size = d1 := ⟨_, rfl⟩
  have hdl : d1.data.toList = d.data.toList.drop 1 := by rw [← hd1]; exact Lx.d_ext d 1
  have hdn : d1.size + 1 = d.size := by
   have := congrArg List.length hdl
   rw [List.length_drop, Fx.size_toList, Fx.size_toList] at this
   omega
  have hle1 : d1.size + 1 ≤ d.size := by omega
  rw [← hdl] at hds
  have hM := HM.out
  rw [hds] at hM
  clear hdl hdn h0 hds
  obtain ⟨c, hc⟩ : ∃ c, c = d[0] := ⟨_, rfl⟩
  rw [← hc] at hM
  have b92 := Lx.beq_nat c 92 (by omega)
  cases f92 : ((c.toNat : Int) == 92)
  ·have hq := Lx.quoted_plain c d1.data.toList (b92.trans f92)
   rw [hq] at hM
   have f92' : ((c.toNat : Int) != 92) = true := by rw [bne, f92]; rfl
   have b32 := Lx.beq_nat c 32 (by omega)
   clear hq b92
   subst hc
   cases hw : Lx.white d[0]
   ·have HM2 : Hid (Lx.quoted s.data.toList = (Lx.quoted d1.data.toList).map ((acc ++ [d[0]]) ++ ·)) := hM.trans (Lx.map_acc acc d[0] _ _ (by rw [hw]; rfl))
    clear hM b32
    have hO := HO.out
    have hsz0 := hbl.size
    go_wp2_with first
     | (go_at_call 37; refine (white_any _ _).mono ?_; rintro e w1 ⟨rfl, rfl⟩)
     | (at_builtin; refine wpList_append_own _ rfl _ _ 53 rfl w.heap.size 5 i0 (.int .u8 0) 1 1 Try.underlying53 hi hz0 hz1 hz2 rfl (by decide) _ _ _ rfl (hO.alloc _) ⟨wr.heap.size,0,none⟩ 1 1 [.int .u8 (d[0].toNat : Int)] rfl rfl (cell_one_new _ _ _) (fun x hx => by simp at hx; subst hx; rfl) (by unfold maxLen; omega) (by omega) (by simp; omega) ?_; intro v' w3 hown' hgrow3 hnil3)
    go_roundw
    case rel => exact ⟨d1, acc ++ [d[0]], _, rfl, rfl, by simp; omega, HM2, Lib.hid (by rw [List.length_append, List.map_append]; exact hown'), Below.grown (hbl.alloc (by omega) _) hgrow3 (by simp; omega) (fun j hj => by have := (hO.lt _ hj).1; omega)⟩
    case measure => show d1.size < d.size; omega
   ·cases f32 : ((d[0].toNat : Int) == 32)
    ·have f32' : ((d[0].toNat : Int) != 32) = true := by rw [bne, f32]; rfl
     have HR : Hid (Lx.quoted s.data.toList = none) := by
      show _ = _
      rw [hM, hw, show (d[0] != 32) = true by rw [bne, show (d[0] == 32) = false from b32.trans f32]; rfl]; rfl
     clear hM b32
     go_wp2_with (go_at_call 37; refine (white_any _ _).mono ?_; rintro e w1 ⟨rfl, rfl⟩)
     go_step3
     simp only [Exit.then, Exit.inBlock]
     exact ⟨rfl, HR, hbl, _, rfl, rfl⟩
    ·have f32' : ((d[0].toNat : Int) != 32) = false := by rw [bne, f32]; rfl
     have HM2 : Hid (Lx.quoted s.data.toList = (Lx.quoted d1.data.toList).map ((acc ++ [d[0]]) ++ ·)) := hM.trans (Lx.map_acc acc d[0] _ _ (by rw [hw, show (d[0] != 32) = false by rw [bne, show (d[0] == 32) = true from b32.trans f32]; rfl]; rfl))
     clear hM b32
     have hO := HO.out
     have hsz0 := hbl.size
     go_wp2_with first
      | (go_at_call 37; refine (white_any _ _).mono ?_; rintro e w1 ⟨rfl, rfl⟩)
      | (at_builtin; refine wpList_append_own _ rfl _ _ 53 rfl w.heap.size 5 i0 (.int .u8 0) 1 1 Try.underlying53 hi hz0 hz1 hz2 rfl (by decide) _ _ _ rfl (hO.alloc _) ⟨wr.heap.size,0,none⟩ 1 1 [.int .u8 (d[0].toNat : Int)] rfl rfl (cell_one_new _ _ _) (fun x hx => by simp at hx; subst hx; rfl) (by unfold maxLen; omega) (by omega) (by simp; omega) ?_; intro v' w3 hown' hgrow3 hnil3)
     go_roundw
     case rel => exact ⟨d1, acc ++ [d[0]], _, rfl, rfl, by simp; omega, HM2, Lib.hid (by rw [List.length_append, List.map_append]; exact hown'), Below.grown (hbl.alloc (by omega) _) hgrow3 (by simp; omega) (fun j hj => by have := (hO.lt _ hj).1; omega)⟩
     case measure => show d1.size < d.size; omega
  ·have f92' : ((c.toNat : Int) != 92) = false := by rw [bne, f92]; rfl
   have hc92 : c = 92 := by simpa using b92.trans f92
   rw [hc92] at hM
   clear hc92 b92
   subst hc
   by_cases h1 : d1.size = 0
   ·have hd : d1 = ⟨#[]⟩ := by
     obtain ⟨⟨l⟩⟩ := d1
     cases l with
     | nil => rfl
     | cons c l => simp [ByteArray.size] at h1
    subst hd
    have HR : Hid (Lx.quoted s.data.toList = none) := hM.trans (by rw [show (⟨#[]⟩ : ByteArray).data.toList = [] from rfl, Lx.quoted_92]; rfl)
    clear hM
    go_wp2
    go_step3
    simp only [Exit.then, Exit.inBlock]
    exact ⟨rfl, HR, hbl, _, rfl, rfl⟩
   have hp1 : 0 < d1.size := by omega
   have hp1' : 0 < (d1.size : Int) := by omega
   have hne1 : d1.toList.isEmpty = false := by
    rw [ByteArray.toList_eq, List.isEmpty_eq_false_iff]; intro h; have := Fx.size_toList d1; rw [h] at this; simp at this; omega
   have hds := Lx.d_cons d1 hp1
   obtain ⟨d2, hd2⟩ : ∃ d2, d1.extract 1 d1.size = d2 := ⟨_, rfl⟩
   have hdl : d2.data.toList = d1.data.toList.drop 1 := by rw [← hd2]; exact Lx.d_ext d1 1
   have hdn : d2.size + 1 = d1.size := by
    have := congrArg List.length hdl
    rw [List.length_drop, Fx.size_toList, Fx.size_toList] at this
    omega
   have hle2 : d2.size + 1 ≤ d1.size := by omega
   rw [← hdl] at hds
   rw [hds] at hM
   clear hdl hdn h1 hds
   obtain ⟨x, hx⟩ : ∃ x, x = d1[0] := ⟨_, rfl⟩
   rw [← hx, Lx.quoted_esc] at hM
   have b110 := Lx.beq_nat x 110 (by omega)
   cases f110 : ((x.toNat : Int) == 110)
   case true =>
    rw [show (x == 110) = true from b110.trans f110, if_pos rfl] at hM
    have HM2 : Hid (Lx.quoted s.data.toList = (Lx.quoted d2.data.toList).map ((acc ++ [10]) ++ ·)) := hM.trans (Lx.map_acc acc 10 _ _ rfl)
    clear hM b110
    subst hx
    have hO := HO.out
    have hsz0 := hbl.size
    go_wp2_with first
     | (go_at_call 37; refine (white_any _ _).mono ?_; rintro e w1 ⟨rfl, rfl⟩)
     | (at_builtin; refine wpList_append_own _ rfl _ _ 53 rfl w.heap.size 5 i0 (.int .u8 0) 1 1 Try.underlying53 hi hz0 hz1 hz2 rfl (by decide) _ _ _ rfl (hO.alloc _) ⟨wr.heap.size,0,none⟩ 1 1 [.int .u8 10] rfl rfl (cell_one_new _ _ _) (fun x hx => by simp at hx; subst hx; rfl) (by unfold maxLen; omega) (by omega) (by simp; omega) ?_; intro v' w3 hown' hgrow3 hnil3)
    go_roundw
    case rel => exact ⟨d2, acc ++ [10], _, rfl, rfl, by simp; omega, HM2, Lib.hid (by rw [List.length_append, List.map_append]; exact hown'), Below.grown (hbl.alloc (by omega) _) hgrow3 (by simp; omega) (fun j hj => by have := (hO.lt _ hj).1; omega)⟩
    case measure => show d2.size < d.size; omega
   rw [show (x == 110) = false from b110.trans f110, if_neg (by simp)] at hM
   clear b110
   have b116 := Lx.beq_nat x 116 (by omega)
   cases f116 : ((x.toNat : Int) == 116)
   case true =>
    rw [show (x == 116) = true from b116.trans f116, if_pos rfl] at hM
    have HM2 : Hid (Lx.quoted s.data.toList = (Lx.quoted d2.data.toList).map ((acc ++ [9]) ++ ·)) := hM.trans (Lx.map_acc acc 9 _ _ rfl)
    clear hM b116
    subst hx
    have hO := HO.out
    have hsz0 := hbl.size
    go_wp2_with first
     | (go_at_call 37; refine (white_any _ _).mono ?_; rintro e w1 ⟨rfl, rfl⟩)
     | (at_builtin; refine wpList_append_own _ rfl _ _ 53 rfl w.heap.size 5 i0 (.int .u8 0) 1 1 Try.underlying53 hi hz0 hz1 hz2 rfl (by decide) _ _ _ rfl (hO.alloc _) ⟨wr.heap.size,0,none⟩ 1 1 [.int .u8 9] rfl rfl (cell_one_new _ _ _) (fun x hx => by simp at hx; subst hx; rfl) (by unfold maxLen; omega) (by omega) (by simp; omega) ?_; intro v' w3 hown' hgrow3 hnil3)
    go_roundw
    case rel => exact ⟨d2, acc ++ [9], _, rfl, rfl, by simp; omega, HM2, Lib.hid (by rw [List.length_append, List.map_append]; exact hown'), Below.grown (hbl.alloc (by omega) _) hgrow3 (by simp; omega) (fun j hj => by have := (hO.lt _ hj).1; omega)⟩
    case measure => show d2.size < d.size; omega
   rw [show (x == 116) = false from b116.trans f116, if_neg (by simp)] at hM
   clear b116
   have b34 := Lx.beq_nat x 34 (by omega)
   have b92 := Lx.beq_nat x 92 (by omega)
   cases g92 : ((x.toNat : Int) == 92)
   case true =>
    rw [show (x == 92 || x == 34) = true by rw [show (x == 92) = true from b92.trans g92]; rfl, if_pos rfl] at hM
    have HM2 : Hid (Lx.quoted s.data.toList = (Lx.quoted d2.data.toList).map ((acc ++ [d1[0]]) ++ ·)) := by rw [← hx]; exact hM.trans (Lx.map_acc acc x _ _ rfl)
    clear hM b92 b34
    subst hx
    have hO := HO.out
    have hsz0 := hbl.size
    go_wp2_with first
     | (go_at_call 37; refine (white_any _ _).mono ?_; rintro e w1 ⟨rfl, rfl⟩)
     | (at_builtin; refine wpList_append_own _ rfl _ _ 53 rfl w.heap.size 5 i0 (.int .u8 0) 1 1 Try.underlying53 hi hz0 hz1 hz2 rfl (by decide) _ _ _ rfl (hO.alloc _) ⟨wr.heap.size,0,none⟩ 1 1 [.int .u8 (d1[0].toNat : Int)] rfl rfl (cell_one_new _ _ _) (fun x hx => by simp at hx; subst hx; rfl) (by unfold maxLen; omega) (by omega) (by simp; omega) ?_; intro v' w3 hown' hgrow3 hnil3)
    go_roundw
    case rel => exact ⟨d2, acc ++ [d1[0]], _, rfl, rfl, by simp; omega, HM2, Lib.hid (by rw [List.length_append, List.map_append]; exact hown'), Below.grown (hbl.alloc (by omega) _) hgrow3 (by simp; omega) (fun j hj => by have := (hO.lt _ hj).1; omega)⟩
    case measure => show d2.size < d.size; omega
   cases f34 : ((x.toNat : Int) == 34)
   case true =>
    rw [show (x == 92 || x == 34) = true by rw [show (x == 34) = true from b34.trans f34, Bool.or_true], if_pos rfl] at hM
    have HM2 : Hid (Lx.quoted s.data.toList = (Lx.quoted d2.data.toList).map ((acc ++ [d1[0]]) ++ ·)) := by rw [← hx]; exact hM.trans (Lx.map_acc acc x _ _ rfl)
    clear hM b92 b34
    subst hx
    have hO := HO.out
    have hsz0 := hbl.size
    go_wp2_with first
     | (go_at_call 37; refine (white_any _ _).mono ?_; rintro e w1 ⟨rfl, rfl⟩)
     | (at_builtin; refine wpList_append_own _ rfl _ _ 53 rfl w.heap.size 5 i0 (.int .u8 0) 1 1 Try.underlying53 hi hz0 hz1 hz2 rfl (by decide) _ _ _ rfl (hO.alloc _) ⟨wr.heap.size,0,none⟩ 1 1 [.int .u8 (d1[0].toNat : Int)] rfl rfl (cell_one_new _ _ _) (fun x hx => by simp at hx; subst hx; rfl) (by unfold maxLen; omega) (by omega) (by simp; omega) ?_; intro v' w3 hown' hgrow3 hnil3)
    go_roundw
    case rel => exact ⟨d2, acc ++ [d1[0]], _, rfl, rfl, by simp; omega, HM2, Lib.hid (by rw [List.length_append, List.map_append]; exact hown'), Below.grown (hbl.alloc (by omega) _) hgrow3 (by simp; omega) (fun j hj => by have := (hO.lt _ hj).1; omega)⟩
    case measure => show d2.size < d.size; omega
   rw [show (x == 92 || x == 34) = false by rw [show (x == 92) = false from b92.trans g92, show (x == 34) = false from b34.trans f34]; rfl, if_neg (by simp)] at hM
   clear b92 b34
   have b120 := Lx.beq_nat x 120 (by omega)
   cases f120 : ((x.toNat : Int) == 120)
   case false =>
    rw [show (x == 120) = false from b120.trans f120, if_neg (by simp)] at hM
    have HR : Hid (Lx.quoted s.data.toList = none) := hM
    clear hM b120
    subst hx
    go_wp2
    go_step3
    simp only [Exit.then, Exit.inBlock]
    exact ⟨rfl, HR, hbl, _, rfl, rfl⟩
   rw [show (x == 120) = true from b120.trans f120, if_pos rfl] at hM
   clear b120
   subst hx
   have htw := Lx.two_range d2.data.toList
   have ht2 := two_any d2
   obtain ⟨n, hn⟩ : ∃ n, Lx.two d2.data.toList = n := ⟨_, rfl⟩
   rw [hn] at hM htw ht2
   by_cases hneg : n < 0
   ·rw [if_pos hneg] at hM
    have HR : Hid (Lx.quoted s.data.toList = none) := hM
    clear hM hn htw
    go_wp2_with (go_at_call 102; refine (ht2 _ (by omega)).mono ?_; rintro e w1 ⟨rfl, k1, rfl⟩)
    go_step3
    simp only [Exit.then, Exit.inBlock]
    exact ⟨rfl, HR, below_drewN hbl k1, _, rfl, rfl⟩
   ·rw [if_neg hneg] at hM
    obtain ⟨hr1, hr2⟩ : 2 ≤ d2.size ∧ n ≤ 127 := by rw [← Fx.size_toList]; exact htw (by omega)
    obtain ⟨m, rfl⟩ : ∃ m : Nat, n = m := ⟨n.toNat, by omega⟩
    obtain ⟨d3, hd3⟩ : ∃ d3, d1.extract 2 d1.size = d3 := ⟨_, rfl⟩
    obtain ⟨d4, hd4⟩ : ∃ d4, d3.extract 1 d3.size = d4 := ⟨_, rfl⟩
    have h3l : d3.data.toList = d1.data.toList.drop 2 := by rw [← hd3]; exact Lx.d_ext d1 2
    have h4l : d4.data.toList = d3.data.toList.drop 1 := by rw [← hd4]; exact Lx.d_ext d3 1
    have h2l : d2.data.toList = d1.data.toList.drop 1 := by rw [← hd2]; exact Lx.d_ext d1 1
    have h2n : d2.size + 1 = d1.size := by
     have := congrArg List.length h2l
     rw [List.length_drop, Fx.size_toList, Fx.size_toList] at this
     omega
    have h3n : d3.size + 2 = d1.size := by
     have := congrArg List.length h3l
     rw [List.length_drop, Fx.size_toList, Fx.size_toList] at this
     omega
    have h4n : d4.size + 1 = d3.size := by
     have := congrArg List.length h4l
     rw [List.length_drop, Fx.size_toList, Fx.size_toList] at this
     omega
    have h42 : d4.data.toList = d2.data.toList.drop 2 := by rw [h4l, h3l, h2l, List.drop_drop, List.drop_drop]
    rw [← h42] at hM
    have hmv : (UInt8.ofNat m).toNat = m := by simp; omega
    have HV : Hid (Lx.byteV (UInt8.ofNat m) = .int .u8 (m : Int)) := by show _ = _; rw [Lx.byteV, hmv]
    have HM2 : Hid (Lx.quoted s.data.toList = (Lx.quoted d4.data.toList).map ((acc ++ [UInt8.ofNat m]) ++ ·)) := hM.trans (Lx.map_acc acc _ _ _ (by rw [Int.toNat_natCast]))
    have hwr : IntKind.u8.wrap (m : Int) = (m : Int) := by simp [IntKind.wrap, IntKind.bits, IntKind.signed]; omega
    have hle3 : 2 ≤ d1.size := by omega
    have hle4 : 1 ≤ d3.size := by omega
    have hle4' : d4.size + 4 = d.size ∨ d4.size + 4 ≤ d.size := by omega
    clear hM hn htw h3l h4l h2l h42 hmv h2n
    have hO := HO.out
    have hsz0 := hbl.size
    go_wp2_with first
     | (go_at_call 37; refine (white_any _ _).mono ?_; rintro e w1 ⟨rfl, rfl⟩)
     | (go_at_call 102; refine (ht2 _ (by omega)).mono ?_; rintro e w1 ⟨rfl, k1, rfl⟩)
     | (at_builtin; refine wpList_append_own _ rfl _ _ 53 rfl w.heap.size 5 i0 (.int .u8 0) 1 1 Try.underlying53 hi hz0 hz1 hz2 rfl (by decide) _ _ _ rfl (hO.alloc _) ⟨wr.heap.size,0,none⟩ 1 1 [.int .u8 (m : Int)] rfl rfl (cell_one_new _ _ _) (fun x hx => by simp at hx; subst hx; rfl) (by unfold maxLen; omega) (by omega) (by simp; omega) ?_; intro v' w3 hown' hgrow3 hnil3)
    go_roundw
    case rel => exact ⟨d4, acc ++ [UInt8.ofNat m], _, rfl, rfl, by simp; omega, HM2, Lib.hid (by rw [List.length_append, List.map_append, List.map_singleton, HV.out]; exact hown'), Below.grown ((below_drewN hbl k1).alloc (below_drewN hbl k1).size _) hgrow3 (by simp; omega) (fun j hj => by have := (hO.lt _ hj).1; omega)⟩
    case measure => show d4.size < d.size; omega
end Go.Proofs.Ytcopdfihaheplaa
