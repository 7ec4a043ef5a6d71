/-
  code.Bytes: a program's bytes, where each constant has a text.
-/
import Derived.Test.YtlckjphnbfahgaaCdPut
import Derived.Test.YtlckjphnbfahgaaCdCheck
namespace Go.Proofs.Ytlckjphnbfahgaa
open Go.RowKit
attribute [local go_sem] Oper.semAt_some
namespace Cd
def insB (x : Ins) : List UInt8 := twos [x.o, x.a, x.b]
def codeB (c : Code) : List UInt8 := twos [c.params, c.rest, c.caps, c.max, c.ins.length] ++ c.ins.flatMap insB
def bytesP (p : Prog) (tx : Dt.D → ByteArray) : List UInt8 := twos [(p.consts.length : Int)] ++ p.consts.flatMap (fun d => textB (tx d)) ++ twos [(p.names.length : Int)] ++ p.names.flatMap textB ++ twos [(p.codes.length : Int)] ++ p.codes.flatMap codeB
theorem fm_take {α β : Type} (f : α → List β) {l : List α} {k : Nat} (hk : k < l.length) : (l.take (k + 1)).flatMap f = (l.take k).flatMap f ++ f l[k] := by
  rw [List.take_add_one, List.getElem?_eq_getElem hk, Option.toList_some, List.flatMap_append, List.flatMap_singleton]
theorem fm_le {α β : Type} (f : α → List β) (l : List α) (k : Nat) : ((l.take k).flatMap f).length ≤ (l.flatMap f).length := by
  have : l.flatMap f = (l.take k).flatMap f ++ (l.drop k).flatMap f := by rw [← List.flatMap_append, List.take_append_drop]
  rw [this, List.length_append]
  omega
/-- up to a constant, a name, a code, an instruction -/
def upC (p : Prog) (tx : Dt.D → ByteArray) (k : Nat) : List UInt8 := twos [(p.consts.length : Int)] ++ (p.consts.take k).flatMap (fun d => textB (tx d))
def upN (p : Prog) (tx : Dt.D → ByteArray) (k : Nat) : List UInt8 := upC p tx p.consts.length ++ twos [(p.names.length : Int)] ++ (p.names.take k).flatMap textB
def upK (p : Prog) (tx : Dt.D → ByteArray) (k : Nat) : List UInt8 := upN p tx p.names.length ++ twos [(p.codes.length : Int)] ++ (p.codes.take k).flatMap codeB
def upI (p : Prog) (tx : Dt.D → ByteArray) (k : Nat) (c : Code) (j : Nat) : List UInt8 := upK p tx k ++ twos [c.params, c.rest, c.caps, c.max, c.ins.length] ++ (c.ins.take j).flatMap insB
theorem upC_step {p : Prog} {tx : Dt.D → ByteArray} {k : Nat} (hk : k < p.consts.length) : upC p tx (k + 1) = upC p tx k ++ textB (tx p.consts[k]) := by
  unfold upC
  rw [fm_take _ hk, List.append_assoc]
theorem upN_step {p : Prog} {tx : Dt.D → ByteArray} {k : Nat} (hk : k < p.names.length) : upN p tx (k + 1) = upN p tx k ++ textB p.names[k] := by
  unfold upN
  rw [fm_take _ hk]
  simp only [List.append_assoc]
theorem upI_step {p : Prog} {tx : Dt.D → ByteArray} {k : Nat} {c : Code} {j : Nat} (hj : j < c.ins.length) : upI p tx k c (j + 1) = upI p tx k c j ++ twos [c.ins[j].o, c.ins[j].a, c.ins[j].b] := by
  unfold upI
  rw [fm_take _ hj]
  simp only [List.append_assoc]
  rfl
theorem upN_zero (p : Prog) (tx : Dt.D → ByteArray) : upN p tx 0 = upC p tx p.consts.length ++ twos [(p.names.length : Int)] := by unfold upN; simp
theorem upK_zero (p : Prog) (tx : Dt.D → ByteArray) : upK p tx 0 = upN p tx p.names.length ++ twos [(p.codes.length : Int)] := by unfold upK; simp
theorem upI_zero (p : Prog) (tx : Dt.D → ByteArray) (k : Nat) (c : Code) : upI p tx k c 0 = upK p tx k ++ twos [c.params, c.rest, c.caps, c.max, c.ins.length] := by unfold upI; simp
theorem upI_end {p : Prog} {tx : Dt.D → ByteArray} {k : Nat} (hk : k < p.codes.length) : upI p tx k p.codes[k] p.codes[k].ins.length = upK p tx (k + 1) := by
  unfold upI upK
  rw [List.take_length, fm_take _ hk]
  simp only [List.append_assoc]
  rfl
theorem upK_end (p : Prog) (tx : Dt.D → ByteArray) : upK p tx p.codes.length = bytesP p tx := by
  unfold upK upN upC bytesP
  rw [List.take_length, List.take_length, List.take_length]
theorem upC_le (p : Prog) (tx : Dt.D → ByteArray) (k : Nat) : (upC p tx k).length ≤ (upC p tx p.consts.length).length := by
  unfold upC
  have := fm_le (fun d => textB (tx d)) p.consts k
  rw [List.length_append, List.length_append, List.take_length]
  omega
theorem upN_le (p : Prog) (tx : Dt.D → ByteArray) (k : Nat) : (upC p tx p.consts.length).length + 2 ≤ (upN p tx k).length ∧ (upN p tx k).length ≤ (upN p tx p.names.length).length := by
  unfold upN
  have := fm_le textB p.names k
  have h2 := twos_length [(p.names.length : Int)]
  simp only [List.length_append, List.take_length]
  simp at h2
  omega
theorem upK_le (p : Prog) (tx : Dt.D → ByteArray) (k : Nat) : (upN p tx p.names.length).length + 2 ≤ (upK p tx k).length ∧ (upK p tx k).length ≤ (bytesP p tx).length := by
  rw [← upK_end]
  unfold upK
  have := fm_le codeB p.codes k
  have h2 := twos_length [(p.codes.length : Int)]
  simp only [List.length_append, List.take_length]
  simp at h2
  omega
theorem upI_le (p : Prog) (tx : Dt.D → ByteArray) {k : Nat} (hk : k < p.codes.length) (j : Nat) : (upI p tx k p.codes[k] j).length ≤ (bytesP p tx).length ∧ (upK p tx k).length + 10 ≤ (bytesP p tx).length := by
  have h1 := upI_end (tx := tx) hk
  have h2 := (upK_le p tx (k + 1)).2
  rw [← h1] at h2
  have h3 := fm_le insB p.codes[k].ins j
  have h4 := twos_length [p.codes[k].params, p.codes[k].rest, p.codes[k].caps, p.codes[k].max, (p.codes[k].ins.length : Int)]
  unfold upI at h2 ⊢
  simp only [List.length_append, List.take_length] at h2 ⊢
  simp at h4
  omega
/-- a constant has a text -/
def HasText (tx : Dt.D → ByteArray) (d : Dt.D) : Prop := (tx d).size ≤ 16384 ∧ ∀ (F : Nat → Prop) (vm vl vt : Value) (w : World), Dt.Rep F w d vm vl vt → Calls Try.prog 45 #[.agg #[.int .i64 d.k, .int .i64 d.n, .string d.s, vm, vl, vt]] w fun e w' => e = .returned (.tuple #[.string (tx d), .int .i64 0]) ∧ Below w.heap.size w w'
def RowB (base : Nat) (w : World) (a : Option Addr) (c : Nat) (l : List UInt8) : Prop := w.ownsRow base 5 1 (.slice a l.length c) l.length (Lib.byteCells l)
theorem RowB.below {base : Nat} {w w' : World} {a : Option Addr} {c : Nat} {l : List UInt8} (h : RowB base w a c l) (hb : Below w.heap.size w w') : RowB base w' a c l :=
  Keep.own (S := fun _ => False) h ((Keep.refl _ w).below hb) (fun _ h => h.elim)
theorem RowB.nil (base : Nat) (w : World) : RowB base w none 0 [] := World.ownsRow_nil w base _ 1
/-- numbers that lie in a new row -/
theorem new_ints {w w1 : World} {l : List Int} (h : w.alloc (.cells (l.map (Value.int .i64)).toArray 3) = w1) : Dt.IRow (fun k => k = w.heap.size) w1 (.slice (some ⟨w.heap.size, 0, none⟩) l.length l.length) l ∧ Below w.heap.size w w1 ∧ w1.heap.size = w.heap.size + 1 := by
  obtain ⟨hb, hs⟩ := below_new (Below.refl _ w) h (Nat.le_refl _)
  refine ⟨⟨_, _, rfl, Nat.le_refl _, fun _ => ⟨w.heap.size, 0, rfl, rfl, by omega, fun j hj => ?_⟩⟩, hb, hs⟩
  rw [Nat.zero_add]
  exact cells_new w (l.map (Value.int .i64)) _ h j _ (by rw [List.getElem?_map, List.getElem?_eq_getElem hj]; rfl)
/-- put at a new row of numbers -/
theorem put_new {base : Nat} {w w1 : World} {a : Option Addr} {c : Nat} {acc : List UInt8} (l : List Int) (h1 : w.alloc (.cells (l.map (Value.int .i64)).toArray 3) = w1) (h : RowB base w a c acc) (hb : base ≤ w.heap.size) (hl : acc.length + 2 * l.length ≤ 140737488355328) :
    Calls Try.prog 44 #[.slice a acc.length c, .slice (some ⟨w.heap.size, 0, none⟩) l.length l.length] w1 fun e w' => ∃ a' c', e = .returned (.slice a' (acc ++ twos l).length c') ∧ RowB base w' a' c' (acc ++ twos l) ∧ Below base w w' ∧ Keep (fun k => (Value.slice a acc.length c).ownBlock = some k) w1 w' ∧ ((Value.slice a' (acc ++ twos l).length c').ownBlock = (Value.slice a acc.length c).ownBlock ∨ ∃ k, (Value.slice a' (acc ++ twos l).length c').ownBlock = some k ∧ w1.heap.size ≤ k) := by
  obtain ⟨hr, hb1, hs1⟩ := new_ints h1
  refine (put_any base _ _ acc l w1 (h.below hb1) (by omega) hr (fun k hk e => by have := (h.lt k e).2; omega) hl).mono ?_
  rintro e w2 ⟨v', rfl, h2⟩
  obtain ⟨a', c', rfl⟩ := Dt.row_form h2.row
  exact ⟨a', c', rfl, h2.row, (hb1.mono hb).trans (h2.kp.to_below (fun k hk => (h.lt k hk).1) (by omega)), h2.kp, h2.ow⟩
end Cd
set_option maxRecDepth 100000 in
set_option maxHeartbeats 16000000 in
theorem bytes_any {F : Nat → Prop} (p : Cd.Prog) (tx : Dt.D → ByteArray) (vc vk vn : Value) (w : World) (hp : Cd.PRep F w p vc vk vn) (hw : Cd.PWf p) (hc : Cd.checkP p = 0) (htx : ∀ d ∈ p.consts, Cd.HasText tx d) (hlen : (Cd.bytesP p tx).length ≤ 140737488355328) :
    Calls Try.prog 18 #[.agg #[vc, vk, vn]] w fun e w' => ∃ a c, e = .returned (.tuple #[.slice a (Cd.bytesP p tx).length c, .int .i64 0]) ∧ Cd.RowB w.heap.size w' a c (Cd.bytesP p tx) ∧ Below w.heap.size w w' := by
  obtain ⟨a1, c1, a2, c2, a3, c3, rfl, rfl, rfl⟩ := hp.forms
  obtain ⟨w1, hw1⟩ : ∃ w1, w.alloc (.cells #[.slice a1 p.codes.length c1, .slice a2 p.consts.length c2, .slice a3 p.names.length c3] 26) = w1 := ⟨_, rfl⟩
  obtain ⟨hb1, hs1, hbp⟩ := Cd.boxP hw1
  obtain ⟨p0, p1, p2⟩ := hbp w1 (Below.refl _ _)
  have hck := check_any p _ _ _ w1 (hp.below hb1) hw
  rw [hc] at hck
  have HP := Lib.hid hp
  have HW := Lib.hid hw
  have HB1 := Lib.hid hb1
  have HS1 := Lib.hid hs1
  have HBP := Lib.hid hbp
  have HTX := Lib.hid htx
  have HLEN := Lib.hid hlen
  have hl2 := hw.lk
  have hl3 := hw.ln
  have hl1 := hw.lc
  clear hp hw hb1 hs1 hbp htx hlen hc
  obtain ⟨base, hbase⟩ : ∃ base, w1.heap.size = base := ⟨_, rfl⟩
  rw [hbase] at HS1 HBP
  have HBASE := Lib.hid hbase
  clear hbase
  go_enter Try.func18, Try.ntmps18
  go_upto_region 4 with (go_at_call 11; refine hck.mono ?_; clear hck hw1 p0 p1 p2; rintro e w2 ⟨rfl, hb2⟩; have HB2 : Hid (Below base w1 w2) := HBASE.out ▸ hb2; obtain ⟨p0, p1, p2⟩ := HBP.out w2 HB2.out; clear hb2)
  obtain ⟨w3, hw3⟩ : ∃ w3, w2.alloc (.cells #[.int .i64 p.consts.length] 3) = w3 := ⟨_, rfl⟩
  have hbs2 : base ≤ w2.heap.size := by have := HB2.out.size; have := HBASE.out; omega
  have hpn := Cd.put_new (base := base) [(p.consts.length : Int)] hw3 (Cd.RowB.nil base w2) hbs2 (by simp)
  simp only [List.nil_append, List.length_nil, List.length_singleton] at hpn
  go_wp2_with (go_at_call 44; refine hpn.mono ?_; clear hpn hw3 p0 p1 p2; rintro e w4 ⟨a4, c4, rfl, hr4, hb4, -, -⟩; have HR4 := Lib.hid hr4; have HB4 : Hid (Below base w1 w4) := HB2.out.trans hb4; obtain ⟨p0, p1, p2⟩ := HBP.out w4 HB4.out; clear hr4 hb4)
  have HU0 : Hid (Cd.RowB base w4 a4 c4 (Cd.upC p tx 0)) := by
    have : Cd.upC p tx 0 = Cd.twos [(p.consts.length : Int)] := by unfold Cd.upC; simp
    rw [this]
    exact HR4.out
  have hu0 : Cd.twos [(p.consts.length : Int)] = Cd.upC p tx 0 := by unfold Cd.upC; simp
  rw [hu0]
  clear hu0 HR4 HB2
  go_wp2
  clear p0 p1 p2
  go_loopw [5, 29] (fun vb vi wr => ∃ (k : Nat) (a : Option Addr) (c : Nat), vb = .slice a (Cd.upC p tx k).length c ∧ vi = .int .i64 k ∧ k ≤ p.consts.length ∧ Hid (Cd.RowB base wr a c (Cd.upC p tx k)) ∧ Hid (Below base w1 wr)) (fun _ vi _ => p.consts.length - (intOf vi).toNat)
  case atStart => exact ⟨0, a4, c4, rfl, rfl, by omega, HU0, HB4⟩
  case round =>
    clear HU0 HB4
    obtain ⟨k, av, cv, rfl, rfl, hk, HRW, HBR⟩ := hrel
    obtain ⟨p0, p1, p2⟩ := HBP.out _ HBR.out
    have hbs : base ≤ wr.heap.size := by have := HBR.out.size; have := HBASE.out; omega
    by_cases hlt : k < p.consts.length
    · have hlti : (k : Int) < (p.consts.length : Int) := by omega
      have HB : Hid (Below w.heap.size w wr) := HB1.out.trans ((HBR.out).mono (by have := HBASE.out; have := HB1.out.size; omega))
      obtain ⟨b, o, vm, vl, vt, rfl, -, ⟨x0, x1, x2, x3, x4, x5⟩, hrep⟩ := Cd.const_at (HP.out.below HB.out).consts k hlt
      obtain ⟨htl, hprint⟩ := HTX.out p.consts[k] (List.getElem_mem hlt)
      have hstep := Cd.upC_step (tx := tx) hlt
      have hle1 := Cd.upC_le p tx (k + 1)
      have hle2 := (Cd.upN_le p tx p.names.length).1
      have hle3 := (Cd.upK_le p tx 0)
      have hlen := HLEN.out
      have htb : ∀ s : ByteArray, (Cd.textB s).length = 2 + s.size := fun s => by unfold Cd.textB; rw [List.length_append, Array.length_toList]; rfl
      have hroom : (Cd.upC p tx k).length + 2 + (tx p.consts[k]).size ≤ 140737488355328 := by
        rw [hstep, List.length_append, htb] at hle1
        omega
      obtain ⟨x, hx⟩ : ∃ x, x = p.consts[k] := ⟨_, rfl⟩
      rw [← hx] at x0 x1 x2 hrep hprint hstep hroom
      obtain ⟨⟨am, cm, rfl, _⟩, ⟨al, c_l, rfl, _⟩, ⟨at_, ct, rfl, _⟩⟩ := (Dt.rep_iff _ _ x vm vl vt).1 hrep
      obtain ⟨w5, hw5⟩ : ∃ w5, wr.alloc (.cells #[.int .i64 x.k, .int .i64 x.n, .string x.s, .slice am x.m.length cm, .slice al x.l.length c_l, .slice at_ x.t.length ct] 55) = w5 := ⟨_, rfl⟩
      have hb5 : Below wr.heap.size wr w5 := by rw [← hw5]; exact (Below.refl _ _).alloc (Nat.le_refl _) _
      have hsix := Dt.six_of' wr x (.slice am x.m.length cm) (.slice al x.l.length c_l) (.slice at_ x.t.length ct) 55
      rw [hw5] at hsix
      obtain ⟨z0, z1, z2, z3, z4, z5⟩ := hsix
      simp only [Nat.zero_add] at z0 z1 z2 z3 z4 z5
      have hpr := hprint _ _ _ _ w5 (hrep.below hb5)
      obtain ⟨X, hX⟩ : ∃ X, tx x = X := ⟨_, rfl⟩
      rw [hX] at hpr hstep hroom
      have HSTEP := Lib.hid hstep
      have HROOM := Lib.hid hroom
      have HB5 : Hid (Below base w1 w5) := HBR.out.trans (hb5.mono hbs)
      have HR5 : Hid (Cd.RowB base w5 av cv (Cd.upC p tx k)) := HRW.out.below hb5
      clear hx hb5 hrep hprint hstep hroom hle1 hle2 hle3 hlen htb htl hX HRW HBR hbs
      go_wp2_with (first | (go_at_call 45; refine hpr.mono ?_; clear hpr hw5 x0 x1 x2 x3 x4 x5 z0 z1 z2 z3 z4 z5 p0 p1 p2; rintro e w6 ⟨rfl, hb6⟩; have hbs6 : base ≤ w6.heap.size := by { have := HB5.out.size; have := HBASE.out; have := hb6.size; omega }; have htxt := text_any base _ (Cd.upC p tx k) X w6 (HR5.out.below hb6) hbs6 HROOM.out; rw [← HSTEP.out] at htxt; have HB6 : Hid (Below base w1 w6) := HB5.out.trans (hb6.mono (by have := HB5.out.size; have := HBASE.out; omega)); clear hb6 hbs6) | (go_at_call 46; refine htxt.mono ?_; clear htxt; rintro e w7 ⟨v7, rfl, hr7, hb7⟩; obtain ⟨a7, c7, rfl⟩ := Dt.row_form hr7; have HR7 : Hid (Cd.RowB base w7 a7 c7 (Cd.upC p tx (k + 1))) := hr7; have HB7 : Hid (Below base w1 w7) := HB6.out.trans hb7; clear hr7 hb7))
      go_roundw
      case rel => exact ⟨k + 1, a7, c7, rfl, by simp, by omega, HR7, HB7⟩
      case measure => simp [intOf]; omega
    · have hge : (p.consts.length : Int) ≤ (k : Int) := by omega
      obtain rfl : k = p.consts.length := by omega
      obtain ⟨w5, hw5⟩ : ∃ w5, wr.alloc (.cells #[.int .i64 p.names.length] 3) = w5 := ⟨_, rfl⟩
      have hpn := Cd.put_new (base := base) [(p.names.length : Int)] hw5 HRW.out hbs (by have := (Cd.upN_le p tx 0).1; have := (Cd.upN_le p tx 0).2; have := Cd.upK_le p tx 0; have := HLEN.out; simp; omega)
      simp only [List.length_singleton] at hpn
      rw [← Cd.upN_zero] at hpn
      clear hlt hge hk
      go_wp2_with (go_at_call 44; refine hpn.mono ?_; clear hpn hw5 p0 p1 p2 hbs; rintro e w6 ⟨a6, c6, rfl, hr6, hb6, -, -⟩; have HR6 := Lib.hid hr6; have HB6 : Hid (Below base w1 w6) := HBR.out.trans hb6; obtain ⟨p0, p1, p2⟩ := HBP.out w6 HB6.out; clear hr6 hb6)
      clear p0 p1 p2 HRW HBR
      go_loopw [5, 53] (fun vb vi wr => ∃ (k : Nat) (a : Option Addr) (c : Nat), vb = .slice a (Cd.upN p tx k).length c ∧ vi = .int .i64 k ∧ k ≤ p.names.length ∧ Hid (Cd.RowB base wr a c (Cd.upN p tx k)) ∧ Hid (Below base w1 wr)) (fun _ vi _ => p.names.length - (intOf vi).toNat)
      case atStart => exact ⟨0, a6, c6, rfl, rfl, by omega, HR6, HB6⟩
      case round =>
        clear HR6 HB6
        obtain ⟨k, av, cv, rfl, rfl, hk, HRW, HBR⟩ := hrel
        obtain ⟨p0, p1, p2⟩ := HBP.out _ HBR.out
        have hbs : base ≤ wr.heap.size := by have := HBR.out.size; have := HBASE.out; omega
        by_cases hlt : k < p.names.length
        · have hlti : (k : Int) < (p.names.length : Int) := by omega
          have HB : Hid (Below w.heap.size w wr) := HB1.out.trans ((HBR.out).mono (by have := HBASE.out; have := HB1.out.size; omega))
          obtain ⟨b, o, rfl, -, x0⟩ := Cd.name_at (HP.out.below HB.out).names k hlt
          have hstep := Cd.upN_step (tx := tx) hlt
          have hle1 := (Cd.upN_le p tx (k + 1)).2
          have hle3 := (Cd.upK_le p tx 0)
          have hlen := HLEN.out
          have htb : ∀ s : ByteArray, (Cd.textB s).length = 2 + s.size := fun s => by unfold Cd.textB; rw [List.length_append, Array.length_toList]; rfl
          have hroom : (Cd.upN p tx k).length + 2 + (p.names[k]).size ≤ 140737488355328 := by
            rw [hstep, List.length_append, htb] at hle1
            omega
          obtain ⟨X, hX⟩ : ∃ X, p.names[k] = X := ⟨_, rfl⟩
          rw [hX] at x0 hstep hroom
          have htxt := text_any base _ (Cd.upN p tx k) X wr HRW.out hbs hroom
          rw [← hstep] at htxt
          clear hX hstep hroom hle1 hle3 hlen htb hbs
          go_wp2_with (go_at_call 46; refine htxt.mono ?_; clear htxt x0 p0 p1 p2; rintro e w7 ⟨v7, rfl, hr7, hb7⟩; obtain ⟨a7, c7, rfl⟩ := Dt.row_form hr7; have HR7 : Hid (Cd.RowB base w7 a7 c7 (Cd.upN p tx (k + 1))) := hr7; have HB7 : Hid (Below base w1 w7) := HBR.out.trans hb7; clear hr7 hb7)
          go_roundw
          case rel => exact ⟨k + 1, a7, c7, rfl, by simp, by omega, HR7, HB7⟩
          case measure => simp [intOf]; omega
        · have hge : (p.names.length : Int) ≤ (k : Int) := by omega
          obtain rfl : k = p.names.length := by omega
          obtain ⟨w5, hw5⟩ : ∃ w5, wr.alloc (.cells #[.int .i64 p.codes.length] 3) = w5 := ⟨_, rfl⟩
          have hpn := Cd.put_new (base := base) [(p.codes.length : Int)] hw5 HRW.out hbs (by have := Cd.upK_le p tx 0; have := HLEN.out; simp; omega)
          simp only [List.length_singleton] at hpn
          rw [← Cd.upK_zero] at hpn
          clear hlt hge hk
          go_wp2_with (go_at_call 44; refine hpn.mono ?_; clear hpn hw5 p0 p1 p2 hbs; rintro e w6 ⟨a6, c6, rfl, hr6, hb6, -, -⟩; have HR6 := Lib.hid hr6; have HB6 : Hid (Below base w1 w6) := HBR.out.trans hb6; obtain ⟨p0, p1, p2⟩ := HBP.out w6 HB6.out; clear hr6 hb6)
          clear p0 p1 p2 HRW HBR
          go_loopw [5, 70] (fun vb vi wr => ∃ (k : Nat) (a : Option Addr) (c : Nat), vb = .slice a (Cd.upK p tx k).length c ∧ vi = .int .i64 k ∧ k ≤ p.codes.length ∧ Hid (Cd.RowB base wr a c (Cd.upK p tx k)) ∧ Hid (Below base w1 wr)) (fun _ vi _ => p.codes.length - (intOf vi).toNat)
          case atStart => exact ⟨0, a6, c6, rfl, rfl, by omega, HR6, HB6⟩
          case round =>
            clear HR6 HB6
            obtain ⟨k, av, cv, rfl, rfl, hk, HRW, HBR⟩ := hrel
            obtain ⟨p0, p1, p2⟩ := HBP.out _ HBR.out
            have hbs : base ≤ wr.heap.size := by have := HBR.out.size; have := HBASE.out; omega
            by_cases hlt : k < p.codes.length
            · have hlti : (k : Int) < (p.codes.length : Int) := by omega
              have HB : Hid (Below w.heap.size w wr) := HB1.out.trans ((HBR.out).mono (by have := HBASE.out; have := HB1.out.size; omega))
              obtain ⟨b, o, hao, -, hbl, x0, x1, x2, x3, vi, x4, hi⟩ := Cd.code_at HP.out.codes k hlt
              cases hao
              obtain ⟨ai, ci, rfl⟩ := hi.form
              have HIW := Lib.hid hi
              have hi := hi.below HB.out
              have x0 := (HB.out.cell (p := ⟨b, o + k * 5, none⟩) hbl).trans x0
              have x1 := (HB.out.cell (p := ⟨b, o + k * 5 + 1, none⟩) hbl).trans x1
              have x2 := (HB.out.cell (p := ⟨b, o + k * 5 + 2, none⟩) hbl).trans x2
              have x3 := (HB.out.cell (p := ⟨b, o + k * 5 + 3, none⟩) hbl).trans x3
              have x4 := (HB.out.cell (p := ⟨b, o + k * 5 + 4, none⟩) hbl).trans x4
              have hll := (HW.out.wc p.codes[k] (List.getElem_mem hlt)).2.2.2.2.1
              have hz := Cd.upI_zero p tx k p.codes[k]
              have HEND := Lib.hid (Cd.upI_end (tx := tx) hlt)
              have HLE := Lib.hid (fun j => Cd.upI_le p tx hlt j)
              obtain ⟨c, hc⟩ : ∃ c, c = p.codes[k] := ⟨_, rfl⟩
              rw [← hc] at x0 x1 x2 x3 x4 hi hz HEND HLE hll HIW
              obtain ⟨w4, hw4⟩ : ∃ w4, wr.alloc (.cells #[.int .i64 c.params, .int .i64 c.rest, .int .i64 c.caps, .int .i64 c.max, .slice ai c.ins.length ci] 39) = w4 := ⟨_, rfl⟩
              obtain ⟨hb4, hs4, hbc4⟩ := Cd.boxC hw4
              obtain ⟨q0, q1, q2, q3, q4⟩ := hbc4 w4 (Below.refl _ _)
              obtain ⟨w5, hw5⟩ : ∃ w5, w4.alloc (.cells #[.int .i64 c.params, .int .i64 c.rest, .int .i64 c.caps, .int .i64 c.max, .int .i64 c.ins.length] 3) = w5 := ⟨_, rfl⟩
              have hpn := Cd.put_new (base := base) [c.params, c.rest, c.caps, c.max, (c.ins.length : Int)] hw5 (HRW.out.below hb4) (by omega) (by have := (HLE.out 0).2; have := HLEN.out; simp; omega)
              rw [← hz] at hpn
              have hpn2 : Calls Try.prog 44 #[.slice av (Cd.upK p tx k).length cv, .slice (some ⟨w4.heap.size, 0, none⟩) 5 5] w5 _ := hpn
              obtain ⟨hb5, hs5⟩ := Cd.below_new (Below.refl _ w4) hw5 (Nat.le_refl _)
              have hrl := fun j e => (HRW.out.lt j e).2
              have HC5 := Lib.hid (hbc4 w5 (hb5.mono (Nat.le_refl _))).2.2.2.2
              have HRL : Hid (∀ j, (Value.slice av (Cd.upK p tx k).length cv).ownBlock = some j → j ≠ wr.heap.size) := fun j e => by have := hrl j e; omega
              have HW5 : Hid (wr.heap.size < w5.heap.size) := by show _ < _; omega
              have HB4 : Hid (Below base w1 w4) := HBR.out.trans (hb4.mono hbs)
              have HIN := Lib.hid hi
              have HBW := Lib.hid HB.out
              obtain ⟨b4, hb4e⟩ : ∃ b4, wr.heap.size = b4 := ⟨_, rfl⟩
              have HB4E := Lib.hid hb4e
              rw [hb4e] at q0 q1 q2 q3 q4
              rw [hb4e] at HC5 HRL HW5
              clear hc hi hz hb4 hs4 hbc4 hb5 hs5 hrl hpn HB
              go_wp2_with (go_at_call 44; refine hpn2.mono ?_; clear hpn2 hw4 hw5 x0 x1 x2 x3 x4 q0 q1 q2 q3 q4 p0 p1 p2 hbs hb4e; rintro e w6 ⟨a6, c6, rfl, hr6, hb6, hk6, -⟩; have HR6 := Lib.hid hr6; have HB6 : Hid (Below base w1 w6) := HB4.out.trans hb6; have q4 := (hk6.cell 4 HW5.out (fun e => HRL.out _ e rfl)).trans HC5.out; clear hr6 hb6 hk6)
              clear q4 HC5 HRL HW5 HRW
              go_loopw [5, 91] (fun vb vi wr => ∃ (j : Nat) (a : Option Addr) (c' : Nat), vb = .slice a (Cd.upI p tx k c j).length c' ∧ vi = .int .i64 j ∧ j ≤ c.ins.length ∧ Hid (Cd.RowB base wr a c' (Cd.upI p tx k c j)) ∧ Hid (Below base w1 wr)) (fun _ vi _ => c.ins.length - (intOf vi).toNat)
              case atStart => exact ⟨0, a6, c6, rfl, rfl, by omega, HR6, HB6⟩
              case round =>
                clear HR6 HB6
                obtain ⟨j, av, cv, rfl, rfl, hj, HRW, HBR⟩ := hrel
                have hbs : base ≤ wr.heap.size := by have := HBR.out.size; have := HBASE.out; omega
                have HB : Hid (Below w.heap.size w wr) := HB1.out.trans ((HBR.out).mono (by have := HBASE.out; have := HB1.out.size; omega))
                by_cases hjt : j < c.ins.length
                · have hjti : (j : Int) < (c.ins.length : Int) := by omega
                  obtain ⟨bi, oi, rfl, -, y0, y1, y2⟩ := Cd.ins_at (HIW.out.below HB.out) j hjt
                  have hstep := Cd.upI_step (p := p) (tx := tx) (k := k) hjt
                  have hle := (HLE.out (j + 1)).1
                  have hroom : (Cd.upI p tx k c j).length + 2 * 3 ≤ 140737488355328 := by
                    have h3 := Cd.twos_length [c.ins[j].o, c.ins[j].a, c.ins[j].b]
                    rw [hstep, List.length_append, h3] at hle
                    have := HLEN.out
                    simp at hle
                    omega
                  obtain ⟨x, hx⟩ : ∃ x, c.ins[j] = x := ⟨_, rfl⟩
                  rw [hx] at y0 y1 y2 hstep
                  obtain ⟨w4, hw4⟩ : ∃ w4, wr.alloc (.cells #[.int .i64 x.o, .int .i64 x.a, .int .i64 x.b] 41) = w4 := ⟨_, rfl⟩
                  obtain ⟨hb4, hs4⟩ := Cd.below_new (Below.refl _ wr) hw4 (Nat.le_refl _)
                  obtain ⟨z0, z1, z2⟩ := Cd.InsAt.new hw4
                  obtain ⟨w5, hw5⟩ : ∃ w5, w4.alloc (.cells #[.int .i64 x.o, .int .i64 x.a, .int .i64 x.b] 3) = w5 := ⟨_, rfl⟩
                  have hpn := Cd.put_new (base := base) [x.o, x.a, x.b] hw5 (HRW.out.below hb4) (by omega) hroom
                  rw [← hstep] at hpn
                  have hpn2 : Calls Try.prog 44 #[.slice av (Cd.upI p tx k c j).length cv, .slice (some ⟨w4.heap.size, 0, none⟩) 3 3] w5 _ := hpn
                  have HB4 : Hid (Below base w1 w4) := HBR.out.trans (hb4.mono hbs)
                  clear hx hb4 hs4 hstep hle hroom hpn HRW
                  go_wp2_with (go_at_call 44; refine hpn2.mono ?_; clear hpn2 hw4 hw5 y0 y1 y2 z0 z1 z2; rintro e w6 ⟨a6, c6, rfl, hr6, hb6, hk6, -⟩; have HR6 := Lib.hid hr6; have HB6 : Hid (Below base w1 w6) := HB4.out.trans hb6; clear hr6 hb6 hk6)
                  go_roundw
                  case rel => exact ⟨j + 1, a6, c6, rfl, by simp, by omega, HR6, HB6⟩
                  case measure => simp [intOf]; omega
                · have hge : (c.ins.length : Int) ≤ (j : Int) := by omega
                  obtain rfl : j = c.ins.length := by omega
                  have HRN : Hid (Cd.RowB base wr av cv (Cd.upK p tx (k + 1))) := by rw [← HEND.out]; exact HRW.out
                  rw [HEND.out]
                  clear HRW hjt hge
                  go_wp2
                  go_roundw
                  case rel => exact ⟨k + 1, av, cv, rfl, by simp, by omega, HRN, HBR⟩
                  case measure => simp [intOf]; omega
            · have hge : (p.codes.length : Int) ≤ (k : Int) := by omega
              obtain rfl : k = p.codes.length := by omega
              have HRN : Hid (Cd.RowB w.heap.size wr av cv (Cd.bytesP p tx)) := by
                have := HRW.out
                rw [Cd.upK_end] at this
                show World.ownsRow _ _ _ _ _ _ _
                obtain ⟨h1, h2⟩ := this
                refine ⟨h1, h2.elim .inl (fun h3 => ?_)⟩
                obtain ⟨g, cap, cur, e1, e2, e3⟩ := h3
                exact .inr ⟨g, cap, cur, e1, by have := HBASE.out; have := HS1.out; omega, e3⟩
              have HB : Hid (Below w.heap.size w wr) := HB1.out.trans ((HBR.out).mono (by have := HBASE.out; have := HB1.out.size; omega))
              rw [Cd.upK_end]
              clear hlt hge hk p0 p1 p2 HRW HBR hbs
              go_wp2
              go_ret2
              exact ⟨_, _, rfl, HRN.out, HB.out⟩
end Go.Proofs.Ytlckjphnbfahgaa
