/-
  code.flow: how many values stand ahead of each instruction.
-/
import Derived.Test.YtlckjphnbfahgaaGreatDoorCdRep
import Derived.Test.YtlckjphnbfahgaaGreatDoorCdOper
import Derived.Deep.Cut
namespace Go.Proofs.YtlckjphnbfahgaaGreatDoor
open Go.RowKit
attribute [local go_sem] Oper.semAt_some
namespace Cd
theorem Ah.start {w4 : World} {base Bl Ba g n : Nat} {a : Option Addr} {cl : Nat} (hg : w4.heap[g]? = some (.cells (List.replicate n (Value.int .i64 (-1))).toArray 3 (0, 0))) (hcl : w4.cell? ⟨Bl, 0, none⟩ = some (.slice a n cl)) (hca : w4.cell? ⟨Ba, 0, none⟩ = some (.slice (some ⟨g, 0, none⟩) n n)) (h1 : g ≠ Ba) (h2 : g ≠ Bl) (hn : 1 ≤ n) (hn2 : n ≤ 4096) (hb : base ≤ g) : Ah (w4.setCell ⟨g, 0, none⟩ (.int .i64 0)) base Bl Ba g n a n cl (Cd.start n) := by
  have h0 : Ah w4 base Bl Ba g n a n cl (List.replicate n (-1)) := by
    refine ⟨hcl, hca, ⟨by simp, .inr ⟨g, n, _, rfl, hb, hg, Nat.le_refl _, by unfold maxLen; omega, by simp, by simp⟩⟩, h1, h2, by simp⟩
  exact h0.set 0 (by omega) 0
/-- what flow answers -/
def FlowPost (w : World) (n : Nat) (r : Option (List Int × Int)) (e : Ending) (w' : World) : Prop :=
  match r with
  | none => e = .returned (.tuple #[.slice none 0 0, .int .i64 0, .bool false]) ∧ Below w.heap.size w w'
  | some (fin, most) => ∃ g, e = .returned (.tuple #[.slice (some ⟨g, 0, none⟩) n n, .int .i64 most, .bool true]) ∧ fin.length = n ∧ w'.ownsRow w.heap.size 3 1 (.slice (some ⟨g, 0, none⟩) n n) n (fin.map (Value.int .i64)) ∧ Below w.heap.size w w'
/-- a box of an operation -/
def OpAt (w : World) (b : Nat) (nm : ByteArray) (oa : Int) (on ol : Int) (pa pb en : Bool) : Prop := w.cell? ⟨b, 0, none⟩ = some (.string nm) ∧ w.cell? ⟨b, 1, none⟩ = some (.int .i64 oa) ∧ w.cell? ⟨b, 2, none⟩ = some (.int .i64 on) ∧ w.cell? ⟨b, 3, none⟩ = some (.int .i64 ol) ∧ w.cell? ⟨b, 4, none⟩ = some (.bool pa) ∧ w.cell? ⟨b, 5, none⟩ = some (.bool pb) ∧ w.cell? ⟨b, 6, none⟩ = some (.bool en)
def InsAt (w : World) (b : Nat) (x : Ins) : Prop := w.cell? ⟨b, 0, none⟩ = some (.int .i64 x.o) ∧ w.cell? ⟨b, 1, none⟩ = some (.int .i64 x.a) ∧ w.cell? ⟨b, 2, none⟩ = some (.int .i64 x.b)
theorem OpAt.keep {S : Nat → Prop} {w w' : World} {b : Nat} {nm : ByteArray} {oa on ol : Int} {pa pb en : Bool} (h : OpAt w b nm oa on ol pa pb en) (hk : Keep S w w') (hS : ¬ S b) : OpAt w' b nm oa on ol pa pb en := by
  obtain ⟨h0, h1, h2, h3, h4, h5, h6⟩ := h
  have hb := block_lt_of_cell h0
  exact ⟨(hk.cell _ hb hS).trans h0, (hk.cell _ hb hS).trans h1, (hk.cell _ hb hS).trans h2, (hk.cell _ hb hS).trans h3, (hk.cell _ hb hS).trans h4, (hk.cell _ hb hS).trans h5, (hk.cell _ hb hS).trans h6⟩
theorem InsAt.keep {S : Nat → Prop} {w w' : World} {b : Nat} {x : Ins} (h : InsAt w b x) (hk : Keep S w w') (hS : ¬ S b) : InsAt w' b x := by
  obtain ⟨h0, h1, h2⟩ := h
  have hb := block_lt_of_cell h0
  exact ⟨(hk.cell _ hb hS).trans h0, (hk.cell _ hb hS).trans h1, (hk.cell _ hb hS).trans h2⟩
theorem OpAt.new {w w' : World} {nm : ByteArray} {oa on ol : Int} {pa pb en : Bool} {t : TypeId} (h : w.alloc (.cells #[.string nm, .int .i64 oa, .int .i64 on, .int .i64 ol, .bool pa, .bool pb, .bool en] t) = w') : OpAt w' w.heap.size nm oa on ol pa pb en := by
  have hc := fun i v hv => cells_new w [.string nm, .int .i64 oa, .int .i64 on, .int .i64 ol, .bool pa, .bool pb, .bool en] t h i v hv
  exact ⟨hc 0 _ rfl, hc 1 _ rfl, hc 2 _ rfl, hc 3 _ rfl, hc 4 _ rfl, hc 5 _ rfl, hc 6 _ rfl⟩
theorem InsAt.new {w w' : World} {x : Ins} {t : TypeId} (h : w.alloc (.cells #[.int .i64 x.o, .int .i64 x.a, .int .i64 x.b] t) = w') : InsAt w' w.heap.size x := by
  have hc := fun i v hv => cells_new w [.int .i64 x.o, .int .i64 x.a, .int .i64 x.b] t h i v hv
  exact ⟨hc 0 _ rfl, hc 1 _ rfl, hc 2 _ rfl⟩
theorem Ah.lt {w : World} {base Bl Ba g c : Nat} {a : Option Addr} {n cl : Nat} {ah : List Int} (h : Ah w base Bl Ba g c a n cl ah) : g < w.heap.size := (h.row.lt g rfl).2
theorem max_if (a b : Int) : (if a < b then b else a) = max a b := by
  rw [Int.max_def]
  by_cases h : a < b
  · rw [if_pos h, if_pos (by omega)]
  · rw [if_neg h]
    by_cases h2 : a ≤ b
    · rw [if_pos h2]; omega
    · rw [if_neg h2]
theorem op5 {n : Int} (h : (op n).a ≠ 5) : n ≠ 10 := fun e => h (by rw [e]; rfl)
end Cd
set_option maxRecDepth 100000 in
set_option maxHeartbeats 16000000 in
theorem flow_any {F : Nat → Prop} (va : Value) (l : List Cd.Ins) (w : World) (h : Cd.InsRow F w va l) (hl1 : 1 ≤ l.length) (hl2 : l.length ≤ 4096) (hpos : ∀ x ∈ l, (Cd.op x.o).a = 5 → 0 ≤ x.a) :
    Calls Tryz.prog 28 #[va] w fun e w' => Cd.FlowPost w l.length (Cd.flowW l 0 (Cd.start l.length) 0) e w' := by
  obtain ⟨a, cl, rfl⟩ : ∃ a cl, va = .slice a l.length cl := by obtain ⟨a, c, h, -⟩ := h; exact ⟨a, c, h⟩
  obtain ⟨n, hn⟩ : ∃ n, l.length = n := ⟨_, rfl⟩
  obtain ⟨R, hR⟩ : ∃ R, R = Cd.flowW l 0 (Cd.start n) 0 := ⟨_, rfl⟩
  rw [hn] at h hl1 hl2 ⊢
  rw [← hR]
  obtain ⟨w1, hw1⟩ : ∃ w1, w.alloc (.cells #[.slice a n cl] 45) = w1 := ⟨_, rfl⟩
  obtain ⟨w2, hw2⟩ : ∃ w2, w1.alloc (.cells #[.int .i64 (-1)] 3) = w2 := ⟨_, rfl⟩
  have hb1 : Below w.heap.size w w1 := by rw [← hw1]; exact (Below.refl _ _).alloc (Nat.le_refl _) _
  have s1 : w1.heap.size = w.heap.size + 1 := by rw [← hw1, World.size_alloc]
  have hb2 : Below w1.heap.size w1 w2 := by rw [← hw2]; exact (Below.refl _ _).alloc (Nat.le_refl _) _
  have s2 : w2.heap.size = w.heap.size + 2 := by rw [← hw2, World.size_alloc, s1]
  have hcl1 : w1.cell? ⟨w.heap.size, 0, none⟩ = some (.slice a n cl) := Cd.cells_new w [.slice a n cl] _ hw1 0 _ rfl
  have hc2 : w2.cell? ⟨w1.heap.size, 0, none⟩ = some (.int .i64 (-1)) := Cd.cells_new w1 [.int .i64 (-1)] _ hw2 0 _ rfl
  have hcl2 := (hb2.cell (p := ⟨w.heap.size, 0, none⟩) (by show w.heap.size < _; omega)).trans hcl1
  have hrep := repeat_any n w1.heap.size 0 hl1 hl2 w2 hc2
  have HB2 : Hid (Below w.heap.size w w2) := hb1.trans (hb2.mono hb1.size)
  have HS2 := Lib.hid s2
  have HCL2 := Lib.hid hcl2
  have HI := Lib.hid h
  have HN := Lib.hid hn
  have HPOS := Lib.hid hpos
  have HRR := Lib.hid hR
  have hn0 : (0 : Int) < (n : Int) := by omega
  clear h hR hpos hb1 s1 hb2 s2 hc2 hn hcl1
  go_enter Tryz.func28, Tryz.ntmps28
  go_wp2_with (go_at_call 45; refine hrep.mono ?_; clear hrep hw1 hw2 hcl2; rintro e w3 ⟨g, rfl, hg3, hrow3, hb3⟩; have HG3 := Lib.hid hg3; have HROW3 := Lib.hid hrow3; have HB3 := Lib.hid hb3; clear hg3 hrow3 hb3; obtain ⟨w4, hw4⟩ : ∃ w4, w3.alloc (.cells #[.slice (some ⟨g, 0, none⟩) n n] 42) = w4 := ⟨_, rfl⟩; refine Hid.out ?_)
  refine Lib.hid ?_
  obtain ⟨hb4, hs4⟩ := Cd.below_new (Below.refl _ w3) hw4 (Nat.le_refl _)
  have hg3l : g < w3.heap.size := (Array.getElem?_eq_some_iff.1 HROW3.out).1
  have hrow4 := (hb4.block g hg3l).trans HROW3.out
  have hb23 := HB3.out
  have s2 := HS2.out
  have g3 := HG3.out
  have hs3 : w.heap.size + 2 ≤ w3.heap.size := by have := hb23.size; omega
  have hcl4 := (hb4.cell (p := ⟨w.heap.size, 0, none⟩) (by show w.heap.size < _; omega)).trans ((hb23.cell (p := ⟨w.heap.size, 0, none⟩) (by show w.heap.size < _; omega)).trans HCL2.out)
  have hca4 : w4.cell? ⟨w3.heap.size, 0, none⟩ = some (.slice (some ⟨g, 0, none⟩) n n) := Cd.cells_new w3 [.slice (some ⟨g, 0, none⟩) n n] _ hw4 0 _ rfl
  have hg40 : w4.cell? ⟨g, 0, none⟩ = some (.int .i64 (-1)) := by
    have := Cd.cell_rep (c := 1) hrow4 (List.take_of_length_le (by simp)) (by simp) (Nat.le_refl n) hl1 0 (.int .i64 (-1)) rfl
    rw [Cd.add0] at this
    exact this
  have hf40 : w4.frozen? ⟨g, 0, none⟩ = false := by
    unfold World.frozen?
    rw [hrow4]
    simp
  have hAh := Cd.Ah.start (base := w.heap.size) (a := a) (cl := cl) hrow4 hcl4 hca4 (by omega) (by omega) hl1 hl2 (by omega)
  obtain ⟨w5, hw5⟩ : ∃ w5, w4.setCell ⟨g, 0, none⟩ (.int .i64 0) = w5 := ⟨_, rfl⟩
  have HB4 : Hid (Below w.heap.size w w4) := (HB2.out.trans (hb23.mono HB2.out.size)).trans (hb4.mono (by omega))
  have hk45 : Keep (fun k => k = g) w4 w5 := by rw [← hw5]; exact (Keep.refl (fun k => k = g) w4).setCell rfl 0 _
  have HB5 : Hid (Below w.heap.size w w5) := HB4.out.trans (hk45.to_below (fun k hk => by omega) HB4.out.size)
  rw [hw5] at hAh
  have hcl5 := hAh.cl
  have HAH := Lib.hid hAh
  have HG := Lib.hid (show w.heap.size + 2 ≤ g ∧ g < w3.heap.size from ⟨by omega, hg3l⟩)
  obtain ⟨Bl, hBl⟩ : ∃ Bl, w.heap.size = Bl := ⟨_, rfl⟩
  obtain ⟨Ba, hBa⟩ : ∃ Ba, w3.heap.size = Ba := ⟨_, rfl⟩
  have HBL := Lib.hid hBl
  rw [hBl, hBa] at HAH
  rw [hBl] at hcl4 hcl5
  rw [hBa] at hca4
  rw [hBl, hBa] at HG
  have HS5 : Hid (Ba < w5.heap.size) := by show _ < _; have := hk45.size; omega
  rw [hBl]
  clear hb4 hs4 hg3l hrow4 hb23 s2 g3 hs3 hAh hk45 HROW3 HCL2 HB4 HB3 HB2 HS2 HG3
  have HR0 : Hid (R = Cd.flowW (l.drop 0) 0 (Cd.start n) 0) := by show _ = _; rw [List.drop_zero]; exact HRR.out
  go_wp2
  clear hw4 hw5 hca4 hcl4 hg40 hf40 hcl5 hBl hBa
  go_loopw [6, 23] (fun vm vi wr => ∃ (k : Nat) (most : Int) (ah : List Int), vm = .int .i64 most ∧ vi = .int .i64 k ∧ k ≤ n ∧ Hid (R = Cd.flowW (l.drop k) k ah most) ∧ Hid (Cd.Ah wr Bl Bl Ba g n a n cl ah) ∧ Hid (Below w.heap.size w wr)) (fun _ vi _ => n - (intOf vi).toNat)
  case atStart => exact ⟨0, 0, Cd.start n, rfl, rfl, by omega, HR0, HAH, HB5⟩
  case round =>
    clear HR0 HAH HB5 HRR HS5
    obtain ⟨k, most, ah, rfl, rfl, hk, HR, HA, HB⟩ := hrel
    have hca := HA.out.ca
    by_cases hlt : k < n
    · have hlti : (k : Int) < (n : Int) := by omega
      have hkl : k < l.length := by rw [HN.out]; exact hlt
      obtain ⟨b, o, rfl, -, x0, x1, x2⟩ := Cd.ins_at (HI.out.below HB.out) k hkl
      have hr := HR.out
      rw [List.drop_eq_getElem_cons hkl] at hr
      have hpx := HPOS.out l[k] (List.getElem_mem hkl)
      obtain ⟨x, hx⟩ : ∃ x, l[k] = x := ⟨_, rfl⟩
      rw [hx] at x0 x1 x2 hr hpx
      rw [Cd.flowW] at hr
      obtain ⟨gk, -⟩ := HA.out.at k hlt
      obtain ⟨v, hv⟩ : ∃ v, Cd.g ah k = v := ⟨_, rfl⟩
      unfold Cd.stepW at hr
      rw [hv] at hr gk
      obtain ⟨r1, hr1⟩ : ∃ r1, wr.alloc (.cells #[.int .i64 x.o, .int .i64 x.a, .int .i64 x.b] 55) = r1 := ⟨_, rfl⟩
      obtain ⟨hb1, hs1⟩ := Cd.below_new (Below.refl _ wr) hr1 (Nat.le_refl _)
      have hX := Cd.InsAt.new hr1
      have hx10 := hX.1
      have hop := ops_any x.o r1
      have hndd := fun w => need_any x w
      obtain ⟨N, hN⟩ : ∃ N, Cd.needW x = N := ⟨_, rfl⟩
      rw [hN] at hr hndd
      unfold Cd.opV at hop hndd
      have h10 : x.o = 10 → (Cd.op x.o).a = 5 := fun e => by rw [e]; rfl
      obtain ⟨nm, hnm⟩ : ∃ nm, nm = Cd.nm x.o := ⟨_, rfl⟩
      obtain ⟨oo, hoo⟩ : ∃ oo, oo = (Cd.opT x.o).isSome := ⟨_, rfl⟩
      obtain ⟨⟨oa, on, ol, pa, pb, en⟩, ho⟩ : ∃ o, o = Cd.op x.o := ⟨_, rfl⟩
      rw [← hnm, ← ho] at hop hndd
      rw [← hoo] at hop
      rw [← ho] at hr hpx h10
      simp only at hr hpx h10 hop hndd
      have HA1 := Lib.hid (HA.out.below hb1)
      have HBR : Hid (Below wr.heap.size wr r1) := hb1
      have HX := Lib.hid hX
      have HG3 : Hid (g < wr.heap.size) := HA.out.lt
      have HRX := Lib.hid hr
      have HND := Lib.hid hndd
      have HV := Lib.hid hv
      have HPX := Lib.hid hpx
      have H10 := Lib.hid h10
      obtain ⟨b9, hb9⟩ : ∃ b9, wr.heap.size = b9 := ⟨_, rfl⟩
      have HB9 := Lib.hid hb9
      rw [hb9] at hx10 HX
      clear hx hv hb1 hs1 hX hr hndd hpx h10 hN hnm hoo ho HR
      go_wp2_with (go_at_call 22; refine hop.mono ?_; clear hop hr1 hx10 x0 x1 x2 hb9 gk hca; rintro e r2 ⟨rfl, hb2⟩; have HB2 := Lib.hid hb2; clear hb2; obtain ⟨r3, hr3⟩ : ∃ r3, r2.alloc (.cells #[.string nm, .int .i64 (oa : Int), .int .i64 on, .int .i64 ol, .bool pa, .bool pb, .bool en] 58) = r3 := ⟨_, rfl⟩; refine Hid.out ?_)
      refine Lib.hid ?_
      obtain ⟨hb3, hs3⟩ := Cd.below_new (Below.refl _ r2) hr3 (Nat.le_refl _)
      have hO := Cd.OpAt.new hr3
      have hb13 := HB2.out.trans (hb3.mono HB2.out.size)
      have hA3 := HA1.out.below hb13
      have hX3 := HX.out.keep ((Keep.refl (fun _ => False) r1).below hb13) id
      have hB3 : Below w.heap.size w r3 := HB.out.trans ((HBR.out.trans (hb13.mono HBR.out.size)).mono HB.out.size)
      have h9 := HB9.out
      have hg3 := HG3.out
      have h12 := HBR.out.size
      have h23 := HB2.out.size
      obtain ⟨b10, hb10⟩ : ∃ b10, r2.heap.size = b10 := ⟨_, rfl⟩
      rw [hb10] at hO
      have hca3 := hA3.ca
      obtain ⟨gk3, -⟩ := hA3.at k hlt
      rw [HV.out] at gk3
      have HNE : Hid (b9 ≠ g ∧ b10 ≠ g) := ⟨by omega, by omega⟩
      have HO3 := Lib.hid hO
      have HX3 := Lib.hid hX3
      have HA3 := Lib.hid hA3
      have HB3 := Lib.hid hB3
      obtain ⟨o0, o1, o2, o3, o4, o5, o6⟩ := hO
      obtain ⟨y0, y1, y2⟩ := hX3
      have hnd := HND.out r3
      clear hb3 hs3 hb13 hA3 hB3 h9 hg3 h12 h23 HB9 HG3 HX HA1 HA HB HBR HB2 HND
      go_wp2_with (go_at_call 47; refine hnd.mono ?_; clear hnd hr3 hb10 hca3 gk3 o0 o1 o2 o3 o4 o5 o6 y0 y1 y2; rintro e r4 ⟨rfl, hb4⟩; have HB4 := Lib.hid hb4; clear hb4; refine Hid.out ?_)
      refine Lib.hid ?_
      have HK4 : Hid (Keep (fun k => k = g) r3 r4) := (Keep.refl (fun k => k = g) r3).below HB4.out
      have HA4 : Hid (Cd.Ah r4 Bl Bl Ba g n (some ⟨b, o, none⟩) n cl ah) := HA3.out.below HB4.out
      have HB04 : Hid (Below w.heap.size w r4) := HB3.out.trans (HB4.out.mono HB3.out.size)
      obtain ⟨-, o1, -, o3, -, -, o6⟩ := HO3.out.keep HK4.out HNE.out.2
      obtain ⟨y0, y1, -⟩ := HX3.out.keep HK4.out HNE.out.1
      have HRX2 := HRX
      clear HRX HA3 HB3 HB4
      obtain ⟨M1, hM1⟩ : ∃ M1, max most v = M1 := ⟨_, rfl⟩
      rw [hM1] at HRX2
      by_cases c1 : v < N
      · have HE : Hid (R = none) := by show _ = _; rw [HRX2.out, if_pos (.inl c1)]
        clear HRX2 HPX H10
        go_wp2
        go_ret3
        show Cd.FlowPost _ _ R _ _
        rw [HE.out]
        exact ⟨rfl, HB04.out⟩
      · have c1' : decide (v < N) = false := decide_eq_false c1
        cases en with
        | true =>
          by_cases c2 : N < v
          · have HE : Hid (R = none) := by show _ = _; rw [HRX2.out, if_pos (.inr ⟨rfl, c2⟩)]
            clear HRX2 HPX H10 c1
            go_wp2
            go_ret3
            show Cd.FlowPost _ _ R _ _
            rw [HE.out]
            exact ⟨rfl, HB04.out⟩
          · have c2' : decide (N < v) = false := decide_eq_false c2
            have HE : Hid (R = Cd.flowW (l.drop (k + 1)) (k + 1) ah M1) := by show _ = _; rw [HRX2.out, if_neg (fun h => h.elim c1 (fun h => c2 h.2)), if_pos rfl]
            clear HRX2 HPX H10 c1 c2
            go_wp2
            go_roundw
            case rel => exact ⟨k + 1, M1, ah, rfl, by simp, by omega, HE, HA4, HB04⟩
            case measure => simp [intOf]; omega
        | false =>
          have HRX : Hid (R = match (match if oa = 5 then Cd.reach ah x.a (Cd.w64 (v + Cd.w64 (ol - N))) else some ah with
            | none => none
            | some ah1 => if x.o ≠ 10 then Cd.reach ah1 ((k : Int) + 1) (Cd.w64 (v + Cd.w64 (ol - N))) else some ah1) with
            | none => none
            | some ah1 => Cd.flowW (l.drop (k + 1)) (k + 1) ah1 (max M1 (Cd.w64 (v + Cd.w64 (ol - N))))) := by
            show _ = _
            rw [HRX2.out, if_neg (fun h => h.elim c1 (fun h => Bool.noConfusion h.1)), if_neg (fun h => Bool.noConfusion h)]
            rfl
          clear HRX2 c1
          obtain ⟨n2, hn2⟩ : ∃ n2, Cd.w64 (v + Cd.w64 (ol - N)) = n2 := ⟨_, rfl⟩
          rw [hn2] at HRX
          obtain ⟨M2, hM2⟩ : ∃ M2, max M1 n2 = M2 := ⟨_, rfl⟩
          rw [hM2] at HRX
          unfold Cd.w64 at hn2
          go_upto_region 18 with fail
          simp only [hn2]
          clear hn2 hM2 hM1
          have HGB : Hid (w.heap.size ≤ g) := by have := HG.out; have := HBL.out; show _ ≤ _; omega
          by_cases h5 : oa = 5
          · have h5' : ((oa : Int) == 5) = true := beq_iff_eq.2 (by omega)
            rw [if_pos h5] at HRX
            have hxa := HPX.out h5
            cases hr5 : Cd.reach ah x.a n2 with
            | none =>
              rw [hr5] at HRX
              have HE : Hid (R = none) := HRX.out
              have hno := reach_no x.a n2 r4 HA4.out hxa hr5
              clear HRX HPX H10 hr5 h5 hxa
              go_wp2_with (go_at_call 46; refine hno.mono ?_; clear hno; rintro e r9 ⟨rfl, rfl⟩)
              go_ret3
              show Cd.FlowPost _ _ R _ _
              rw [HE.out]
              exact ⟨rfl, HB04.out⟩
            | some ah1 =>
              rw [hr5] at HRX
              have hyes := reach_yes x.a n2 r4 HA4.out hxa hr5
              have HX4 : Hid (Cd.InsAt r4 b9 x) := HX3.out.keep HK4.out HNE.out.1
              by_cases h10 : x.o = 10
              · have h10' : (x.o != 10) = false := bne_eq_false_iff_eq.2 h10
                have HE : Hid (R = Cd.flowW (l.drop (k + 1)) (k + 1) ah1 M2) := by
                  show _ = _
                  have := HRX.out
                  simp only [h10] at this
                  exact this
                clear HRX HPX H10 hr5 h5 hxa h10
                go_wp2_with (go_at_call 46; refine hyes.mono ?_; clear hyes y0 y1 o1 o3 o6; rintro e r5 ⟨rfl, ha5, hk5⟩; have HA5 := Lib.hid ha5; have HK5 := Lib.hid hk5; obtain ⟨y0, -, -⟩ := HX4.out.keep hk5 HNE.out.1; clear ha5 hk5)
                go_roundw
                case rel => exact ⟨k + 1, M2, ah1, rfl, by simp, by omega, HE, HA5, HB04.out.trans (HK5.out.to_below (fun j hj => by have := HGB.out; omega) HB04.out.size)⟩
                case measure => simp [intOf]; omega
              · have h10' : (x.o != 10) = true := bne_iff_ne.2 h10
                have HE0 : Hid (R = match Cd.reach ah1 ((k : Int) + 1) n2 with
                    | none => none
                    | some ah2 => Cd.flowW (l.drop (k + 1)) (k + 1) ah2 M2) := by
                  show _ = _
                  have := HRX.out
                  simp only [ne_eq, h10, not_false_eq_true, if_true] at this
                  exact this
                clear HRX HPX H10 h5 hxa h10
                cases hr6 : Cd.reach ah1 ((k : Int) + 1) n2 with
                | none =>
                  rw [hr6] at HE0
                  have HE : Hid (R = none) := HE0.out
                  have HR6 := Lib.hid hr6
                  clear HE0 hr6 hr5
                  go_wp2_with (first | (go_at_call 46; refine hyes.mono ?_; clear hyes y0 y1 o1 o3 o6; rintro e r5 ⟨rfl, ha5, hk5⟩; have hno := reach_no ((k : Int) + 1) n2 r5 ha5 (by omega) HR6.out; have HK5 := Lib.hid hk5; obtain ⟨y0, -, -⟩ := HX4.out.keep hk5 HNE.out.1; clear ha5 hk5) | (go_at_call 46; refine hno.mono ?_; clear hno; rintro e r9 ⟨rfl, rfl⟩))
                  go_ret3
                  show Cd.FlowPost _ _ R _ _
                  rw [HE.out]
                  exact ⟨rfl, HB04.out.trans (HK5.out.to_below (fun j hj => by have := HGB.out; omega) HB04.out.size)⟩
                | some ah2 =>
                  rw [hr6] at HE0
                  have HE : Hid (R = Cd.flowW (l.drop (k + 1)) (k + 1) ah2 M2) := HE0.out
                  have HR6 := Lib.hid hr6
                  clear HE0 hr6 hr5
                  go_wp2_with (first | (go_at_call 46; refine hyes.mono ?_; clear hyes y0 y1 o1 o3 o6; rintro e r5 ⟨rfl, ha5, hk5⟩; have hyes2 := reach_yes ((k : Int) + 1) n2 r5 ha5 (by omega) HR6.out; have HK5 := Lib.hid hk5; obtain ⟨y0, -, -⟩ := HX4.out.keep hk5 HNE.out.1; clear ha5 hk5) | (go_at_call 46; refine hyes2.mono ?_; clear hyes2 y0; rintro e r6 ⟨rfl, ha6, hk6⟩; have HA6 := Lib.hid ha6; have HK6 := Lib.hid hk6; clear ha6 hk6))
                  go_roundw
                  case rel => exact ⟨k + 1, M2, ah2, rfl, by simp, by omega, HE, HA6, HB04.out.trans ((HK5.out.trans HK6.out).to_below (fun j hj => by have := HGB.out; omega) HB04.out.size)⟩
                  case measure => simp [intOf]; omega
          · have h5' : ((oa : Int) == 5) = false := beq_eq_false_iff_ne.2 (by omega)
            rw [if_neg h5] at HRX
            have h10 : x.o ≠ 10 := fun e => h5 (H10.out e)
            have h10' : (x.o != 10) = true := bne_iff_ne.2 h10
            have HE0 : Hid (R = match Cd.reach ah ((k : Int) + 1) n2 with
                | none => none
                | some ah2 => Cd.flowW (l.drop (k + 1)) (k + 1) ah2 M2) := by
              show _ = _
              have := HRX.out
              simp only [ne_eq, h10, not_false_eq_true, if_true] at this
              exact this
            clear HRX HPX H10 h5 h10
            cases hr6 : Cd.reach ah ((k : Int) + 1) n2 with
            | none =>
              rw [hr6] at HE0
              have HE : Hid (R = none) := HE0.out
              have hno := reach_no ((k : Int) + 1) n2 r4 HA4.out (by omega) hr6
              clear HE0 hr6
              go_wp2_with (go_at_call 46; refine hno.mono ?_; clear hno; rintro e r9 ⟨rfl, rfl⟩)
              go_ret3
              show Cd.FlowPost _ _ R _ _
              rw [HE.out]
              exact ⟨rfl, HB04.out⟩
            | some ah2 =>
              rw [hr6] at HE0
              have HE : Hid (R = Cd.flowW (l.drop (k + 1)) (k + 1) ah2 M2) := HE0.out
              have hyes := reach_yes ((k : Int) + 1) n2 r4 HA4.out (by omega) hr6
              clear HE0 hr6
              go_wp2_with (go_at_call 46; refine hyes.mono ?_; clear hyes y0 y1 o1 o3 o6; rintro e r5 ⟨rfl, ha5, hk5⟩; have HA5 := Lib.hid ha5; have HK5 := Lib.hid hk5; clear ha5 hk5)
              go_roundw
              case rel => exact ⟨k + 1, M2, ah2, rfl, by simp, by omega, HE, HA5, HB04.out.trans (HK5.out.to_below (fun j hj => by have := HGB.out; omega) HB04.out.size)⟩
              case measure => simp [intOf]; omega
    · have hge : (n : Int) ≤ (k : Int) := by omega
      have HE : Hid (R = some (ah, most)) := by
        show _ = _
        rw [HR.out, List.drop_eq_nil_of_le (by rw [HN.out]; omega), Cd.flowW]
      clear HR
      go_wp2
      go_ret3
      show Cd.FlowPost _ _ R _ _
      rw [HE.out]
      exact ⟨g, rfl, HA.out.len, HBL.out ▸ HA.out.row, HB.out⟩
end Go.Proofs.YtlckjphnbfahgaaGreatDoor
