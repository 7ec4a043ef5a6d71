/-
  The walks of script.digits and script.Print: a script's text.
-/
import Derived.Test.YtbaendhagojadaaScCheck
import Derived.Test.YtbaendhagojadaaScBuild
import Derived.Laws.Concat
namespace Go.Proofs.Ytbaendhagojadaa
open Go.RowKit Go.Sort
namespace Sc
def prE (s : Scr) : Int := if check s = true then (if 20000 < (body s).length then 3 else 0) else 250
def prT (s : Scr) : List UInt8 := if prE s = 0 then body s else []
/-- what Print comes to -/
def PrintPost (s : Scr) (w : World) (e : Ending) (w' : World) : Prop := e = .returned (.tuple #[.string ⟨(prT s).toArray⟩, .int .i64 (prE s)]) ∧ Below w.heap.size w w'
theorem PrintPost.no {s : Scr} {w w' : World} (h : ¬ check s = true) (hb : Below w.heap.size w w') : PrintPost s w (.returned (.tuple #[.string ⟨#[]⟩, .int .i64 250])) w' := by
  have e : prE s = 250 := by unfold prE; rw [if_neg h]
  exact ⟨by unfold prT; rw [e]; rfl, hb⟩
theorem PrintPost.long {s : Scr} {w w' : World} (h : check s = true) (hl : 20000 < (body s).length) (hb : Below w.heap.size w w') : PrintPost s w (.returned (.tuple #[.string ⟨#[]⟩, .int .i64 3])) w' := by
  have e : prE s = 3 := by unfold prE; rw [if_pos h, if_pos hl]
  exact ⟨by unfold prT; rw [e]; rfl, hb⟩
theorem PrintPost.yes {s : Scr} {w w' : World} {l : List UInt8} (h : check s = true) (hl : ¬ 20000 < (body s).length) (hs : body s = l) (hb : Below w.heap.size w w') : PrintPost s w (.returned (.tuple #[.string ⟨l.toArray⟩, .int .i64 0])) w' := by
  have e : prE s = 0 := by unfold prE; rw [if_pos h, if_neg hl]
  exact ⟨by unfold prT; rw [e, hs]; rfl, hb⟩
theorem chk_two (s : Scr) : (chkE s = 250 ∧ ¬ check s = true) ∨ (chkE s = 0 ∧ check s = true) := by
  by_cases h : check s = true
  · exact .inr ⟨chk_yes s h, h⟩
  · exact .inl ⟨chk_no s h, h⟩
theorem numsT_take (l : List Int) (k : Nat) (hk : k < l.length) : numsT 0 (l.take (k + 1)) = numsT 0 (l.take k) ++ numLine k (l.getD k 0) := by
  rw [List.take_succ_eq_append_getElem hk, numsT_snoc, List.length_take, List.getD_eq_getElem?_getD, List.getElem?_eq_getElem hk, show 0 + min k l.length = k by omega]
  rfl
theorem pickText_take (l : List UInt8) (k : Nat) (hk : k < l.length) : pickText (l.take (k + 1)) = pickText (l.take k) ++ 32 :: dec (l[k].toNat : Int) := by
  rw [List.take_succ_eq_append_getElem hk, pickText_snoc]
theorem nums_at {w : World} {B S : Nat} (hh : w.heap[B]? = some (numsO S)) : Nums w B S := by
  intro k hk
  unfold World.cell?
  rw [hh]
  match k, hk with
  | 0, _ => exact ⟨rfl, rfl, rfl, rfl⟩
  | 1, _ => exact ⟨rfl, rfl, rfl, rfl⟩
  | 2, _ => exact ⟨rfl, rfl, rfl, rfl⟩
  | 3, _ => exact ⟨rfl, rfl, rfl, rfl⟩
  | 4, _ => exact ⟨rfl, rfl, rfl, rfl⟩
theorem isF_16 (n : Int) (h0 : 0 ≤ n) (h1 : n ≤ 65536) : Fx.isF n = true := by unfold Fx.isF; simp; omega
end Sc
theorem Bd.Is.below {B b : Nat} {l : List UInt8} {w w' : World} (h : Bd.Is B b l w) (hb : Below w.heap.size w w') : Bd.Is B b l w' := by
  have g : ∀ p, Lib.BuilderAt 60 5 B b p (Lib.byteCells l) w → Lib.BuilderAt 60 5 B b p (Lib.byteCells l) w' := by
    rintro p ⟨hB, v, hbk, hown, hne⟩
    exact ⟨hB, v, (hb.block b (Lib.BuilderAt.lt ⟨hB, v, hbk, hown, hne⟩)).trans hbk, Keep.own hown ((Keep.refl (fun _ => False) w).below hb) (fun k h => h.elim), hne⟩
  rcases h with h | h
  · exact .inl (g _ h)
  · exact .inr (g _ h)
theorem Bd.Is.lt {B b : Nat} {l : List UInt8} {w : World} (h : Bd.Is B b l w) : b < w.heap.size := by
  rcases h with h | h
  · exact h.lt
  · exact h.lt
set_option maxRecDepth 100000 in
theorem digits_any (n : Int) (w : World) (hn : Fx.isF n = true) :
    Calls Try.prog 27 #[.int .i64 n] w fun e w' => e = .returned (.string ⟨(Sc.dec n).toArray⟩) ∧ Below w.heap.size w w' := by
  have hT := Text_ok n w hn
  go_enter Try.func27, Try.ntmps27
  go_wp2_with fail
  refine hT.mono ?_
  rintro e w1 ⟨rfl, hb1⟩
  clear hT
  go_wp2
  go_ret
  exact ⟨rfl, hb1⟩
set_option maxRecDepth 100000 in
set_option maxHeartbeats 8000000 in
theorem Print_any (v0 v1 v2 v3 v4 : Int) (pa : Option Addr) (pc : Nat) (ps : List UInt8) (x : ByteArray) (w : World) (hp : Sc.Bytes w pa ps.length ps) (hl : ps.length ≤ 1000000) (hx : x.size ≤ 1000000) :
    Calls Try.prog 12 #[.agg #[.int .i64 v0, .int .i64 v1, .int .i64 v2, .int .i64 v3, .int .i64 v4, .slice pa ps.length pc, .string x]] w (Sc.PrintPost ⟨v0, v1, v2, v3, v4, ps, x.data.toList⟩ w) := by
  have hC := fun wq (hq : Sc.Bytes wq pa ps.length ps) => Check_any v0 v1 v2 v3 v4 pa pc ps x wq hq hl hx
  obtain ⟨s, hs⟩ : ∃ s : Sc.Scr, (⟨v0, v1, v2, v3, v4, ps, x.data.toList⟩ : Sc.Scr) = s := ⟨_, rfl⟩
  have HSV : Hid ([v0, v1, v2, v3, v4] = s.v) := by show _ = _; rw [← hs]; rfl
  have HSP : Hid (ps = s.p) := by show _ = _; rw [← hs]
  have HSX : Hid (x.data.toList = s.x) := by show _ = _; rw [← hs]
  rw [hs] at hC ⊢
  clear hs
  obtain ⟨A, hA⟩ : ∃ A, w.heap.size = A := ⟨_, rfl⟩
  obtain ⟨w1, hw1⟩ : ∃ w1, w.alloc (.cells #[.int .i64 v0, .int .i64 v1, .int .i64 v2, .int .i64 v3, .int .i64 v4, .slice pa ps.length pc, .string x] 25) = w1 := ⟨_, rfl⟩
  have z1 := Sc.seven_of w v0 v1 v2 v3 v4 (.slice pa ps.length pc) x 25
  rw [hw1, hA] at z1
  have hb1 : Below A w w1 := by rw [← hw1, ← hA]; exact (Below.refl _ _).alloc (Nat.le_refl _) _
  have hp1 : Sc.Bytes w1 pa ps.length ps := by rw [← hw1]; exact hp.keep ((Keep.refl (fun _ => False) w).alloc _) (fun _ _ h => h)
  have hsz1 : w1.heap.size = A + 1 := by rw [← hw1]; simp [hA]
  have f0 : w1.cell? ⟨A, 0, none⟩ = some (.int .i64 v0) := z1.n 0 (by omega)
  have f1 : w1.cell? ⟨A, 1, none⟩ = some (.int .i64 v1) := z1.n 1 (by omega)
  have f2 : w1.cell? ⟨A, 2, none⟩ = some (.int .i64 v2) := z1.n 2 (by omega)
  have f3 : w1.cell? ⟨A, 3, none⟩ = some (.int .i64 v3) := z1.n 3 (by omega)
  have f4 : w1.cell? ⟨A, 4, none⟩ = some (.int .i64 v4) := z1.n 4 (by omega)
  have f5 := z1.c5
  have f6 := z1.c6
  have hC1 := hC w1 hp1
  have HZ1 := Lib.hid z1
  have HB1 := Lib.hid hb1
  have HP := Lib.hid hp
  have HSZ1 := Lib.hid hsz1
  have HA := Lib.hid hA
  clear hC z1 hb1 hp hp1 hsz1
  rcases Sc.chk_two s with ⟨hce, hck⟩ | ⟨hce, hck⟩
  · rw [hce] at hC1
    have HCK := Lib.hid hck
    clear hce hck
    go_enter Try.func12, Try.ntmps12
    go_wp2_with fail
    refine hC1.mono ?_
    rintro e w2 ⟨rfl, hb2⟩
    have HB2 : Hid (Below w.heap.size w w2) := by show Below _ _ _; rw [HA.out]; exact HB1.out.trans (hb2.mono (by rw [HSZ1.out]; omega))
    clear hC1 hw1 hA f0 f1 f2 f3 f4 f5 f6 hb2
    go_wp2
    go_ret2
    exact .no HCK.out HB2.out
  rw [hce] at hC1
  have HCK := Lib.hid hck
  clear hce hck
  go_enter Try.func12, Try.ntmps12
  go_wp2_with fail
  refine hC1.mono ?_
  rintro e w2 ⟨rfl, hb2⟩
  clear hC1 hw1 hA f0 f1 f2 f3 f4 f5 f6
  obtain ⟨B, hB⟩ : ∃ B, w2.heap.size = B := ⟨_, rfl⟩
  have hAB : A < B := by have := hb2.size; rw [HSZ1.out, hB] at this; omega
  obtain ⟨w3, hw3⟩ : ∃ w3, w2.alloc (.cells #[.pointer none, .slice none 0 0] 60) = w3 := ⟨_, rfl⟩
  have hI3 : Bd.Is B B [] w3 := by rw [← hw3, ← hB]; exact Lib.fresh_isBuilder _ _ w2
  have hsz3 : w3.heap.size = B + 1 := by rw [← hw3]; simp [hB]
  have hb3 : Below A w w3 := by rw [← hw3]; exact (HB1.out.trans (hb2.mono (by rw [HSZ1.out]; omega))).alloc (by omega) _
  have hz3 : Sc.St w3 A [v0, v1, v2, v3, v4] (.slice pa ps.length pc) x := by rw [← hw3]; exact (HZ1.out.keep ((Keep.refl (fun _ => False) _).below hb2) (fun h => h)).keep ((Keep.refl (fun _ => False) _).alloc _) (fun h => h)
  have hN := numbers_any A w3
  rw [hsz3] at hN
  have zn := Sc.nums_new w3 A
  rw [hsz3] at zn
  obtain ⟨w4, hw4⟩ : ∃ w4, (w3.alloc (Sc.numsO A)).drew = w4 := ⟨_, rfl⟩
  have hk4 : Below w3.heap.size w3 w4 := by rw [← hw4]; exact ((Below.refl _ _).alloc (Nat.le_refl _) _).drew
  have hob : w4.heap[B + 1]? = some (Sc.numsO A) := by
    rw [← hw4, ← hsz3]
    show (w3.heap.push _)[w3.heap.size]? = _
    simp
  rw [hw4] at hN
  have hsz4 : w4.heap.size = B + 2 := by rw [← hw4]; show (w3.alloc (Sc.numsO A)).heap.size = _; simp [hsz3]
  have HI4 := Lib.hid (hI3.below hk4)
  have HB4 := Lib.hid (hb3.trans (hk4.mono (by omega)))
  have HZ4 := Lib.hid (hz3.keep ((Keep.refl (fun _ => False) _).below hk4) (fun h => h))
  have HN4 := Lib.hid hob
  have HSZ4 := Lib.hid hsz4
  have HBB := Lib.hid hB
  clear hb2 hI3 hsz3 hb3 hz3 zn hk4 hob hw4 hsz4
  go_wp2_with fail
  refine hN.mono ?_
  rintro e w5 ⟨rfl, rfl⟩
  clear hw3 hN hB
  have HM : Hid (∀ j, j < 5 → Sc.may j (s.v.getD j 0) = true) := fun j hj => by
    have := (Sc.mayAll_iff s.v 0).1 (Sc.check_parts s HCK.out).1 j hj
    rwa [Nat.zero_add] at this
  have hpl : ps.length ≤ 400 := by rw [HSP.out]; exact (Sc.check_parts s HCK.out).2.1
  have hxl : x.size ≤ 16384 := by
    have := (Sc.check_parts s HCK.out).2.2.1
    rw [← HSX.out, Fx.size_toList] at this
    exact this
  go_wp2_with fail
  go_loopw [14] (fun vk wr => ∃ (k : Nat) (l : List UInt8), vk = .int .i64 k ∧ k ≤ 5 ∧ l.length ≤ 100 * k ∧ Hid (l = Sc.numsT 0 (s.v.take k)) ∧ Hid (Bd.Is B B l wr) ∧ Hid (Sc.St wr A [v0, v1, v2, v3, v4] (.slice pa ps.length pc) x) ∧ Hid (wr.heap[B + 1]? = some (Sc.numsO A)) ∧ Hid (Below A w wr)) (fun vk _ => 5 - (intOf vk).toNat)
  case atStart => exact ⟨0, [], rfl, by omega, by simp, rfl, HI4, HZ4, HN4, HB4⟩
  case round =>
    obtain ⟨k, l, rfl, hk, hll, HT, HI, HZ, HN, HBW⟩ := hrel
    by_cases hlt : k < 5
    case pos =>
      have hlti : (k : Int) < 5 := by omega
      obtain ⟨X, hX⟩ : ∃ X, wr.heap.size = X := ⟨_, rfl⟩
      have hBX : B + 1 < X := by
        rw [← hX]
        exact (Array.getElem?_eq_some_iff.1 HN.out).1
      obtain ⟨m0, m1, m2, m3⟩ := Sc.nums_at HN.out k hlt
      obtain ⟨wa, hwa⟩ : ∃ wa, wr.alloc (.cells #[.string (Sc.nmB k), .pointer (some ⟨A, k, none⟩), .int .i64 (Sc.low k), .int .i64 (Sc.top k)] 44) = wa := ⟨_, rfl⟩
      obtain ⟨d0, d1, d2, d3⟩ := Sc.four_new wr (.string (Sc.nmB k)) (.pointer (some ⟨A, k, none⟩)) (.int .i64 (Sc.low k)) (.int .i64 (Sc.top k)) 44
      rw [hwa, hX] at d0 d1
      clear d2 d3
      have hba : Below wr.heap.size wr wa := by rw [← hwa]; exact (Below.refl _ _).alloc (Nat.le_refl _) _
      have hn := HZ.out.n k hlt
      rw [HSV.out] at hn
      have hna := (hba.cell (block_lt_of_cell hn)).trans hn
      obtain ⟨m, hm⟩ : ∃ m, s.v.getD k 0 = m := ⟨_, rfl⟩
      rw [hm] at hna hn
      have hmm := HM.out k hlt
      rw [hm] at hmm
      obtain ⟨g0, g1⟩ := Sc.may_bd k m hmm
      obtain ⟨P, hP⟩ : ∃ P : ByteArray, Sc.nmB k ++ ⟨#[32]⟩ = P := ⟨_, rfl⟩
      obtain ⟨D, hD⟩ : ∃ D : ByteArray, (⟨(Sc.dec m).toArray⟩ : ByteArray) = D := ⟨_, rfl⟩
      obtain ⟨PD, hPD⟩ : ∃ PD : ByteArray, P ++ D = PD := ⟨_, rfl⟩
      obtain ⟨F, hF⟩ : ∃ F : ByteArray, PD ++ ⟨#[10]⟩ = F := ⟨_, rfl⟩
      have hFl : F.data.toList = Sc.numLine k m := by
        rw [← hF, ← hPD, ← hP, ← hD]; simp [Sc.nmB, Sc.numLine]
      have s0 := Sc.nmB_size k
      have s1 : P.size = (Sc.nmB k).size + 1 := by rw [← hP]; simp [ByteArray.size_append]; rfl
      have s2 : D.size ≤ 21 := by rw [← hD, ← Fx.size_toList]; exact Sc.dec_len m g0
      have s3 : PD.size = P.size + D.size := by rw [← hPD]; simp [ByteArray.size_append]
      have s4 : F.size = PD.size + 1 := by rw [← hF]; simp [ByteArray.size_append]; rfl
      have hFs : F.size ≤ 33 := by omega
      have b1 : ¬ 9223372036854775807 < (Sc.nmB k).size + 1 := by omega
      have b2 : ¬ 9223372036854775807 < P.size + D.size := by omega
      have b3 : ¬ 9223372036854775807 < PD.size + 1 := by omega
      have hdg := fun wq => digits_any m wq (Sc.isF_16 m g0 g1)
      rw [hD] at hdg
      have hIa : Bd.Is B B l wa := HI.out.below hba
      have hXa : X < wa.heap.size := block_lt_of_cell d0
      have hoX : ∃ c fz, wa.heap[X]? = some (.cells c 44 fz) := by
        rw [← hwa, ← hX]
        exact ⟨_, _, by show (wr.heap.push _)[wr.heap.size]? = _; simp; exact ⟨rfl, rfl⟩⟩
      have HMK : Hid (∀ w', Below wa.heap.size wa w' → w'.cell? ⟨X, 0, none⟩ = some (.string (Sc.nmB k)) ∧ w'.cell? ⟨X, 1, none⟩ = some (.pointer (some ⟨A, k, none⟩)) ∧ w'.cell? ⟨A, k, none⟩ = some (.int .i64 m)) := by
        intro w' hb
        exact ⟨(hb.cell (block_lt_of_cell d0)).trans d0, (hb.cell (block_lt_of_cell d1)).trans d1, (hb.cell (block_lt_of_cell hna)).trans hna⟩
      have HMW : Hid (∀ w5 w', Below wa.heap.size wa w5 → Below B w5 w' → Bd.Oth B w5 w' → w'.cell? ⟨X, 0, none⟩ = some (.string (Sc.nmB k)) ∧ w'.cell? ⟨X, 1, none⟩ = some (.pointer (some ⟨A, k, none⟩)) ∧ w'.cell? ⟨A, k, none⟩ = some (.int .i64 m)) := by
        intro w5 w' hb h5 ho
        obtain ⟨q0, q1, q2⟩ := HMK.out w5 hb
        obtain ⟨c, fz, hc⟩ := hoX
        have hc5 := (hb.block X hXa).trans hc
        have hc6 := ho X c _ fz hc5 (by omega) (by decide)
        refine ⟨?_, ?_, (h5.cell (p := ⟨A, k, none⟩) hAB).trans q2⟩
        · rw [← q0]; unfold World.cell?; rw [hc5, hc6]
        · rw [← q1]; unfold World.cell?; rw [hc5, hc6]
      have HWS := Lib.hid (fun wq (h : Bd.Is B B l wq) (hz : B ≤ wq.heap.size) => WriteString_any B B l F wq h (by omega) hz)
      have HIA := Lib.hid hIa
      have HBA := Lib.hid hba
      have HFL := Lib.hid hFl
      have HX := Lib.hid hX
      have HMM := Lib.hid hm
      have HXA := Lib.hid hXa
      clear hIa hba hFl hm hmm hn s1 s3 s4 hoX hXa
      go_wp2_with fail
      clear hwa hX m0 m1 m2 m3
      go_region_held3 (fun w' => w'.cell? ⟨X, 0, none⟩ = some (.string (Sc.nmB k)) ∧ w'.cell? ⟨X, 1, none⟩ = some (.pointer (some ⟨A, k, none⟩)) ∧ w'.cell? ⟨A, k, none⟩ = some (.int .i64 m)) (first | exact HMK.out _ ((Below.refl _ _).drew) | exact HMW.out _ _ (Bd.dr hb5) hb6 ho6 | exact HMK.out _ (Bd.dr hb5))
        (first | (go_at_call 27; refine (hdg _).mono ?_; rintro e w5 ⟨rfl, hb5⟩) | (go_at_call 26; refine (HWS.out _ (HIA.out.below (Bd.dr hb5)) (Nat.le_trans (by have := HXA.out; omega) (Bd.dr hb5).size)).mono ?_; rintro e w6 ⟨rfl, hi6, hb6, ho6⟩))
      have hb5' : Below wa.heap.size wa w5 := Bd.dr hb5
      have HT6 : Hid (l ++ F.data.toList = Sc.numsT 0 (s.v.take (k + 1))) := by
        show _ = _
        rw [Sc.numsT_take s.v k hlt, HMM.out, HFL.out, HT.out]
      have HB6 : Hid (Below A w w6) := ((HBW.out.trans (HBA.out.mono (by have := HX.out; omega))).trans (hb5'.mono (by have := HXA.out; omega))).trans (hb6.mono (by omega))
      have HZ6 : Hid (Sc.St w6 A [v0, v1, v2, v3, v4] (.slice pa ps.length pc) x) := ((HZ.out.keep ((Keep.refl (fun _ => False) _).below HBA.out) (fun h => h)).keep ((Keep.refl (fun _ => False) _).below hb5') (fun h => h)).below2 hb6 hAB
      have HN6 : Hid (w6.heap[B + 1]? = some (Sc.numsO A)) := by
        have h1 := (HBA.out.block (B + 1) (by have := HX.out; omega)).trans HN.out
        have h2 := (hb5'.block (B + 1) (by have := HXA.out; omega)).trans h1
        exact ho6 (B + 1) _ _ _ h2 (by omega) (by decide)
      have HI6 := Lib.hid hi6
      have hl6 : (l ++ F.data.toList).length ≤ 100 * (k + 1) := by rw [List.length_append, Fx.size_toList]; omega
      clear hb5 hb5' hb6 ho6 hi6 hdg d0 d1 hna HMK HMW HWS
      go_wp2
      go_roundw
      case rel => exact ⟨k + 1, l ++ F.data.toList, by go_num, by omega, hl6, HT6, HI6, HZ6, HN6, HB6⟩
      case measure => simp [intOf]; omega
    obtain rfl : k = 5 := by omega
    have hge : ¬ ((5 : Nat) : Int) < 5 := by omega
    have HT5 : Hid (l = Sc.numsT 0 s.v) := by show _ = _; rw [HT.out]; rfl
    have c5 := HZ.out.c5
    clear HT HN
    by_cases hps : ps = []
    case pos =>
      have hp0 : (ps.length : Int) = 0 := by rw [hps]; rfl
      have hp0' : ¬ (0 : Int) < (ps.length : Int) := by omega
      have HPT : Hid (Sc.picksT s.p = []) := by show _ = _; rw [← HSP.out, hps]; rfl
      have HPS := Lib.hid hps
      clear hps hp0
      have hwA := WriteString_any B B l ⟨#[112, 114, 111, 103, 114, 97, 109, 10]⟩ wr HI.out (by show l.length + 8 ≤ _; omega) (Nat.le_of_lt HI.out.lt)
      go_wp2_with fail
      refine hwA.mono ?_
      rintro e w8 ⟨rfl, hi8, hb8, ho8⟩
      have HZ8 := Lib.hid (HZ.out.below2 hb8 hAB)
      have HB8 := Lib.hid (HBW.out.trans (hb8.mono (by omega)))
      have hwB := WriteString_any B B _ x w8 hi8 (by rw [List.length_append]; show l.length + 8 + x.size ≤ _; omega) (Nat.le_of_lt hi8.lt)
      have c6 := HZ8.out.c6
      clear hwA hi8 hb8 ho8
      go_wp2_with fail
      refine hwB.mono ?_
      rintro e w9 ⟨rfl, hi9, hb9, ho9⟩
      have HB9 := Lib.hid (HB8.out.trans (hb9.mono (by omega)))
      obtain ⟨L, hL⟩ : ∃ L, l ++ (⟨#[112, 114, 111, 103, 114, 97, 109, 10]⟩ : ByteArray).data.toList ++ x.data.toList = L := ⟨_, rfl⟩
      rw [hL] at hi9
      have HBL : Hid (Sc.body s = L) := by
        show _ = _
        rw [← hL]
        unfold Sc.body
        rw [HPT.out, HT5.out, HSX.out]; simp [Sc.program]
      have hL0 : L ≠ [] := by rw [← hL]; simp
      have hLl : L.length ≤ 1000000 := by rw [← hL, List.length_append, List.length_append, Fx.size_toList]; show l.length + 8 + x.size ≤ _; omega
      have hln := BLen_any B B L w9 hi9
      have hst := BString_any B B L w9 hi9 hL0
      clear hwB hb9 ho9 c6 hL hL0 hi9
      go_wp2_with fail
      refine hln.mono ?_
      rintro e w10 ⟨rfl, rfl⟩
      by_cases hbig : 20000 < L.length
      · have hbigi : (20000 : Int) < (L.length : Int) := by omega
        go_wp2
        go_ret2
        exact .long HCK.out (by rw [HBL.out]; exact hbig) (by rw [HA.out]; exact HB9.out)
      · have hbigi : ¬ (20000 : Int) < (L.length : Int) := by omega
        go_wp2_with fail
        refine hst.mono ?_
        rintro e w11 ⟨rfl, hb11⟩
        have HB11 := Lib.hid (HB9.out.trans (hb11.mono (by omega)))
        clear hst hb11
        go_wp2
        go_ret2
        exact .yes HCK.out (by rw [HBL.out]; exact hbig) HBL.out (by rw [HA.out]; exact HB11.out)
    have hp1 : 0 < ps.length := by
      rcases Nat.eq_zero_or_pos ps.length with h | h
      · exact absurd (List.length_eq_zero_iff.1 h) hps
      · exact h
    have hp1i : (0 : Int) < (ps.length : Int) := by omega
    have hw5 := WriteString_any B B l ⟨#[112, 105, 99, 107, 115]⟩ wr HI.out (by show l.length + 5 ≤ _; omega) (Nat.le_of_lt HI.out.lt)
    clear hps
    go_wp2_with fail
    refine hw5.mono ?_
    rintro e w5 ⟨rfl, hi5, hb5, ho5⟩
    have HI5 := Lib.hid hi5
    have HZ5 := Lib.hid (HZ.out.below2 hb5 hAB)
    have HB5 := Lib.hid (HBW.out.trans (hb5.mono (by omega)))
    clear hw5 hi5 hb5 ho5 c5
    have c5 := HZ5.out.c5
    go_wp2_with fail
    go_loopw [38] (fun vi wq => ∃ (i : Nat) (l2 : List UInt8), vi = .int .i64 i ∧ i ≤ ps.length ∧ l2.length ≤ 600 + 30 * i ∧ Hid (l2 = l ++ Sc.picks5 ++ Sc.pickText (ps.take i)) ∧ Hid (Bd.Is B B l2 wq) ∧ Hid (Sc.St wq A [v0, v1, v2, v3, v4] (.slice pa ps.length pc) x) ∧ Hid (Below A w wq)) (fun vi _ => ps.length - (intOf vi).toNat)
    case atStart => exact ⟨0, _, rfl, by omega, by rw [List.length_append]; show l.length + 5 ≤ _; omega, by show _ = _; simp [Sc.pickText]; rfl, HI5, HZ5, HB5⟩
    case round =>
      obtain ⟨i, l2, rfl, hi, hl2, HT2, HI2, HZ2, HB2⟩ := hrel
      by_cases hlt : i < ps.length
      case pos =>
        have hlti : (i : Int) < (ps.length : Int) := by omega
        obtain ⟨g1, o1, rfl, hc1⟩ := HP.out.2 (by omega)
        have e1 := HB2.out.cell (p := ⟨g1, o1 + i, none⟩) (by rw [← HA.out]; exact block_lt_of_cell (hc1 i hlt)) |>.trans (hc1 i hlt)
        unfold Sc.byteV at e1
        have hu := ps[i].toNat_lt
        obtain ⟨u, hu2⟩ : ∃ u : Int, (ps[i].toNat : Int) = u := ⟨_, rfl⟩
        have hu0 : 0 ≤ u := by omega
        have hu1 : u ≤ 255 := by omega
        have HU := Lib.hid hu2
        rw [hu2] at e1
        obtain ⟨D, hD⟩ : ∃ D : ByteArray, (⟨(Sc.dec u).toArray⟩ : ByteArray) = D := ⟨_, rfl⟩
        obtain ⟨F, hF⟩ : ∃ F : ByteArray, (⟨#[32]⟩ : ByteArray) ++ D = F := ⟨_, rfl⟩
        have HFL : Hid (F.data.toList = 32 :: Sc.dec u) := by show _ = _; rw [← hF, ← hD]; simp
        have s2 : D.size ≤ 21 := by rw [← hD, ← Fx.size_toList]; exact Sc.dec_len u hu0
        have s4 : F.size = 1 + D.size := by rw [← hF]; simp [ByteArray.size_append]; rfl
        have hFs : F.size ≤ 30 := by omega
        have b2 : ¬ 9223372036854775807 < 1 + D.size := by omega
        have hdg := digits_any u wr (Sc.isF_16 u hu0 (by omega))
        rw [hD] at hdg
        have HWS := Lib.hid (fun wz (h : Bd.Is B B l2 wz) (hz : B ≤ wz.heap.size) => WriteString_any B B l2 F wz h (by omega) hz)
        clear hc1 hu hu2 s4 hge hp1i
        go_wp2_with fail
        refine hdg.mono ?_
        rintro e w6 ⟨rfl, hb6⟩
        have hi6 := HI2.out.below hb6
        have HI6 := Lib.hid hi6
        have HB6 := Lib.hid hb6
        have hws := HWS.out w6 hi6 (Nat.le_of_lt hi6.lt)
        clear hdg hb6 hi6
        go_wp2_with fail
        refine hws.mono ?_
        rintro e w7 ⟨rfl, hi7, hb7, ho7⟩
        have HI7 := Lib.hid hi7
        have HZ7 : Hid (Sc.St w7 A [v0, v1, v2, v3, v4] (.slice (some ⟨g1, o1, none⟩) ps.length pc) x) := (HZ2.out.keep ((Keep.refl (fun _ => False) _).below HB6.out) (fun h => h)).below2 hb7 hAB
        have HB7 : Hid (Below A w w7) := (HB2.out.trans (HB6.out.mono (by have := HI2.out.lt; omega))).trans (hb7.mono (by omega))
        have HT7 : Hid (l2 ++ F.data.toList = l ++ Sc.picks5 ++ Sc.pickText (ps.take (i + 1))) := by
          show _ = _
          rw [Sc.pickText_take ps i hlt, HT2.out, HFL.out, HU.out, List.append_assoc]
        have hl7 : (l2 ++ F.data.toList).length ≤ 600 + 30 * (i + 1) := by rw [List.length_append, Fx.size_toList]; omega
        clear hws hi7 hb7 ho7 e1 hD hF
        go_wp2
        go_roundw
        case rel => exact ⟨i + 1, _, by go_num, by omega, hl7, HT7, HI7, HZ7, HB7⟩
        case measure => simp [intOf]; omega
      have hge2 : ¬ (i : Int) < (ps.length : Int) := by omega
      obtain rfl : i = ps.length := by omega
      have HT3 : Hid (l2 ++ [10] = l ++ Sc.picksT s.p) := by
        show _ = _
        rw [HT2.out, List.take_of_length_le (Nat.le_refl _), HSP.out]
        unfold Sc.picksT
        rw [if_neg (by rw [← HSP.out]; intro h; rw [h] at hp1; simp at hp1)]
        simp
      have hw6 := WriteString_any B B l2 ⟨#[10]⟩ wr HI2.out (by show l2.length + 1 ≤ _; omega) (Nat.le_of_lt HI2.out.lt)
      clear c5
      go_wp2_with fail
      refine hw6.mono ?_
      rintro e w6 ⟨rfl, hi6, hb6, ho6⟩
      have HI6 : Hid (Bd.Is B B (l2 ++ [10]) w6) := hi6
      have HZ6 := Lib.hid (HZ2.out.below2 hb6 hAB)
      have HB6 := Lib.hid (HB2.out.trans (hb6.mono (by omega)))
      have hl6 : (l2 ++ [10]).length ≤ 600 + 30 * 400 + 1 := by rw [List.length_append]; show l2.length + 1 ≤ _; omega
      clear hw6 hi6 hb6 ho6
      have hwA := WriteString_any B B (l2 ++ [10]) ⟨#[112, 114, 111, 103, 114, 97, 109, 10]⟩ w6 HI6.out (by show (l2 ++ [10]).length + 8 ≤ _; omega) (Nat.le_of_lt HI6.out.lt)
      go_wp2_with fail
      refine hwA.mono ?_
      rintro e w8 ⟨rfl, hi8, hb8, ho8⟩
      have HZ8 := Lib.hid (HZ6.out.below2 hb8 hAB)
      have HB8 := Lib.hid (HB6.out.trans (hb8.mono (by omega)))
      have hwB := WriteString_any B B _ x w8 hi8 (by rw [List.length_append]; show (l2 ++ [10]).length + 8 + x.size ≤ _; omega) (Nat.le_of_lt hi8.lt)
      have c6 := HZ8.out.c6
      clear hwA hi8 hb8 ho8
      go_wp2_with fail
      refine hwB.mono ?_
      rintro e w9 ⟨rfl, hi9, hb9, ho9⟩
      have HB9 := Lib.hid (HB8.out.trans (hb9.mono (by omega)))
      obtain ⟨L, hL⟩ : ∃ L, (l2 ++ [10]) ++ (⟨#[112, 114, 111, 103, 114, 97, 109, 10]⟩ : ByteArray).data.toList ++ x.data.toList = L := ⟨_, rfl⟩
      rw [hL] at hi9
      have HBL : Hid (Sc.body s = L) := by
        show _ = _
        rw [← hL]
        unfold Sc.body
        have h := HT3.out; rw [HT5.out] at h; rw [h, HSX.out]; simp [Sc.program]
      have hL0 : L ≠ [] := by rw [← hL]; simp
      have hLl : L.length ≤ 1000000 := by rw [← hL, List.length_append, List.length_append, Fx.size_toList]; show (l2 ++ [10]).length + 8 + x.size ≤ _; omega
      have hln := BLen_any B B L w9 hi9
      have hst := BString_any B B L w9 hi9 hL0
      clear hwB hb9 ho9 c6 hL hL0 hi9
      go_wp2_with fail
      refine hln.mono ?_
      rintro e w10 ⟨rfl, rfl⟩
      by_cases hbig : 20000 < L.length
      · have hbigi : (20000 : Int) < (L.length : Int) := by omega
        go_wp2
        go_ret2
        exact .long HCK.out (by rw [HBL.out]; exact hbig) (by rw [HA.out]; exact HB9.out)
      · have hbigi : ¬ (20000 : Int) < (L.length : Int) := by omega
        go_wp2_with fail
        refine hst.mono ?_
        rintro e w11 ⟨rfl, hb11⟩
        have HB11 := Lib.hid (HB9.out.trans (hb11.mono (by omega)))
        clear hst hb11
        go_wp2
        go_ret2
        exact .yes HCK.out (by rw [HBL.out]; exact hbig) HBL.out (by rw [HA.out]; exact HB11.out)
end Go.Proofs.Ytbaendhagojadaa
