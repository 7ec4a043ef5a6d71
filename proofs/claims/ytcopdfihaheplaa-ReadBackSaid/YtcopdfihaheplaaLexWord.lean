/-
 The walk of word.
-/
import Derived.Test.YtcopdfihaheplaaLexChar
import Derived.Test.YtcopdfihaheplaaLexRun
namespace Go.Proofs.Ytcopdfihaheplaa
open Go.RowKit Go.Sort
namespace Lx
theorem TkAt.alloc (w : World) (k a z m : Int) (x : ByteArray) (ty : TypeId) : TkAt (w.alloc (.cells #[.int .i64 k, .int .i64 a, .int .i64 z, .int .i64 m, .string x] ty)) w.heap.size k a z m x := by
 have hh : (w.alloc (.cells #[.int .i64 k, .int .i64 a, .int .i64 z, .int .i64 m, .string x] ty)).heap[w.heap.size]? = some (.cells #[.int .i64 k, .int .i64 a, .int .i64 z, .int .i64 m, .string x] ty) := by
  show (w.heap.push _)[w.heap.size]? = _
  simp
 refine ⟨?_, ?_, ?_, ?_, ?_, fun j => ?_, ?_⟩
 ·unfold World.cell?; rw [hh]; rfl
 ·unfold World.cell?; rw [hh]; rfl
 ·unfold World.cell?; rw [hh]; rfl
 ·unfold World.cell?; rw [hh]; rfl
 ·unfold World.cell?; rw [hh]; rfl
 ·unfold World.frozen?; rw [hh]; simp
 ·simp
theorem TkAt.chg2 {w w' : World} {B T R : Nat} {k a z m : Int} {x : ByteArray} (h : TkAt w R k a z m x) (hc : Chg2 B T w w') (hB : R ≠ B) (hT : R ≠ T) : TkAt w' R k a z m x := by
 have e := hc.block R h.lt hB hT
 have e1 : ∀ j, w'.cell? ⟨R, j, none⟩ = w.cell? ⟨R, j, none⟩ := fun j => World.cell?_of_block e
 exact ⟨by rw [e1]; exact h.c0, by rw [e1]; exact h.c1, by rw [e1]; exact h.c2, by rw [e1]; exact h.c3, by rw [e1]; exact h.c4, fun j => by rw [World.frozen?_of_block (w := w) e]; exact h.fz j, Nat.lt_of_lt_of_le h.lt hc.size⟩
theorem TkAt.set1 {w : World} {T : Nat} {k a z m : Int} {x : ByteArray} (h : TkAt w T k a z m x) (v : Int) : TkAt (w.setCell ⟨T, 1, none⟩ (.int .i64 v)) T k v z m x :=
 ⟨by rw [World.cell?_setCell_other _ _ _ _ (by simp)]; exact h.c0, World.cell?_setCell_same _ _ _ h.c1, by rw [World.cell?_setCell_other _ _ _ _ (by simp)]; exact h.c2, by rw [World.cell?_setCell_other _ _ _ _ (by simp)]; exact h.c3, by rw [World.cell?_setCell_other _ _ _ _ (by simp)]; exact h.c4, fun j => by rw [World.frozen?_setCell]; exact h.fz j, by simpa [World.setCell] using h.lt⟩
theorem Chg.fresh {B R : Nat} {w a : World} (h : Chg B w a) (hR : w.heap.size ≤ R) (j : Nat) (v : Value) : Chg B w (a.setCell ⟨R, j, none⟩ v) :=
 ⟨h.os, h.tape, h.output, by simpa [World.setCell] using h.size, fun k hk hne => (Below.heap_setCell _ _ _ _ (show k ≠ R by omega)).trans (h.block k hk hne)⟩
def put5 (w : World) (R : Nat) (k a z m : Int) (x : ByteArray) : World := ((((w.setCell ⟨R, 0, none⟩ (.int .i64 k)).setCell ⟨R, 1, none⟩ (.int .i64 a)).setCell ⟨R, 2, none⟩ (.int .i64 z)).setCell ⟨R, 3, none⟩ (.int .i64 m)).setCell ⟨R, 4, none⟩ (.string x)
theorem put5_at {w : World} {R : Nat} {k0 a0 z0 m0 : Int} {x0 : ByteArray} (h : TkAt w R k0 a0 z0 m0 x0) (k a z m : Int) (x : ByteArray) : TkAt (put5 w R k a z m x) R k a z m x :=
 ((((h.set0 k).set1 a).set2 z).set3 m).set4 x
theorem put5_scan {w : World} {R B : Nat} {s : ByteArray} {n : Nat} (h : Scan w B s n) (hne : B ≠ R) (k a z m : Int) (x : ByteArray) : Scan (put5 w R k a z m x) B s n :=
 ((((h.other R 0 _ hne).other R 1 _ hne).other R 2 _ hne).other R 3 _ hne).other R 4 _ hne
theorem put5_chg {B R : Nat} {w a : World} (h : Chg B w a) (hR : w.heap.size ≤ R) (k a' z m : Int) (x : ByteArray) : Chg B w (put5 a R k a' z m x) :=
 ((((h.fresh hR 0 _).fresh hR 1 _).fresh hR 2 _).fresh hR 3 _).fresh hR 4 _
def Fits (r : Res) (s : ByteArray) (n : Nat) (k m : Int) (x : ByteArray) (cc : Int) : Prop :=
 match r with
 | .err c => cc = c
 | .tok t rest => cc = 0 ∧ rest = tl s n ∧ k = t.k ∧ m = t.n ∧ x = ⟨t.s.toArray⟩
theorem TokPost.open {B T : Nat} {s : ByteArray} {a : Int} {r : Res} {w : World} {e : Ending} {w' : World} (h : TokPost B T s a r w e w') :
  ∃ (n : Nat) (k m : Int) (x : ByteArray) (cc : Int), e = .returned (.int .i64 cc) ∧ n ≤ s.size ∧ Scan w' B s n ∧ TkAt w' T k a 0 m x ∧ Chg2 B T w w' ∧ Hid (Fits r s n k m x cc) := by
 obtain ⟨n, k, m, x, h1, h2, h3, h4, h5⟩ := h
 cases r with
 | err c => exact ⟨n, k, m, x, c, h5, h1, h2, h3, h4, rfl⟩
 | tok t rest => exact ⟨n, k, m, x, 0, h5.1, h1, h2, h3, h4, rfl, h5.2⟩
def WordPost (B : Nat) (s : ByteArray) (a : Nat) (r : Res) (w : World) (e : Ending) (w' : World) : Prop :=
 ∃ (n : Nat) (k m : Int) (x : ByteArray) (cc : Int), e = .returned (.tuple #[.agg #[.int .i64 k, .int .i64 (a : Int), .int .i64 (n : Int), .int .i64 m, .string x], .int .i64 cc]) ∧ n ≤ s.size ∧ Scan w' B s n ∧ Chg B w w' ∧ Fits r s n k m x cc
theorem Chg.of_chg2 {B T : Nat} {w u w' : World} (h : Below w.heap.size w u) (k : Chg2 B T u w') (hT : w.heap.size ≤ T) : Chg B w w' :=
 ⟨k.os.trans h.os, k.tape.trans h.tape, k.output.trans h.output, Nat.le_trans h.size k.size, fun i hi hne => (k.block i (Nat.lt_of_lt_of_le hi h.size) hne (by omega)).trans (h.block i hi)⟩
theorem word_eq (t : List UInt8) (sg : Nat × Nat) (h : sign t = sg) : word t = if sg.1 ≠ 0 then .tok ⟨sg.1, 0, []⟩ (t.drop sg.2) else if pk t 0 == 34 then str t else if pk t 0 == 35 && pk t 1 == 92 then char t else run t := by
 unfold word; rw [h]
theorem sign_bd (s : ByteArray) (n : Nat) (hn : n < s.size) : n + (sign (tl s n)).2 ≤ s.size := by
 unfold sign
 have h2 : ∀ c, c ≠ 0 → pk (tl s n) 1 = c → n + 2 ≤ s.size := fun c hc h => by have := pk_lt h hc; omega
 repeat' split
 all_goals first
  | (simp only []; omega)
  | (rename_i h _; exact h2 64 (by decide) (by simpa using h))
  | (rename_i h; exact h2 64 (by decide) (by simpa using h))
  | (rename_i h; exact h2 40 (by decide) (by simp at h; exact h.2))
end Lx
set_option maxRecDepth 100000 in
set_option maxHeartbeats 4000000 in
theorem word_any (B at0 : Nat) (s : ByteArray) (w : World) (h : Lx.Scan w B s at0) (hs : s.size ≤ 1000000) (ha : at0 < s.size)
  (hw0 : Lx.white (Lx.pk (Lx.tl s at0) 0) = false) (h59 : (Lx.pk (Lx.tl s at0) 0 == 59) = false) (h00 : (Lx.pk (Lx.tl s at0) 0 == 0) = false) :
  Calls Try.prog 39 #[.pointer (some ⟨B, 0, none⟩)] w (Lx.WordPost B s at0 (Lx.word (Lx.tl s at0)) w) := by
 have c0 := h.c0
 have c1 := h.c1
 have fz := h.fz
 have c1a := (h.below ((Below.refl w.heap.size w).alloc (Nat.le_refl _) (.cells #[.int .i64 0, .int .i64 0, .int .i64 0, .int .i64 0, .string ⟨#[]⟩] 47))).c1
 have hblt := h.lt
 go_enter Try.func39, Try.ntmps39
 go_wp2_with fail
 have hb2 : Below w.heap.size w ((w.alloc (.cells #[.int .i64 0, .int .i64 0, .int .i64 0, .int .i64 0, .string ⟨#[]⟩] 47)).alloc (.cells #[.int .i64 0, .int .i64 (at0 : Int), .int .i64 0, .int .i64 0, .string ⟨#[]⟩] 47)) := ((Below.refl w.heap.size w).alloc (Nat.le_refl _) _).alloc (by simp) _
 have hT := Lx.TkAt.alloc (w.alloc (.cells #[.int .i64 0, .int .i64 0, .int .i64 0, .int .i64 0, .string ⟨#[]⟩] 47)) 0 at0 0 0 ⟨#[]⟩ 47
 have hR := (Lx.TkAt.alloc w 0 0 0 0 ⟨#[]⟩ 47).below ((Below.refl _ (w.alloc (.cells #[.int .i64 0, .int .i64 0, .int .i64 0, .int .i64 0, .string ⟨#[]⟩] 47))).alloc (Nat.le_refl _) (.cells #[.int .i64 0, .int .i64 (at0 : Int), .int .i64 0, .int .i64 0, .string ⟨#[]⟩] 47))
 have hsc := h.below hb2
 rw [show (w.alloc (.cells #[.int .i64 0, .int .i64 0, .int .i64 0, .int .i64 0, .string ⟨#[]⟩] 47)).heap.size = w.heap.size + 1 by simp] at hT
 obtain ⟨W2, hW2⟩ : ∃ W2, (w.alloc (.cells #[.int .i64 0, .int .i64 0, .int .i64 0, .int .i64 0, .string ⟨#[]⟩] 47)).alloc (.cells #[.int .i64 0, .int .i64 (at0 : Int), .int .i64 0, .int .i64 0, .string ⟨#[]⟩] 47) = W2 := ⟨_, rfl⟩
 rw [hW2] at hb2 hT hR hsc ⊢
 obtain ⟨R, hRR⟩ : ∃ R, w.heap.size = R := ⟨_, rfl⟩
 rw [hRR] at hT hR hblt ⊢
 have hBT : B ≠ R + 1 := by omega
 have hBR : R ≠ B := by omega
 have hTR : R ≠ R + 1 := by omega
 clear hW2 c0 c1 fz c1a
 refine (sign_any B at0 s _ hsc (by omega) (by omega)).mono ?_
 rintro e w1 ⟨rfl, k1, rfl⟩
 obtain ⟨p, q, hsg⟩ : ∃ p q, Lx.sign (Lx.tl s at0) = (p, q) := ⟨_, _, rfl⟩
 have hbd := Lx.sign_bd s at0 ha
 rw [hsg] at hbd ⊢
 simp only [] at hbd ⊢
 have HW := Lib.hid (Lx.word_eq _ _ hsg)
 have hsc1 := hsc.drew k1
 have hT1 := hT.drew k1
 have hR1 := hR.drew k1
 have hch1 := (Lx.Chg2.refl B (R + 1) W2).drew k1
 obtain ⟨w1, hw1⟩ : ∃ w1, W2.drewN k1 = w1 := ⟨_, rfl⟩
 rw [hw1] at hsc1 hT1 hR1 hch1 ⊢
 clear hw1 hsc hT hR
 by_cases hp : p = 0
 case neg =>
  have hpi : ((p : Int) != 0) = true := by simp; omega
  have HR0 : Hid (Lx.word (Lx.tl s at0) = .tok ⟨p, 0, []⟩ (Lx.tl s (at0 + q))) := HW.out.trans (by rw [if_pos hp, Lx.tl_drop])
  have d0 := hT1.c0
  have z0 := hT1.fz
  have b1 := (hsc1.other (R + 1) 0 (.int .i64 (p : Int)) hBT).c1
  have b1z := (hsc1.other (R + 1) 0 (.int .i64 (p : Int)) hBT).fz
  obtain ⟨i, hi⟩ : ∃ i : Int, (at0 : Int) + (q : Int) = i := ⟨_, rfl⟩
  have hV1 := hsc1.other (R + 1) 0 (.int .i64 (p : Int)) hBT
  have b2 := World.cell?_setCell_same (w1.setCell ⟨R + 1, 0, none⟩ (.int .i64 (p : Int))) ⟨B, 1, none⟩ (.int .i64 i) hV1.c1
  have t2 := (hT1.set0 (p : Int)).other B 1 (.int .i64 i) (Ne.symm hBT)
  have d2 := t2.c2
  have z2 := t2.fz
  have t3 := t2.set2 i
  have R3 := ((hR1.other (R + 1) 0 (.int .i64 (p : Int)) hTR).other B 1 (.int .i64 i) hBR).other (R + 1) 2 (.int .i64 i) hTR
  have u0 := t3.c0
  have u1 := t3.c1
  have u2 := t3.c2
  have u3 := t3.c3
  have u4 := t3.c4
  have r0 := R3.c0
  have r1 := R3.c1
  have r2 := R3.c2
  have r3 := R3.c3
  have r4 := R3.c4
  have rz := R3.fz
  rw [← hi] at b2 d2 z2 u0 u1 u2 u3 u4 r0 r1 r2 r3 r4 rz
  have HT3 := Lib.hid t3
  have HR3 := Lib.hid R3
  have HV1 := Lib.hid hV1
  have HCH := Lib.hid hch1
  clear t2 t3 R3 hV1 hsc1 hT1 hR1 hch1
  subst hi
  go_wp2
  obtain ⟨F, hF⟩ : ∃ F, Lx.put5 (((w1.setCell ⟨R + 1, 0, none⟩ (.int .i64 (p : Int))).setCell ⟨B, 1, none⟩ (.int .i64 ((at0 : Int) + (q : Int)))).setCell ⟨R + 1, 2, none⟩ (.int .i64 ((at0 : Int) + (q : Int)))) R (p : Int) (at0 : Int) ((at0 : Int) + (q : Int)) 0 ⟨#[]⟩ = F := ⟨_, rfl⟩
  have HF := Lx.put5_at HR3.out (p : Int) (at0 : Int) ((at0 : Int) + (q : Int)) 0 ⟨#[]⟩
  have HFS := Lx.put5_scan ((HV1.out.step' ((at0 : Int) + (q : Int)) (at0 + q) (by omega)).other (R + 1) 2 (.int .i64 ((at0 : Int) + (q : Int))) hBT) (Ne.symm hBR) (p : Int) (at0 : Int) ((at0 : Int) + (q : Int)) 0 ⟨#[]⟩
  have HFC := Lx.put5_chg (Lx.Chg.of_chg2 hb2 (((HCH.out.setT 0 (.int .i64 (p : Int))).setB 1 (.int .i64 ((at0 : Int) + (q : Int)))).setT 2 (.int .i64 ((at0 : Int) + (q : Int)))) (by omega)) (Nat.le_of_eq hRR) (p : Int) (at0 : Int) ((at0 : Int) + (q : Int)) 0 ⟨#[]⟩
  unfold Lx.put5 at hF
  rw [hF]
  have HF' : Lx.TkAt F R (p : Int) (at0 : Int) ((at0 : Int) + (q : Int)) 0 ⟨#[]⟩ := by rw [← hF]; exact HF
  have HFS' : Lx.Scan F B s (at0 + q) := by rw [← hF]; exact HFS
  have HFC' : Lx.Chg B w F := by rw [← hF]; exact HFC
  clear HF HFS HFC hF
  have f0 := HF'.c0
  have f1 := HF'.c1
  have f2 := HF'.c2
  have f3 := HF'.c3
  have f4 := HF'.c4
  have fz := HF'.fz
  exact bodyPost_ret (v := .tuple #[.agg #[.int .i64 (p : Int), .int .i64 (at0 : Int), .int .i64 ((at0 : Int) + (q : Int)), .int .i64 0, .string ⟨#[]⟩], .int .i64 0]) (by simp [results, Try.results39, go_sem, f0, f1, f2, f3, f4]) rfl ⟨at0 + q, (p : Int), 0, ⟨#[]⟩, 0, by simp, by omega, HFS', HFC', by rw [HR0]; exact ⟨rfl, rfl, rfl, rfl, rfl⟩⟩
 subst hp
 have HW2 : Hid (Lx.word (Lx.tl s at0) = if Lx.pk (Lx.tl s at0) 0 == 34 then Lx.str (Lx.tl s at0) else if Lx.pk (Lx.tl s at0) 0 == 35 && Lx.pk (Lx.tl s at0) 1 == 92 then Lx.char (Lx.tl s at0) else Lx.run (Lx.tl s at0)) := HW.out
 have hcell := hsc1
 go_wp2_with fail
 refine (peek_any B at0 0 s _ hsc1 (by omega) (by omega) (by simp; omega)).mono ?_
 rintro e w2 ⟨rfl, k2, hk2⟩
 rw [show (0 : Int).toNat = 0 from rfl]
 have HSG := Lib.hid hsg
 clear hsg HW
 obtain ⟨c, hc⟩ : ∃ c, Lx.pk (Lx.tl s at0) 0 = c := ⟨_, rfl⟩
 rw [hc] at hw0 h59 h00 HW2 ⊢
 have hscX := hsc1.drew k2
 have hTX := hT1.drew k2
 have hRX := Lib.hid (hR1.drew k2)
 have hchX := Lib.hid (hch1.drew k2)
 rw [← hk2] at hscX hTX hRX hchX
 clear hsc1 hT1 hR1 hch1 hk2
 have b34 := Lx.beq_nat c 34 (by omega)
 cases f34 : ((c.toNat : Int) == 34)
 case true =>
  have HR0 : Lx.word (Lx.tl s at0) = Lx.str (Lx.tl s at0) := HW2.out.trans (if_pos (b34.trans f34))
  clear b34 HW2
  go_wp2_with fail
  refine (str_any B (R + 1) at0 (at0 : Int) s _ hscX hTX hBT hs ha).mono ?_
  intro e w2 hpost
  obtain ⟨n, k, m, x, cc, rfl, hn, hsc3, htk3, hch3, HFT⟩ := hpost.open
  clear hpost
  have hR3 := (hRX.out).chg2 hch3 hBR hTR
  have HCH3 := Lib.hid (hchX.out.trans hch3)
  have HSC3 := Lib.hid hsc3
  have b1 := hsc3.c1
  have d2 := htk3.c2
  have z2 := htk3.fz
  have t3 := htk3.set2 (n : Int)
  have R3 := hR3.other (R + 1) 2 (.int .i64 (n : Int)) hTR
  have u0 := t3.c0
  have u1 := t3.c1
  have u2 := t3.c2
  have u3 := t3.c3
  have u4 := t3.c4
  have r0 := R3.c0
  have r1 := R3.c1
  have r2 := R3.c2
  have r3 := R3.c3
  have r4 := R3.c4
  have rz := R3.fz
  have HR3 := Lib.hid R3
  clear hsc3 htk3 t3 R3 hR3 hch3
  go_wp2
  obtain ⟨F, hF⟩ : ∃ F, Lx.put5 (w2.setCell ⟨R + 1, 2, none⟩ (.int .i64 (n : Int))) R k (at0 : Int) (n : Int) m x = F := ⟨_, rfl⟩
  have HF := Lx.put5_at HR3.out k (at0 : Int) (n : Int) m x
  have HFS := Lx.put5_scan (HSC3.out.other (R + 1) 2 (.int .i64 (n : Int)) hBT) (Ne.symm hBR) k (at0 : Int) (n : Int) m x
  have HFC := Lx.put5_chg (Lx.Chg.of_chg2 hb2 (HCH3.out.setT 2 (.int .i64 (n : Int))) (by omega)) (Nat.le_of_eq hRR) k (at0 : Int) (n : Int) m x
  unfold Lx.put5 at hF
  rw [hF]
  have HF' : Lx.TkAt F R k (at0 : Int) (n : Int) m x := by rw [← hF]; exact HF
  have HFS' : Lx.Scan F B s (n) := by rw [← hF]; exact HFS
  have HFC' : Lx.Chg B w F := by rw [← hF]; exact HFC
  clear HF HFS HFC hF
  have f0 := HF'.c0
  have f1 := HF'.c1
  have f2 := HF'.c2
  have f3 := HF'.c3
  have f4 := HF'.c4
  have fz := HF'.fz
  exact bodyPost_ret (v := .tuple #[.agg #[.int .i64 k, .int .i64 (at0 : Int), .int .i64 (n : Int), .int .i64 m, .string x], .int .i64 cc]) (by simp [results, Try.results39, go_sem, f0, f1, f2, f3, f4]) rfl ⟨n, k, m, x, cc, by rfl, by omega, HFS', HFC', by rw [HR0]; exact HFT.out⟩
 case false =>
  have hn34 : (c == 34) = false := b34.trans f34
  have b35 := Lx.beq_nat c 35 (by omega)
  have hends : Lx.ends (Lx.pk (Lx.tl s at0) 0) = false := by
   have hg := HSG.out
   unfold Lx.sign at hg
   rw [hc] at hg ⊢
   unfold Lx.ends
   rw [h00, hw0, hn34, h59]
   cases g40 : (c == 40)
   ·cases g41 : (c == 41)
    ·rfl
    ·rw [g40, g41] at hg; simp at hg
   ·rw [g40] at hg; simp at hg
  have HSX := Lib.hid hscX
  cases f35 : ((c.toNat : Int) == 35)
  case false =>
   have HR0 : Lx.word (Lx.tl s at0) = Lx.run (Lx.tl s at0) := HW2.out.trans (by rw [if_neg (by rw [hn34]; simp), show (c == 35) = false from b35.trans f35]; rfl)
   clear b34 b35 HW2
   go_wp2_with fail
   refine (run_any B (R + 1) at0 (at0 : Int) s _ hscX hTX hBT hs (by omega) hends).mono ?_
   intro e w2 hpost
   obtain ⟨n, k, m, x, cc, rfl, hn, hsc3, htk3, hch3, HFT⟩ := hpost.open
   clear hpost
   have hR3 := (hRX.out).chg2 hch3 hBR hTR
   have HCH3 := Lib.hid (hchX.out.trans hch3)
   have HSC3 := Lib.hid hsc3
   have b1 := hsc3.c1
   have d2 := htk3.c2
   have z2 := htk3.fz
   have t3 := htk3.set2 (n : Int)
   have R3 := hR3.other (R + 1) 2 (.int .i64 (n : Int)) hTR
   have u0 := t3.c0
   have u1 := t3.c1
   have u2 := t3.c2
   have u3 := t3.c3
   have u4 := t3.c4
   have r0 := R3.c0
   have r1 := R3.c1
   have r2 := R3.c2
   have r3 := R3.c3
   have r4 := R3.c4
   have rz := R3.fz
   have HR3 := Lib.hid R3
   clear hsc3 htk3 t3 R3 hR3 hch3
   go_wp2
   obtain ⟨F, hF⟩ : ∃ F, Lx.put5 (w2.setCell ⟨R + 1, 2, none⟩ (.int .i64 (n : Int))) R k (at0 : Int) (n : Int) m x = F := ⟨_, rfl⟩
   have HF := Lx.put5_at HR3.out k (at0 : Int) (n : Int) m x
   have HFS := Lx.put5_scan (HSC3.out.other (R + 1) 2 (.int .i64 (n : Int)) hBT) (Ne.symm hBR) k (at0 : Int) (n : Int) m x
   have HFC := Lx.put5_chg (Lx.Chg.of_chg2 hb2 (HCH3.out.setT 2 (.int .i64 (n : Int))) (by omega)) (Nat.le_of_eq hRR) k (at0 : Int) (n : Int) m x
   unfold Lx.put5 at hF
   rw [hF]
   have HF' : Lx.TkAt F R k (at0 : Int) (n : Int) m x := by rw [← hF]; exact HF
   have HFS' : Lx.Scan F B s (n) := by rw [← hF]; exact HFS
   have HFC' : Lx.Chg B w F := by rw [← hF]; exact HFC
   clear HF HFS HFC hF
   have f0 := HF'.c0
   have f1 := HF'.c1
   have f2 := HF'.c2
   have f3 := HF'.c3
   have f4 := HF'.c4
   have fz := HF'.fz
   exact bodyPost_ret (v := .tuple #[.agg #[.int .i64 k, .int .i64 (at0 : Int), .int .i64 (n : Int), .int .i64 m, .string x], .int .i64 cc]) (by simp [results, Try.results39, go_sem, f0, f1, f2, f3, f4]) rfl ⟨n, k, m, x, cc, by rfl, by omega, HFS', HFC', by rw [HR0]; exact HFT.out⟩
  case true =>
   obtain ⟨d, hd⟩ : ∃ d, Hid (Lx.pk (Lx.tl s at0) 1 = d) := ⟨_, rfl⟩
   have HW3 : Hid (Lx.word (Lx.tl s at0) = if d == 92 then Lx.char (Lx.tl s at0) else Lx.run (Lx.tl s at0)) := HW2.out.trans (by rw [if_neg (by rw [hn34]; simp), show (c == 35) = true from b35.trans f35, hd.out]; rfl)
   clear HW2 b34 b35
   have b92 := Lx.beq_nat d 92 (by omega)
   go_wp2_with fail
   refine (peek_any B at0 1 s _ hscX (by omega) (by omega) (by simp; omega)).mono ?_
   rintro e w3 ⟨rfl, k3, hk3⟩
   rw [show (1 : Int).toNat = 1 from rfl, hd.out]
   have hscY := hscX.drew k3
   have hTY := hTX.drew k3
   have hRY := hRX.out.drew k3
   have hchY := hchX.out.drew k3
   rw [← hk3] at hscY hTY hRY hchY
   clear hscX hTX hRX hchX hk3 HSX
   have hRX := Lib.hid hRY
   have hchX := Lib.hid hchY
   clear hRY hchY
   cases f92 : ((d.toNat : Int) == 92)
   case true =>
    have HR0 : Lx.word (Lx.tl s at0) = Lx.char (Lx.tl s at0) := HW3.out.trans (if_pos (b92.trans f92))
    have hd92 : d ≠ 0 := by rintro rfl; simp at f92
    have hlen : at0 + 2 ≤ s.size := by have := Lx.pk_lt hd.out hd92; omega
    clear b92 HW3
    go_wp2_with fail
    refine (char_any B (R + 1) at0 (at0 : Int) s _ hscY hTY hBT hs hlen).mono ?_
    intro e w2 hpost
    obtain ⟨n, k, m, x, cc, rfl, hn, hsc3, htk3, hch3, HFT⟩ := hpost.open
    clear hpost
    have hR3 := (hRX.out).chg2 hch3 hBR hTR
    have HCH3 := Lib.hid (hchX.out.trans hch3)
    have HSC3 := Lib.hid hsc3
    have b1 := hsc3.c1
    have d2 := htk3.c2
    have z2 := htk3.fz
    have t3 := htk3.set2 (n : Int)
    have R3 := hR3.other (R + 1) 2 (.int .i64 (n : Int)) hTR
    have u0 := t3.c0
    have u1 := t3.c1
    have u2 := t3.c2
    have u3 := t3.c3
    have u4 := t3.c4
    have r0 := R3.c0
    have r1 := R3.c1
    have r2 := R3.c2
    have r3 := R3.c3
    have r4 := R3.c4
    have rz := R3.fz
    have HR3 := Lib.hid R3
    clear hsc3 htk3 t3 R3 hR3 hch3
    go_wp2
    obtain ⟨F, hF⟩ : ∃ F, Lx.put5 (w2.setCell ⟨R + 1, 2, none⟩ (.int .i64 (n : Int))) R k (at0 : Int) (n : Int) m x = F := ⟨_, rfl⟩
    have HF := Lx.put5_at HR3.out k (at0 : Int) (n : Int) m x
    have HFS := Lx.put5_scan (HSC3.out.other (R + 1) 2 (.int .i64 (n : Int)) hBT) (Ne.symm hBR) k (at0 : Int) (n : Int) m x
    have HFC := Lx.put5_chg (Lx.Chg.of_chg2 hb2 (HCH3.out.setT 2 (.int .i64 (n : Int))) (by omega)) (Nat.le_of_eq hRR) k (at0 : Int) (n : Int) m x
    unfold Lx.put5 at hF
    rw [hF]
    have HF' : Lx.TkAt F R k (at0 : Int) (n : Int) m x := by rw [← hF]; exact HF
    have HFS' : Lx.Scan F B s (n) := by rw [← hF]; exact HFS
    have HFC' : Lx.Chg B w F := by rw [← hF]; exact HFC
    clear HF HFS HFC hF
    have f0 := HF'.c0
    have f1 := HF'.c1
    have f2 := HF'.c2
    have f3 := HF'.c3
    have f4 := HF'.c4
    have fz := HF'.fz
    exact bodyPost_ret (v := .tuple #[.agg #[.int .i64 k, .int .i64 (at0 : Int), .int .i64 (n : Int), .int .i64 m, .string x], .int .i64 cc]) (by simp [results, Try.results39, go_sem, f0, f1, f2, f3, f4]) rfl ⟨n, k, m, x, cc, by rfl, by omega, HFS', HFC', by rw [HR0]; exact HFT.out⟩
   case false =>
    have HR0 : Lx.word (Lx.tl s at0) = Lx.run (Lx.tl s at0) := HW3.out.trans (if_neg (by rw [show (d == 92) = false from b92.trans f92]; simp))
    clear b92 HW3
    go_wp2_with fail
    refine (run_any B (R + 1) at0 (at0 : Int) s _ hscY hTY hBT hs (by omega) hends).mono ?_
    intro e w2 hpost
    obtain ⟨n, k, m, x, cc, rfl, hn, hsc3, htk3, hch3, HFT⟩ := hpost.open
    clear hpost
    have hR3 := (hRX.out).chg2 hch3 hBR hTR
    have HCH3 := Lib.hid (hchX.out.trans hch3)
    have HSC3 := Lib.hid hsc3
    have b1 := hsc3.c1
    have d2 := htk3.c2
    have z2 := htk3.fz
    have t3 := htk3.set2 (n : Int)
    have R3 := hR3.other (R + 1) 2 (.int .i64 (n : Int)) hTR
    have u0 := t3.c0
    have u1 := t3.c1
    have u2 := t3.c2
    have u3 := t3.c3
    have u4 := t3.c4
    have r0 := R3.c0
    have r1 := R3.c1
    have r2 := R3.c2
    have r3 := R3.c3
    have r4 := R3.c4
    have rz := R3.fz
    have HR3 := Lib.hid R3
    clear hsc3 htk3 t3 R3 hR3 hch3
    go_wp2
    obtain ⟨F, hF⟩ : ∃ F, Lx.put5 (w2.setCell ⟨R + 1, 2, none⟩ (.int .i64 (n : Int))) R k (at0 : Int) (n : Int) m x = F := ⟨_, rfl⟩
    have HF := Lx.put5_at HR3.out k (at0 : Int) (n : Int) m x
    have HFS := Lx.put5_scan (HSC3.out.other (R + 1) 2 (.int .i64 (n : Int)) hBT) (Ne.symm hBR) k (at0 : Int) (n : Int) m x
    have HFC := Lx.put5_chg (Lx.Chg.of_chg2 hb2 (HCH3.out.setT 2 (.int .i64 (n : Int))) (by omega)) (Nat.le_of_eq hRR) k (at0 : Int) (n : Int) m x
    unfold Lx.put5 at hF
    rw [hF]
    have HF' : Lx.TkAt F R k (at0 : Int) (n : Int) m x := by rw [← hF]; exact HF
    have HFS' : Lx.Scan F B s (n) := by rw [← hF]; exact HFS
    have HFC' : Lx.Chg B w F := by rw [← hF]; exact HFC
    clear HF HFS HFC hF
    have f0 := HF'.c0
    have f1 := HF'.c1
    have f2 := HF'.c2
    have f3 := HF'.c3
    have f4 := HF'.c4
    have fz := HF'.fz
    exact bodyPost_ret (v := .tuple #[.agg #[.int .i64 k, .int .i64 (at0 : Int), .int .i64 (n : Int), .int .i64 m, .string x], .int .i64 cc]) (by simp [results, Try.results39, go_sem, f0, f1, f2, f3, f4]) rfl ⟨n, k, m, x, cc, by rfl, by omega, HFS', HFC', by rw [HR0]; exact HFT.out⟩
end Go.Proofs.Ytcopdfihaheplaa
