/-
 datum.Check at a datum without parts.
-/
import Derived.Test.YtcopdfihaheplaaTxD
import Derived.Test.YtcopdfihaheplaaKeep
namespace Go.Proofs.Ytcopdfihaheplaa
open Go.RowKit
theorem Tx.eqlIn_see (d : Nat) (w : World) : (Op.equalIn (d + 1) 27 .nilFunc .nilFunc).run Try.prog w = .ok true w := by
 simp [Op.equalIn, run_underlying Try.underlying27]
theorem Tx.neq_see (w : World) : (binOp .neq 27 .nilFunc .nilFunc).run Try.prog w = .ok (.bool false) w := by
 have h := Tx.eqlIn_see 9999 w
 have h2 : (Op.equal 27 .nilFunc .nilFunc).run Try.prog w = .ok true w := h
 show ((do pure (.bool (!(← Op.equal 27 .nilFunc .nilFunc))) : Sem Value)).run _ _ = _
 rw [Sem.run_bind, h2]
 rfl
structure Tx.Env (w : World) (p d s t : Nat) (a b : Int) : Prop where
 cp : w.cell? ⟨p, 0, none⟩ = some (.int .i64 a)
 cd : w.cell? ⟨d, 0, none⟩ = some (.int .i64 b)
 cs : w.cell? ⟨s, 0, none⟩ = some .nilFunc
 ct : w.cell? ⟨t, 0, none⟩ = some (.bool false)
 fp : w.frozen? ⟨p, 0, none⟩ = false
 fd : w.frozen? ⟨d, 0, none⟩ = false
 lp : p < w.heap.size
 ld : d < w.heap.size
 ls : s < w.heap.size
 lt : t < w.heap.size
theorem Tx.Env.below {w w' : World} {p d s t : Nat} {a b : Int} (h : Tx.Env w p d s t a b) (hb : Below w.heap.size w w') : Tx.Env w' p d s t a b :=
 ⟨(hb.cell (p := ⟨p, 0, none⟩) h.lp).trans h.cp, (hb.cell (p := ⟨d, 0, none⟩) h.ld).trans h.cd, (hb.cell (p := ⟨s, 0, none⟩) h.ls).trans h.cs, (hb.cell (p := ⟨t, 0, none⟩) h.lt).trans h.ct, (hb.frozen (p := ⟨p, 0, none⟩) h.lp).trans h.fp, (hb.frozen (p := ⟨d, 0, none⟩) h.ld).trans h.fd, Nat.lt_of_lt_of_le h.lp hb.size, Nat.lt_of_lt_of_le h.ld hb.size, Nat.lt_of_lt_of_le h.ls hb.size, Nat.lt_of_lt_of_le h.lt hb.size⟩
structure Tx.DAt (w : World) (b : Nat) (k n : Int) (s : ByteArray) : Prop where
 c0 : w.cell? ⟨b, 0, none⟩ = some (.int .i64 k)
 c1 : w.cell? ⟨b, 1, none⟩ = some (.int .i64 n)
 c2 : w.cell? ⟨b, 2, none⟩ = some (.string s)
 c3 : w.cell? ⟨b, 3, none⟩ = some (.slice none 0 0)
 c4 : w.cell? ⟨b, 4, none⟩ = some (.slice none 0 0)
 c5 : w.cell? ⟨b, 5, none⟩ = some (.slice none 0 0)
 lt : b < w.heap.size
theorem Tx.DAt.alloc (w : World) (k n : Int) (s : ByteArray) : Tx.DAt (w.alloc (.cells #[.int .i64 k, .int .i64 n, .string s, .slice none 0 0, .slice none 0 0, .slice none 0 0] 25)) w.heap.size k n s :=
 ⟨by simp [World.cell?_alloc_new], by simp [World.cell?_alloc_new], by simp [World.cell?_alloc_new], by simp [World.cell?_alloc_new], by simp [World.cell?_alloc_new], by simp [World.cell?_alloc_new], by rw [World.size_alloc]; omega⟩
theorem Tx.DAt.below {w w' : World} {b : Nat} {k n : Int} {s : ByteArray} (h : Tx.DAt w b k n s) (hb : Below w.heap.size w w') : Tx.DAt w' b k n s :=
 ⟨(hb.cell (p := ⟨b, 0, none⟩) h.lt).trans h.c0, (hb.cell (p := ⟨b, 1, none⟩) h.lt).trans h.c1, (hb.cell (p := ⟨b, 2, none⟩) h.lt).trans h.c2, (hb.cell (p := ⟨b, 3, none⟩) h.lt).trans h.c3, (hb.cell (p := ⟨b, 4, none⟩) h.lt).trans h.c4, (hb.cell (p := ⟨b, 5, none⟩) h.lt).trans h.c5, Nat.lt_of_lt_of_le h.lt hb.size⟩
set_option maxRecDepth 100000 in
set_option maxHeartbeats 4000000 in
theorem downD_any (k : Nat) (n : Int) (str : ByteArray) (w : World) (p d s t u : Nat) (hE : Tx.Env w p d s t 0 0) (hpd : p ≠ d) (hps : p ≠ s) (hpt : p ≠ t) (hds : d ≠ s) (hdt : d ≠ t) (hs : str.size ≤ 1000000) (hn : -9223372036854775808 ≤ n ∧ n ≤ 9223372036854775807) (hk : 1 ≤ k ∧ k ≤ 5) :
  Calls Try.prog 49 #[.agg #[.int .i64 (k : Int), .int .i64 n, .string str, .slice none 0 0, .slice none 0 0, .slice none 0 0], .int .i64 1, .pointer (some ⟨p, 0, none⟩), .pointer (some ⟨d, 0, none⟩), .pointer (some ⟨s, 0, none⟩), .pointer (some ⟨t, 0, none⟩), .pointer (some ⟨u, 0, none⟩)] w
   fun e w' => e = .returned (.int .i64 (if Tx.ok k n str.data.toList = true then 0 else 20)) ∧ (∃ a b : Int, w'.cell? ⟨p, 0, none⟩ = some (.int .i64 a) ∧ w'.cell? ⟨d, 0, none⟩ = some (.int .i64 b)) ∧ Keep (fun x => x = p ∨ x = d) w w' := by
 have hsg := fun w => single_any k n str w hs hn hk
 obtain ⟨R, hR⟩ : ∃ R, Tx.ok k n str.data.toList = R := ⟨_, rfl⟩
 rw [hR] at hsg ⊢
 clear hR
 obtain ⟨w1, hw1⟩ : ∃ w1, w.alloc (.cells #[.int .i64 (k : Int), .int .i64 n, .string str, .slice none 0 0, .slice none 0 0, .slice none 0 0] 25) = w1 := ⟨_, rfl⟩
 have hb1 : Below w.heap.size w w1 := by rw [← hw1]; exact (Below.refl _ _).alloc (Nat.le_refl _) _
 have hE1 := hE.below hb1
 have hD1 : Tx.DAt w1 w.heap.size k n str := by rw [← hw1]; exact Tx.DAt.alloc w k n str
 obtain ⟨d0, d1, d2, d3, d4, d5, dl⟩ := hD1
 have cp := hE1.cp
 have HE1 := Lib.hid hE1
 have HB1 := Lib.hid hb1
 have HD1 := Lib.hid (show Tx.DAt w1 w.heap.size k n str from ⟨d0, d1, d2, d3, d4, d5, dl⟩)
 clear hE1 hb1 dl
 go_enter Try.func49, Try.ntmps49
 go_wp2_with fail
 refine (hsg _).mono ?_
 rintro e w2 ⟨rfl, hb2⟩
 have hE2 := HE1.out.below hb2
 have hD2 := HD1.out.below hb2
 have HK2 := Lib.hid (((Keep.refl (fun x => x = p ∨ x = d) w).below HB1.out).below hb2)
 have HE2 := Lib.hid hE2
 have HD2 := Lib.hid hD2
 obtain ⟨cp2, cd2, cs2, ct2, fp2, fd2, lp2, ld2, ls2, lt2⟩ := hE2
 obtain ⟨e0, e1, e2, e3, e4, e5, el⟩ := hD2
 clear hb2 hw1 cp d0 d1 d2 d3 d4 d5 hsg
 cases R
 case false =>
  go_wp2
  go_ret
  refine ⟨rfl, ?_, HK2.out⟩
  exact ⟨⟨0, HE2.out.cp⟩, ⟨0, HE2.out.cd⟩⟩
 case true =>
  have hns := Tx.neq_see
  obtain ⟨X, hX⟩ : ∃ X, (w2.setCell ⟨p, 0, none⟩ (.int .i64 1)).setCell ⟨d, 0, none⟩ (.int .i64 1) = X := ⟨_, rfl⟩
  have hsz : X.heap.size = w2.heap.size := by rw [← hX]; simp [World.setCell]
  obtain ⟨w3, hw3⟩ : ∃ w3, X.alloc (.cells #[.slice none 0 0, .slice none 0 0] 23) = w3 := ⟨_, rfl⟩
  have hbX : Below X.heap.size X w3 := by rw [← hw3]; exact (Below.refl _ _).alloc (Nat.le_refl _) _
  have g0 : w3.cell? ⟨w2.heap.size, 0, none⟩ = some (.slice none 0 0) := by rw [← hw3, ← hsz]; simp [World.cell?_alloc_new]
  have g1 : w3.cell? ⟨w2.heap.size, 1, none⟩ = some (.slice none 0 0) := by rw [← hw3, ← hsz]; simp [World.cell?_alloc_new]
  have k1 : w3.cell? ⟨p, 0, none⟩ = some (.int .i64 1) :=
   (hbX.cell (p := ⟨p, 0, none⟩) (by rw [hsz]; exact lp2)).trans (by rw [← hX, World.cell?_setCell_other _ _ _ _ (by simp), World.cell?_setCell_same _ _ _ cp2])
  have k2 : w3.cell? ⟨d, 0, none⟩ = some (.int .i64 1) :=
   (hbX.cell (p := ⟨d, 0, none⟩) (by rw [hsz]; exact ld2)).trans (by rw [← hX]; exact World.cell?_setCell_same _ _ _ (by rw [World.cell?_setCell_other _ _ _ _ (by simp)]; exact cd2))
  have HK3 := Lib.hid (show Keep (fun x => x = p ∨ x = d) w w3 from by
   rw [← hw3, ← hX]
   exact ((HK2.out.setCell (B := p) (.inl rfl) 0 (.int .i64 1)).setCell (B := d) (.inr rfl) 0 (.int .i64 1)).alloc _)
  have HKK := Lib.hid k1
  have HKD := Lib.hid k2
  rw [← hX] at hw3
  clear k1 k2 hbX hX hsz
  go_wp2_with fail
  go_loop [46] (fun v => ∃ i : Nat, v = .int .i64 i ∧ i ≤ 2) (fun v => 2 - (intOf v).toNat)
  case atStart => exact ⟨0, rfl, by omega⟩
  case round =>
   obtain ⟨i, rfl, hi⟩ := hrel
   match i, hi with
   | 0, _ =>
    go_wp2_with fail
    go_loop [52] (fun v => v = .int .i64 0) (fun _ => 0)
    case atStart => rfl
    case round =>
     subst hrel
     go_wp2
     go_round
     case rel => exact ⟨1, rfl, by omega⟩
     case measure => simp [intOf]
   | 1, _ =>
    go_wp2_with fail
    go_loop [52] (fun v => v = .int .i64 0) (fun _ => 0)
    case atStart => rfl
    case round =>
     subst hrel
     go_wp2
     go_round
     case rel => exact ⟨2, rfl, by omega⟩
     case measure => simp [intOf]
   | 2, _ =>
    go_wp2
    go_ret
    refine ⟨rfl, ?_, HK3.out⟩
    exact ⟨⟨1, HKK.out⟩, ⟨1, HKD.out⟩⟩
end Go.Proofs.Ytcopdfihaheplaa
