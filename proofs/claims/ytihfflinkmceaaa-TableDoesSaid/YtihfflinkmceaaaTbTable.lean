/-
  table.Table: none, Shard, New.
-/
import Derived.Test.YtihfflinkmceaaaTbFind
import Derived.Test.YtihfflinkmceaaaTbKeep
import Derived.Laws.IdiomStrings
namespace Go.Proofs.Ytihfflinkmceaaa
open Go.RowKit Go.Maps Go.WideMaps
namespace Tb
/-- a name's number -/
def hash (s : Nm) : Nat := s.foldl (fun n c => (n * 31 + c.toNat) % 65521) 0
theorem hash_snoc (s : Nm) (c : UInt8) : hash (s ++ [c]) = (hash s * 31 + c.toNat) % 65521 := by simp [hash]
theorem hash_lt (s : Nm) : hash s < 65521 := by
  unfold hash
  have : ∀ (l : Nm) (a : Nat), a < 65521 → l.foldl (fun n c => (n * 31 + c.toNat) % 65521) a < 65521 := by
    intro l
    induction l with
    | nil => intro a h; exact h
    | cons c r ih => intro a _; exact ih _ (Nat.mod_lt _ (by omega))
  exact this s 0 (by omega)
/-- a name's shard -/
def shard (n : Nat) (s : Nm) : Nat := hash s % n
theorem shard_lt {n : Nat} (h : 1 ≤ n) (s : Nm) : shard n s < n := Nat.mod_lt _ (by omega)
end Tb
set_option maxRecDepth 100000 in
theorem none_yes (tb n : Nat) (w : World) (h : w.cell? ⟨tb, 0, none⟩ = some (.int .i64 (n : Int))) (hn : 1 ≤ n) :
    Calls Try.prog 24 #[.pointer (some ⟨tb, 0, none⟩)] w fun e w' => e = .returned (.bool false) ∧ w = w' := by
  have h0 : ((n : Int) == 0) = false := by simp; omega
  go_enter Try.func24, Try.ntmps24
  go_wp2
  go_ret
  exact ⟨rfl, rfl⟩
set_option maxRecDepth 100000 in
set_option maxHeartbeats 1000000 in
theorem Shard_any (tb n : Nat) (s : ByteArray) (w : World) (h : w.cell? ⟨tb, 0, none⟩ = some (.int .i64 (n : Int))) (hn : 1 ≤ n) (hn16 : n ≤ 16) (hl : tb < w.heap.size) (hs : s.size ≤ 1000) :
    Calls Try.prog 10 #[.pointer (some ⟨tb, 0, none⟩), .string s] w fun e w' => e = .returned (.int .i64 (Tb.shard n s.data.toList : Nat)) ∧ Below w.heap.size w w' := by
  obtain ⟨cap, hcap⟩ : ∃ cap, cap = grownCap w s.size 0 5 := ⟨_, rfl⟩
  have hconv := run_bytes_of_string (P := Try.prog) w 9 68 5 s Try.underlying9 Try.underlying68 Try.underlying5
  rw [← hcap] at hconv
  obtain ⟨w1, hw1⟩ : ∃ w1, w1 = w.drew.alloc (.cells (bytesRow s cap) 5 ((bytesRow s cap).size, (bytesRow s cap).size + 1)) := ⟨_, rfl⟩
  have hbel : Below w.heap.size w w1 := by rw [hw1]; exact (Below.refl _ w).drew.alloc (Nat.le_refl _) _
  have hby : ∀ j (hj : j < s.size), w1.cell? ⟨w.heap.size, j, none⟩ = some (.int .u8 (s[j].toNat : Int)) := fun j hj => by
    rw [hw1]
    exact (World.cell?_alloc_mark w.drew _ _ _ j).trans (bytesRow_at s cap j hj)
  rw [← hw1] at hconv
  clear hcap hw1
  have h1 : w1.cell? ⟨tb, 0, none⟩ = some (.int .i64 (n : Int)) := (hbel.cell (p := ⟨tb, 0, none⟩) hl).trans h
  go_enter Try.func10, Try.ntmps10
  go_wp2_with fail
  refine (none_yes tb n w h hn).mono ?_
  rintro e w2 ⟨rfl, rfl⟩
  go_wp2
  clear hconv
  go_loopw [5, 13] (fun m v wr => ∃ k : Nat, v = .int .i64 k ∧ k ≤ s.size ∧ m = .int .i64 (Tb.hash (s.data.toList.take k) : Nat) ∧ wr = w1) (fun _ v _ => s.size - (intOf v).toNat)
  case atStart => exact ⟨0, rfl, by omega, by simp [Tb.hash], rfl⟩
  case round =>
    obtain ⟨k, rfl, hk, rfl, rfl⟩ := hrel
    by_cases hlt : k < s.size
    · have hlti : (k : Int) < (s.size : Int) := by omega
      have hc := hby k hlt
      have hst : s.data.toList.take (k + 1) = s.data.toList.take k ++ [s[k]] := by
        rw [List.take_add_one, List.getElem?_eq_getElem (by rw [Fx.size_toList]; exact hlt)]; rfl
      have hh := Tb.hash_snoc (s.data.toList.take k) s[k]
      rw [← hst] at hh
      have hlt2 := Tb.hash_lt (s.data.toList.take k)
      have hc2 := s[k].toNat_lt
      obtain ⟨a, ha⟩ : ∃ a, a = Tb.hash (s.data.toList.take k) := ⟨_, rfl⟩
      obtain ⟨c, hcc⟩ : ∃ c, c = s[k].toNat := ⟨_, rfl⟩
      rw [← ha] at hh hlt2 ⊢
      rw [← hcc] at hh hc hc2
      have HH := Lib.hid hh
      clear hh hst ha hcc hby
      go_wp2
      go_roundw
      case rel => exact ⟨k + 1, by simp, by omega, by rw [HH.out]; simp, trivial⟩
      case measure => simp [intOf]; omega
    · obtain rfl : k = s.size := by omega
      have hta : s.data.toList.take s.size = s.data.toList := by rw [← Fx.size_toList]; exact List.take_length
      rw [hta]
      have HS : Hid (Tb.shard n s.data.toList = Tb.hash s.data.toList % n) := rfl
      obtain ⟨a, ha⟩ : ∃ a, a = Tb.hash s.data.toList := ⟨_, rfl⟩
      rw [← ha] at HS ⊢
      have hni : (0 : Int) < (n : Int) := by omega
      have hnz : ((n : Int) == 0) = false := by simp; omega
      clear ha hta hby
      go_wp2
      go_ret
      refine ⟨?_, hbel⟩
      rw [HS.out]
      show Ending.returned (.int .i64 ((a : Int) % (n : Int))) = _
      rw [Int.natCast_emod]
namespace Tb
theorem Mp.empty {w : World} {b : Nat} (h : w.heap[b]? = some (.map #[] 0)) : Mp w b 0 fun _ => none :=
  ⟨_, ⟨#[], 0, h, ⟨by simp, MapKept.stamped_empty 0, by simp⟩, Nat.le_refl _, rfl⟩, rfl, fun _ => ⟨rfl, fun _ h => by cases h⟩⟩
/-- a table of n shards that holds L, in the blocks from lo to hi -/
structure Tab (w : World) (tb n lo hi : Nat) (B : Nat → Nat) (L : List (Nm × V)) : Prop where
  n1 : 1 ≤ n
  n16 : n ≤ 16
  c0 : w.cell? ⟨tb, 0, none⟩ = some (.int .i64 (n : Int))
  cl : ∀ i, i < n → w.cell? ⟨tb, 1 + i, none⟩ = some (.map (some (B i)))
  cn : ∀ i, n ≤ i → i < 16 → w.cell? ⟨tb, 1 + i, none⟩ = some (.map none)
  cm : w.cell? ⟨tb, 17, none⟩ = some (.int .i64 (L.length : Int))
  fz : ∀ j, w.frozen? ⟨tb, j, none⟩ = false
  lt : lo ≤ tb ∧ tb < hi
  bl : ∀ i, i < n → lo ≤ B i ∧ B i < hi ∧ B i ≠ tb
  inj : ∀ i j, i < n → j < n → B i = B j → i = j
  mp : ∀ i, i < n → ∃ k, k ≤ L.length ∧ Mp w (B i) k (fun s => if shard n s = i then look L s else none)
  rise : Rising L
  len : L.length ≤ 4096
  hh : hi ≤ w.heap.size
/-- what does not touch its blocks leaves a table -/
theorem Tab.keep {w w' : World} {tb n lo hi : Nat} {B : Nat → Nat} {L : List (Nm × V)} (h : Tab w tb n lo hi B L) {S : Nat → Prop} (hk : Keep S w w') (hS : ∀ k, lo ≤ k → k < hi → ¬ S k) : Tab w' tb n lo hi B L := by
  have htb : tb < w.heap.size := Nat.lt_of_lt_of_le h.lt.2 h.hh
  have hnS := hS tb h.lt.1 h.lt.2
  refine ⟨h.n1, h.n16, (hk.cell 0 htb hnS).trans h.c0, fun i hi' => (hk.cell _ htb hnS).trans (h.cl i hi'), fun i h1 h2 => (hk.cell _ htb hnS).trans (h.cn i h1 h2), (hk.cell _ htb hnS).trans h.cm, fun j => (hk.frozen j htb hnS).trans (h.fz j), h.lt, h.bl, h.inj, fun i hi' => ?_, h.rise, h.len, Nat.le_trans h.hh hk.size⟩
  obtain ⟨k, hle, D, ho, h2⟩ := h.mp i hi'
  have hb := h.bl i hi'
  obtain ⟨es, clock, e1, e2⟩ := ho
  exact ⟨k, hle, D, ⟨es, clock, (hk.block (B i) (Nat.lt_of_lt_of_le hb.2.1 h.hh) (hS _ hb.1 hb.2.1)).trans e1, e2⟩, h2⟩
theorem Keep.of_below {w w' : World} (h : Below w.heap.size w w') : Keep (fun _ => False) w w' := (Keep.refl _ w).below h
theorem Tab.below {w w' : World} {tb n lo hi : Nat} {B : Nat → Nat} {L : List (Nm × V)} (h : Tab w tb n lo hi B L) (hb : Below w.heap.size w w') : Tab w' tb n lo hi B L :=
  h.keep (Keep.of_below hb) (fun _ _ _ h => h)
/-- a table of n shards, of which k are made -/
structure Making (w wr : World) (n k : Nat) : Prop where
  size : wr.heap.size = w.heap.size + 1 + k
  c0 : wr.cell? ⟨w.heap.size, 0, none⟩ = some (.int .i64 (n : Int))
  cl : ∀ i, i < k → wr.cell? ⟨w.heap.size, 1 + i, none⟩ = some (.map (some (w.heap.size + 1 + i)))
  cn : ∀ i, k ≤ i → i < 16 → wr.cell? ⟨w.heap.size, 1 + i, none⟩ = some (.map none)
  cm : wr.cell? ⟨w.heap.size, 17, none⟩ = some (.int .i64 0)
  fz : ∀ j, wr.frozen? ⟨w.heap.size, j, none⟩ = false
  mp : ∀ i, i < k → wr.heap[w.heap.size + 1 + i]? = some (.map #[] 0)
  bel : Below w.heap.size w wr
theorem Making.start (w : World) (n : Nat) : Making w (w.alloc (.cells #[.int .i64 (n : Int), .map none, .map none, .map none, .map none, .map none, .map none, .map none, .map none, .map none, .map none, .map none, .map none, .map none, .map none, .map none, .map none, .int .i64 0] 57)) n 0 := by
  have hh := World.alloc_heap_new w (.cells #[.int .i64 (n : Int), .map none, .map none, .map none, .map none, .map none, .map none, .map none, .map none, .map none, .map none, .map none, .map none, .map none, .map none, .map none, .map none, .int .i64 0] 57)
  refine ⟨by simp, ?_, fun i h => absurd h (by omega), fun i _ h => ?_, ?_, fun j => ?_, fun i h => absurd h (by omega), (Below.refl _ w).alloc (Nat.le_refl _) _⟩
  · unfold World.cell?; rw [hh]; rfl
  · unfold World.cell?; rw [hh]
    have : i = 0 ∨ i = 1 ∨ i = 2 ∨ i = 3 ∨ i = 4 ∨ i = 5 ∨ i = 6 ∨ i = 7 ∨ i = 8 ∨ i = 9 ∨ i = 10 ∨ i = 11 ∨ i = 12 ∨ i = 13 ∨ i = 14 ∨ i = 15 := by omega
    rcases this with rfl | rfl | rfl | rfl | rfl | rfl | rfl | rfl | rfl | rfl | rfl | rfl | rfl | rfl | rfl | rfl <;> rfl
  · unfold World.cell?; rw [hh]; rfl
  · unfold World.frozen?; rw [hh]; simp
theorem Making.step {w wr : World} {n k : Nat} (h : Making w wr n k) (hk : k < 16) : (wr.alloc (.map #[] 0)).cell? ⟨w.heap.size, 1 + k, none⟩ = some (.map none) ∧ (wr.alloc (.map #[] 0)).frozen? ⟨w.heap.size, 1 + k, none⟩ = false ∧ Making w ((wr.alloc (.map #[] 0)).setCell ⟨w.heap.size, 1 + k, none⟩ (.map (some wr.heap.size))) n (k + 1) := by
  have hsz := h.size
  have hlt : w.heap.size < wr.heap.size := by omega
  have hb : Below wr.heap.size wr (wr.alloc (.map #[] 0)) := (Below.refl _ wr).alloc (Nat.le_refl _) _
  have hc : ∀ j, (wr.alloc (.map #[] 0)).cell? ⟨w.heap.size, j, none⟩ = wr.cell? ⟨w.heap.size, j, none⟩ := fun j => hb.cell (p := ⟨w.heap.size, j, none⟩) hlt
  have hf : ∀ j, (wr.alloc (.map #[] 0)).frozen? ⟨w.heap.size, j, none⟩ = wr.frozen? ⟨w.heap.size, j, none⟩ := fun j => hb.frozen (p := ⟨w.heap.size, j, none⟩) hlt
  have hck := (hc (1 + k)).trans (h.cn k (Nat.le_refl _) hk)
  have hne : ∀ j, j ≠ 1 + k → ((wr.alloc (.map #[] 0)).setCell ⟨w.heap.size, 1 + k, none⟩ (.map (some wr.heap.size))).cell? ⟨w.heap.size, j, none⟩ = wr.cell? ⟨w.heap.size, j, none⟩ := fun j hj => by
    have hna : (⟨w.heap.size, 1 + k, none⟩ : Addr) ≠ ⟨w.heap.size, j, none⟩ := by intro e; cases e; exact hj rfl
    exact (World.cell?_setCell_other (wr.alloc (.map #[] 0)) _ _ _ hna).trans (hc j)
  refine ⟨hck, (hf _).trans (h.fz _), ⟨by simp [World.setCell]; omega, (hne 0 (by omega)).trans h.c0, fun i hi => ?_, fun i h1 h2 => (hne (1 + i) (by omega)).trans (h.cn i (by omega) h2), (hne 17 (by omega)).trans h.cm, fun j => ?_, fun i hi => ?_, ?_⟩⟩
  · by_cases e : i = k
    · subst e
      rw [World.cell?_setCell_same' _ _ _ (by rw [hck]; rfl), hsz]
    · exact (hne (1 + i) (by omega)).trans (h.cl i (by omega))
  · rw [World.frozen?_setCell]; exact (hf j).trans (h.fz j)
  · rw [Below.heap_setCell _ _ _ _ (by simp; omega)]
    by_cases e : i = k
    · subst e
      rw [← hsz]; exact World.alloc_heap_new wr _
    · rw [hb.block _ (by omega)]; exact h.mp i (by omega)
  · exact (h.bel.trans ((Below.refl _ wr).alloc (by omega) _)).setCell (p := ⟨w.heap.size, 1 + k, none⟩) (Nat.le_refl _) _
end Tb
set_option maxRecDepth 100000 in
set_option maxHeartbeats 1000000 in
theorem New_any (n : Nat) (h1 : 1 ≤ n) (h16 : n ≤ 16) (w : World) :
    Calls Try.prog 8 #[.int .i64 (n : Int)] w fun e w' => e = .returned (.tuple #[.pointer (some ⟨w.heap.size, 0, none⟩), .int .i64 0]) ∧ Below w.heap.size w w' ∧ Tb.Tab w' w.heap.size n w.heap.size w'.heap.size (fun i => w.heap.size + 1 + i) [] := by
  have h1i : ¬ (n : Int) < 1 := by omega
  have h16i : ¬ (16 : Int) < (n : Int) := by omega
  have hmm := @run_makeMap Try.prog
  go_enter Try.func8, Try.ntmps8
  go_wp2
  obtain ⟨w1, hw1⟩ : ∃ w1, w.alloc (.cells #[.int .i64 (n : Int), .map none, .map none, .map none, .map none, .map none, .map none, .map none, .map none, .map none, .map none, .map none, .map none, .map none, .map none, .map none, .map none, .int .i64 0] 57) = w1 := ⟨_, rfl⟩
  have hM := Tb.Making.start w n
  rw [hw1] at hM
  rw [hw1]
  clear hw1
  go_loopw [5, 16] (fun _ v wr => ∃ k : Nat, v = .int .i64 k ∧ k ≤ n ∧ Hid (Tb.Making w wr n k)) (fun _ v _ => n - (intOf v).toNat)
  case atStart => exact ⟨0, rfl, by omega, hM⟩
  case round =>
    obtain ⟨k, rfl, hk, HM⟩ := hrel
    by_cases hlt : k < n
    · have hlti : (k : Int) < (n : Int) := by omega
      have hk16 : (k : Int) < 16 := by omega
      obtain ⟨wm, hwm⟩ : ∃ wm, wr.alloc (.map #[] 0) = wm := ⟨_, rfl⟩
      have hsz := HM.out.size
      have hA := HM.out.step (by omega : k < 16)
      rw [hwm] at hA
      obtain ⟨e1, e2, hN⟩ := hA
      rw [hsz] at hN
      have HN := Lib.hid hN
      clear hN HM hM
      go_wp2
      go_roundw
      case rel => exact ⟨k + 1, by simp, by omega, HN⟩
      case measure => simp [intOf]; omega
    · obtain rfl : k = n := by omega
      clear hM
      go_wp2
      go_ret2
      have h := HM.out
      refine ⟨rfl, h.bel, h1, h16, h.c0, fun i hi => h.cl i hi, fun i a b => h.cn i a b, h.cm, h.fz, ⟨Nat.le_refl _, by rw [h.size]; omega⟩, fun i hi => ⟨by omega, by rw [h.size]; omega, by omega⟩, fun i j _ _ e => by omega, fun i hi => ⟨0, Nat.le_refl _, ?_⟩, List.Pairwise.nil, by simp, Nat.le_refl _⟩
      have e : (fun s => if Tb.shard k s = i then Tb.look [] s else none) = (fun _ => none : Tb.Ctx) := by funext s; split <;> rfl
      rw [e]
      exact Tb.Mp.empty (h.mp i hi)
end Go.Proofs.Ytihfflinkmceaaa
