/-
  table.Table: Shards, Clone.
-/
import Derived.Test.YtihfflinkmceaaaTbGet
import Derived.Shelf.SlMaps.Clone
import Derived.Deep.MidRow
namespace Go.Proofs.Ytihfflinkmceaaa
open Go.RowKit Go.Maps Go.WideMaps Go.Sort
set_option maxRecDepth 100000 in
theorem mapClone_any (b : Nat) (es : Array MapEntry) (clock : Nat) (w : World) (hb : w.heap[b]? = some (.map es clock)) :
    Calls Try.prog 33 #[.map (some b)] w fun e w' => e = .returned (.map (some w.heap.size)) ∧ w' = w.alloc (.map es clock) := by
  have hq := fun w => run_eql_map_nil_sl (P := Try.prog) w 30 _ _ (some b) Try.underlying30
  go_enter Try.func33, Try.ntmps33
  go_wp2
  rw [run_callFunc_extern Try.func43 (by kernel_rfl) (by kernel_rfl) (by kernel_rfl) (e := Extern.MapsClone.clone) (by kernel_rfl), run_maps_clone_sl w 30 hb]
  simp only [Result.andThen]
  rw [Oper.upon_value]
  go_wp2
  rw [run_typeAssert_map_sl _ 30 _ _ _ _ Try.underlying30]
  simp only [Result.andThen]
  rw [Oper.upon_value]
  go_wp2
  go_ret
  exact ⟨rfl, rfl⟩
set_option maxRecDepth 100000 in
theorem Shards_any {tb n lo hi : Nat} {B : Nat → Nat} {L : List (Tb.Nm × Tb.V)} (w : World) (h : Tb.Tab w tb n lo hi B L) :
    Calls Try.prog 20 #[.pointer (some ⟨tb, 0, none⟩)] w fun e w' => e = .returned (.int .i64 (n : Int)) ∧ w = w' := by
  have h1 := h.n1
  have h0 := h.c0
  clear h
  go_enter Try.func20, Try.ntmps20
  go_wp2_with fail
  refine (none_yes tb n w h0 h1).mono ?_
  rintro e w2 ⟨rfl, rfl⟩
  go_wp2
  go_ret
  exact ⟨rfl, rfl⟩
namespace Tb
/-- a table's clone, of which k maps are made -/
structure Cloning (w wr : World) (T n k : Nat) (B : Nat → Nat) : Prop where
  size : wr.heap.size = w.heap.size + 1 + k
  c : ∀ j, j < 18 → (j = 0 ∨ k < j) → wr.cell? ⟨w.heap.size, j, none⟩ = w.cell? ⟨T, j, none⟩
  cl : ∀ i, i < k → wr.cell? ⟨w.heap.size, 1 + i, none⟩ = some (.map (some (w.heap.size + 1 + i)))
  fz : ∀ j, wr.frozen? ⟨w.heap.size, j, none⟩ = false
  mp : ∀ i, i < k → wr.heap[w.heap.size + 1 + i]? = w.heap[B i]?
  bel : Below w.heap.size w wr
theorem size_setCells (b : Nat) : ∀ (vs : List Value) (o : Nat) (w : World), (w.setCells b o vs).heap.size = w.heap.size
  | [], _, _ => rfl
  | v :: r, o, w => by rw [World.setCells, size_setCells b r (o + 1)]; simp [World.setCell]
theorem frozen_setCells (b : Nat) : ∀ (vs : List Value) (o : Nat) (w : World) (a : Addr), (w.setCells b o vs).frozen? a = w.frozen? a
  | [], _, _, _ => rfl
  | v :: r, o, w, a => by rw [World.setCells, frozen_setCells b r (o + 1), World.frozen?_setCell]
theorem below_setCells {n b : Nat} (hb : n ≤ b) {a : World} : ∀ (vs : List Value) (o : Nat) (w : World), Below n a w → Below n a (w.setCells b o vs)
  | [], _, _, h => h
  | v :: r, o, w, h => by rw [World.setCells]; exact below_setCells hb r (o + 1) _ (h.setCell (p := ⟨b, o, none⟩) hb v)
theorem Cloning.step {w wr : World} {T n k lo hi : Nat} {B : Nat → Nat} {L : List (Nm × V)} (h : Cloning w wr T n k B) (ht : Tab w T n lo hi B L) (hk : k < n) (es : Array MapEntry) (clock : Nat) (hm : w.heap[B k]? = some (.map es clock)) :
    (wr.alloc (.map es clock)).cell? ⟨w.heap.size, 1 + k, none⟩ = some (.map (some (B k))) ∧ (wr.alloc (.map es clock)).frozen? ⟨w.heap.size, 1 + k, none⟩ = false ∧ Cloning w ((wr.alloc (.map es clock)).setCell ⟨w.heap.size, 1 + k, none⟩ (.map (some wr.heap.size))) T n (k + 1) B := by
  have h16 := ht.n16
  have hsz := h.size
  have hlt : w.heap.size < wr.heap.size := by omega
  have hb : Below wr.heap.size wr (wr.alloc (.map es clock)) := (Below.refl _ wr).alloc (Nat.le_refl _) _
  have hc : ∀ j, (wr.alloc (.map es clock)).cell? ⟨w.heap.size, j, none⟩ = wr.cell? ⟨w.heap.size, j, none⟩ := fun j => hb.cell (p := ⟨w.heap.size, j, none⟩) hlt
  have hf : ∀ j, (wr.alloc (.map es clock)).frozen? ⟨w.heap.size, j, none⟩ = wr.frozen? ⟨w.heap.size, j, none⟩ := fun j => hb.frozen (p := ⟨w.heap.size, j, none⟩) hlt
  have hck := (hc (1 + k)).trans ((h.c (1 + k) (by omega) (.inr (by omega))).trans (ht.cl k hk))
  have hne : ∀ j, j ≠ 1 + k → ((wr.alloc (.map es clock)).setCell ⟨w.heap.size, 1 + k, none⟩ (.map (some wr.heap.size))).cell? ⟨w.heap.size, j, none⟩ = wr.cell? ⟨w.heap.size, j, none⟩ := fun j hj => by
    have hna : (⟨w.heap.size, 1 + k, none⟩ : Addr) ≠ ⟨w.heap.size, j, none⟩ := by intro e; cases e; exact hj rfl
    exact (World.cell?_setCell_other (wr.alloc (.map es clock)) _ _ _ hna).trans (hc j)
  refine ⟨hck, (hf _).trans (h.fz _), ⟨by simp [World.setCell]; omega, fun j h1 h2 => (hne j (by omega)).trans (h.c j h1 (by omega)), fun i hi => ?_, fun j => ?_, fun i hi => ?_, ?_⟩⟩
  · by_cases e : i = k
    · subst e
      rw [World.cell?_setCell_same' _ _ _ (by rw [hck]; rfl), hsz]
    · exact (hne (1 + i) (by omega)).trans (h.cl i (by omega))
  · rw [World.frozen?_setCell]; exact (hf j).trans (h.fz j)
  · rw [Below.heap_setCell _ _ _ _ (by simp; omega)]
    by_cases e : i = k
    · subst e
      rw [← hsz, hm]; exact World.alloc_heap_new wr _
    · rw [hb.block _ (by omega)]; exact h.mp i (by omega)
  · exact (h.bel.trans ((Below.refl _ wr).alloc (by omega) _)).setCell (p := ⟨w.heap.size, 1 + k, none⟩) (Nat.le_refl _) _
theorem Cloning.done {w wr : World} {T n lo hi : Nat} {B : Nat → Nat} {L : List (Nm × V)} (h : Cloning w wr T n n B) (ht : Tab w T n lo hi B L) : Tab wr w.heap.size n w.heap.size wr.heap.size (fun i => w.heap.size + 1 + i) L := by
  have h16 := ht.n16
  refine ⟨ht.n1, h16, (h.c 0 (by omega) (.inl rfl)).trans ht.c0, h.cl, fun i a b => (h.c (1 + i) (by omega) (.inr (by omega))).trans (ht.cn i a b), (h.c 17 (by omega) (.inr (by omega))).trans ht.cm, h.fz, ⟨Nat.le_refl _, by rw [h.size]; omega⟩, fun i hi => ⟨by omega, by rw [h.size]; omega, by omega⟩, fun i j _ _ e => by omega, fun i hi => ?_, ht.rise, ht.len, Nat.le_refl _⟩
  obtain ⟨k, hle, D, ⟨es, clock, e1, e2⟩, h2⟩ := ht.mp i hi
  exact ⟨k, hle, D, ⟨es, clock, (h.mp i hi).trans e1, e2⟩, h2⟩
abbrev zeroT : Array Value := #[Value.int .i64 0, Value.map none, Value.map none, Value.map none, Value.map none, Value.map none, Value.map none, Value.map none, Value.map none, Value.map none, Value.map none, Value.map none, Value.map none, Value.map none, Value.map none, Value.map none, Value.map none, Value.int .i64 0]
theorem Cloning.start (w : World) {T n lo hi : Nat} {B : Nat → Nat} {L : List (Nm × V)} (cs : List Value) (hl : cs.length = 18) (hc : w.rangeAt T 0 cs) (_h : Tab w T n lo hi B L) : (w.alloc (.cells zeroT 57)).there w.heap.size 0 cs.toArray.size ∧ Cloning w ((w.alloc (.cells zeroT 57)).setCells w.heap.size 0 cs.toArray.toList) T n 0 B := by
  have hh := World.alloc_heap_new w (.cells zeroT 57)
  have hth : (w.alloc (.cells zeroT 57)).there w.heap.size 0 18 := fun j hj => by
    constructor
    · have e : (w.alloc (.cells zeroT 57)).cell? ⟨w.heap.size, 0 + j, none⟩ = zeroT[0 + j]? := by unfold World.cell?; rw [hh]; rfl
      rw [e, Array.getElem?_eq_getElem (by show 0 + j < 18; omega)]; rfl
    · unfold World.frozen?; rw [hh]; simp
  have hr := World.rangeAt_setCells_same (w.alloc (.cells zeroT 57)) w.heap.size 0 cs (by rw [hl]; exact hth)
  have h18 : cs.toArray.size = 18 := by simp [hl]
  refine ⟨by rw [h18]; exact hth, ?_⟩
  rw [List.toList_toArray]
  refine ⟨by rw [size_setCells]; simp, fun j hj _ => ?_, fun i hi => absurd hi (by omega), fun j => ?_, fun i hi => absurd hi (by omega), ?_⟩
  · obtain ⟨v, hv⟩ : ∃ v, cs[j]? = some v := ⟨cs[j], List.getElem?_eq_getElem (by omega)⟩
    have e1 := hr j v hv
    have e2 := hc j v hv
    rw [Nat.zero_add] at e1 e2
    exact e1.trans e2.symm
  · rw [frozen_setCells]; unfold World.frozen?; rw [hh]; simp
  · exact below_setCells (Nat.le_refl _) cs 0 _ ((Below.refl _ w).alloc (Nat.le_refl _) _)
theorem Tab.cells {w : World} {T n lo hi : Nat} {B : Nat → Nat} {L : List (Nm × V)} (h : Tab w T n lo hi B L) : ∃ cs : List Value, cs.length = 18 ∧ w.rangeAt T 0 cs ∧ ∀ v ∈ cs, v.oneCell' = true := by
  have hc : ∀ j, j < 18 → ∃ v, w.cell? ⟨T, j, none⟩ = some v ∧ v.oneCell' = true := fun j hj => by
    by_cases h0 : j = 0
    · subst h0; exact ⟨_, h.c0, rfl⟩
    · by_cases h17 : j = 17
      · subst h17; exact ⟨_, h.cm, rfl⟩
      · obtain ⟨i, rfl⟩ : ∃ i, j = 1 + i := ⟨j - 1, by omega⟩
        by_cases hi' : i < n
        · exact ⟨_, h.cl i hi', rfl⟩
        · exact ⟨_, h.cn i (by omega) (by omega), rfl⟩
  refine ⟨(List.range 18).map fun j => (w.cell? ⟨T, j, none⟩).getD undef, by simp, fun j v hv => ?_, fun v hv => ?_⟩
  · obtain ⟨hj, rfl⟩ := List.getElem?_eq_some_iff.1 hv
    have hj' : j < 18 := by simpa using hj
    obtain ⟨u, hu, _⟩ := hc j hj'
    simp [hu]
  · obtain ⟨j, hj, rfl⟩ := List.mem_map.1 hv
    obtain ⟨u, hu, h1⟩ := hc j (by simpa using hj)
    simp only [hu, Option.getD_some]
    exact h1
theorem infoTab : (Try.prog.info? 57).map (·.size) = some 18 := by kernel_rfl
end Tb
set_option maxRecDepth 100000 in
set_option maxHeartbeats 2000000 in
theorem Clone_any {T n lo hi : Nat} {B : Nat → Nat} {L : List (Tb.Nm × Tb.V)} (w : World) (h : Tb.Tab w T n lo hi B L) :
    Calls Try.prog 21 #[.pointer (some ⟨T, 0, none⟩)] w fun e w' => e = .returned (.pointer (some ⟨w.heap.size, 0, none⟩)) ∧ Below w.heap.size w w' ∧ Tb.Tab w' w.heap.size n w.heap.size w'.heap.size (fun i => w.heap.size + 1 + i) L := by
  have h1 := h.n1
  have h0 := h.c0
  have h16 := h.n16
  have hTl : T < w.heap.size := Nat.lt_of_lt_of_le h.lt.2 h.hh
  obtain ⟨cs, hcl, hcs, hc1⟩ := h.cells
  obtain ⟨hth, hM⟩ := Tb.Cloning.start w cs hcl hcs h
  have h0' : ((w.alloc (.cells Tb.zeroT 57)).setCells w.heap.size 0 cs.toArray.toList).cell? ⟨T, 0, none⟩ = some (.int .i64 (n : Int)) := (hM.bel.cell (p := ⟨T, 0, none⟩) hTl).trans h0
  have hinf : (Try.prog.info? 57).map (·.size) = some cs.length := by rw [hcl]; exact Tb.infoTab
  have hinf2 : (Try.prog.info? 57).map (·.size) = some cs.toArray.size := by rw [List.size_toArray]; exact hinf
  have hone := all_oneCell_toArray hc1
  have HT := Lib.hid h
  have HM0 := Lib.hid hM
  have H00 := Lib.hid h0'
  have HTH := Lib.hid hth
  have HONE := Lib.hid hone
  have HINF := Lib.hid hinf
  have HINF2 := Lib.hid hinf2
  have HCS := Lib.hid hcs
  clear h hM h0' hcl hcs hc1 hth hone hinf hinf2
  go_enter Try.func21, Try.ntmps21
  go_wp2_with fail
  refine (none_yes T n w h0 h1).mono ?_
  rintro e w2 ⟨rfl, rfl⟩
  go_wp2_with (first
    | (with_reducible refine wpList_load_mid rfl 57 (.tmp 8) rfl T 0 rfl cs _ HCS.out Try.underlying57 rfl HINF.out ?_)
    | (refine wpList_store_mid rfl 57 (.tmp 3) (.tmp 9) rfl w.heap.size 0 cs.toArray rfl rfl HTH.out HINF2.out HONE.out ?_; obtain ⟨w1, hw1⟩ : ∃ w1, (w.alloc (.cells Tb.zeroT 57)).setCells w.heap.size 0 cs.toArray.toList = w1 := ⟨_, rfl⟩; have HM1 := HM0; have h01 := H00.out; rw [hw1] at HM1 h01; (show wpList _ _ _ _ _ ((w.alloc (.cells Tb.zeroT 57)).setCells w.heap.size 0 cs.toArray.toList)); rw [hw1]; clear hw1 H00 HM0 h0))
  go_loopw [14] (fun v wr => ∃ k : Nat, v = .int .i64 k ∧ k ≤ n ∧ Hid (Tb.Cloning w wr T n k B)) (fun v _ => n - (intOf v).toNat)
  case atStart => exact ⟨0, rfl, by omega, HM1⟩
  case round =>
    obtain ⟨k, rfl, hk, HM⟩ := hrel
    clear HM1 h01
    by_cases hlt : k < n
    · have hlti : (k : Int) < (n : Int) := by omega
      have hk16 : (k : Int) < 16 := by omega
      have hB := HM.out.bel
      have hck : wr.cell? ⟨T, 1 + k, none⟩ = some (.map (some (B k))) := (hB.cell (p := ⟨T, 1 + k, none⟩) hTl).trans (HT.out.cl k hlt)
      obtain ⟨_, _, _, ⟨es, clock, e1, _⟩, _⟩ := HT.out.mp k hlt
      have hbk := HT.out.bl k hlt
      have hhh := HT.out.hh
      have e2 : wr.heap[B k]? = some (.map es clock) := (hB.block (B k) (by omega)).trans e1
      have hmc := mapClone_any (B k) es clock wr e2
      obtain ⟨wm, hwm⟩ : ∃ wm, wr.alloc (.map es clock) = wm := ⟨_, rfl⟩
      have hsz := HM.out.size
      have hA := HM.out.step HT.out hlt es clock e1
      rw [hwm] at hA hmc
      obtain ⟨q1, q2, hN⟩ := hA
      rw [hsz] at hN hmc
      have HN := Lib.hid hN
      clear hN HM e1 e2 hB hsz
      go_wp2_with (go_at_call 33; refine hmc.mono ?_; rintro e w2 ⟨rfl, rfl⟩)
      go_roundw
      case rel => exact ⟨k + 1, by simp, by omega, HN⟩
      case measure => simp [intOf]; omega
    · obtain rfl : k = n := by omega
      go_wp2
      go_ret
      exact ⟨rfl, HM.out.bel, HM.out.done HT.out⟩
end Go.Proofs.Ytihfflinkmceaaa
