/-
  table.Table: Define, Assign.
-/
import Derived.Test.YtihfflinkmceaaaTbGet
import Derived.Deep.RegionHeld3
namespace Go.Proofs.Ytihfflinkmceaaa
open Go.RowKit Go.Maps Go.WideMaps Go.Sort
namespace Tb
/-- what Define answers: a fault, an errno -/
def defr (L : List (Nm × V)) (s : Nm) : Int × Int :=
  if Lx.symbol s then (if (look L s).isSome then (0, 0) else if 4096 ≤ L.length then (8, 0) else (0, 0)) else (0, 180)
/-- and what is held behind it -/
def defL (L : List (Nm × V)) (s : Nm) (v : V) : List (Nm × V) :=
  if Lx.symbol s then (if (look L s).isSome then put L s v else if 4096 ≤ L.length then L else put L s v) else L
/-- what Assign answers, and what is held behind it -/
def asr (L : List (Nm × V)) (s : Nm) : Int × Int := if (get L s).2.2 = 0 ∧ (get L s).2.1 = 0 then defr L s else ((get L s).2.1, (get L s).2.2)
def asL (L : List (Nm × V)) (s : Nm) (v : V) : List (Nm × V) := if (get L s).2.2 = 0 ∧ (get L s).2.1 = 0 then defL L s v else L
/-- the blocks from lo to hi -/
def Within (lo hi b : Nat) : Prop := lo ≤ b ∧ b < hi
theorem shard_put (L : List (Nm × V)) (n : Nat) (s : Nm) (v : V) : (fun z => if shard n z = shard n s then look (put L s v) z else none) = upd (fun z => if shard n z = shard n s then look L z else none) s v := by
  funext z
  unfold upd
  by_cases e : z = s
  · subst e; rw [if_pos rfl, if_pos rfl, look_put_same]
  · rw [if_neg e, look_put_other _ _ _ _ e]
theorem shard_put_other (L : List (Nm × V)) (n : Nat) (s : Nm) (v : V) (j : Nat) (hj : j ≠ shard n s) : (fun z => if shard n z = j then look (put L s v) z else none) = (fun z => if shard n z = j then look L z else none) := by
  funext z
  by_cases e : z = s
  · subst e; rw [if_neg (Ne.symm hj), if_neg (Ne.symm hj)]
  · rw [look_put_other _ _ _ _ e]
theorem Tab.put {w w5 : World} {tb n lo hi : Nat} {B : Nat → Nat} {L : List (Nm × V)} (h : Tab w tb n lo hi B L) (s : Nm) (v : V)
    (htb : ∀ j, j ≠ 17 → w5.cell? ⟨tb, j, none⟩ = w.cell? ⟨tb, j, none⟩) (hcm : w5.cell? ⟨tb, 17, none⟩ = some (.int .i64 ((Tb.put L s v).length : Int))) (hfz : ∀ j, w5.frozen? ⟨tb, j, none⟩ = w.frozen? ⟨tb, j, none⟩)
    (hmi : ∃ k, k ≤ (Tb.put L s v).length ∧ Mp w5 (B (shard n s)) k (upd (fun z => if shard n z = shard n s then look L z else none) s v))
    (ho : ∀ b, b ≠ tb → b ≠ B (shard n s) → b < w.heap.size → w5.heap[b]? = w.heap[b]?) (hsz : w.heap.size ≤ w5.heap.size) (hlen : (Tb.put L s v).length ≤ 4096) : Tab w5 tb n lo hi B (Tb.put L s v) := by
  have h16 := h.n16
  refine ⟨h.n1, h.n16, (htb 0 (by omega)).trans h.c0, fun i hi' => (htb _ (by omega)).trans (h.cl i hi'), fun i h1 h2 => (htb _ (by omega)).trans (h.cn i h1 h2), hcm, fun j => (hfz j).trans (h.fz j), h.lt, h.bl, h.inj, fun i hi' => ?_, h.rise.put s v, hlen, Nat.le_trans h.hh hsz⟩
  have hs := shard_lt h.n1 s
  by_cases e : i = shard n s
  · subst e
    rw [shard_put]
    exact hmi
  · rw [shard_put_other L n s v i e]
    obtain ⟨k, hle, D, ho1, h2⟩ := h.mp i hi'
    have hb := h.bl i hi'
    obtain ⟨es, clock, e1, e2⟩ := ho1
    refine ⟨k, ?_, D, ⟨es, clock, (ho (B i) hb.2.2 (fun hc => e (h.inj _ _ hi' hs hc)) (Nat.lt_of_lt_of_le hb.2.1 h.hh)).trans e1, e2⟩, h2⟩
    rw [length_put h.rise]
    split <;> omega
/-- a store into a shard's map, of a name that it holds -/
theorem Tab.store {w : World} {tb n lo hi : Nat} {B : Nat → Nat} {L : List (Nm × V)} (h : Tab w tb n lo hi B L) {s : ByteArray} (hs : s.size ≤ 1000) (v : V) (hl : (look L s.data.toList).isSome = true) :
    ∃ w5, (Instr.mapUpdate 30 (.map (some (B (shard n s.data.toList)))) (.string s) (.agg #[.int .i64 v.1, .int .i64 v.2])).run Try.prog w = .ok () w5 ∧ Tab w5 tb n lo hi B (Tb.put L s.data.toList v) ∧ Keep (Within lo hi) w w5 := by
  have hi' := shard_lt h.n1 s.data.toList
  obtain ⟨k, hk, hm⟩ := h.mp _ hi'
  have hlen := length_put h.rise s.data.toList v
  rw [if_pos hl] at hlen
  have h4 := h.len
  obtain ⟨w5, hrun, hm5, ht⟩ := hm.set (by unfold maxLen; omega) (s := s) (by unfold maxLen; omega) v
  rw [if_pos rfl, if_pos hl] at hm5
  have hg := ht.grown
  have hb := h.bl _ hi'
  have htb : tb < w.heap.size := Nat.lt_of_lt_of_le h.lt.2 h.hh
  have hne : some tb ≠ some (B (shard n s.data.toList)) := fun e => hb.2.2 (by cases e; rfl)
  refine ⟨w5, hrun, h.put s.data.toList v (fun j _ => ?_) ?_ (fun j => ht.frozen _) ⟨k, by omega, hm5⟩ (fun b h1 h2 h3 => hg.block b h3 (fun e => h2 (by cases e; rfl))) hg.size (by omega), ⟨hg.os, hg.tape, hg.output, hg.size, fun b hb1 hb2 => hg.block b hb1 (fun e => hb2 (by cases e; exact ⟨hb.1, hb.2.1⟩))⟩⟩
  · unfold World.cell?; rw [hg.block tb htb hne]
  · rw [hlen, ← h.cm]; unfold World.cell?; rw [hg.block tb htb hne]
/-- of a new name: the count first -/
theorem Tab.store_new {w : World} {tb n lo hi : Nat} {B : Nat → Nat} {L : List (Nm × V)} (h : Tab w tb n lo hi B L) {s : ByteArray} (hs : s.size ≤ 1000) (v : V) (hl : look L s.data.toList = none) (h4 : L.length < 4096) :
    ∃ w5, (Instr.mapUpdate 30 (.map (some (B (shard n s.data.toList)))) (.string s) (.agg #[.int .i64 v.1, .int .i64 v.2])).run Try.prog (w.setCell ⟨tb, 17, none⟩ (.int .i64 ((L.length : Int) + 1))) = .ok () w5 ∧ Tab w5 tb n lo hi B (Tb.put L s.data.toList v) ∧ Keep (Within lo hi) w w5 := by
  have hi' := shard_lt h.n1 s.data.toList
  have htb : tb < w.heap.size := Nat.lt_of_lt_of_le h.lt.2 h.hh
  have hb := h.bl _ hi'
  have hkS : Keep (fun b => b = tb) w (w.setCell ⟨tb, 17, none⟩ (.int .i64 ((L.length : Int) + 1))) := (Keep.refl (fun b => b = tb) w).setCell (B := tb) rfl 17 _
  obtain ⟨k, hk, D, ho1, h2⟩ := h.mp _ hi'
  obtain ⟨es, clock, e1, e2⟩ := ho1
  have hm : Mp (w.setCell ⟨tb, 17, none⟩ (.int .i64 ((L.length : Int) + 1))) (B (shard n s.data.toList)) k _ := ⟨D, ⟨es, clock, (hkS.block _ (Nat.lt_of_lt_of_le hb.2.1 h.hh) hb.2.2).trans e1, e2⟩, h2⟩
  have hlen := length_put h.rise s.data.toList v
  rw [hl] at hlen
  have hlen2 : (Tb.put L s.data.toList v).length = L.length + 1 := hlen
  obtain ⟨w5, hrun, hm5, ht⟩ := hm.set (by unfold maxLen; omega) (s := s) (by unfold maxLen; omega) v
  rw [if_pos rfl, hl] at hm5
  have hm6 : Mp w5 (B (shard n s.data.toList)) (k + 1) _ := hm5
  have hg := ht.grown
  have hne : some tb ≠ some (B (shard n s.data.toList)) := fun e => hb.2.2 (by cases e; rfl)
  have hsz : (w.setCell ⟨tb, 17, none⟩ (.int .i64 ((L.length : Int) + 1))).heap.size = w.heap.size := by simp [World.setCell]
  have hc5 : ∀ j, w5.cell? ⟨tb, j, none⟩ = (w.setCell ⟨tb, 17, none⟩ (.int .i64 ((L.length : Int) + 1))).cell? ⟨tb, j, none⟩ := fun j => by
    unfold World.cell?; rw [hg.block tb (by omega) hne]
  refine ⟨w5, hrun, h.put s.data.toList v (fun j hj => ?_) ?_ (fun j => ?_) ⟨k + 1, by omega, hm6⟩ (fun b h1 h2 h3 => ?_) (by have := hg.size; omega) (by omega), ?_⟩
  · have hna : (⟨tb, 17, none⟩ : Addr) ≠ ⟨tb, j, none⟩ := by intro e; cases e; exact hj rfl
    exact (hc5 j).trans (World.cell?_setCell_other _ _ _ _ hna)
  · rw [hc5, World.cell?_setCell_same' _ _ _ (by rw [h.cm]; rfl), hlen2]
    simp
  · exact (ht.frozen _).trans (World.frozen?_setCell _ _ _ _)
  · rw [hg.block b (by omega) (fun e => h2 (by cases e; rfl))]
    exact hkS.block b h3 h1
  · refine ⟨hg.os, hg.tape, hg.output, by have := hg.size; omega, fun b hb1 hb2 => ?_⟩
    rw [hg.block b (by omega) (fun e => hb2 (by cases e; exact ⟨hb.1, hb.2.1⟩))]
    exact hkS.block b hb1 (fun e => hb2 (by rw [e]; exact h.lt))
theorem Tab.cellm {w : World} {tb n lo hi : Nat} {B : Nat → Nat} {L : List (Nm × V)} (h : Tab w tb n lo hi B L) {s : ByteArray} (hs : s.size ≤ 1000) :
    (Instr.lookup 30 (.map (some (B (shard n s.data.toList)))) (.string s) true).run Try.prog w = .ok (.tuple #[.agg #[.int .i64 ((look L s.data.toList).getD (0, 0)).1, .int .i64 ((look L s.data.toList).getD (0, 0)).2], .bool (look L s.data.toList).isSome]) w := by
  obtain ⟨k, _, hm⟩ := h.mp _ (shard_lt h.n1 s.data.toList)
  have hg := hm.get (s := s) (by unfold maxLen; omega)
  rw [if_pos rfl] at hg
  exact hg
end Tb
set_option maxRecDepth 100000 in
set_option maxHeartbeats 2000000 in
theorem Define_any {tb n lo hi : Nat} {B : Nat → Nat} {L : List (Tb.Nm × Tb.V)} (s : ByteArray) (v : Tb.V) (w : World) (h : Tb.Tab w tb n lo hi B L) (hs : s.size ≤ 1000) :
    Calls Try.prog 13 #[.pointer (some ⟨tb, 0, none⟩), .string s, .agg #[.int .i64 v.1, .int .i64 v.2]] w fun e w' =>
      e = .returned (.tuple #[.int .i64 (Tb.defr L s.data.toList).1, .int .i64 (Tb.defr L s.data.toList).2]) ∧ Tb.Tab w' tb n lo hi B (Tb.defL L s.data.toList v) ∧ Keep (Tb.Within lo hi) w w' := by
  obtain ⟨r, hr⟩ : ∃ r, r = Tb.defr L s.data.toList := ⟨_, rfl⟩
  obtain ⟨M, hM⟩ : ∃ M, M = Tb.defL L s.data.toList v := ⟨_, rfl⟩
  rw [← hr, ← hM]
  unfold Tb.defr at hr
  unfold Tb.defL at hM
  obtain ⟨q0, q1⟩ := Tb.pair_new w (.int .i64 v.1) (.int .i64 v.2)
  obtain ⟨wa, hwa⟩ : ∃ wa, w.alloc (.cells #[.int .i64 v.1, .int .i64 v.2] 37) = wa := ⟨_, rfl⟩
  have hba : Below w.heap.size w wa := by rw [← hwa]; exact (Below.refl _ w).alloc (Nat.le_refl _) _
  have hta := h.below hba
  have hsa : w.heap.size < wa.heap.size := by rw [← hwa]; simp
  rw [hwa] at q0 q1
  have hka : Keep (Tb.Within lo hi) w wa := (Keep.refl _ w).below hba
  have h_hh := Nat.lt_of_lt_of_le h.lt.2 h.hh
  clear h hba
  have hm := may_any s wa hta hs
  cases hy : Lx.symbol s.data.toList
  · rw [hy] at hr hM hm
    have hr' : r = (0, 180) := hr
    have hM' : M = L := hM
    clear hr hM
    subst hr' hM'
    go_enter Try.func13, Try.ntmps13
    go_wp2_with fail
    refine hm.mono ?_
    rintro e w2 ⟨rfl, rfl⟩
    clear hm
    go_wp2
    go_ret2
    exact ⟨rfl, hta, hka⟩
  rw [hy] at hr hM hm
  have hof := of_any s wa hta hs
  have hr1 : r = if (Tb.look L s.data.toList).isSome then (0, 0) else if 4096 ≤ L.length then (8, 0) else (0, 0) := hr
  have hM1 : M = if (Tb.look L s.data.toList).isSome then Tb.put L s.data.toList v else if 4096 ≤ L.length then L else Tb.put L s.data.toList v := hM
  clear hr hM
  obtain ⟨b, hb⟩ : ∃ b, b = B (Tb.shard n s.data.toList) := ⟨_, rfl⟩
  rw [← hb] at hof
  cases hlk : Tb.look L s.data.toList with
  | some x =>
    rw [hlk] at hr1 hM1
    have hr2 : r = (0, 0) := hr1
    have hM2 : M = Tb.put L s.data.toList v := hM1
    clear hr1 hM1
    subst hr2 hM2
    go_enter Try.func13, Try.ntmps13
    go_wp2_with fail
    refine hm.mono ?_
    rintro e w2 ⟨rfl, rfl⟩
    clear hm
    go_wp2_with fail
    refine hof.mono ?_
    rintro e w2 ⟨rfl, hb2⟩
    clear hof
    have hta2 := hta.below hb2
    have hget := hta2.cellm hs
    rw [hlk, ← hb] at hget
    have hget2 : (Instr.lookup 30 (.map (some b)) (.string s) true).run Try.prog w2 = .ok (.tuple #[.agg #[.int .i64 x.1, .int .i64 x.2], .bool true]) w2 := hget
    have hb3 : Below w2.heap.size w2 (w2.alloc (.cells #[.int .i64 x.1, .int .i64 x.2] 37)) := (Below.refl _ w2).alloc (Nat.le_refl _) _
    obtain ⟨w3, hw3⟩ : ∃ w3, w2.alloc (.cells #[.int .i64 x.1, .int .i64 x.2] 37) = w3 := ⟨_, rfl⟩
    rw [hw3] at hb3
    have hta3 := hta2.below hb3
    have hka3 := (hka.below hb2).below hb3
    have k0 := (hb3.cell (p := ⟨w.heap.size, 0, none⟩) (Nat.lt_of_lt_of_le hsa hb2.size)).trans ((hb2.cell (p := ⟨w.heap.size, 0, none⟩) hsa).trans q0)
    have k1 := (hb3.cell (p := ⟨w.heap.size, 1, none⟩) (Nat.lt_of_lt_of_le hsa hb2.size)).trans ((hb2.cell (p := ⟨w.heap.size, 1, none⟩) hsa).trans q1)
    obtain ⟨w5, hrun, hta5, hk5⟩ := hta3.store hs v (by rw [hlk]; rfl)
    rw [← hb] at hrun
    clear hget hta hta2 hta3 hb2 hb3 hlk hb q0 q1
    go_wp2
    go_ret2
    exact ⟨rfl, hta5, hka3.trans hk5⟩
  | none =>
    rw [hlk] at hr1 hM1
    have hr2 : r = if 4096 ≤ L.length then (8, 0) else (0, 0) := hr1
    have hM2 : M = if 4096 ≤ L.length then L else Tb.put L s.data.toList v := hM1
    clear hr1 hM1
    go_enter Try.func13, Try.ntmps13
    go_wp2_with fail
    refine hm.mono ?_
    rintro e w2 ⟨rfl, rfl⟩
    clear hm
    go_wp2_with fail
    refine hof.mono ?_
    rintro e w2 ⟨rfl, hb2⟩
    clear hof
    have hta2 := hta.below hb2
    have hget := hta2.cellm hs
    rw [hlk, ← hb] at hget
    have hget2 : (Instr.lookup 30 (.map (some b)) (.string s) true).run Try.prog w2 = .ok (.tuple #[.agg #[.int .i64 0, .int .i64 0], .bool false]) w2 := hget
    have hb3 : Below w2.heap.size w2 (w2.alloc (.cells #[.int .i64 0, .int .i64 0] 37)) := (Below.refl _ w2).alloc (Nat.le_refl _) _
    have hta3 := hta2.below hb3
    have hka3 := (hka.below hb2).below hb3
    have k0 := (hb3.cell (p := ⟨w.heap.size, 0, none⟩) (Nat.lt_of_lt_of_le hsa hb2.size)).trans ((hb2.cell (p := ⟨w.heap.size, 0, none⟩) hsa).trans q0)
    have k1 := (hb3.cell (p := ⟨w.heap.size, 1, none⟩) (Nat.lt_of_lt_of_le hsa hb2.size)).trans ((hb2.cell (p := ⟨w.heap.size, 1, none⟩) hsa).trans q1)
    have kl := hta3.lt
    have kh := hta2.hh
    have km := hta3.cm
    have kf := hta3.fz 17
    have k4 := hta3.len
    by_cases hfull : 4096 ≤ L.length
    · rw [if_pos hfull] at hr2 hM2
      have hfi : (4096 : Int) ≤ (L.length : Int) := by omega
      subst hr2
      have HM2 := Lib.hid hM2
      clear hM2
      clear hget hta hta2 hb2 hb3 hlk hb q0 q1
      go_wp2
      go_ret2
      exact ⟨rfl, by rw [HM2.out]; exact hta3, hka3⟩
    · rw [if_neg hfull] at hr2 hM2
      subst hr2 hM2
      have hfi : (L.length : Int) < 4096 := by omega
      obtain ⟨w5, hrun, hta5, hk5⟩ := hta3.store_new hs v hlk (by omega)
      rw [← hb] at hrun
      have hKK := hka3.trans hk5
      have hne : tb ≠ w.heap.size := by have := h_hh; omega
      have k0' := (World.cell?_setCell_far (w2.alloc (.cells #[.int .i64 0, .int .i64 0] 37)) ⟨tb, 17, none⟩ ⟨w.heap.size, 0, none⟩ (.int .i64 ((L.length : Int) + 1)) hne).trans k0
      have k1' := (World.cell?_setCell_far (w2.alloc (.cells #[.int .i64 0, .int .i64 0] 37)) ⟨tb, 17, none⟩ ⟨w.heap.size, 1, none⟩ (.int .i64 ((L.length : Int) + 1)) hne).trans k1
      obtain ⟨w4, hw4⟩ : ∃ w4, (w2.alloc (.cells #[.int .i64 0, .int .i64 0] 37)).setCell ⟨tb, 17, none⟩ (.int .i64 ((L.length : Int) + 1)) = w4 := ⟨_, rfl⟩
      rw [hw4] at k0' k1' hrun
      clear hget hta hta2 hta3 hb2 hb3 hlk hb q0 q1 hka3 hk5 k0 k1
      go_wp2
      go_ret2
      exact ⟨rfl, hta5, hKK⟩
set_option maxRecDepth 100000 in
set_option maxHeartbeats 2000000 in
theorem Assign_any {tb n lo hi : Nat} {B : Nat → Nat} {L : List (Tb.Nm × Tb.V)} (s : ByteArray) (v : Tb.V) (w : World) (h : Tb.Tab w tb n lo hi B L) (hs : s.size ≤ 1000) :
    Calls Try.prog 11 #[.pointer (some ⟨tb, 0, none⟩), .string s, .agg #[.int .i64 v.1, .int .i64 v.2]] w fun e w' =>
      e = .returned (.tuple #[.int .i64 (Tb.asr L s.data.toList).1, .int .i64 (Tb.asr L s.data.toList).2]) ∧ Tb.Tab w' tb n lo hi B (Tb.asL L s.data.toList v) ∧ Keep (Tb.Within lo hi) w w' := by
  obtain ⟨r, hr⟩ : ∃ r, r = Tb.asr L s.data.toList := ⟨_, rfl⟩
  obtain ⟨M, hM⟩ : ∃ M, M = Tb.asL L s.data.toList v := ⟨_, rfl⟩
  rw [← hr, ← hM]
  unfold Tb.asr at hr
  unfold Tb.asL at hM
  obtain ⟨q0, q1⟩ := Tb.pair_new w (.int .i64 v.1) (.int .i64 v.2)
  obtain ⟨wa, hwa⟩ : ∃ wa, w.alloc (.cells #[.int .i64 v.1, .int .i64 v.2] 37) = wa := ⟨_, rfl⟩
  have hba : Below w.heap.size w wa := by rw [← hwa]; exact (Below.refl _ w).alloc (Nat.le_refl _) _
  have hta := h.below hba
  have hsa : w.heap.size < wa.heap.size := by rw [← hwa]; simp
  rw [hwa] at q0 q1
  have hka : Keep (Tb.Within lo hi) w wa := (Keep.refl _ w).below hba
  clear h hba
  have hg := Get_any s wa hta hs
  obtain ⟨⟨⟨x, y⟩, k, e⟩, hge⟩ : ∃ g, g = Tb.get L s.data.toList := ⟨_, rfl⟩
  rw [← hge] at hg hr hM
  have hr1 : r = if e = 0 ∧ k = 0 then Tb.defr L s.data.toList else (k, e) := hr
  have hM1 : M = if e = 0 ∧ k = 0 then Tb.defL L s.data.toList v else L := hM
  clear hr hM hge
  by_cases he : e = 0
  · by_cases hk : k = 0
    · subst he hk
      have HR : Hid (r = Tb.defr L s.data.toList) := hr1.trans (if_pos ⟨rfl, rfl⟩)
      have HM : Hid (M = Tb.defL L s.data.toList v) := hM1.trans (if_pos ⟨rfl, rfl⟩)
      clear hr1 hM1
      go_enter Try.func11, Try.ntmps11
      go_wp2_with fail
      refine hg.mono ?_
      rintro e w2 ⟨rfl, hb2⟩
      clear hg
      have hb3 : Below w2.heap.size w2 (w2.alloc (.cells #[.int .i64 x, .int .i64 y] 37)) := (Below.refl _ w2).alloc (Nat.le_refl _) _
      obtain ⟨w3, hw3⟩ : ∃ w3, w2.alloc (.cells #[.int .i64 x, .int .i64 y] 37) = w3 := ⟨_, rfl⟩
      rw [hw3] at hb3
      have hta3 := (hta.below hb2).below hb3
      have hka3 := (hka.below hb2).below hb3
      have k0 := (hb3.cell (p := ⟨w.heap.size, 0, none⟩) (Nat.lt_of_lt_of_le hsa hb2.size)).trans ((hb2.cell (p := ⟨w.heap.size, 0, none⟩) hsa).trans q0)
      have k1 := (hb3.cell (p := ⟨w.heap.size, 1, none⟩) (Nat.lt_of_lt_of_le hsa hb2.size)).trans ((hb2.cell (p := ⟨w.heap.size, 1, none⟩) hsa).trans q1)
      have hd := Define_any s v w3 hta3 hs
      rw [← HR.out, ← HM.out] at hd
      clear hta hta3 hb2 hb3 q0 q1 HR HM
      go_wp2_with fail
      refine hd.mono ?_
      rintro e w4 ⟨rfl, ht4, hk4⟩
      clear hd
      go_wp2
      go_ret2
      exact ⟨rfl, ht4, hka3.trans hk4⟩
    · subst he
      have hk0 : (k == 0) = false := by simpa using hk
      have HR : Hid (r = (k, 0)) := hr1.trans (if_neg fun h => hk h.2)
      have HM : Hid (M = L) := hM1.trans (if_neg fun h => hk h.2)
      clear hr1 hM1
      go_enter Try.func11, Try.ntmps11
      go_wp2_with fail
      refine hg.mono ?_
      rintro e w2 ⟨rfl, hb2⟩
      clear hg
      have hb3 : Below w2.heap.size w2 (w2.alloc (.cells #[.int .i64 x, .int .i64 y] 37)) := (Below.refl _ w2).alloc (Nat.le_refl _) _
      have hta3 := (hta.below hb2).below hb3
      have hka3 := (hka.below hb2).below hb3
      clear hta hb2 hb3 q0 q1
      go_wp2
      go_ret2
      exact ⟨by rw [HR.out]; rfl, by rw [HM.out]; exact hta3, hka3⟩
  · have he0 : (e == 0) = false := by simpa using he
    have HR : Hid (r = (k, e)) := hr1.trans (if_neg fun h => he h.1)
    have HM : Hid (M = L) := hM1.trans (if_neg fun h => he h.1)
    clear hr1 hM1
    go_enter Try.func11, Try.ntmps11
    go_wp2_with fail
    refine hg.mono ?_
    rintro e w2 ⟨rfl, hb2⟩
    clear hg
    have hb3 : Below w2.heap.size w2 (w2.alloc (.cells #[.int .i64 x, .int .i64 y] 37)) := (Below.refl _ w2).alloc (Nat.le_refl _) _
    have hta3 := (hta.below hb2).below hb3
    have hka3 := (hka.below hb2).below hb3
    clear hta hb2 hb3 q0 q1
    go_wp2
    go_ret2
    exact ⟨by rw [HR.out]; rfl, by rw [HM.out]; exact hta3, hka3⟩
end Go.Proofs.Ytihfflinkmceaaa
