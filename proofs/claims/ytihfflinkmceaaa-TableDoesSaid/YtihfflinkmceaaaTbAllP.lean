/-
  table.All: what lies between two rounds; the sorted names.
-/
import Derived.Test.YtihfflinkmceaaaTbKeys
import Derived.Test.YtihfflinkmceaaaTbSort
import Derived.Sort.OwnSorted
namespace Go.Proofs.Ytihfflinkmceaaa
open Go.RowKit Go.Maps Go.Sort Go.Shelf
attribute [local go_sem] Oper.semAt_some
namespace Tb
theorem names_sorted {L : List (Nm × V)} (hR : Rising L) {cs : List Nm} (hn : cs.Nodup) (hm : ∀ s, s ∈ cs ↔ (look L s).isSome = true) : cs.mergeSort leB = L.map (·.1) := by
  have hR' : L.Pairwise fun (p q : Nm × V) => p.1 < q.1 := hR
  have hnd : (L.map (·.1)).Nodup := List.pairwise_map.2 (hR'.imp fun {p q} (h : p.1 < q.1) (e : p.1 = q.1) => List.lt_irrefl p.1 (by rw [← e] at h; exact h))
  have hmem : ∀ (L : List (Nm × V)), Rising L → ∀ s, s ∈ L.map (·.1) ↔ (look L s).isSome = true := by
    intro L
    induction L with
    | nil => intro _ s; simp [look]
    | cons p r ih =>
      intro hR s
      obtain ⟨a, x⟩ := p
      have := ih (List.pairwise_cons.1 hR).2 s
      unfold look
      by_cases e : a = s
      · simp [e]
      · rw [if_neg e, ← this]
        simp [Ne.symm e]
  have hp : cs.Perm (L.map (·.1)) := (List.perm_ext_iff_of_nodup hn hnd).2 fun s => (hm s).trans (hmem L hR s).symm
  rw [mergeSort_of_perm hp]
  refine List.mergeSort_of_pairwise (List.pairwise_map.2 (hR'.imp fun {p q} (h : p.1 < q.1) => ?_))
  simp only [leB, decide_eq_true_eq]
  exact List.le_of_lt h
theorem look_at {L : List (Nm × V)} (hR : Rising L) (k : Nat) (h : k < L.length) : look L L[k].1 = some L[k].2 := by
  induction L generalizing k with
  | nil => simp at h
  | cons p r ih =>
    obtain ⟨a, x⟩ := p
    obtain ⟨h1, h2⟩ := List.pairwise_cons.1 hR
    cases k with
    | zero => simp [look]
    | succ k =>
      have hk : k < r.length := by simpa using h
      rw [List.getElem_cons_succ]
      unfold look
      have hlt : a < r[k].1 := h1 _ (List.getElem_mem hk)
      rw [if_neg (fun e => List.lt_irrefl _ (by rw [e] at hlt; exact hlt))]
      exact ih h2 k hk
/-- 'm[s]' -/
theorem Mp.get1 {w : World} {b k : Nat} {g : Ctx} (h : Mp w b k g) {s : ByteArray} (hs : s.size ≤ maxLen) :
    (Instr.lookup 30 (.map (some b)) (.string s) false).run Try.prog w = .ok (cell ((g s.data.toList).getD (0, 0))) w := by
  obtain ⟨D, ho, _, hg⟩ := h
  obtain ⟨v, ps, hrun, hv⟩ := ho.lookup strK Try.underlying30 (zeroV w) (rd_cell (0, 0)) (keyOf_nm hs)
  rw [hrun]
  obtain ⟨y, rfl, hy⟩ := rd_inv hv
  have hd := congrArg Prod.fst hy
  simp only at hd
  cases hgs : g s.data.toList with
  | none =>
    have hh := (hg s.data.toList).1
    rw [hgs] at hh
    rw [atKey_of_not_has hh] at hd
    rw [← dat_inj hd]
    rfl
  | some x =>
    rw [(hg s.data.toList).2 x hgs] at hd
    rw [← dat_inj hd]
    rfl
theorem cells_at {W : World} {b j : Nat} {v : Value} (h : W.cell? ⟨b, j, none⟩ = some v) : ∃ c t fz, W.heap[b]? = some (.cells c t fz) := by
  unfold World.cell? at h
  cases hh : W.heap[b]? with
  | none => rw [hh] at h; cases h
  | some o =>
    rw [hh] at h
    cases o with
    | cells c t fz => exact ⟨c, t, fz, rfl⟩
    | _ => cases h
/-- a table whose own blocks lie as they lay -/
theorem Tab.same {w w' : World} {tb n lo hi : Nat} {B : Nat → Nat} {L : List (Nm × V)} (h : Tab w tb n lo hi B L) (hT : w'.heap[tb]? = w.heap[tb]?) (hm : ∀ (k : Nat) (es : Array MapEntry) (clock : Nat), w.heap[k]? = some (.map es clock) → w'.heap[k]? = w.heap[k]?) (hsz : w.heap.size ≤ w'.heap.size) : Tab w' tb n lo hi B L := by
  have hc : ∀ j, w'.cell? ⟨tb, j, none⟩ = w.cell? ⟨tb, j, none⟩ := fun j => by unfold World.cell?; rw [hT]
  have hf : ∀ j, w'.frozen? ⟨tb, j, none⟩ = w.frozen? ⟨tb, j, none⟩ := fun j => by unfold World.frozen?; rw [hT]
  refine ⟨h.n1, h.n16, (hc 0).trans h.c0, fun i hi' => (hc _).trans (h.cl i hi'), fun i h1 h2 => (hc _).trans (h.cn i h1 h2), (hc _).trans h.cm, fun j => (hf j).trans (h.fz j), h.lt, h.bl, h.inj, fun i hi' => ?_, h.rise, h.len, Nat.le_trans h.hh hsz⟩
  obtain ⟨k, hle, D, ⟨es, clock, e1, e2⟩, h2⟩ := h.mp i hi'
  exact ⟨k, hle, D, ⟨es, clock, (hm _ es clock e1).trans e1, e2⟩, h2⟩
/-- between two rounds: the table, the box that holds it, the row of names -/
structure AllSt (W : World) (B T n lo hi : Nat) (M : Nat → Nat) (L : List (Nm × V)) (Bs g : Nat) : Prop where
  tab : Tab W T n lo hi M L
  box : W.cell? ⟨Bs, 0, none⟩ = some (.pointer (some ⟨T, 0, none⟩))
  row : ∃ cur fz, W.heap[g]? = some (.cells cur 9 fz) ∧ cur.toList.take L.length = (L.map (·.1)).map encStr
  ne : T ≠ B ∧ Bs ≠ B ∧ g ≠ B
  off : rowOf W B ≠ some T ∧ rowOf W B ≠ some Bs ∧ rowOf W B ≠ some g
  lt : B < W.heap.size
theorem AllSt.next {W W' : World} {B T n lo hi : Nat} {M : Nat → Nat} {L : List (Nm × V)} {Bs g : Nat} (h : AllSt W B T n lo hi M L Bs g) (k : KpM B W W') : AllSt W' B T n lo hi M L Bs g := by
  obtain ⟨c, t, fz, hTc⟩ := cells_at h.tab.c0
  obtain ⟨c2, t2, fz2, hBc⟩ := cells_at h.box
  obtain ⟨cur, fz3, hg1, hg2⟩ := h.row
  have hT := k.same T c t fz hTc h.ne.1 h.off.1
  have hB := k.same Bs c2 t2 fz2 hBc h.ne.2.1 h.off.2.1
  have hG := k.same g cur _ fz3 hg1 h.ne.2.2 h.off.2.2
  have hoff : ∀ q, (∃ o, W.heap[q]? = some o) → rowOf W B ≠ some q → rowOf W' B ≠ some q := fun q ⟨o, ho⟩ h0 hc => by
    rcases k.row q hc with h5 | h5
    · exact h0 h5
    · have := (Array.getElem?_eq_some_iff.1 ho).1
      omega
  exact ⟨h.tab.same hT k.maps k.size, by rw [← h.box]; unfold World.cell?; rw [hB], ⟨cur, fz3, hG.trans hg1, hg2⟩, h.ne, ⟨hoff T ⟨_, hTc⟩ h.off.1, hoff Bs ⟨_, hBc⟩ h.off.2.1, hoff g ⟨_, hg1⟩ h.off.2.2⟩, Nat.lt_of_lt_of_le h.lt k.size⟩
theorem AllSt.below {W W' : World} {B T n lo hi : Nat} {M : Nat → Nat} {L : List (Nm × V)} {Bs g : Nat} (h : AllSt W B T n lo hi M L Bs g) (hb : Below W.heap.size W W') : AllSt W' B T n lo hi M L Bs g := by
  have hr : rowOf W' B = rowOf W B := by unfold rowOf; rw [hb.cell (p := ⟨B, 0, none⟩) h.lt]
  obtain ⟨cur, fz3, hg1, hg2⟩ := h.row
  exact ⟨h.tab.below hb, (hb.cell (p := ⟨Bs, 0, none⟩) (block_lt_of_cell h.box)).trans h.box, ⟨cur, fz3, (hb.block g (Array.getElem?_eq_some_iff.1 hg1).1).trans hg1, hg2⟩, h.ne, by rw [hr]; exact h.off, Nat.lt_of_lt_of_le h.lt hb.size⟩
theorem AllSt.name {W : World} {B T n lo hi : Nat} {M : Nat → Nat} {L : List (Nm × V)} {Bs g : Nat} (h : AllSt W B T n lo hi M L Bs g) (k : Nat) (hk : k < L.length) : W.cell? ⟨g, k, none⟩ = some (.string ⟨L[k].1.toArray⟩) := by
  obtain ⟨cur, fz3, hg1, hg2⟩ := h.row
  have h1 : (cur.toList.take L.length)[k]? = ((L.map (·.1)).map encStr)[k]? := by rw [hg2]
  rw [List.getElem?_take_of_lt hk] at h1
  unfold World.cell?
  rw [hg1]
  show cur[k]? = _
  rw [← Array.getElem?_toList, h1]
  simp [hk, encStr]
theorem collect {L : List (Nm × V)} {n k : Nat} {cs ks : List Nm} (h : cs.Nodup ∧ ∀ s, s ∈ cs ↔ ((look L s).isSome = true ∧ shard n s < k)) (hk : ks.Nodup ∧ ∀ s, s ∈ ks ↔ (if shard n s = k then look L s else none).isSome = true) :
    (cs ++ ks).Nodup ∧ ∀ s, s ∈ cs ++ ks ↔ ((look L s).isSome = true ∧ shard n s < k + 1) := by
  have hks : ∀ s, s ∈ ks ↔ ((look L s).isSome = true ∧ shard n s = k) := fun s => by
    rw [hk.2 s]
    by_cases e : shard n s = k
    · simp [e]
    · simp [e]
  refine ⟨List.nodup_append.2 ⟨h.1, hk.1, fun a ha b hb e => ?_⟩, fun s => ?_⟩
  · have h1 := ((h.2 a).1 ha).2
    have h2 := ((hks b).1 hb).2
    subst e
    omega
  · rw [List.mem_append, h.2 s, hks s]
    constructor
    · rintro (⟨h1, h2⟩ | ⟨h1, h2⟩)
      · exact ⟨h1, by omega⟩
      · exact ⟨h1, by omega⟩
    · rintro ⟨h1, h2⟩
      by_cases e : shard n s = k
      · exact .inr ⟨h1, e⟩
      · exact .inl ⟨h1, by omega⟩
theorem Tab.get1 {w : World} {tb n lo hi : Nat} {B : Nat → Nat} {L : List (Nm × V)} (h : Tab w tb n lo hi B L) {s : ByteArray} (hs : s.size ≤ 1000) {v : V} (hl : look L s.data.toList = some v) :
    (Instr.lookup 30 (.map (some (B (shard n s.data.toList)))) (.string s) false).run Try.prog w = .ok (.agg #[.int .i64 v.1, .int .i64 v.2]) w := by
  obtain ⟨k, _, hm⟩ := h.mp _ (shard_lt h.n1 s.data.toList)
  have hg := hm.get1 (s := s) (by unfold maxLen; omega)
  rw [if_pos rfl, hl] at hg
  exact hg
theorem take_app_drop {α : Type} (L : List α) (q : Nat) (h : q < L.length) : (L.take q ++ [L[q]]) ++ L.drop (q + 1) = L := by
  rw [List.append_assoc, List.singleton_append, ← List.drop_eq_getElem_cons h, List.take_append_drop]
theorem grown_of {w w' : World} (h : Below w.heap.size w w') : w.grownBy w' none := ⟨h.os, h.tape, h.output, h.size, fun k hk _ => h.block k hk⟩
end Tb
theorem Sort_any (n0 : Nat) (v : Value) (cs : List (List UInt8)) (w : World) (hn0 : n0 ≤ w.heap.size) (hrow : w.ownsRow n0 9 1 v cs.length (cs.map encStr)) (hl : cs.length < 4611686018427387904) :
    Calls Try.prog 32 #[v] w fun e w' => e = .returned (.tuple #[]) ∧ w'.ownsRow n0 9 1 v cs.length ((cs.mergeSort leB).map encStr) ∧ Below n0 w w' := by
  have hlen : (cs.mergeSort leB).length = cs.length := List.length_mergeSort ..
  rcases hrow.2 with ⟨rfl, hz⟩ | ⟨g, cap, cur, rfl, hbase, hb, h1, h2, h3, h4⟩
  · obtain rfl : cs = [] := List.eq_nil_of_length_eq_zero hz
    refine (Try.slices_Sort_string_none none 0 w).mono ?_
    rintro e w' ⟨rfl, rfl⟩
    exact ⟨rfl, by rw [List.mergeSort_nil]; exact hrow, Below.refl _ _⟩
  · refine (Try.slices_Sort_string g 0 cap cs w (holds_of_block hb (by simpa using h4)) (Array.getElem?_eq_some_iff.1 hb).1 hl).mono ?_
    rintro e w' ⟨rfl, nn, os, rfl⟩
    have hg := grownBy_sorted (w := w) (g := g) (n := nn) (os := os) (cs.mergeSort fun x y => decide (x ≤ y)).toArray
    exact ⟨rfl, ownsRow_sorted hlen hbase hb h1 h2 h3, (Below.refl n0 w).grown hg hn0 (fun j hj => by cases hj; exact hbase)⟩
end Go.Proofs.Ytihfflinkmceaaa
