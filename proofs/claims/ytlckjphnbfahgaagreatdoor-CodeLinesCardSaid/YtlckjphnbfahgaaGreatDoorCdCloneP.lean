/-
  code.Clone: rows of instructions, of texts, of codes in new memory.
-/
import Derived.Test.YtlckjphnbfahgaaGreatDoorCdPut
import Derived.Test.YtlckjphnbfahgaaGreatDoorDtOwn
import Derived.Test.YtlckjphnbfahgaaGreatDoorPut
namespace Go.Proofs.YtlckjphnbfahgaaGreatDoor
open Go.RowKit
attribute [local go_sem] Oper.semAt_some
namespace Cd
def insV (x : Ins) : List Value := [.int .i64 x.o, .int .i64 x.a, .int .i64 x.b]
def flatI (l : List Ins) : List Value := l.flatMap insV
def codeV (c : Code × Value) : List Value := [.int .i64 c.1.params, .int .i64 c.1.rest, .int .i64 c.1.caps, .int .i64 c.1.max, c.2]
def flatK (l : List (Code × Value)) : List Value := l.flatMap codeV
theorem flat_len {α : Type} (f : α → List Value) (n : Nat) (hf : ∀ x, (f x).length = n) : ∀ l : List α, (l.flatMap f).length = l.length * n
  | [] => by simp
  | x :: r => by rw [List.flatMap_cons, List.length_append, hf, flat_len f n hf r, List.length_cons, Nat.succ_mul]; omega
theorem flat_get {α : Type} (f : α → List Value) (n : Nat) (hf : ∀ x, (f x).length = n) : ∀ (l : List α) (i r : Nat) (h : i < l.length), r < n → (l.flatMap f)[i * n + r]? = (f l[i])[r]?
  | x :: l, 0, r, _, hr => by
    rw [List.flatMap_cons, Nat.zero_mul, Nat.zero_add, List.getElem?_append_left (by rw [hf]; exact hr)]
    rfl
  | x :: l, i + 1, r, h, hr => by
    rw [List.flatMap_cons, List.getElem?_append_right (by rw [hf, Nat.succ_mul]; omega), hf, Nat.succ_mul]
    rw [show i * n + n + r - n = i * n + r by omega, flat_get f n hf l i r (by simpa using h) hr]
    rfl
theorem flat_at {α : Type} (f : α → List Value) (n : Nat) (hf : ∀ x, (f x).length = n) (hn : 0 < n) (l : List α) (j : Nat) (hj : j < l.length * n) : ∃ i r, ∃ h : i < l.length, r < n ∧ j = i * n + r ∧ (l.flatMap f)[j]? = (f l[i])[r]? := by
  have h1 : j / n < l.length := Nat.div_lt_of_lt_mul (by rw [Nat.mul_comm]; exact hj)
  have h2 : j % n < n := Nat.mod_lt _ hn
  have h3 : j = j / n * n + j % n := by rw [Nat.mul_comm]; exact (Nat.div_add_mod j n).symm
  refine ⟨j / n, j % n, h1, h2, h3, ?_⟩
  rw [← flat_get f n hf l (j / n) (j % n) h1 h2, ← h3]
theorem add_off (b o j : Nat) : (⟨b, o, none⟩ : Addr).add j = ⟨b, o + j, none⟩ := by
  unfold Addr.add
  split
  · rename_i h0; rw [h0, Nat.add_zero]
  · rfl
/-- instructions that lie, as a source -/
theorem InsRow.src {F : Nat → Prop} {w : World} {a : Addr} {n c : Nat} {l : List Ins} (h : InsRow F w (.slice (some a) n c) l) : ∀ j u, (flatI l)[j]? = some u → w.cell? (a.add j) = some u := by
  intro j u hu
  obtain ⟨a', c', e, -, h3⟩ := h
  cases e
  have hlen : (flatI l).length = l.length * 3 := flat_len insV 3 (fun _ => rfl) l
  have hj : j < l.length * 3 := by
    rw [← hlen]
    exact (List.getElem?_eq_some_iff.1 hu).1
  have hne : l ≠ [] := by intro e; rw [e] at hj; simp at hj
  obtain ⟨b, o, e, -, -, hc⟩ := h3 hne
  cases e
  obtain ⟨i, r, hi, hr, rfl, he⟩ := flat_at insV 3 (fun _ => rfl) (by decide) l j hj
  rw [show flatI l = l.flatMap insV from rfl, he] at hu
  obtain ⟨h0, h1, h2⟩ := hc i hi
  rw [add_off]
  match r, hr with
  | 0, _ => cases hu; exact h0
  | 1, _ => cases hu; rw [← Nat.add_assoc]; exact h1
  | 2, _ => cases hu; rw [← Nat.add_assoc]; exact h2
/-- instructions that are owned lie -/
theorem InsRow.of_own {F : Nat → Prop} {w : World} {base : Nat} {v : Value} {l : List Ins} (h : w.ownsRow base 55 3 v l.length (flatI l)) (hF : ∀ k, v.ownBlock = some k → F k) : InsRow F w v l := by
  have h2 := h.2
  rcases h2 with ⟨rfl, hn⟩ | ⟨g, cap, cur, rfl, e2, e3, e4, e5, e6, e7⟩
  · exact ⟨none, 0, by rw [hn], by omega, fun hne => absurd (List.eq_nil_of_length_eq_zero hn) hne⟩
  · refine ⟨some ⟨g, 0, none⟩, cap, rfl, e4, fun _ => ⟨g, 0, rfl, hF g rfl, (Array.getElem?_eq_some_iff.1 e3).1, fun j hj => ?_⟩⟩
    have hc : ∀ r u, r < 3 → (insV l[j])[r]? = some u → w.cell? ⟨g, 0 + j * 3 + r, none⟩ = some u := fun r u hr hu => by
      have hu2 : (flatI l)[j * 3 + r]? = some u := by rw [show flatI l = l.flatMap insV from rfl, flat_get insV 3 (fun _ => rfl) l j r hj hr]; exact hu
      have := h.cells (g := g) rfl (j * 3 + r) u hu2
      rw [add_off] at this
      rw [Nat.add_assoc]
      exact this
    exact ⟨hc 0 _ (by decide) rfl, hc 1 _ (by decide) rfl, hc 2 _ (by decide) rfl⟩
theorem NameRow.src {F : Nat → Prop} {w : World} {a : Addr} {n c : Nat} {l : List ByteArray} (h : NameRow F w (.slice (some a) n c) l) : ∀ j u, (l.map Value.string)[j]? = some u → w.cell? (a.add j) = some u := by
  intro j u hu
  obtain ⟨a', c', e, -, h3⟩ := h
  cases e
  have hj : j < l.length := by
    have := (List.getElem?_eq_some_iff.1 hu).1
    simpa using this
  have hne : l ≠ [] := by intro e; rw [e] at hj; simp at hj
  obtain ⟨b, o, e, -, -, hc⟩ := h3 hne
  cases e
  rw [List.getElem?_map, List.getElem?_eq_getElem hj] at hu
  cases hu
  rw [add_off]
  exact hc j hj
theorem NameRow.of_own {F : Nat → Prop} {w : World} {base : Nat} {v : Value} {l : List ByteArray} (h : w.ownsRow base 9 1 v l.length (l.map Value.string)) (hF : ∀ k, v.ownBlock = some k → F k) : NameRow F w v l := by
  have h2 := h.2
  rcases h2 with ⟨rfl, hn⟩ | ⟨g, cap, cur, rfl, e2, e3, e4, e5, e6, e7⟩
  · exact ⟨none, 0, by rw [hn], by omega, fun hne => absurd (List.eq_nil_of_length_eq_zero hn) hne⟩
  · refine ⟨some ⟨g, 0, none⟩, cap, rfl, e4, fun _ => ⟨g, 0, rfl, hF g rfl, (Array.getElem?_eq_some_iff.1 e3).1, fun j hj => ?_⟩⟩
    have := h.cells (g := g) rfl j (.string l[j]) (by rw [List.getElem?_map, List.getElem?_eq_getElem hj]; rfl)
    rw [add_off] at this
    exact this
/-- codes in a row of their own, each one's instructions in a row of its own -/
structure CRow (w : World) (base : Nat) (v : Value) (ks : List (Code × Value)) : Prop where
  row : w.ownsRow base 47 5 v ks.length (flatK ks)
  ins : ∀ j, (h : j < ks.length) → w.ownsRow base 55 3 ks[j].2 ks[j].1.ins.length (flatI ks[j].1.ins)
  ne : ∀ j, (h : j < ks.length) → ∀ k, ks[j].2.ownBlock = some k → v.ownBlock ≠ some k
  dj : ∀ i j, (hi : i < ks.length) → (hj : j < ks.length) → i ≠ j → ∀ k, ks[i].2.ownBlock = some k → ks[j].2.ownBlock ≠ some k
theorem CRow.nil (w : World) (base : Nat) : CRow w base (.slice none 0 0) [] := ⟨World.ownsRow_nil _ _ _ _, fun _ h => absurd h (Nat.not_lt_zero _), fun _ h => absurd h (Nat.not_lt_zero _), fun _ _ h => absurd h (Nat.not_lt_zero _)⟩
theorem own_keep {S : Nat → Prop} {w w' : World} {base size n : Nat} {e : TypeId} {v : Value} {xs : List Value} (h : w.ownsRow base e size v n xs) (hk : Keep S w w') (hS : ∀ k, v.ownBlock = some k → ¬ S k) : w'.ownsRow base e size v n xs := by
  obtain ⟨h1, h2⟩ := h
  refine ⟨h1, h2.elim .inl (fun h3 => ?_)⟩
  obtain ⟨g, cap, cur, e1, e2, e3, e4⟩ := h3
  refine .inr ⟨g, cap, cur, e1, e2, (hk.block g (Array.getElem?_eq_some_iff.1 e3).1 (hS g (by rw [e1]; rfl))).trans e3, e4⟩
theorem own_base {w : World} {base base' size n : Nat} {e : TypeId} {v : Value} {xs : List Value} (h : w.ownsRow base e size v n xs) (hb : base' ≤ base) : w.ownsRow base' e size v n xs := by
  obtain ⟨h1, h2⟩ := h
  refine ⟨h1, h2.elim .inl (fun h3 => ?_)⟩
  obtain ⟨g, cap, cur, e1, e2, e3⟩ := h3
  exact .inr ⟨g, cap, cur, e1, Nat.le_trans hb e2, e3⟩
theorem CRow.keep {S : Nat → Prop} {w w' : World} {base : Nat} {v : Value} {ks : List (Code × Value)} (h : CRow w base v ks) (hk : Keep S w w') (hS : ∀ k, base ≤ k → ¬ S k) : CRow w' base v ks :=
  ⟨own_keep h.row hk (fun k e => hS k (h.row.lt k e).1), fun j hj => own_keep (h.ins j hj) hk (fun k e => hS k ((h.ins j hj).lt k e).1), h.ne, h.dj⟩
theorem CRow.below {w w' : World} {base : Nat} {v : Value} {ks : List (Code × Value)} (h : CRow w base v ks) (hb : Below w.heap.size w w') : CRow w' base v ks :=
  h.keep (S := fun _ => False) ((Keep.refl _ w).below hb) (fun _ _ h => h)
theorem keep_grown {w w' : World} {v : Value} (hg : w.grownBy w' v.ownBlock) : Keep (fun k => v.ownBlock = some k) w w' := ⟨hg.os, hg.tape, hg.output, hg.size, fun k hk hn => hg.block k hk (fun e => hn e.symm)⟩
theorem CRow.push {w w1 w2 w5 : World} {base : Nat} {v v' vi : Value} {ks : List (Code × Value)} {c : Code} (h : CRow w base v ks) (hbase : base ≤ w.heap.size)
    (h1 : Below w.heap.size w w1) (hi : w1.ownsRow w.heap.size 55 3 vi c.ins.length (flatI c.ins)) (h2 : Below w1.heap.size w1 w2)
    (hr : w5.ownsRow base 47 5 v' (ks.length + 1) (flatK ks ++ codeV (c, vi))) (hg : w2.grownBy w5 v.ownBlock) (hv : v'.ownBlock = v.ownBlock ∨ v'.ownBlock = some w2.heap.size) : CRow w5 base v' (ks ++ [(c, vi)]) := by
  have hvl := fun k e => (h.row.lt k e).2
  have hil := fun k e => (hi.lt k e)
  have h12 := h1.trans (h2.mono h1.size)
  have s1 := h1.size
  have s2 := h2.size
  have hk25 := keep_grown hg
  have hcur : ∀ j, (hj : j < ks.length) → ∀ k, ks[j].2.ownBlock = some k → k < w.heap.size := fun j hj k e => ((h.ins j hj).lt k e).2
  have hlen : (ks ++ [(c, vi)]).length = ks.length + 1 := by rw [List.length_append]; rfl
  have hold : ∀ j, (hj : j < ks.length) → (ks ++ [(c, vi)])[j]'(by omega) = ks[j] := fun j hj => List.getElem_append_left hj
  have hnew : (ks ++ [(c, vi)])[ks.length]'(by omega) = (c, vi) := List.getElem_concat_length rfl (by rw [hlen]; omega)
  have hvi : ∀ k, vi.ownBlock = some k → v'.ownBlock ≠ some k := fun k e => by
    have h3 := hil k e
    rcases hv with hv | hv
    · rw [hv]
      intro e2
      have := hvl k e2
      omega
    · rw [hv]
      intro e2
      have := Option.some.inj e2
      omega
  refine ⟨?_, fun j hj => ?_, fun j hj k e => ?_, fun i j hi' hj hij k e => ?_⟩
  · have : flatK (ks ++ [(c, vi)]) = flatK ks ++ codeV (c, vi) := by unfold flatK; rw [List.flatMap_append, List.flatMap_singleton]
    rw [hlen, this]
    exact hr
  · by_cases hjl : j < ks.length
    · rw [hold j hjl]
      have := own_keep (S := fun _ => False) (h.ins j hjl) ((Keep.refl _ w).below h12) (fun _ _ h => h)
      exact own_keep this hk25 (fun k e e2 => h.ne j hjl k e e2)
    · obtain rfl : j = ks.length := by omega
      rw [hnew]
      have h6 := own_keep (S := fun _ => False) hi ((Keep.refl _ w1).below h2) (fun _ _ h => h)
      refine own_base (own_keep h6 hk25 (fun k e e2 => ?_)) hbase
      have := hil k e
      have := hvl k e2
      omega
  · by_cases hjl : j < ks.length
    · rw [hold j hjl] at e
      rcases hv with hv | hv
      · rw [hv]; exact h.ne j hjl k e
      · rw [hv]
        intro e2
        have h7 := hcur j hjl k e
        have := Option.some.inj e2
        omega
    · obtain rfl : j = ks.length := by omega
      rw [hnew] at e
      exact hvi k e
  · by_cases hil' : i < ks.length
    · rw [hold i hil'] at e
      by_cases hjl : j < ks.length
      · rw [hold j hjl]
        exact h.dj i j hil' hjl hij k e
      · obtain rfl : j = ks.length := by omega
        rw [hnew]
        intro e2
        have := hcur i hil' k e
        have := hil k e2
        omega
    · obtain rfl : i = ks.length := by omega
      rw [hnew] at e
      have hjl : j < ks.length := by omega
      rw [hold j hjl]
      intro e2
      have := hcur j hjl k e2
      have := hil k e
      omega
theorem CRow.codes {F : Nat → Prop} {w : World} {base : Nat} {v : Value} {ks : List (Code × Value)} (h : CRow w base v ks) (hF : ∀ k, base ≤ k → F k) : CodeRow F w v (ks.map Prod.fst) := by
  have h2 := h.row.2
  rcases h2 with ⟨rfl, hn⟩ | ⟨g, cap, cur, rfl, e2, e3, e4, e5, e6, e7⟩
  · have e := List.eq_nil_of_length_eq_zero hn
    subst e
    exact ⟨none, 0, rfl, Nat.le_refl _, fun hne => absurd rfl hne⟩
  · refine ⟨some ⟨g, 0, none⟩, cap, by rw [List.length_map], by rw [List.length_map]; exact e4, fun _ => ⟨g, 0, rfl, hF g e2, (Array.getElem?_eq_some_iff.1 e3).1, fun j hj => ?_⟩⟩
    rw [List.length_map] at hj
    have hc : ∀ r u, r < 5 → (codeV ks[j])[r]? = some u → w.cell? ⟨g, 0 + j * 5 + r, none⟩ = some u := fun r u hr hu => by
      have hu2 : (flatK ks)[j * 5 + r]? = some u := by rw [show flatK ks = ks.flatMap codeV from rfl, flat_get codeV 5 (fun _ => rfl) ks j r hj hr]; exact hu
      have := h.row.cells (g := g) rfl (j * 5 + r) u hu2
      rw [add_off] at this
      rw [Nat.add_assoc]
      exact this
    rw [List.getElem_map]
    exact ⟨hc 0 _ (by decide) rfl, hc 1 _ (by decide) rfl, hc 2 _ (by decide) rfl, hc 3 _ (by decide) rfl, _, hc 4 _ (by decide) rfl, InsRow.of_own (h.ins j hj) (fun k e => hF k ((h.ins j hj).lt k e).1)⟩
/-! what is changed in it -/
theorem flatK_cut {ks : List (Code × Value)} {i : Nat} (hi : i < ks.length) : flatK ks = flatK (ks.take i) ++ (codeV ks[i] ++ flatK (ks.drop (i + 1))) := by
  unfold flatK
  conv => lhs; rw [← List.take_append_drop i ks, List.drop_eq_getElem_cons hi]
  rw [List.flatMap_append, List.flatMap_cons]
theorem flatK_set {ks : List (Code × Value)} {i : Nat} (hi : i < ks.length) (q : Code × Value) : flatK (ks.set i q) = flatK (ks.take i) ++ (codeV q ++ flatK (ks.drop (i + 1))) := by
  unfold flatK
  rw [List.set_eq_take_append_cons_drop, if_pos hi, List.flatMap_append, List.flatMap_cons]
theorem flatK_take {ks : List (Code × Value)} {i : Nat} (hi : i < ks.length) : (flatK (ks.take i)).length = i * 5 := by
  rw [show flatK (ks.take i) = (ks.take i).flatMap codeV from rfl, flat_len codeV 5 (fun _ => rfl), List.length_take, Nat.min_eq_left (by omega)]
theorem CRow.form {w : World} {base : Nat} {v : Value} {ks : List (Code × Value)} (h : CRow w base v ks) (hn : ks ≠ []) : ∃ g cap, v = .slice (some ⟨g, 0, none⟩) ks.length cap ∧ base ≤ g ∧ g < w.heap.size ∧ ∀ j, w.frozen? ⟨g, j, none⟩ = false := by
  rcases h.row.2 with ⟨rfl, h0⟩ | ⟨g, cap, cur, rfl, e2, e3, _⟩
  · exact absurd (List.eq_nil_of_length_eq_zero h0) hn
  · exact ⟨g, cap, rfl, e2, (Array.getElem?_eq_some_iff.1 e3).1, fun j => Lib.frozen_of_heap e3 j⟩
theorem CRow.setMax {w : World} {base g cap : Nat} {ks : List (Code × Value)} (h : CRow w base (.slice (some ⟨g, 0, none⟩) ks.length cap) ks) {i : Nat} (hi : i < ks.length) (m : Int) :
    CRow (w.setCell ⟨g, i * 5 + 3, none⟩ (.int .i64 m)) base (.slice (some ⟨g, 0, none⟩) ks.length cap) (ks.set i ({ ks[i].1 with max := m }, ks[i].2)) := by
  have hk : Keep (fun k => k = g) w (w.setCell ⟨g, i * 5 + 3, none⟩ (.int .i64 m)) := (Keep.refl (fun k => k = g) w).setCell rfl _ _
  have hg : (Value.slice (some ⟨g, 0, none⟩) ks.length cap).ownBlock = some g := rfl
  have hsnd : ∀ j, (hj : j < (ks.set i ({ ks[i].1 with max := m }, ks[i].2)).length) → (ks.set i ({ ks[i].1 with max := m }, ks[i].2))[j].2 = (ks[j]'(by rw [List.length_set] at hj; exact hj)).2 ∧ (ks.set i ({ ks[i].1 with max := m }, ks[i].2))[j].1.ins = (ks[j]'(by rw [List.length_set] at hj; exact hj)).1.ins := fun j hj => by
    rw [List.getElem_set]
    by_cases e : i = j
    · subst e
      simp
    · rw [if_neg e]
      exact ⟨rfl, rfl⟩
  refine ⟨?_, fun j hj => ?_, fun j hj k e => ?_, fun a b ha hb hab k e => ?_⟩
  · have hr := h.row
    rw [flatK_cut hi] at hr
    have e1 : flatK (ks.take i) ++ (codeV ks[i] ++ flatK (ks.drop (i + 1))) = (flatK (ks.take i) ++ [.int .i64 ks[i].1.params, .int .i64 ks[i].1.rest, .int .i64 ks[i].1.caps]) ++ .int .i64 ks[i].1.max :: (ks[i].2 :: flatK (ks.drop (i + 1))) := by simp [codeV]
    rw [e1] at hr
    have := Pt.own_set (v := .int .i64 m) hr
    rw [List.length_append, flatK_take hi] at this
    rw [List.length_set, flatK_set hi]
    have e2 : flatK (ks.take i) ++ (codeV ({ ks[i].1 with max := m }, ks[i].2) ++ flatK (ks.drop (i + 1))) = (flatK (ks.take i) ++ [.int .i64 ks[i].1.params, .int .i64 ks[i].1.rest, .int .i64 ks[i].1.caps]) ++ .int .i64 m :: (ks[i].2 :: flatK (ks.drop (i + 1))) := by simp [codeV]
    rw [e2]
    exact this
  · obtain ⟨f1, f2⟩ := hsnd j hj
    rw [f1, f2]
    exact own_keep (h.ins j _) hk (fun k e e2 => h.ne j _ k e (e2 ▸ hg))
  · rw [(hsnd j hj).1] at e
    exact h.ne j _ k e
  · rw [(hsnd a ha).1] at e
    rw [(hsnd b hb).1]
    exact h.dj a b _ _ hab k e
theorem CRow.addIns {w w2 w5 : World} {base g cap : Nat} {ks : List (Code × Value)} (h : CRow w base (.slice (some ⟨g, 0, none⟩) ks.length cap) ks) {i : Nat} (hi : i < ks.length) (x : Ins) (v' : Value)
    (h2 : Below w.heap.size w w2) (hgr : w2.grownBy w5 ks[i].2.ownBlock) (hr' : w5.ownsRow base 55 3 v' (ks[i].1.ins.length + 1) (flatI ks[i].1.ins ++ insV x)) (hat : v'.ownBlock = ks[i].2.ownBlock ∨ v'.ownBlock = some w2.heap.size) :
    CRow (w5.setCell ⟨g, i * 5 + 4, none⟩ v') base (.slice (some ⟨g, 0, none⟩) ks.length cap) (ks.set i ({ ks[i].1 with ins := ks[i].1.ins ++ [x] }, v')) := by
  have hg : (Value.slice (some ⟨g, 0, none⟩) ks.length cap).ownBlock = some g := rfl
  have hgl : g < w.heap.size := (h.row.lt g hg).2
  have hk25 := keep_grown hgr
  have s2 := h2.size
  have hk5 : Keep (fun k => k = g) w5 (w5.setCell ⟨g, i * 5 + 4, none⟩ v') := (Keep.refl (fun k => k = g) w5).setCell rfl _ _
  have hr5 : w5.ownsRow base 47 5 (.slice (some ⟨g, 0, none⟩) ks.length cap) ks.length (flatK ks) := by
    have := own_keep (S := fun _ => False) h.row ((Keep.refl _ w).below h2) (fun _ _ h => h)
    exact own_keep this hk25 (fun k e e2 => h.ne i hi k e2 e)
  have hv'g : v'.ownBlock ≠ some g := by
    rcases hat with e | e
    · rw [e]
      intro e2
      exact h.ne i hi g e2 hg
    · rw [e]
      intro e2
      have := Option.some.inj e2
      omega
  have hother : ∀ j, (hj : j < ks.length) → i ≠ j → ∀ k, ks[j].2.ownBlock = some k → v'.ownBlock ≠ some k := fun j hj hij k e => by
    rcases hat with e3 | e3
    · rw [e3]
      intro e2
      exact h.dj i j hi hj hij k e2 e
    · rw [e3]
      intro e2
      have := ((h.ins j hj).lt k e).2
      have := Option.some.inj e2
      omega
  have hlen : (ks.set i ({ ks[i].1 with ins := ks[i].1.ins ++ [x] }, v')).length = ks.length := List.length_set ..
  have hold : ∀ j, (hj : j < ks.length) → i ≠ j → (ks.set i ({ ks[i].1 with ins := ks[i].1.ins ++ [x] }, v'))[j]'(by omega) = ks[j] := fun j hj hij => List.getElem_set_ne hij _
  have hnew : (ks.set i ({ ks[i].1 with ins := ks[i].1.ins ++ [x] }, v'))[i]'(by omega) = ({ ks[i].1 with ins := ks[i].1.ins ++ [x] }, v') := List.getElem_set_self _
  refine ⟨?_, fun j hj => ?_, fun j hj k e => ?_, fun a b ha hb hab k e => ?_⟩
  · have hr := hr5
    rw [flatK_cut hi] at hr
    have e1 : flatK (ks.take i) ++ (codeV ks[i] ++ flatK (ks.drop (i + 1))) = (flatK (ks.take i) ++ [.int .i64 ks[i].1.params, .int .i64 ks[i].1.rest, .int .i64 ks[i].1.caps, .int .i64 ks[i].1.max]) ++ ks[i].2 :: flatK (ks.drop (i + 1)) := by simp [codeV]
    rw [e1] at hr
    have := Pt.own_set (v := v') hr
    rw [List.length_append, flatK_take hi] at this
    rw [List.length_set, flatK_set hi]
    have e2 : flatK (ks.take i) ++ (codeV ({ ks[i].1 with ins := ks[i].1.ins ++ [x] }, v') ++ flatK (ks.drop (i + 1))) = (flatK (ks.take i) ++ [.int .i64 ks[i].1.params, .int .i64 ks[i].1.rest, .int .i64 ks[i].1.caps, .int .i64 ks[i].1.max]) ++ v' :: flatK (ks.drop (i + 1)) := by simp [codeV]
    rw [e2]
    exact this
  · rw [hlen] at hj
    by_cases e : i = j
    · subst e
      rw [hnew]
      have e3 : flatI (ks[i].1.ins ++ [x]) = flatI ks[i].1.ins ++ insV x := by unfold flatI; rw [List.flatMap_append, List.flatMap_singleton]
      have e4 : (ks[i].1.ins ++ [x]).length = ks[i].1.ins.length + 1 := by rw [List.length_append]; rfl
      show World.ownsRow _ _ _ _ v' (ks[i].1.ins ++ [x]).length (flatI (ks[i].1.ins ++ [x]))
      rw [e3, e4]
      exact own_keep hr' hk5 (fun k e e2 => hv'g (e2 ▸ e))
    · rw [hold j hj e]
      have h6 := own_keep (S := fun _ => False) (h.ins j hj) ((Keep.refl _ w).below h2) (fun _ _ h => h)
      have h7 := own_keep h6 hk25 (fun k e1 e2 => h.dj i j hi hj e k e2 e1)
      exact own_keep h7 hk5 (fun k e1 e2 => h.ne j hj k e1 (e2 ▸ hg))
  · rw [hlen] at hj
    by_cases e2 : i = j
    · subst e2
      rw [hnew] at e
      intro e3
      have := Option.some.inj (hg.symm.trans e3)
      subst this
      exact hv'g e
    · rw [hold j hj e2] at e
      exact h.ne j hj k e
  · rw [hlen] at ha hb
    by_cases ea : i = a
    · subst ea
      rw [hnew] at e
      rw [hold b hb hab]
      intro e2
      exact hother b hb hab k e2 e
    · rw [hold a ha ea] at e
      by_cases eb : i = b
      · subst eb
        rw [hnew]
        exact hother a ha ea k e
      · rw [hold b hb eb]
        exact h.dj a b ha hb hab k e
end Cd
end Go.Proofs.YtlckjphnbfahgaaGreatDoor
