/-
  ScopeInner, ScopeAlike: the plain laws.
-/
import Derived.Test.YtjbjgceblanhpaaDoorSpMade
namespace Go.Proofs.YtjbjgceblanhpaaDoor
open Go.RowKit
namespace Sp
open Dt
theorem up_app {l : List Bd} (ho : ∀ i b, l[i]? = some b → 0 < i → b.inn < i) (b : Bd) : ∀ (n q : Nat), q < l.length → up (l ++ [b]) n q = up l n q
  | 0, _, _ => rfl
  | n + 1, q, hq => by
    rw [up, up]
    by_cases h0 : q = 0
    · rw [if_pos h0, if_pos h0]
    · rw [if_neg h0, if_neg h0, List.getElem?_append_left hq]
      cases hb : l[q]? with
      | none => rfl
      | some x =>
        have := ho q x hb (by omega)
        simp only
        rw [up_app ho b n x.inn (by omega)]
theorem find_congr {α : Type} {p q : α → Bool} : ∀ {l : List α}, (∀ x ∈ l, p x = q x) → l.find? p = l.find? q
  | [], _ => rfl
  | a :: l, h => by
    rw [List.find?_cons, List.find?_cons, h a (List.mem_cons_self ..), find_congr (fun x hx => h x (List.mem_cons_of_mem _ hx))]
theorem binds_app {l : List Bd} {b : Bd} {s : ByteArray} {m : List Int} {i : Nat} (h : i < l.length) : binds (l ++ [b]) s m i = binds l s m i := by
  unfold binds
  rw [List.getElem?_append_left h]
theorem hit_app {t : Tbl} (h : t.Ok) (b : Bd) (s : ByteArray) (m : List Int) (q : Nat) (hq : q < t.l.length) : hit (t.l ++ [b]) q s m = hit t.l q s m := by
  unfold hit ups
  rw [up_app (fun i b hb hi => (h.inn i b hb hi).1) b q q hq]
  exact find_congr fun i hi => binds_app (by have := (ups_lt h q hq i hi).2; omega)
theorem hit_lt {t : Tbl} (h : t.Ok) {s : ByteArray} {m : List Int} {q i : Nat} (hq : q < t.l.length) (hh : hit t.l q s m = some i) : i < t.l.length ∧ 0 < i := by
  have := ups_lt h q hq i (List.mem_of_find?_eq_some hh)
  omega
theorem whatOf_app {l : List Bd} {b : Bd} {i : Nat} (h : i < l.length) : whatOf (l ++ [b]) i = whatOf l i := by
  unfold whatOf
  rw [List.getElem?_append_left h]
theorem mark_lt {t : Tbl} (h : t.Ok) (i : Nat) : t.m.getD i 0 < t.l.length := by
  rw [List.getD_eq_getElem?_getD]
  cases hi : t.m[i]? with
  | none => exact h.pos
  | some v => exact h.ms v (List.mem_of_getElem? hi)
/-- what is looked for in an old scope is not touched by a new one -/
theorem look_ext {t : Tbl} (h : t.Ok) (b : Bd) (s : ByteArray) (m : List Int) : ∀ (k q : Nat), q < t.l.length → look ⟨t.l ++ [b], t.m⟩ s m k q = look t s m k q
  | 0, q, hq => by
    rw [look, look]
    simp only
    rw [hit_app h b s [] q hq]
    cases hh : hit t.l q s [] with
    | none => rfl
    | some i => simp only; rw [whatOf_app (hit_lt h hq hh).1]
  | k + 1, q, hq => by
    rw [look, look]
    simp only
    rw [hit_app h b s _ q hq]
    cases hh : hit t.l q s (m.take (k + 1)) with
    | none => exact look_ext h b s m k _ (mark_lt h _)
    | some i => simp only; rw [whatOf_app (hit_lt h hq hh).1]
/-- nor by a new mark, where the marks are old ones -/
theorem look_mark {t : Tbl} (h : t.Ok) (c : Nat) (s : ByteArray) (m : List Int) (hm : ∀ x ∈ m, 1 ≤ x ∧ x ≤ t.m.length) : ∀ (k q : Nat), k ≤ m.length → look ⟨t.l, t.m ++ [c]⟩ s m k q = look t s m k q
  | 0, q, _ => by rw [look, look]
  | k + 1, q, hk => by
    rw [look, look]
    simp only
    have hx := hm m[k] (List.getElem_mem _)
    have e : m.getD k 0 = m[k] := by rw [List.getD_eq_getElem?_getD, List.getElem?_eq_getElem (by omega)]; rfl
    have e2 : (t.m ++ [c]).getD ((m.getD k 0).toNat - 1) 0 = t.m.getD ((m.getD k 0).toNat - 1) 0 := by
      rw [e, List.getD_eq_getElem?_getD, List.getD_eq_getElem?_getD, List.getElem?_append_left (by omega)]
    rw [e2, look_mark h c s m hm k _ (by omega)]
/-- a new scope -/
structure Put (t : Tbl) (sc : Int) (id : D) : Prop where
  r : 0 ≤ sc ∧ sc < (t.l.length : Int)
  sym : isSym id = true
  full : t.l.length < 16384
theorem extend_cases (t : Tbl) (sc : Int) (id : D) (n : Int) : ((extend t sc id n).2.2 ≠ 0 ∧ (extend t sc id n).2.1 = 0) ∨ (Put t sc id ∧ extend t sc id n = (⟨t.l ++ [⟨sc.toNat, id, n⟩], t.m⟩, (t.l.length : Int), 0)) := by
  unfold extend
  split
  · exact .inl ⟨by simp, rfl⟩
  split
  · exact .inl ⟨by simp, rfl⟩
  split
  · exact .inl ⟨by simp, rfl⟩
  · rename_i h1 h2 h3
    exact .inr ⟨⟨by omega, by simpa using h2, by omega⟩, rfl⟩
/-- the new scope's chain -/
theorem ups_new {t : Tbl} (h : t.Ok) {sc : Int} {id : D} {n : Int} (hp : Put t sc id) : ups (t.l ++ [⟨sc.toNat, id, n⟩]) t.l.length = t.l.length :: ups t.l sc.toNat := by
  have hok : (extend t sc id n).1.Ok := h.extend sc id n
  rcases extend_cases t sc id n with ⟨h1, _⟩ | ⟨_, he⟩
  · exfalso
    apply h1
    unfold extend
    rw [if_neg (by have := hp.r; omega), if_neg (by rw [hp.sym]; simp), if_neg (by have := hp.full; omega)]
  · rw [he] at hok
    have hlt : sc.toNat < t.l.length := by have := hp.r; omega
    have := ups_step (t := ⟨t.l ++ [⟨sc.toNat, id, n⟩], t.m⟩) hok (q := t.l.length) (by have := h.pos; omega) (b := ⟨sc.toNat, id, n⟩) (by show (t.l ++ _)[t.l.length]? = _; rw [List.getElem?_append_right (Nat.le_refl _), Nat.sub_self]; rfl)
    simp only at this
    rw [this]
    congr 1
    unfold ups
    exact up_app (fun i b hb hi => (h.inn i b hb hi).1) _ _ _ hlt
/-- ScopeInner, its first part: the name itself -/
theorem inner_own {t : Tbl} (h : t.Ok) {sc : Int} {id : D} {n : Int} (hp : Put t sc id) (hm : ∀ x ∈ id.m, x ≤ t.m.length) :
    find ⟨t.l ++ [⟨sc.toNat, id, n⟩], t.m⟩ (t.l.length : Int) id = (⟨t.l.length, n, ⟨#[]⟩⟩, 0) := by
  unfold find
  have hl : (t.l ++ [(⟨sc.toNat, id, n⟩ : Bd)]).length = t.l.length + 1 := by simp
  rw [if_neg (by simp only [hl]; omega), if_neg (by rw [hp.sym]; simp), if_neg (by
    simp only [Bool.not_eq_false, List.all_eq_true, decide_eq_true_eq]
    exact hm)]
  have hh : hit (t.l ++ [⟨sc.toNat, id, n⟩]) t.l.length id.s (id.m.take id.m.length) = some t.l.length := by
    unfold hit
    rw [ups_new h hp, List.find?_cons, List.take_length]
    unfold binds
    rw [List.getElem?_append_right (Nat.le_refl _), Nat.sub_self]
    simp
  have hw : whatOf (t.l ++ [⟨sc.toNat, id, n⟩]) t.l.length = n := by
    unfold whatOf
    rw [List.getElem?_append_right (Nat.le_refl _), Nat.sub_self]
    rfl
  show (look _ id.s id.m id.m.length (t.l.length : Int).toNat, (0 : Int)) = _
  rw [Int.toNat_natCast]
  cases hk : id.m.length with
  | zero =>
    rw [hk, List.take_zero] at hh
    rw [look]
    simp only
    rw [hh]
    simp only
    rw [hw]
  | succ k =>
    rw [hk] at hh
    rw [look]
    simp only
    rw [hh]
    simp only
    rw [hw]
/-- its last part: every other name -/
theorem inner_other {t : Tbl} (h : t.Ok) {sc : Int} {id other : D} {n : Int} (hp : Put t sc id) (hs : sameD id other = false) :
    find ⟨t.l ++ [⟨sc.toNat, id, n⟩], t.m⟩ (t.l.length : Int) other = find t sc other := by
  have hl : (t.l ++ [(⟨sc.toNat, id, n⟩ : Bd)]).length = t.l.length + 1 := by simp
  have hr := hp.r
  unfold find
  have hq1 : ¬ ((t.l.length : Int) < 0 ∨ ((t.l ++ [(⟨sc.toNat, id, n⟩ : Bd)]).length : Int) ≤ (t.l.length : Int)) := by rw [hl]; omega
  have hq2 : ¬ (sc < 0 ∨ (t.l.length : Int) ≤ sc) := by omega
  rw [if_neg hq1, if_neg hq2]
  by_cases ho : isSym other = false
  · rw [if_pos ho, if_pos ho]
  rw [if_neg ho, if_neg ho]
  split
  · rfl
  have ho' : isSym other = true := by simpa using ho
  have hlt : sc.toNat < t.l.length := by omega
  have hne : ∀ k, k = other.m.length → hit (t.l ++ [⟨sc.toNat, id, n⟩]) t.l.length other.s (other.m.take k) = hit t.l sc.toNat other.s (other.m.take k) := by
    intro k hk
    subst hk
    rw [List.take_length]
    unfold hit
    rw [ups_new h hp, List.find?_cons]
    have hb : binds (t.l ++ [⟨sc.toNat, id, n⟩]) other.s other.m t.l.length = false := by
      unfold binds
      rw [List.getElem?_append_right (Nat.le_refl _), Nat.sub_self]
      simp only [List.getElem?_cons_zero]
      rw [Bool.eq_false_iff]
      intro e
      simp only [Bool.and_eq_true, decide_eq_true_eq] at e
      have he := sym_ext hp.sym ho' e.1 e.2
      subst he
      unfold sameD at hs
      have hc := (sym_parts ho').2.2.2.2.2.2.2
      rw [hc] at hs
      simp at hs
      rw [(eqD_iff id id).2 rfl] at hs
      exact absurd hs (by simp)
    rw [hb]
    simp only
    exact find_congr fun i hi => binds_app (by have := (ups_lt h _ hlt i hi).2; omega)
  congr 1
  rw [Int.toNat_natCast]
  cases hk : other.m.length with
  | zero =>
    have h9 := hne 0 hk.symm
    rw [List.take_zero] at h9
    rw [look, look]
    simp only
    rw [h9]
    cases hh : hit t.l sc.toNat other.s [] with
    | none => rfl
    | some i => simp only; rw [whatOf_app (hit_lt h hlt hh).1]
  | succ k =>
    have h9 := hne (k + 1) hk.symm
    rw [look, look]
    simp only
    rw [h9]
    cases hh : hit t.l sc.toNat other.s (other.m.take (k + 1)) with
    | none => exact look_ext h _ other.s other.m k _ (mark_lt h _)
    | some i => simp only; rw [whatOf_app (hit_lt h hlt hh).1]
/-- the name itself, told in other words -/
theorem inner_same {t : Tbl} (h : t.Ok) {sc : Int} {id other : D} {n : Int} (hp : Put t sc id) (hs : sameD id other = true) :
    (find ⟨t.l ++ [⟨sc.toNat, id, n⟩], t.m⟩ (t.l.length : Int) other).2 ≠ 0 ∨ (find ⟨t.l ++ [⟨sc.toNat, id, n⟩], t.m⟩ (t.l.length : Int) other).1.scope = t.l.length := by
  unfold sameD at hs
  simp only [Bool.and_eq_true] at hs
  have he := (eqD_iff id other).1 hs.2
  subst he
  by_cases ha : ∀ x ∈ id.m, x ≤ (t.m.length : Int)
  · rw [inner_own h hp ha]
    exact .inr rfl
  · left
    unfold find
    have hl : (t.l ++ [(⟨sc.toNat, id, n⟩ : Bd)]).length = t.l.length + 1 := by simp
    rw [if_neg (by simp only [hl]; omega), if_neg (by rw [hp.sym]; simp), if_pos (by
      rw [Bool.eq_false_iff]
      intro e
      exact ha (by simpa using e))]
    decide
theorem TI.mut {w : World} {base T mb : Nat} {vl : Value} {xs : List B} {t : Tbl} (h : TI w base T vl mb xs t) : ∀ k, Mut T vl mb k → base ≤ k ∧ k < w.heap.size := by
  intro k e
  rcases e with rfl | e | rfl
  · exact ⟨h.tab.bT, h.tab.lt⟩
  · exact own_lt h.tab.row k e
  · exact ⟨h.tab.bm, h.tab.mp.lt⟩
theorem Seen.eta (r : Seen × Int) : ∃ us uw un e, r = (⟨us, uw, un⟩, e) := by
  obtain ⟨⟨us, uw, un⟩, e⟩ := r
  exact ⟨us, uw, un, e, rfl⟩
end Sp
end Go.Proofs.YtjbjgceblanhpaaDoor
