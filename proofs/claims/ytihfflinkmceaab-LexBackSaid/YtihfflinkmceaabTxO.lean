/-
  Several words' text; a row of words.
-/
import Derived.Test.YtihfflinkmceaabTxM
import Derived.Lib.Join
namespace Go.Proofs.Ytihfflinkmceaab
open Go.RowKit
namespace Tx
/-- a word as it comes in -/
structure W where
  k : Int
  a : Int
  z : Int
  n : Int
  s : ByteArray
def W.ok (t : W) : Prop := t.s.size ≤ 1000000 ∧ -9223372036854775808 ≤ t.n ∧ t.n ≤ 9223372036854775807
def W.val (t : W) : Value := .agg #[.int .i64 t.k, .int .i64 t.a, .int .i64 t.z, .int .i64 t.n, .string t.s]
def W.txt (t : W) : Option (List UInt8) := text t.k t.n t.s.data.toList
/-- a row of words, anywhere in a block -/
def Row (w : World) (v : Value) (l : List W) : Prop :=
  ∃ (a : Option Addr) (c : Nat), v = .slice a l.length c ∧ l.length ≤ c ∧ (l ≠ [] → ∃ b o, a = some ⟨b, o, none⟩ ∧ b < w.heap.size ∧ ∀ j, (h : j < l.length) →
    w.cell? ⟨b, o + j * 5, none⟩ = some (.int .i64 l[j].k) ∧ w.cell? ⟨b, o + j * 5 + 1, none⟩ = some (.int .i64 l[j].a) ∧ w.cell? ⟨b, o + j * 5 + 2, none⟩ = some (.int .i64 l[j].z) ∧ w.cell? ⟨b, o + j * 5 + 3, none⟩ = some (.int .i64 l[j].n) ∧ w.cell? ⟨b, o + j * 5 + 4, none⟩ = some (.string l[j].s))
theorem Row.below {w w' : World} {v : Value} {l : List W} (h : Row w v l) (hb : Below w.heap.size w w') : Row w' v l := by
  obtain ⟨a, c, h1, h2, h3⟩ := h
  refine ⟨a, c, h1, h2, fun hn => ?_⟩
  obtain ⟨b, o, h4, h5, h6⟩ := h3 hn
  refine ⟨b, o, h4, Nat.lt_of_lt_of_le h5 hb.size, fun j hj => ?_⟩
  obtain ⟨c0, c1, c2, c3, c4⟩ := h6 j hj
  exact ⟨(hb.cell (p := ⟨b, _, none⟩) h5).trans c0, (hb.cell (p := ⟨b, _, none⟩) h5).trans c1, (hb.cell (p := ⟨b, _, none⟩) h5).trans c2, (hb.cell (p := ⟨b, _, none⟩) h5).trans c3, (hb.cell (p := ⟨b, _, none⟩) h5).trans c4⟩
/-- the words' texts; none: one has none -/
def texts : List W → Option (List (List UInt8))
  | [] => some []
  | t :: r => match t.txt with
    | none => none
    | some x => (texts r).map (x :: ·)
/-- what Join gives -/
def JV (l : List W) : Value :=
  if 4096 < l.length then .tuple #[.string ⟨#[]⟩, .int .i64 3] else
  match texts l with
  | none => .tuple #[.string ⟨#[]⟩, .int .i64 30]
  | some xs => if 16384 < (Lib.join xs [32]).length then .tuple #[.string ⟨#[]⟩, .int .i64 3] else .tuple #[.string ⟨(Lib.join xs [32]).toArray⟩, .int .i64 0]
theorem JV_long (l : List W) (h : 4096 < l.length) : JV l = .tuple #[.string ⟨#[]⟩, .int .i64 3] := by unfold JV; rw [if_pos h]
theorem JV_none (l : List W) (h : l.length ≤ 4096) (ht : texts l = none) : JV l = .tuple #[.string ⟨#[]⟩, .int .i64 30] := by
  unfold JV; rw [if_neg (by omega), ht]
theorem JV_some (l : List W) (h : l.length ≤ 4096) (xs : List (List UInt8)) (ht : texts l = some xs) : JV l = if 16384 < (Lib.join xs [32]).length then .tuple #[.string ⟨#[]⟩, .int .i64 3] else .tuple #[.string ⟨(Lib.join xs [32]).toArray⟩, .int .i64 0] := by
  unfold JV; rw [if_neg (by omega), ht]
theorem texts_len : ∀ (l : List W) (xs : List (List UInt8)), texts l = some xs → xs.length = l.length
  | [], xs, h => by simp [texts] at h; subst h; rfl
  | t :: r, xs, h => by
    unfold texts at h
    cases ht : t.txt with
    | none => rw [ht] at h; simp at h
    | some x =>
      rw [ht] at h
      simp only [Option.map_eq_some_iff] at h
      obtain ⟨ys, hy, rfl⟩ := h
      simp [texts_len r ys hy]
/-- the texts, one after another -/
def Way (l : List W) (k : Nat) (xs : List (List UInt8)) : Prop := texts l = (texts (l.drop k)).map (xs ++ ·)
theorem Way.start (l : List W) : Way l 0 [] := by
  unfold Way
  cases h : texts l with
  | none => simp [h]
  | some xs => simp [h]
theorem Way.next {l : List W} {k : Nat} {xs : List (List UInt8)} (h : Way l k xs) (hk : k < l.length) (x : List UInt8) (hx : (l[k]).txt = some x) : Way l (k + 1) (xs ++ [x]) := by
  unfold Way at *
  rw [h, List.drop_eq_getElem_cons hk, texts, hx]
  cases texts (l.drop (k + 1)) <;> simp
theorem Way.fail {l : List W} {k : Nat} {xs : List (List UInt8)} (h : Way l k xs) (hk : k < l.length) (hx : (l[k]).txt = none) : texts l = none := by
  unfold Way at h
  rw [h, List.drop_eq_getElem_cons hk, texts, hx]
  rfl
theorem Way.done {l : List W} {k : Nat} {xs : List (List UInt8)} (h : Way l k xs) (hk : l.length ≤ k) : texts l = some xs := by
  unfold Way at h
  rw [h, List.drop_eq_nil_of_le hk]
  simp [texts]
theorem digF_len : ∀ (f n : Nat), (Fx.digF f n).length ≤ f + 1
  | 0, n => by unfold Fx.digF; simp
  | f + 1, n => by
    unfold Fx.digF
    split
    · simp
    · have := digF_len f (n / 10)
      simp only [List.length_append, List.length_singleton]
      omega
theorem escs_len : ∀ (l : List UInt8), (escsL l).length ≤ 4 * l.length
  | [] => by simp [escsL]
  | c :: r => by
    have h1 := escs_len r
    have h2 : (escL c).length ≤ 4 := by
      unfold escL
      split
      · simp
      split
      · simp
      split
      · simp
      split
      · simp
      split
      · simp
      · simp [pairL]
    have h3 : escsL (c :: r) = escL c ++ escsL r := by simp [escsL]
    rw [h3, List.length_append, List.length_cons]
    omega
theorem let_len' (n : Nat) : (letL n).length ≤ 7 := by
  unfold letL
  split
  · simp
  split
  · simp
  split
  · simp
  split
  · simp
  split
  · simp
  · simp [pairL]
theorem sym_len (l : List UInt8) (h : Lx.symbol l = true) : l.length ≤ 32 := by
  unfold Lx.symbol at h
  rcases Bool.or_eq_true_iff.1 h with h | h
  · rcases Bool.or_eq_true_iff.1 h with h | h
    · rcases Bool.or_eq_true_iff.1 h with h | h
      · rw [beq_iff_eq.1 h]; simp
      · rw [beq_iff_eq.1 h]; simp
    · rw [beq_iff_eq.1 h]; simp
  · simp only [Bool.and_eq_true, decide_eq_true_eq] at h
    omega
theorem text_len (k n : Int) (l x : List UInt8) (h : text k n l = some x) : x.length ≤ 1100 := by
  unfold text at h
  split at h
  · split at h
    · rename_i hk hok
      injection h with h
      subst h
      unfold datL
      split
      · unfold Fx.textL
        have := digF_len 20 n.natAbs
        simp only [List.length_append]
        split <;> (simp; omega)
      split
      · split <;> simp
      split
      · have := let_len' n.toNat
        simp; omega
      split
      · rename_i h1 h2 h3 h4
        rw [h4] at hok
        unfold ok at hok
        rw [if_neg (by decide), if_neg (by decide), if_neg (by decide), if_pos rfl, Bool.and_eq_true, Bool.and_eq_true, decide_eq_true_iff, decide_eq_true_iff] at hok
        have := escs_len l
        unfold quotL
        simp; omega
      · rename_i h1 h2 h3 h4
        unfold ok at hok
        rw [if_neg h1, if_neg h2, if_neg h3, if_neg h4] at hok
        split at hok
        · rw [Bool.and_eq_true] at hok
          have := sym_len l hok.2
          omega
        · exact absurd hok (by simp)
    · exact absurd h (by simp)
  · split at h
    · split at h
      · injection h with h
        subst h
        unfold signL
        split
        · simp
        split
        · simp
        split
        · simp
        split
        · simp
        split
        · simp
        split
        · simp
        split
        · simp
        · simp
      · exact absurd h (by simp)
    · exact absurd h (by simp)
theorem join_snoc (xs : List (List UInt8)) (y : List UInt8) (h : xs ≠ []) : Lib.join (xs ++ [y]) [32] = Lib.join xs [32] ++ [32] ++ y := by
  match xs, h with
  | x :: r, _ =>
    rw [List.cons_append, Lib.join_cons, Lib.join_cons]
    simp [Lib.joinTail]
/-- short texts make a short text -/
theorem join_len : ∀ (xs : List (List UInt8)), (∀ x ∈ xs, x.length ≤ 1100) → (Lib.join xs [32]).length ≤ 1101 * xs.length
  | [], _ => by simp [Lib.join_nil]
  | x :: r, h => by
    rw [Lib.join_cons, List.length_append]
    have h0 := h x (by simp)
    have : ∀ (r : List (List UInt8)), (∀ y ∈ r, y.length ≤ 1100) → (Lib.joinTail [32] r).length ≤ 1101 * r.length := by
      intro r
      induction r with
      | nil => intro _; simp [Lib.joinTail]
      | cons y r ih =>
        intro hy
        have h1 := hy y (by simp)
        have h2 := ih (fun z hz => hy z (by simp [hz]))
        have e : Lib.joinTail [32] (y :: r) = ([32] ++ y) ++ Lib.joinTail [32] r := by simp [Lib.joinTail]
        rw [e, List.length_append, List.length_append, List.length_cons]
        simp; omega
    have := this r (fun z hz => h z (by simp [hz]))
    simp; omega
end Tx
end Go.Proofs.Ytihfflinkmceaab
