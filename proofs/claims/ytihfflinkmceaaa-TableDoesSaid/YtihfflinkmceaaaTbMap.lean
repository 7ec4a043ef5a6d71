/-
  A table's contents as a list of names and values; a map[string]api.Value that holds what a function says.
-/
import Derived.Test.YtihfflinkmceaaaTbSym
import Derived.Maps.Own
import Derived.Maps.OwnOps
import Derived.Maps.OwnSet
import Derived.Maps.Views
import Derived.StringKeys
namespace Go.Proofs.Ytihfflinkmceaaa
open Go.RowKit Go.Maps Go.WideMaps
namespace Tb
abbrev Nm := List UInt8
abbrev V := Int × Int
abbrev Ctx := Nm → Option V
/-- what is held of a name -/
def look : List (Nm × V) → Nm → Option V
  | [], _ => none
  | (a, x) :: r, s => if a = s then some x else look r s
/-- one more, or another value; names rise -/
def put : List (Nm × V) → Nm → V → List (Nm × V)
  | [], s, v => [(s, v)]
  | (a, x) :: r, s, v => if a = s then (s, v) :: r else if a < s then (a, x) :: put r s v else (s, v) :: (a, x) :: r
def Rising (L : List (Nm × V)) : Prop := L.Pairwise fun p q => p.1 < q.1
theorem look_put_same (L : List (Nm × V)) (s : Nm) (v : V) : look (put L s v) s = some v := by
  induction L with
  | nil => simp [put, look]
  | cons p r ih =>
    obtain ⟨a, x⟩ := p
    unfold put
    split
    · simp [look]
    · split
      · rename_i h _; unfold look; rw [if_neg h]; exact ih
      · simp [look]
theorem look_put_other (L : List (Nm × V)) (s z : Nm) (v : V) (h : z ≠ s) : look (put L s v) z = look L z := by
  induction L with
  | nil => simp [put, look, Ne.symm h]
  | cons p r ih =>
    obtain ⟨a, x⟩ := p
    unfold put
    split
    · rename_i e; subst e; simp [look, Ne.symm h]
    · split
      · unfold look; rw [ih]
      · simp [look, Ne.symm h]
theorem look_none (L : List (Nm × V)) (s : Nm) (h : ∀ p ∈ L, s < p.1) : look L s = none := by
  induction L with
  | nil => rfl
  | cons p r ih =>
    obtain ⟨a, x⟩ := p
    have h1 : s < a := h _ (List.mem_cons_self ..)
    unfold look
    rw [if_neg (fun e => by subst e; exact absurd h1 (List.lt_irrefl _))]
    exact ih fun q hq => h q (List.mem_cons_of_mem _ hq)
theorem mem_put (L : List (Nm × V)) (s : Nm) (v : V) (p : Nm × V) (h : p ∈ put L s v) : p = (s, v) ∨ p ∈ L := by
  induction L with
  | nil => simp [put] at h; exact .inl h
  | cons q r ih =>
    obtain ⟨a, x⟩ := q
    unfold put at h
    split at h
    · simp at h ⊢; rcases h with h | h
      · exact .inl h
      · exact .inr (.inr h)
    · split at h
      · simp at h ⊢
        rcases h with h | h
        · exact .inr (.inl h)
        · rcases ih h with h | h
          · exact .inl h
          · exact .inr (.inr h)
      · simp at h ⊢; exact h
theorem lt_of_not {a s : Nm} (h1 : a ≠ s) (h2 : ¬ a < s) : s < a := by
  exact Classical.byContradiction fun h3 => h1 (List.le_antisymm (List.not_lt.1 h3) (List.not_lt.1 h2))
theorem Rising.put {L : List (Nm × V)} (h : Rising L) (s : Nm) (v : V) : Rising (put L s v) := by
  induction L with
  | nil => simp [Tb.put, Rising]
  | cons q r ih =>
    obtain ⟨a, x⟩ := q
    obtain ⟨h1, h2⟩ := List.pairwise_cons.1 h
    unfold Tb.put
    split
    · rename_i e; subst e
      exact List.pairwise_cons.2 ⟨h1, h2⟩
    · split
      · rename_i _ hlt
        refine List.pairwise_cons.2 ⟨fun p hp => ?_, ih h2⟩
        rcases mem_put r s v p hp with rfl | hp
        · exact hlt
        · exact h1 p hp
      · rename_i hne hlt
        have hsa := lt_of_not hne hlt
        refine List.pairwise_cons.2 ⟨fun p hp => ?_, h⟩
        rcases List.mem_cons.1 hp with rfl | hp
        · exact hsa
        · exact List.lt_trans hsa (h1 p hp)
theorem length_put {L : List (Nm × V)} (h : Rising L) (s : Nm) (v : V) : (put L s v).length = if (look L s).isSome then L.length else L.length + 1 := by
  induction L with
  | nil => rfl
  | cons q r ih =>
    obtain ⟨a, x⟩ := q
    obtain ⟨h1, h2⟩ := List.pairwise_cons.1 h
    unfold put look
    by_cases e : a = s
    · rw [if_pos e, if_pos e]; simp
    · rw [if_neg e, if_neg e]
      by_cases hlt : a < s
      · rw [if_pos hlt, List.length_cons, ih h2]
        split <;> simp
      · rw [if_neg hlt]
        have hsa := lt_of_not e hlt
        rw [look_none r s fun p hp => List.lt_trans hsa (h1 p hp)]
        simp
/-- how a value lies in a map -/
def cell (v : V) : Value := .agg #[.int .i64 v.1, .int .i64 v.2]
def dat (v : V) : DataW Unit := .agg [.lit (.int .i64 v.1), .lit (.int .i64 v.2)]
def rd : Value → Option (DataW Unit × List MemPlace)
  | .agg ⟨[.int .i64 a, .int .i64 b]⟩ => some (.agg [.lit (.int .i64 a), .lit (.int .i64 b)], [])
  | _ => none
theorem rd_cell (v : V) : rd (cell v) = some (dat v, []) := rfl
theorem rd_inv {x : Value} {z : DataW Unit × List MemPlace} (h : rd x = some z) : ∃ v : V, x = cell v ∧ z = (dat v, []) := by
  unfold rd at h
  split at h
  · rename_i a b
    cases h
    exact ⟨(a, b), rfl, rfl⟩
  · cases h
theorem dat_inj {a b : V} (h : dat a = dat b) : a = b := by
  simp [dat] at h
  exact Prod.ext h.1 h.2
set_option maxRecDepth 100000 in
theorem strK : Keyed Try.prog 9 := string_keyed Try.underlying9
set_option maxRecDepth 100000 in
theorem zeroV (w : World) : (zeroValue 37).run Try.prog w = .ok (cell (0, 0)) w := by kernel_rfl
/-- a name's key -/
def key (s : Nm) : Lit := .string s
theorem isKey (s : Nm) : WideAt.IsKeyLit (key s) := trivial
theorem keyOf_nm {s : ByteArray} (hs : s.size ≤ maxLen) : keyOf Try.prog 9 (.string s) = some (key s.data.toList) := keyOf_string_mk Try.underlying9 hs
/-- block b is a map of k entries that holds what g says -/
def Mp (w : World) (b k : Nat) (g : Ctx) : Prop :=
  ∃ D : DataW Unit, w.ownsMap Try.prog 9 rd b k D ∧ size D = k ∧ ∀ s, has D (key s) = (g s).isSome ∧ ∀ v, g s = some v → ∀ z, D.atKey (key s) z = dat v
theorem Mp.made (w : World) : Mp (w.alloc (.map #[] 0)) w.heap.size 0 fun _ => none :=
  ⟨_, World.ownsMap_made _ _ _ _, rfl, fun _ => ⟨rfl, fun _ h => by cases h⟩⟩
theorem Mp.lt {w : World} {b k : Nat} {g : Ctx} (h : Mp w b k g) : b < w.heap.size := let ⟨_, ho, _⟩ := h; ho.lt
theorem Mp.kept {w w' : World} {b k : Nat} {g : Ctx} {row : Option Nat} (h : Mp w b k g) (hg : w.grownBy w' row) (hne : some b ≠ row) : Mp w' b k g :=
  let ⟨D, ho, h2⟩ := h; ⟨D, ho.kept hg hne, h2⟩
theorem Mp.len {w : World} {b k : Nat} {g : Ctx} (h : Mp w b k g) : (Builtin.len_ #[30] 3 #[.map (some b)]).run Try.prog w = .ok (.int .i64 k) w := by
  obtain ⟨D, ho, hk, _⟩ := h
  rw [ho.len Try.underlying30 3, hk]
/-- 'v, is := m[s]' -/
theorem Mp.get {w : World} {b k : Nat} {g : Ctx} (h : Mp w b k g) {s : ByteArray} (hs : s.size ≤ maxLen) :
    (Instr.lookup 30 (.map (some b)) (.string s) true).run Try.prog w = .ok (.tuple #[cell ((g s.data.toList).getD (0, 0)), .bool (g s.data.toList).isSome]) w := by
  obtain ⟨D, ho, _, hg⟩ := h
  obtain ⟨v, ps, hrun, hv⟩ := ho.look_ok strK Try.underlying30 (zeroV w) (rd_cell (0, 0)) (keyOf_nm hs)
  rw [hrun, (hg _).1]
  obtain ⟨y, rfl, hy⟩ := rd_inv hv
  have hd := congrArg Prod.fst hy
  simp only at hd
  cases hgs : g s.data.toList with
  | none =>
    have hh := (hg s.data.toList).1
    rw [hgs] at hh
    rw [atKey_of_not_has hh] at hd
    rw [← dat_inj hd]
    rfl
  | some x =>
    rw [(hg s.data.toList).2 x hgs] at hd
    rw [← dat_inj hd]
    rfl
/-- what a function says, but at one name -/
def upd (g : Ctx) (s : Nm) (v : V) : Ctx := fun z => if z = s then some v else g z
theorem upd_look (L : List (Nm × V)) (s : Nm) (v : V) : upd (look L) s v = look (put L s v) := by
  funext z
  unfold upd
  split
  · rename_i e; subst e; rw [look_put_same]
  · rename_i e; rw [look_put_other _ _ _ _ e]
/-- 'm[s] = v' -/
theorem Mp.set {w : World} {b k : Nat} {g : Ctx} (h : Mp w b k g) (hk : k < maxLen) {s : ByteArray} (hs : s.size ≤ maxLen) (v : V) :
    ∃ w', (Instr.mapUpdate 30 (.map (some b)) (.string s) (cell v)).run Try.prog w = .ok () w' ∧ Mp w' b (if (g s.data.toList).isSome then k else k + 1) (upd g s.data.toList v) ∧ w.mapTurned w' b := by
  obtain ⟨D, ho, hsz, hg⟩ := h
  obtain ⟨w', hrun, ho', ht⟩ := ho.store strK Try.underlying30 hk (keyOf_nm hs) (rd_cell v)
  have hsz' : size (D.put (key s.data.toList) (dat v)) = if (g s.data.toList).isSome then k else k + 1 := by
    rw [size_put (ho.tidy strK), (hg _).1, hsz]
  refine ⟨w', hrun, ⟨_, ?_, hsz', fun z => ?_⟩, ht⟩
  · have hle := ho'.size_le
    obtain ⟨es, clock, h1, h2, h3, h4⟩ := ho'
    refine ⟨es, clock, h1, h2, ?_, h4⟩
    rw [← hsz', h4]
    show _ ≤ ((es.toList.map _).foldr DataW.insert []).length
    rw [length_sorted]
    simp
  · unfold upd
    by_cases e : z = s.data.toList
    · subst e
      rw [if_pos rfl]
      exact ⟨has_put_same ho.isMap (isKey _) _, fun y hy z => by cases hy; exact atKey_put_same ho.isMap (isKey _) _ z⟩
    · rw [if_neg e]
      have hne : key z ≠ key s.data.toList := fun h => e (by cases h; rfl)
      exact ⟨by rw [has_put_other hne]; exact (hg z).1, fun y hy d => by rw [atKey_put_other hne]; exact (hg z).2 y hy d⟩
end Tb
end Go.Proofs.Ytihfflinkmceaaa
