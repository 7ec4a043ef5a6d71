/-
  A map[int]int that holds what a function says; a row of scopes as it lies; a scope.Table as it lies.
-/
import Derived.Test.YtjbjgceblanhpaaDoorSpKey
import Derived.Maps.Own
import Derived.Maps.OwnOps
import Derived.Maps.OwnSet
import Derived.Maps.Views
import Derived.Maps.Keyed
namespace Go.Proofs.YtjbjgceblanhpaaDoor
open Go.RowKit Go.Maps Go.WideMaps
namespace Sp
open Dt
def rd : Value → Option (DataW Unit × List MemPlace)
  | .int .i64 a => some (.lit (.int .i64 a), [])
  | _ => none
def dat (v : Int) : DataW Unit := .lit (.int .i64 v)
theorem rd_cell (v : Int) : rd (.int .i64 v) = some (dat v, []) := rfl
theorem rd_inv {x : Value} {z : DataW Unit × List MemPlace} (h : rd x = some z) : ∃ v : Int, x = .int .i64 v ∧ z = (dat v, []) := by
  unfold rd at h
  split at h
  · rename_i a
    cases h
    exact ⟨a, rfl, rfl⟩
  · cases h
theorem dat_inj {a b : Int} (h : dat a = dat b) : a = b := by
  unfold dat at h
  cases h; rfl
set_option maxRecDepth 100000 in
theorem intK : Keyed Tryd.prog 3 := int_keyed Tryd.underlying3
set_option maxRecDepth 100000 in
theorem zeroI (w : World) : (zeroValue 3).run Tryd.prog w = .ok (.int .i64 0) w := by kernel_rfl
def key (s : Int) : Lit := .int .i64 s
theorem isKey (s : Int) : WideAt.IsKeyLit (key s) := trivial
theorem keyOf_i {s : Int} (h0 : -9223372036854775808 ≤ s) (h1 : s ≤ 9223372036854775807) : keyOf Tryd.prog 3 (.int .i64 s) = some (key s) := keyOf_int_mk Tryd.underlying3 (by show (decide (IntKind.i64.min ≤ s) && decide (s ≤ IntKind.i64.max)) = true; rw [show IntKind.i64.min = -9223372036854775808 by decide, show IntKind.i64.max = 9223372036854775807 by decide, decide_eq_true h0, decide_eq_true h1]; rfl)
/-- block b is a map of k entries that holds what g says -/
def IMp (w : World) (b k : Nat) (g : Int → Option Int) : Prop :=
  ∃ D : DataW Unit, w.ownsMap Tryd.prog 3 rd b k D ∧ size D = k ∧ ∀ s, has D (key s) = (g s).isSome ∧ ∀ v, g s = some v → ∀ z, D.atKey (key s) z = dat v
theorem IMp.made (w : World) : IMp (w.alloc (.map #[] 0)) w.heap.size 0 fun _ => none :=
  ⟨_, World.ownsMap_made _ _ _ _, rfl, fun _ => ⟨rfl, fun _ h => by cases h⟩⟩
theorem IMp.lt {w : World} {b k : Nat} {g : Int → Option Int} (h : IMp w b k g) : b < w.heap.size := let ⟨_, ho, _⟩ := h; ho.lt
theorem IMp.len {w : World} {b k : Nat} {g : Int → Option Int} (h : IMp w b k g) : (Builtin.len_ #[71] 3 #[.map (some b)]).run Tryd.prog w = .ok (.int .i64 k) w := by
  obtain ⟨D, ho, hk, _⟩ := h
  rw [ho.len Tryd.underlying71 3, hk]
theorem IMp.look {w : World} {b k : Nat} {g : Int → Option Int} (h : IMp w b k g) {s : Int} (h0 : -9223372036854775808 ≤ s) (h1 : s ≤ 9223372036854775807) :
    (Instr.lookup 71 (.map (some b)) (.int .i64 s) true).run Tryd.prog w = .ok (.tuple #[.int .i64 ((g s).getD 0), .bool (g s).isSome]) w := by
  obtain ⟨D, ho, _, hg⟩ := h
  obtain ⟨v, ps, hrun, hv⟩ := ho.look_ok intK Tryd.underlying71 (zeroI w) (rd_cell 0) (keyOf_i h0 h1)
  rw [hrun, (hg _).1]
  obtain ⟨y, rfl, hy⟩ := rd_inv hv
  have hd := congrArg Prod.fst hy
  simp only at hd
  cases hgs : g s with
  | none =>
    have hh := (hg s).1
    rw [hgs] at hh
    rw [atKey_of_not_has hh] at hd
    rw [← dat_inj hd]
    rfl
  | some x =>
    rw [(hg s).2 x hgs] at hd
    rw [← dat_inj hd]
    rfl
theorem IMp.look1 {w : World} {b k : Nat} {g : Int → Option Int} (h : IMp w b k g) {s : Int} (h0 : -9223372036854775808 ≤ s) (h1 : s ≤ 9223372036854775807) :
    (Instr.lookup 71 (.map (some b)) (.int .i64 s) false).run Tryd.prog w = .ok (.int .i64 ((g s).getD 0)) w := by
  obtain ⟨D, ho, _, hg⟩ := h
  obtain ⟨v, ps, hrun, hv⟩ := ho.lookup intK Tryd.underlying71 (zeroI w) (rd_cell 0) (keyOf_i h0 h1)
  rw [hrun]
  obtain ⟨y, rfl, hy⟩ := rd_inv hv
  have hd := congrArg Prod.fst hy
  simp only at hd
  cases hgs : g s with
  | none =>
    have hh := (hg s).1
    rw [hgs] at hh
    rw [atKey_of_not_has hh] at hd
    rw [← dat_inj hd]
    rfl
  | some x =>
    rw [(hg s).2 x hgs] at hd
    rw [← dat_inj hd]
    rfl
def upd (g : Int → Option Int) (s : Int) (v : Int) : Int → Option Int := fun z => if z = s then some v else g z
/-- 'm[s] = v' -/
theorem IMp.set {w : World} {b k : Nat} {g : Int → Option Int} (h : IMp w b k g) (hk : k < maxLen) {s : Int} (h0 : -9223372036854775808 ≤ s) (h1 : s ≤ 9223372036854775807) (v : Int) :
    ∃ w', (Instr.mapUpdate 71 (.map (some b)) (.int .i64 s) (.int .i64 v)).run Tryd.prog w = .ok () w' ∧ IMp w' b (if (g s).isSome then k else k + 1) (upd g s v) ∧ w.mapTurned w' b := by
  obtain ⟨D, ho, hsz, hg⟩ := h
  obtain ⟨w', hrun, ho', ht⟩ := ho.store intK Tryd.underlying71 hk (keyOf_i h0 h1) (rd_cell v)
  have hsz' : size (D.put (key s) (dat v)) = if (g s).isSome then k else k + 1 := by
    rw [size_put (ho.tidy intK), (hg _).1, hsz]
  refine ⟨w', hrun, ⟨_, ?_, hsz', fun z => ?_⟩, ht⟩
  · have hle := ho'.size_le
    obtain ⟨es, clock, h1, h2, h3, h4⟩ := ho'
    refine ⟨es, clock, h1, h2, ?_, h4⟩
    rw [← hsz', h4]
    show _ ≤ ((es.toList.map _).foldr DataW.insert []).length
    rw [length_sorted]
    simp
  · unfold upd
    by_cases e : z = s
    · subst e
      rw [if_pos rfl]
      exact ⟨has_put_same ho.isMap (isKey _) _, fun y hy z => by cases hy; exact atKey_put_same ho.isMap (isKey _) _ z⟩
    · rw [if_neg e]
      have hne : key z ≠ key s := fun h => e (by cases h; rfl)
      exact ⟨by rw [has_put_other hne]; exact (hg z).1, fun y hy d => by rw [atKey_put_other hne]; exact (hg z).2 y hy d⟩
theorem IMp.heap {w w' : World} {b k : Nat} {g : Int → Option Int} (h : IMp w b k g) (he : w'.heap[b]? = w.heap[b]?) : IMp w' b k g := by
  obtain ⟨D, ⟨es, clock, h1, h2⟩, h3⟩ := h
  exact ⟨D, ⟨es, clock, by rw [he]; exact h1, h2⟩, h3⟩
/-- of mark i its scope -/
def markAt (m : List Nat) (i : Int) : Option Int := if 1 ≤ i then (m[(i - 1).toNat]?).map (fun (s : Nat) => (s : Int)) else none
theorem markAt_nil : markAt [] = fun _ => none := by funext i; unfold markAt; split <;> simp
theorem markAt_some {m : List Nat} {i : Int} : (markAt m i).isSome = decide (1 ≤ i ∧ i ≤ m.length) := by
  unfold markAt
  split
  · rename_i h
    rw [Option.isSome_map]
    by_cases hl : (i - 1).toNat < m.length
    · rw [List.getElem?_eq_getElem hl, decide_eq_true (by omega)]; rfl
    · rw [List.getElem?_eq_none (by omega), decide_eq_false (by omega)]; rfl
  · rename_i h
    rw [decide_eq_false (by omega)]; rfl
theorem markAt_snoc (m : List Nat) (s : Nat) : upd (markAt m) (m.length + 1) s = markAt (m ++ [s]) := by
  funext i
  unfold upd markAt
  by_cases e : i = (m.length : Int) + 1
  · subst e
    rw [if_pos rfl, if_pos (by omega), show ((m.length : Int) + 1 - 1).toNat = m.length by omega, List.getElem?_append_right (Nat.le_refl _), Nat.sub_self]
    rfl
  · rw [if_neg e]
    by_cases h : 1 ≤ i
    · rw [if_pos h, if_pos h]
      by_cases hl : (i - 1).toNat < m.length
      · rw [List.getElem?_append_left hl]
      · rw [List.getElem?_eq_none (by omega), List.getElem?_eq_none (by rw [List.length_append]; simp; omega)]
    · rw [if_neg h, if_neg h]
/-- a scope as it lies -/
structure B where
  b : Bd
  vm : Value
  vl : Value
  vt : Value
def B.cells (x : B) : List Value := [.int .i64 x.b.inn, .int .i64 x.b.id.k, .int .i64 x.b.id.n, .string x.b.id.s, x.vm, x.vl, x.vt, .string x.b.id.s, .string (keyS x.b.id.m), .int .i64 x.b.what]
def flatB (ls : List B) : List Value := ls.flatMap B.cells
theorem flatB_app (ls : List B) (p : B) : flatB (ls ++ [p]) = flatB ls ++ p.cells := by unfold flatB; simp
theorem flatB_cons (p : B) (ls : List B) : flatB (p :: ls) = p.cells ++ flatB ls := rfl
theorem flatB_length (ls : List B) : (flatB ls).length = ls.length * 10 := by
  induction ls with
  | nil => rfl
  | cons a l ih =>
    rw [flatB_cons, List.length_append, ih, List.length_cons]
    have : a.cells.length = 10 := rfl
    omega
theorem flatB_at : ∀ (ls : List B) (j : Nat) (h : j < ls.length) (i : Nat), i < 10 → (flatB ls)[j * 10 + i]? = ls[j].cells[i]?
  | [], j, h, i, hi => absurd h (by simp)
  | a :: l, 0, h, i, hi => by
    rw [flatB_cons, List.getElem?_append_left (by rw [show a.cells.length = 10 from rfl]; omega)]
    simp
  | a :: l, j + 1, h, i, hi => by
    rw [flatB_cons, List.getElem?_append_right (by rw [show a.cells.length = 10 from rfl]; omega), show (j + 1) * 10 + i - a.cells.length = j * 10 + i from by rw [show a.cells.length = 10 from rfl]; omega, flatB_at l j (by simpa using h) i hi]
    simp
/-- a table as it lies -/
structure Tab (w : World) (base T : Nat) (vl : Value) (mb : Nat) (xs : List B) (t : Tbl) : Prop where
  c0 : w.cell? ⟨T, 0, none⟩ = some vl
  c1 : w.cell? ⟨T, 1, none⟩ = some (.map (some mb))
  fz : ∀ j, w.frozen? ⟨T, j, none⟩ = false
  row : w.ownsRow base 86 10 vl xs.length (flatB xs)
  xb : xs.map B.b = t.l
  mp : IMp w mb t.m.length (markAt t.m)
  bT : base ≤ T
  bm : base ≤ mb
  nT : mb ≠ T
  nr : vl.ownBlock ≠ some T
  nm : vl.ownBlock ≠ some mb
  ok : t.Ok
/-- what of a table may be changed -/
def Mut (T : Nat) (vl : Value) (mb : Nat) (k : Nat) : Prop := k = T ∨ vl.ownBlock = some k ∨ k = mb
/-- the names of a table's scopes lie in blocks of F -/
def Ids (F : Nat → Prop) (w : World) (xs : List B) : Prop := ∀ x ∈ xs, Rep F w x.b.id x.vm x.vl x.vt
theorem Ids.keep {F S : Nat → Prop} {w w' : World} {xs : List B} (h : Ids F w xs) (hk : Keep S w w') (hS : ∀ b, F b → b < w.heap.size → ¬ S b) : Ids F w' xs := fun x hx => Rep.keep hk hS _ (h x hx)
theorem Ids.mono {F G : Nat → Prop} {w : World} {xs : List B} (h : Ids F w xs) (hFG : ∀ b, F b → b < w.heap.size → G b) : Ids G w xs := fun x hx => Rep.mono hFG _ (h x hx)
theorem Tab.len {w : World} {base T mb : Nat} {vl : Value} {xs : List B} {t : Tbl} (h : Tab w base T vl mb xs t) : xs.length = t.l.length := by rw [← h.xb, List.length_map]
theorem Tab.lt {w : World} {base T mb : Nat} {vl : Value} {xs : List B} {t : Tbl} (h : Tab w base T vl mb xs t) : T < w.heap.size := block_lt_of_cell h.c0
theorem Tab.keep {S : Nat → Prop} {w w' : World} {base T mb : Nat} {vl : Value} {xs : List B} {t : Tbl} (h : Tab w base T vl mb xs t) (hk : Keep S w w') (hS : ∀ k, Mut T vl mb k → ¬ S k) : Tab w' base T vl mb xs t :=
  ⟨(hk.cell 0 h.lt (hS T (.inl rfl))).trans h.c0, (hk.cell 1 h.lt (hS T (.inl rfl))).trans h.c1, fun j => (hk.frozen j h.lt (hS T (.inl rfl))).trans (h.fz j), own_keep h.row hk (fun k hk => hS k (.inr (.inl hk))), h.xb, h.mp.heap (hk.block mb h.mp.lt (hS mb (.inr (.inr rfl)))), h.bT, h.bm, h.nT, h.nr, h.nm, h.ok⟩
theorem Tab.below {w w' : World} {base T mb : Nat} {vl : Value} {xs : List B} {t : Tbl} (h : Tab w base T vl mb xs t) (hb : Below w.heap.size w w') : Tab w' base T vl mb xs t :=
  h.keep (S := fun _ => False) ((Keep.refl _ w).below hb) (fun _ _ h => h)
/-- where the scopes lie -/
theorem Tab.at {w : World} {base T mb : Nat} {vl : Value} {xs : List B} {t : Tbl} (h : Tab w base T vl mb xs t) : ∃ g c, vl = .slice (some ⟨g, 0, none⟩) t.l.length c ∧ base ≤ g ∧ g < w.heap.size ∧ g ≠ T ∧ g ≠ mb ∧ ∀ j, (hj : j < xs.length) → ∀ i, i < 10 → w.cell? ⟨g, j * 10 + i, none⟩ = xs[j].cells[i]? := by
  have hl := h.len
  have hp := h.ok.pos
  rcases h.row.2 with ⟨_, h0⟩ | ⟨g, cap, cur, rfl, e2, e3, e4⟩
  · omega
  · refine ⟨g, cap, by rw [hl], e2, (Array.getElem?_eq_some_iff.1 e3).1, fun e => h.nr (by rw [e]; rfl), fun e => h.nm (by rw [e]; rfl), fun j hj i hi => ?_⟩
    have hv : (flatB xs)[j * 10 + i]? = xs[j].cells[i]? := flatB_at xs j hj i hi
    have hlt : i < xs[j].cells.length := by rw [show xs[j].cells.length = 10 from rfl]; exact hi
    rw [List.getElem?_eq_getElem hlt] at hv ⊢
    have := h.row.cells (g := g) rfl (j * 10 + i) _ hv
    have e : (⟨g, 0, none⟩ : Addr).add (j * 10 + i) = ⟨g, j * 10 + i, none⟩ := by
      unfold Addr.add
      split
      · rename_i h0; rw [h0]
      · rw [Nat.zero_add]
    rw [e] at this
    exact this
end Sp
end Go.Proofs.YtjbjgceblanhpaaDoor
