/-
  Instructions and how many values stand ahead of each: the plain model and its laws.
-/
import Derived.IntWalk
namespace Go.Proofs.YtlckjphnbfahgaaGreatDoor
namespace Cd
/-- an instruction -/
structure Ins where
  o : Int
  a : Int
  b : Int
deriving DecidableEq
/-- what an instruction is: what its A is, how many values it needs and leaves, whether A, or B, more are needed, whether it ends -/
structure Op where
  a : Nat
  needs : Int
  leaves : Int
  pa : Bool
  pb : Bool
  en : Bool
def opT (n : Int) : Option Op :=
  if n = 1 then some ⟨1, 0, 1, false, false, false⟩
  else if n = 2 then some ⟨2, 0, 1, false, false, false⟩
  else if n = 3 then some ⟨3, 0, 1, false, false, false⟩
  else if n = 4 then some ⟨4, 0, 1, false, false, false⟩
  else if n = 5 then some ⟨2, 0, 0, false, false, false⟩
  else if n = 6 then some ⟨0, 1, 1, false, false, false⟩
  else if n = 7 then some ⟨0, 2, 1, false, false, false⟩
  else if n = 8 then some ⟨4, 1, 1, false, false, false⟩
  else if n = 9 then some ⟨4, 1, 1, false, false, false⟩
  else if n = 10 then some ⟨5, 0, 0, false, false, false⟩
  else if n = 11 then some ⟨5, 1, 0, false, false, false⟩
  else if n = 12 then some ⟨6, 0, 1, false, true, false⟩
  else if n = 13 then some ⟨7, 1, 1, true, false, false⟩
  else if n = 14 then some ⟨7, 1, 0, true, false, true⟩
  else if n = 15 then some ⟨0, 1, 0, false, false, true⟩
  else if n = 16 then some ⟨0, 1, 0, false, false, false⟩
  else none
def op (n : Int) : Op := (opT n).getD ⟨0, 0, 0, false, false, false⟩
/-- how many values an instruction needs -/
def need (x : Ins) : Int := (op x.o).needs + (if (op x.o).pa then x.a else 0) + (if (op x.o).pb then x.b else 0)
def g (ah : List Int) (j : Nat) : Int := ah.getD j (-1)
/-- a place is reached with so many values -/
def reach (ah : List Int) (j n : Int) : Option (List Int) :=
  if (ah.length : Int) ≤ j then none
  else if 0 ≤ g ah j.toNat ∧ g ah j.toNat ≠ n then none
  else some (ah.set j.toNat n)
/-- what one instruction does to what stands ahead of the others -/
def step (x : Ins) (j : Nat) (ah : List Int) : Option (List Int) :=
  let n := g ah j - need x + (op x.o).leaves
  match (if (op x.o).a = 5 then reach ah x.a n else some ah) with
  | none => none
  | some ah1 => if x.o ≠ 10 then reach ah1 (j + 1) n else some ah1
def flowGo : List Ins → Nat → List Int → Int → Option (List Int × Int)
  | [], _, ah, most => some (ah, most)
  | x :: r, j, ah, most =>
    if g ah j < need x ∨ ((op x.o).en = true ∧ need x < g ah j) then none
    else if (op x.o).en = true then flowGo r (j + 1) ah (max most (g ah j))
    else match step x j ah with
      | none => none
      | some ah1 => flowGo r (j + 1) ah1 (max (max most (g ah j)) (g ah j - need x + (op x.o).leaves))
/-- what stands ahead of each, and the most anywhere -/
def flow (l : List Ins) : Option (List Int × Int) := flowGo l 0 ((List.replicate l.length (-1)).set 0 0) 0
/-- A and B of an instruction are no less than nought where they count -/
def Pos (x : Ins) : Prop := 0 ≤ need x ∧ ((op x.o).a = 5 → 0 ≤ x.a)
theorem op_out {n : Int} (h : n < 1 ∨ 16 < n) : opT n = none := by
  unfold opT
  repeat rw [if_neg (by omega)]
theorem op_cases (n : Int) : (n < 1 ∨ 16 < n) ∨ n = 1 ∨ n = 2 ∨ n = 3 ∨ n = 4 ∨ n = 5 ∨ n = 6 ∨ n = 7 ∨ n = 8 ∨ n = 9 ∨ n = 10 ∨ n = 11 ∨ n = 12 ∨ n = 13 ∨ n = 14 ∨ n = 15 ∨ n = 16 := by omega
theorem leaves_pos (n : Int) : 0 ≤ (op n).leaves := by
  rcases op_cases n with h | rfl | rfl | rfl | rfl | rfl | rfl | rfl | rfl | rfl | rfl | rfl | rfl | rfl | rfl | rfl | rfl
  · unfold op; rw [op_out h]; decide
  all_goals decide
theorem reach_some {ah ah' : List Int} {j n : Int} (h : reach ah j n = some ah') (hj : 0 ≤ j) : j.toNat < ah.length ∧ ah' = ah.set j.toNat n ∧ (0 ≤ g ah j.toNat → g ah j.toNat = n) := by
  unfold reach at h
  split at h
  · cases h
  · split at h
    · cases h
    · rename_i h1 h2
      refine ⟨by omega, (Option.some.inj h).symm, fun h3 => ?_⟩
      apply Classical.byContradiction
      intro h4
      exact h2 ⟨h3, h4⟩
theorem g_set {ah : List Int} {j : Nat} {n : Int} (h : j < ah.length) (i : Nat) : g (ah.set j n) i = if i = j then n else g ah i := by
  unfold g
  rw [List.getD_eq_getElem?_getD, List.getD_eq_getElem?_getD, List.getElem?_set]
  by_cases e : j = i
  · subst e
    rw [if_pos rfl, if_pos h, if_pos rfl]
    rfl
  · rw [if_neg e, if_neg (fun h => e h.symm)]
/-- one list goes on from another: as long, and what was there stays -/
def Ext (ah ah' : List Int) : Prop := ah'.length = ah.length ∧ ∀ i, 0 ≤ g ah i → g ah' i = g ah i
theorem Ext.refl (ah : List Int) : Ext ah ah := ⟨rfl, fun _ _ => rfl⟩
theorem Ext.trans {a b c : List Int} (h : Ext a b) (h' : Ext b c) : Ext a c := ⟨h'.1.trans h.1, fun i hi => by
  have h1 := h.2 i hi
  rw [← h1]
  exact h'.2 i (by rw [h1]; exact hi)⟩
theorem reach_ext {ah ah' : List Int} {j n : Int} (h : reach ah j n = some ah') (hj : 0 ≤ j) : Ext ah ah' ∧ j.toNat < ah.length ∧ g ah' j.toNat = n := by
  obtain ⟨h1, rfl, h3⟩ := reach_some h hj
  refine ⟨⟨List.length_set .., fun i hi => ?_⟩, h1, by rw [g_set h1, if_pos rfl]⟩
  rw [g_set h1]
  split
  · rename_i e
    rw [e] at hi ⊢
    exact (h3 hi).symm
  · rfl
/-- what one instruction has to do with what stands ahead -/
structure Fine (fin : List Int) (M : Int) (x : Ins) (j : Nat) : Prop where
  nd : need x ≤ g fin j
  mx : g fin j ≤ M
  ends : (op x.o).en = true → g fin j = need x
  next : (op x.o).en = false → g fin j - need x + (op x.o).leaves ≤ M ∧ ((op x.o).a = 5 → x.a.toNat < fin.length ∧ g fin x.a.toNat = g fin j - need x + (op x.o).leaves) ∧ (x.o ≠ 10 → j + 1 < fin.length ∧ g fin (j + 1) = g fin j - need x + (op x.o).leaves)
theorem step_ext {x : Ins} {j : Nat} {ah ah' : List Int} (h : step x j ah = some ah') (hp : Pos x) : Ext ah ah' ∧
    ((op x.o).a = 5 → x.a.toNat < ah.length ∧ (0 ≤ g ah j - need x + (op x.o).leaves → g ah' x.a.toNat = g ah j - need x + (op x.o).leaves)) ∧ (x.o ≠ 10 → j + 1 < ah.length ∧ g ah' (j + 1) = g ah j - need x + (op x.o).leaves) := by
  unfold step at h
  simp only at h
  by_cases h5 : (op x.o).a = 5
  · rw [if_pos h5] at h
    cases hr : reach ah x.a (g ah j - need x + (op x.o).leaves) with
    | none => rw [hr] at h; cases h
    | some ah1 =>
      rw [hr] at h
      simp only at h
      obtain ⟨e1, e2, e3⟩ := reach_ext hr (hp.2 h5)
      by_cases h10 : x.o ≠ 10
      · rw [if_pos h10] at h
        obtain ⟨f1, f2, f3⟩ := reach_ext h (by omega)
        have ej : ((j : Int) + 1).toNat = j + 1 := by omega
        rw [ej] at f2 f3
        refine ⟨e1.trans f1, fun _ => ⟨e2, fun hn => ?_⟩, fun _ => ⟨by rw [← e1.1]; exact f2, f3⟩⟩
        rw [f1.2 _ (by rw [e3]; exact hn), e3]
      · rw [if_neg h10] at h
        cases h
        exact ⟨e1, fun _ => ⟨e2, fun _ => e3⟩, fun h => absurd h h10⟩
  · rw [if_neg h5] at h
    simp only at h
    by_cases h10 : x.o ≠ 10
    · rw [if_pos h10] at h
      obtain ⟨f1, f2, f3⟩ := reach_ext h (by omega)
      have ej : ((j : Int) + 1).toNat = j + 1 := by omega
      rw [ej] at f2 f3
      exact ⟨f1, fun h => absurd h h5, fun _ => ⟨f2, f3⟩⟩
    · rw [if_neg h10] at h
      cases h
      exact ⟨Ext.refl _, fun h => absurd h h5, fun h => absurd h h10⟩
theorem flowGo_ext : ∀ (r : List Ins) (j : Nat) (ah : List Int) (most : Int) {fin : List Int} {M : Int}, flowGo r j ah most = some (fin, M) → (∀ x ∈ r, Pos x) → Ext ah fin ∧ most ≤ M ∧ ∀ i, (hi : i < r.length) → Fine fin M r[i] (j + i)
  | [], j, ah, most, fin, M, h, _ => by
    rw [flowGo] at h
    cases h
    exact ⟨Ext.refl _, Int.le_refl _, fun i hi => absurd hi (by simp)⟩
  | x :: r, j, ah, most, fin, M, h, hp => by
    rw [flowGo] at h
    have hx := hp x (List.mem_cons_self ..)
    have hr : ∀ y ∈ r, Pos y := fun y hy => hp y (List.mem_cons_of_mem _ hy)
    split at h
    · cases h
    rename_i h1
    have hn : need x ≤ g ah j := by
      apply Classical.byContradiction
      intro h2
      exact h1 (.inl (by omega))
    have hn0 : 0 ≤ g ah j := Int.le_trans hx.1 hn
    split at h
    · rename_i he
      obtain ⟨i1, i2, i3⟩ := flowGo_ext r (j + 1) ah _ h hr
      have eg : g fin j = g ah j := i1.2 j hn0
      refine ⟨i1, by omega, fun i hi => ?_⟩
      cases i with
      | zero =>
        refine ⟨by rw [Nat.add_zero, eg]; exact hn, by rw [Nat.add_zero, eg]; omega, fun _ => ?_, fun h => ?_⟩
        · rw [Nat.add_zero, eg]
          apply Classical.byContradiction
          intro h2
          exact h1 (.inr ⟨he, by show need x < g ah j; have h3 : g ah j ≠ need x := h2; omega⟩)
        · have h3 : (op x.o).en = false := h
          rw [he] at h3; cases h3
      | succ i =>
        have := i3 i (by simpa using hi)
        rw [show j + 1 + i = j + (i + 1) by omega] at this
        exact this
    · rename_i he
      cases hs : step x j ah with
      | none => rw [hs] at h; cases h
      | some ah1 =>
        rw [hs] at h
        simp only at h
        obtain ⟨s1, s2, s3⟩ := step_ext hs hx
        obtain ⟨i1, i2, i3⟩ := flowGo_ext r (j + 1) ah1 _ h hr
        have i0 := s1.trans i1
        have eg : g fin j = g ah j := i0.2 j hn0
        have hl := leaves_pos x.o
        refine ⟨i0, by omega, fun i hi => ?_⟩
        cases i with
        | zero =>
          refine ⟨by rw [Nat.add_zero, eg]; exact hn, by rw [Nat.add_zero, eg]; omega, fun h => absurd h he, fun _ => ?_⟩
          show g fin (j + 0) - need x + (op x.o).leaves ≤ M ∧ _
          rw [Nat.add_zero, eg]
          refine ⟨by omega, fun h5 => ?_, fun h10 => ?_⟩
          · obtain ⟨a1, a2⟩ := s2 h5
            have a3 := a2 (by omega)
            refine ⟨by rw [i0.1]; exact a1, ?_⟩
            show g fin x.a.toNat = _
            rw [i1.2 _ (by rw [a3]; omega), a3]
            rfl
          · obtain ⟨a1, a2⟩ := s3 h10
            refine ⟨by rw [i0.1]; exact a1, ?_⟩
            rw [i1.2 _ (by rw [a2]; omega), a2]
            rfl
        | succ i =>
          have := i3 i (by simpa using hi)
          rw [show j + 1 + i = j + (i + 1) by omega] at this
          exact this
/-- of a code that may be -/
theorem flow_fine {l : List Ins} {fin : List Int} {M : Int} (h : flow l = some (fin, M)) (hp : ∀ x ∈ l, Pos x) (hl : l ≠ []) : fin.length = l.length ∧ g fin 0 = 0 ∧ 0 ≤ M ∧ ∀ i, (hi : i < l.length) → Fine fin M l[i] i := by
  obtain ⟨h1, h2, h3⟩ := flowGo_ext l 0 _ 0 h hp
  have hpos : 0 < l.length := List.length_pos_iff.2 hl
  have hlen : ((List.replicate l.length (-1 : Int)).set 0 0).length = l.length := by rw [List.length_set, List.length_replicate]
  have h0 : g ((List.replicate l.length (-1 : Int)).set 0 0) 0 = 0 := by
    rw [g_set (by rw [List.length_replicate]; exact hpos), if_pos rfl]
  refine ⟨h1.1.trans hlen, by rw [h1.2 0 (by rw [h0]; exact Int.le_refl _), h0], h2, fun i hi => ?_⟩
  have := h3 i hi
  rw [Nat.zero_add] at this
  exact this
/-! an instruction more -/
theorem g_app {ah : List Int} {j : Nat} (h : j < ah.length) : g (ah ++ [-1]) j = g ah j := by
  unfold g
  rw [List.getD_eq_getElem?_getD, List.getD_eq_getElem?_getD, List.getElem?_append_left h]
theorem g_end (ah : List Int) : g (ah ++ [-1]) ah.length = -1 := by
  unfold g
  rw [List.getD_eq_getElem?_getD, List.getElem?_append_right (Nat.le_refl _), Nat.sub_self]
  rfl
theorem reach_app {ah ah' : List Int} {j n : Int} (h : reach ah j n = some ah') (hj : 0 ≤ j) : reach (ah ++ [-1]) j n = some (ah' ++ [-1]) := by
  obtain ⟨h1, rfl, h3⟩ := reach_some h hj
  unfold reach
  rw [if_neg (by rw [List.length_append]; simp; omega), g_app h1, if_neg (fun h4 => h4.2 (h3 h4.1)), List.set_append_left _ _ h1]
theorem step_app {x : Ins} {j : Nat} {ah ah' : List Int} (h : step x j ah = some ah') (hp : Pos x) (hj : j < ah.length) : step x j (ah ++ [-1]) = some (ah' ++ [-1]) := by
  unfold step at h ⊢
  simp only at h ⊢
  rw [g_app hj]
  by_cases h5 : (op x.o).a = 5
  · rw [if_pos h5] at h ⊢
    cases hr : reach ah x.a (g ah j - need x + (op x.o).leaves) with
    | none => rw [hr] at h; cases h
    | some ah1 =>
      rw [hr] at h
      rw [reach_app hr (hp.2 h5)]
      simp only at h ⊢
      by_cases h10 : x.o ≠ 10
      · rw [if_pos h10] at h ⊢
        exact reach_app h (by omega)
      · rw [if_neg h10] at h ⊢
        cases h; rfl
  · rw [if_neg h5] at h ⊢
    simp only at h ⊢
    by_cases h10 : x.o ≠ 10
    · rw [if_pos h10] at h ⊢
      exact reach_app h (by omega)
    · rw [if_neg h10] at h ⊢
      cases h; rfl
theorem flowGo_app (y : Ins) (hy : 0 ≤ need y) : ∀ (r : List Ins) (j : Nat) (ah : List Int) (most : Int) {fin : List Int} {M : Int}, flowGo r j ah most = some (fin, M) → (∀ x ∈ r, Pos x) → j + r.length = ah.length → flowGo (r ++ [y]) j (ah ++ [-1]) most = none
  | [], j, ah, most, fin, M, _, _, hl => by
    have e : j = ah.length := by simpa using hl
    rw [List.nil_append, flowGo, e, g_end, if_pos (.inl (by omega))]
  | x :: r, j, ah, most, fin, M, h, hp, hl => by
    have hx := hp x (List.mem_cons_self ..)
    have hr : ∀ y ∈ r, Pos y := fun y hy => hp y (List.mem_cons_of_mem _ hy)
    have hj : j < ah.length := by simp at hl; omega
    rw [List.cons_append, flowGo, g_app hj]
    rw [flowGo] at h
    split at h
    · cases h
    rename_i h1
    rw [if_neg h1]
    split at h
    · rename_i he
      rw [if_pos he]
      exact flowGo_app y hy r (j + 1) ah _ h hr (by simp at hl; omega)
    · rename_i he
      rw [if_neg he]
      cases hs : step x j ah with
      | none => rw [hs] at h; cases h
      | some ah1 =>
        rw [hs] at h
        rw [step_app hs hx hj]
        simp only at h ⊢
        have := (step_ext hs hx).1.1
        exact flowGo_app y hy r (j + 1) ah1 _ h hr (by simp at hl; omega)
theorem flow_app {l : List Ins} {fin : List Int} {M : Int} (h : flow l = some (fin, M)) (hp : ∀ x ∈ l, Pos x) (hl : l ≠ []) {y : Ins} (hy : 0 ≤ need y) : flow (l ++ [y]) = none := by
  have hpos : 0 < l.length := List.length_pos_iff.2 hl
  have := flowGo_app y hy l 0 _ 0 h hp (by rw [List.length_set, List.length_replicate, Nat.zero_add])
  unfold flow
  rw [← this]
  congr 1
  rw [List.length_append, List.length_singleton, List.replicate_succ', List.set_append_left _ _ (by rw [List.length_replicate]; exact hpos)]
/-! as it is reckoned -/
def w64 (n : Int) : Int := RowKit.wrap64 n
/-- how many values an instruction needs, as it is reckoned -/
def needW (x : Ins) : Int :=
  if (op x.o).pa then w64 ((op x.o).needs + x.a) else if (op x.o).pb then w64 ((op x.o).needs + x.b) else (op x.o).needs
def stepW (x : Ins) (j : Nat) (ah : List Int) : Option (List Int) :=
  let n := w64 (g ah j + w64 ((op x.o).leaves - needW x))
  match (if (op x.o).a = 5 then reach ah x.a n else some ah) with
  | none => none
  | some ah1 => if x.o ≠ 10 then reach ah1 (j + 1) n else some ah1
def flowW : List Ins → Nat → List Int → Int → Option (List Int × Int)
  | [], _, ah, most => some (ah, most)
  | x :: r, j, ah, most =>
    if g ah j < needW x ∨ ((op x.o).en = true ∧ needW x < g ah j) then none
    else if (op x.o).en = true then flowW r (j + 1) ah (max most (g ah j))
    else match stepW x j ah with
      | none => none
      | some ah1 => flowW r (j + 1) ah1 (max (max most (g ah j)) (w64 (g ah j + w64 ((op x.o).leaves - needW x))))
def start (n : Nat) : List Int := (List.replicate n (-1)).set 0 0
theorem leaves_le (n : Int) : (op n).leaves ≤ 1 := by
  rcases op_cases n with h | rfl | rfl | rfl | rfl | rfl | rfl | rfl | rfl | rfl | rfl | rfl | rfl | rfl | rfl | rfl | rfl
  · unfold op; rw [op_out h]; decide
  all_goals decide
theorem pa_pb (n : Int) : (op n).pa = true → (op n).pb = false := by
  rcases op_cases n with h | rfl | rfl | rfl | rfl | rfl | rfl | rfl | rfl | rfl | rfl | rfl | rfl | rfl | rfl | rfl | rfl
  · unfold op; rw [op_out h]; decide
  all_goals decide
theorem w64_in {n : Int} (h : -1000000 ≤ n ∧ n ≤ 1000000) : w64 n = n := IntWalk.wrap64_in _ (by omega)
/-- few: nothing is too great -/
def Few (x : Ins) : Prop := Pos x ∧ need x ≤ 1000
theorem needW_eq {x : Ins} (h : Few x) : needW x = need x := by
  obtain ⟨⟨h1, -⟩, h2⟩ := h
  unfold needW
  unfold need at h1 h2 ⊢
  have hb := pa_pb x.o
  cases hpa : (op x.o).pa
  · rw [hpa] at h1 h2
    cases hpb : (op x.o).pb
    · simp
    · rw [hpb] at h1 h2
      simp at h1 h2 ⊢
      rw [w64_in (by omega)]
  · rw [hpa] at h1 h2
    rw [hb hpa] at h1 h2 ⊢
    simp at h1 h2 ⊢
    rw [w64_in (by omega)]
theorem num_eq {x : Ins} {n : Int} (h : Few x) (h1 : need x ≤ n) (h2 : n ≤ 100000) : w64 (n + w64 ((op x.o).leaves - needW x)) = n - need x + (op x.o).leaves := by
  have h3 := leaves_pos x.o
  have h4 := leaves_le x.o
  have h5 := h.1.1
  have h6 := h.2
  rw [needW_eq h, w64_in (n := (op x.o).leaves - need x) (by omega), w64_in (by omega)]
  omega
theorem stepW_eq {x : Ins} {j : Nat} {ah : List Int} (h : Few x) (h1 : need x ≤ g ah j) (h2 : g ah j ≤ 100000) : stepW x j ah = step x j ah := by
  unfold stepW step
  simp only
  rw [num_eq h h1 h2]
theorem step_le {x : Ins} {j : Nat} {ah ah' : List Int} {K : Int} (h : step x j ah = some ah') (hx : Few x) (_hn : need x ≤ g ah j) (hK : ∀ i, g ah i ≤ K) : ∀ i, g ah' i ≤ K + 1 := by
  have h4 := leaves_le x.o
  have h5 := hx.1.1
  have hj := hK j
  have hr : ∀ {a b : List Int} {q : Int}, (∀ i, g a i ≤ K + 1) → reach a q (g ah j - need x + (op x.o).leaves) = some b → 0 ≤ q → ∀ i, g b i ≤ K + 1 := fun h1 h2 h3 i => by
    obtain ⟨e1, rfl, -⟩ := reach_some h2 h3
    rw [g_set e1]
    split
    · omega
    · exact h1 i
  have h0 : ∀ i, g ah i ≤ K + 1 := fun i => by have := hK i; omega
  unfold step at h
  simp only at h
  by_cases h5 : (op x.o).a = 5
  · rw [if_pos h5] at h
    cases hs : reach ah x.a (g ah j - need x + (op x.o).leaves) with
    | none => rw [hs] at h; cases h
    | some ah1 =>
      rw [hs] at h
      simp only at h
      have h6 := hr h0 hs (hx.1.2 h5)
      by_cases h10 : x.o ≠ 10
      · rw [if_pos h10] at h
        exact hr h6 h (by omega)
      · rw [if_neg h10] at h
        cases h; exact h6
  · rw [if_neg h5] at h
    simp only at h
    by_cases h10 : x.o ≠ 10
    · rw [if_pos h10] at h
      exact hr h0 h (by omega)
    · rw [if_neg h10] at h
      cases h; exact h0
theorem flowW_eq : ∀ (r : List Ins) (j : Nat) (ah : List Int) (most K : Int), (∀ x ∈ r, Few x) → (∀ i, g ah i ≤ K) → K + r.length ≤ 100000 → flowW r j ah most = flowGo r j ah most
  | [], _, _, _, _, _, _, _ => by rw [flowW, flowGo]
  | x :: r, j, ah, most, K, hf, hK, hl => by
    have hx := hf x (List.mem_cons_self ..)
    have hr : ∀ y ∈ r, Few y := fun y hy => hf y (List.mem_cons_of_mem _ hy)
    rw [List.length_cons] at hl
    rw [flowW, flowGo, needW_eq hx]
    split
    · rfl
    rename_i h1
    have hn : need x ≤ g ah j := by
      apply Classical.byContradiction
      intro h2
      exact h1 (.inl (by omega))
    split
    · exact flowW_eq r (j + 1) ah _ K hr hK (by omega)
    · have hj := hK j
      rw [stepW_eq hx hn (by omega)]
      have hnum := num_eq hx hn (by omega : g ah j ≤ 100000)
      rw [needW_eq hx] at hnum
      rw [hnum]
      cases hs : step x j ah with
      | none => rfl
      | some ah1 =>
        simp only
        exact flowW_eq r (j + 1) ah1 _ (K + 1) hr (step_le hs hx hn hK) (by omega)
theorem start_le (n : Nat) : ∀ i, g (start n) i ≤ 0 := fun i => by
  unfold start g
  rw [List.getD_eq_getElem?_getD, List.getElem?_set, List.getElem?_replicate]
  repeat' split
  all_goals simp
end Cd
end Go.Proofs.YtlckjphnbfahgaaGreatDoor
