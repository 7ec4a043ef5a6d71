/-
 Plain: a word's own bytes are that word alone.
-/
import Derived.Test.YtcopdfihaheplaaLexBare
namespace Go.Proofs.Ytcopdfihaheplaa.Lx
open Go.RowKit Go.Sort
theorem strEnd_own : ∀ (m : Nat) (l b r : List UInt8), l.length ≤ m → strEnd l = some (b, r) → ∃ p, l = p ++ r ∧ strEnd p = some (b, []) := by
 intro m
 induction m with
 | zero =>
  intro l b r hm h
  have : l = [] := List.eq_nil_of_length_eq_zero (by omega)
  subst this
  rw [strEnd] at h
  simp at h
 | succ m ih =>
  intro l b r hm h
  match l with
  | [] => rw [strEnd] at h; simp at h
  | [c] =>
   rw [strEnd] at h
   split at h
   ·rename_i hc
    simp at h
    obtain ⟨rfl, rfl⟩ := h
    exact ⟨[c], rfl, by rw [strEnd, if_pos hc]⟩
   ·simp at h
  | c :: d :: t =>
   simp only [List.length_cons] at hm
   rw [strEnd] at h
   split at h
   ·rename_i hc
    simp at h
    obtain ⟨rfl, rfl⟩ := h
    exact ⟨[c], rfl, by rw [strEnd, if_pos hc]⟩
   ·rename_i h34
    split at h
    ·rename_i h92
     cases he : strEnd t with
     | none => rw [he] at h; simp at h
     | some q =>
      rw [he] at h
      simp at h
      obtain ⟨rfl, rfl⟩ := h
      obtain ⟨p, hp, hs⟩ := ih t q.1 q.2 (by omega) he
      exact ⟨c :: d :: p, by rw [hp]; rfl, by rw [strEnd, if_neg h34, if_pos h92, hs]; rfl⟩
    ·rename_i h92
     cases he : strEnd (d :: t) with
     | none => rw [he] at h; simp at h
     | some q =>
      rw [he] at h
      simp at h
      obtain ⟨rfl, rfl⟩ := h
      obtain ⟨p, hp, hs⟩ := ih (d :: t) q.1 q.2 (by simp only [List.length_cons]; omega) he
      cases p with
      | nil => rw [strEnd] at hs; simp at hs
      | cons d' p =>
       simp at hp
       obtain ⟨rfl, hp⟩ := hp
       exact ⟨c :: d :: p, by rw [hp]; rfl, by rw [strEnd, if_neg h34, if_neg h92, hs]; rfl⟩
theorem str_own (t : List UInt8) (k : Tok) (r : List UInt8) (h0 : t ≠ []) (h : str t = .tok k r) : ∃ p, t = p ++ r ∧ str p = .tok k [] := by
 unfold str at h
 split at h
 ·simp at h
 ·rename_i b r' he
  split at h
  ·rename_i q hq
   split at h
   ·rename_i hl
    simp at h
    obtain ⟨rfl, rfl⟩ := h
    obtain ⟨p, hp, hs⟩ := strEnd_own _ _ _ _ (Nat.le_refl _) he
    cases t with
    | nil => exact absurd rfl h0
    | cons c t =>
     refine ⟨c :: p, by rw [List.tail_cons] at hp; rw [hp]; rfl, ?_⟩
     unfold str
     rw [List.tail_cons, hs]
     simp only [hq]
     rw [if_pos hl]
   ·simp at h
  ·simp at h
theorem runW_rest (w r r' : List UInt8) (k : Tok) (h : runW w r = .tok k r') (r2 : List UInt8) : runW w r2 = .tok k r2 := by
 unfold runW at h ⊢
 split at h
 ·rename_i h1; rw [if_pos h1]; simp at h ⊢; exact h.1
 ·rename_i h1
  rw [if_neg h1]
  split at h
  ·rename_i h2; rw [if_pos h2]; simp at h ⊢; exact h.1
  ·rename_i h2
   rw [if_neg h2]
   split at h
   ·rename_i h3; rw [if_pos h3]; simp at h ⊢; exact h.1
   ·rename_i h3
    rw [if_neg h3]
    split at h
    ·rename_i h4
     rw [if_pos h4]
     split at h
     ·rename_i h5; rw [if_pos h5]; simp at h ⊢; exact h.1
     ·split at h
      ·simp at h
      ·simp at h
    ·rename_i h4
     rw [if_neg h4]
     split at h
     ·rename_i h5; rw [if_pos h5]; simp at h ⊢; exact h.1
     ·simp at h
theorem tw_tw (f : UInt8 → Bool) : ∀ (t : List UInt8), (t.takeWhile f).takeWhile f = t.takeWhile f := by
 intro t
 induction t with
 | nil => rfl
 | cons a t ih =>
  by_cases h : f a = true
  ·rw [List.takeWhile_cons_of_pos h, List.takeWhile_cons_of_pos h, ih]
  ·rw [List.takeWhile_cons_of_neg h]; rfl
theorem run_own (t : List UInt8) (k : Tok) (r : List UInt8) (h : run t = .tok k r) : ∃ p, t = p ++ r ∧ run p = .tok k [] := by
 have hr := run_rest t k r h
 refine ⟨t.takeWhile fun c => !ends c, by rw [hr, List.takeWhile_append_dropWhile], ?_⟩
 rw [run_eq] at h ⊢
 have h1 : (t.takeWhile fun c => !ends c).takeWhile (fun c => !ends c) = t.takeWhile fun c => !ends c := tw_tw _ t
 have h2 : (t.takeWhile fun c => !ends c).dropWhile (fun c => !ends c) = [] := by
  have := List.takeWhile_append_dropWhile (p := fun c => !ends c) (l := t.takeWhile fun c => !ends c)
  rw [h1] at this
  simpa using this
 rw [h1, h2]
 exact runW_rest _ _ _ _ h []
theorem tw_pre (f : UInt8 → Bool) (t : List UInt8) : t.take (t.takeWhile f).length = t.takeWhile f := (tw_take f t _ rfl).1.symm
theorem nameLen_own (u : List UInt8) (h0 : u ≠ []) : nameLen (u.take (nameLen u)) = nameLen u ∧ 1 ≤ nameLen u ∧ nameLen u ≤ u.length := by
 cases u with
 | nil => exact absurd rfl h0
 | cons c u =>
  by_cases h : low c = true
  ·have e : nameLen (c :: u) = (u.takeWhile fun c => low c || figure c).length + 1 := by
    unfold nameLen; rw [if_pos (by simpa [pk] using h)]; simp; omega
   have hl := (List.takeWhile_sublist (l := u) (fun c => low c || figure c)).length_le
   rw [e, List.take_succ_cons, tw_pre]
   refine ⟨?_, by omega, by simp; omega⟩
   unfold nameLen
   rw [if_pos (by simpa [pk] using h), List.tail_cons, tw_tw]
   omega
  ·have e : nameLen (c :: u) = 1 := by unfold nameLen; rw [if_neg (by simpa [pk] using h)]
   rw [e]
   refine ⟨?_, by omega, by simp⟩
   unfold nameLen
   rw [if_neg (by simpa [pk] using h)]
theorem char_own (t : List UInt8) (k : Tok) (r : List UInt8) (h : char t = .tok k r) : ∃ p, t = p ++ r ∧ char p = .tok k [] := by
 unfold char at h
 split at h
 ·simp at h
 ·rename_i hne
  split at h
  ·simp at h
  ·rename_i hok
   simp at h
   obtain ⟨rfl, rfl⟩ := h
   match t, hne, hok with
   | [], hne, _ => exact absurd rfl hne
   | [_], hne, _ => exact absurd rfl hne
   | a :: b :: u, hne, hok =>
    have hd : (a :: b :: u).drop 2 = u := rfl
    rw [hd] at hne hok ⊢
    obtain ⟨h1, h2, h3⟩ := nameLen_own u hne
    refine ⟨a :: b :: u.take (nameLen u), by rw [show 2 + nameLen u = nameLen u + 2 by omega]; simp, ?_⟩
    unfold char
    have hd2 : (a :: b :: u.take (nameLen u)).drop 2 = u.take (nameLen u) := rfl
    rw [hd2, h1]
    have hnn : u.take (nameLen u) ≠ [] := by
     intro hh
     have := congrArg List.length hh
     rw [List.length_take, List.length_nil] at this
     omega
    have hpk : pk (a :: b :: u.take (nameLen u)) 2 = pk (a :: b :: u) 2 := by
     cases u with
     | nil => exact absurd rfl hne
     | cons c u =>
      obtain ⟨m, hm⟩ : ∃ m, nameLen (c :: u) = m + 1 := ⟨nameLen (c :: u) - 1, by omega⟩
      rw [hm]; rfl
    rw [if_neg hnn, List.take_take, Nat.min_self, hpk, if_neg hok]
    congr 1
    rw [List.drop_take]
    simp
theorem pk_app (p r : List UInt8) (n : Nat) (h : n < p.length) : pk (p ++ r) n = pk p n := by
 unfold pk; rw [List.getD_eq_getElem?_getD, List.getD_eq_getElem?_getD, List.getElem?_append_left h]
theorem pk_end (p : List UInt8) (n : Nat) (h : p.length ≤ n) : pk p n = 0 := by
 unfold pk; rw [List.getD_eq_getElem?_getD, List.getElem?_eq_none h]; rfl
def sg (c d : UInt8) : Nat × Nat :=
 if c == 40 then (1, 1) else if c == 41 then (2, 1) else if c == 39 then (4, 1) else if c == 96 then (5, 1)
 else if c == 44 then (if d == 64 then (7, 2) else (6, 1))
 else if c == 35 && d == 40 then (3, 2) else (0, 0)
theorem sign_sg (t : List UInt8) : sign t = sg (pk t 0) (pk t 1) := rfl
theorem sg_zero (c d : UInt8) (h : (sg c d).1 = 0) : (sg c 0).1 = 0 := by
 revert h
 unfold sg
 cases (c == 40) <;> cases (c == 41) <;> cases (c == 39) <;> cases (c == 96) <;> cases (c == 44) <;> cases (c == 35) <;> cases (d == 64) <;> cases (d == 40) <;> simp
theorem sg_one (c d : UInt8) (h : (sg c d).2 = 1) : sg c 0 = sg c d := by
 revert h
 unfold sg
 cases (c == 40) <;> cases (c == 41) <;> cases (c == 39) <;> cases (c == 96) <;> cases (c == 44) <;> cases (c == 35) <;> cases (d == 64) <;> cases (d == 40) <;> simp
theorem sg_two (c d : UInt8) (h : (sg c d).1 ≠ 0) : (sg c d).2 = 1 ∨ ((sg c d).2 = 2 ∧ d ≠ 0) := by
 revert h
 by_cases hd : d = 0
 ·subst hd
  unfold sg
  cases (c == 40) <;> cases (c == 41) <;> cases (c == 39) <;> cases (c == 96) <;> cases (c == 44) <;> cases (c == 35) <;> simp
 ·unfold sg
  cases (c == 40) <;> cases (c == 41) <;> cases (c == 39) <;> cases (c == 96) <;> cases (c == 44) <;> cases (c == 35) <;> cases (d == 64) <;> cases (d == 40) <;> simp [hd]
theorem word_own (t : List UInt8) (h0 : t ≠ []) (k : Tok) (r : List UInt8) (h : word t = .tok k r) (hlt : r.length < t.length) : ∃ p, t = p ++ r ∧ p ≠ [] ∧ word p = .tok k [] := by
 have fin : (∃ p, t = p ++ r ∧ word p = .tok k []) → ∃ p, t = p ++ r ∧ p ≠ [] ∧ word p = .tok k [] := by
  rintro ⟨p, hp, hw⟩
  refine ⟨p, hp, ?_, hw⟩
  rintro rfl
  rw [hp] at hlt
  simp at hlt
 have core : ∀ p, t = p ++ r → p ≠ [] → pk p 0 = pk t 0 ∧ (pk p 1 = pk t 1 ∨ pk p 1 = 0) := by
  intro p hp hne
  have hpos : 0 < p.length := List.length_pos_iff.2 hne
  refine ⟨by rw [hp, pk_app _ _ _ hpos], ?_⟩
  by_cases h1 : 1 < p.length
  ·left; rw [hp, pk_app _ _ _ h1]
  ·right; exact pk_end _ _ (by omega)
 have ne : ∀ p, t = p ++ r → p ≠ [] := by
  rintro p hp rfl
  rw [hp] at hlt
  simp at hlt
 apply fin
 unfold word at h
 split at h
 ·rename_i hs
  simp at h
  obtain ⟨rfl, rfl⟩ := h
  refine ⟨t.take (sign t).2, (List.take_append_drop _ _).symm, ?_⟩
  have hp := ne _ (List.take_append_drop (sign t).2 t).symm
  have he : sign (t.take (sign t).2) = sign t := by
   obtain ⟨c0, c1⟩ := core _ (List.take_append_drop (sign t).2 t).symm hp
   rw [sign_sg (t.take _), c0]
   rw [sign_sg] at hs
   rcases sg_two _ _ hs with h1 | ⟨h2, hd⟩
   ·have hl : (t.take (sign t).2).length ≤ 1 := by rw [sign_sg, h1]; simp; omega
    rw [pk_end _ 1 hl]
    rw [sg_one _ _ h1]; rfl
   ·have hl : 1 < t.length := by
     apply Classical.byContradiction
     intro hh
     exact hd (pk_end _ _ (by omega))
    have : pk (t.take (sign t).2) 1 = pk t 1 := by
     have := pk_app (t.take (sign t).2) (t.drop (sign t).2) 1 (by rw [sign_sg, h2]; simp; omega)
     rw [List.take_append_drop] at this
     exact this.symm
    rw [this]; rfl
  unfold word
  rw [he, if_pos hs]
  congr 1
  rw [List.drop_take]; simp
 ·rename_i hs
  have hs0 : (sg (pk t 0) (pk t 1)).1 = 0 := by rw [sign_sg] at hs; simpa using hs
  have sz : ∀ p, t = p ++ r → (sign p).1 = 0 := by
   intro p hp
   obtain ⟨c0, c1⟩ := core p hp (ne p hp)
   rw [sign_sg, c0]
   rcases c1 with c1 | c1 <;> rw [c1]
   ·exact hs0
   ·exact sg_zero _ _ hs0
  split at h
  ·rename_i h34
   obtain ⟨p, hp, hw⟩ := str_own t k r h0 h
   refine ⟨p, hp, ?_⟩
   unfold word
   rw [if_neg (by rw [sz p hp]; simp), (core p hp (ne p hp)).1, if_pos h34, hw]
  ·rename_i h34
   split at h
   ·rename_i h35
    obtain ⟨p, hp, hw⟩ := char_own t k r h
    refine ⟨p, hp, ?_⟩
    have hl : 1 < p.length := by
     apply Classical.byContradiction
     intro hh
     have hd : p.drop 2 = [] := List.drop_of_length_le (by omega)
     unfold char at hw
     rw [if_pos hd] at hw
     simp at hw
    have h1 : pk p 1 = pk t 1 := by rw [hp, pk_app _ _ _ hl]
    unfold word
    rw [if_neg (by rw [sz p hp]; simp), (core p hp (ne p hp)).1, if_neg h34, h1, if_pos h35, hw]
   ·rename_i h35
    obtain ⟨p, hp, hw⟩ := run_own t k r h
    refine ⟨p, hp, ?_⟩
    obtain ⟨c0, c1⟩ := core p hp (ne p hp)
    unfold word
    rw [if_neg (by rw [sz p hp]; simp), c0, if_neg h34, if_neg, hw]
    rcases c1 with c1 | c1 <;> rw [c1]
    ·exact h35
    ·simp
end Go.Proofs.Ytcopdfihaheplaa.Lx
