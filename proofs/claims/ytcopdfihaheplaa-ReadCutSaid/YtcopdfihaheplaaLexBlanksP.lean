/-
 Plain: blanks and comments ahead of a text and behind it change nothing but places.
-/
import Derived.Test.YtcopdfihaheplaaLexApartS
namespace Go.Proofs.Ytcopdfihaheplaa.Lx
open Go.RowKit Go.Sort
theorem hd_app (r b : List UInt8) (v : UInt8) (hv : ((10 : UInt8) == v) = false) : ((r ++ 10 :: b).head? == some v) = (r.head? == some v) := by
 cases r with
 | nil => simpa using hv
 | cons c r => rfl
theorem tl_app (r z : List UInt8) (v : UInt8) (h : (r.head? == some v) = true) : (r ++ z).tail = r.tail ++ z := by
 cases r with
 | nil => simp at h
 | cons c r => rfl
theorem com_app (b : List UInt8) : ∀ (m : Nat) (l : List UInt8) (o : Nat) (r : List UInt8), l.length ≤ m → com l o = some r → com (l ++ 10 :: b) o = some (r ++ 10 :: b) := by
 intro m
 induction m with
 | zero =>
  intro l o r hm h
  have : l = [] := List.eq_nil_of_length_eq_zero (by omega)
  subst this
  rw [com] at h
  simp at h
 | succ m ih =>
  intro l o r hm h
  cases l with
  | nil => rw [com] at h; simp at h
  | cons c t =>
   simp only [List.length_cons] at hm
   have hl : t.tail.length ≤ m := by simp; omega
   rw [com] at h
   rw [List.cons_append, com, hd_app _ _ _ (by decide), hd_app _ _ _ (by decide)]
   split at h
   ·rename_i h1
    rw [if_pos h1, tl_app _ _ 124 (by rw [Bool.and_eq_true] at h1; exact h1.2)]
    exact ih _ _ _ hl h
   ·rename_i h1
    rw [if_neg h1]
    split at h
    ·rename_i h2
     rw [if_pos h2]
     have ht := tl_app t (10 :: b) 35 (by rw [Bool.and_eq_true] at h2; exact h2.2)
     split at h
     ·rename_i h3
      rw [if_pos h3, ht]
      simp at h
      rw [h]
     ·rename_i h3
      rw [if_neg h3, ht]
      exact ih _ _ _ hl h
    ·rename_i h2
     rw [if_neg h2]
     exact ih _ _ _ (by omega) h
theorem gap_fuel : ∀ (f f' : Nat) (t : List UInt8), t.length ≤ f → t.length ≤ f' → gap f t = gap f' t := by
 intro f
 induction f with
 | zero =>
  intro f' t h _
  have : t = [] := List.eq_nil_of_length_eq_zero (by omega)
  subst this
  cases f' <;> rfl
 | succ f ih =>
  intro f' t h h'
  cases t with
  | nil => cases f' <;> rfl
  | cons c r =>
   simp only [List.length_cons] at h h'
   obtain ⟨f', rfl⟩ : ∃ g, f' = g + 1 := ⟨f' - 1, by omega⟩
   unfold gap
   by_cases h1 : white c = true
   ·rw [if_pos h1, if_pos h1]
    exact ih _ _ (by omega) (by omega)
   ·rw [if_neg h1, if_neg h1]
    by_cases h2 : (c == 59) = true
    ·rw [if_pos h2, if_pos h2]
     have h3 : (r.dropWhile (· != 10)).length ≤ r.length := (List.dropWhile_sublist _).length_le
     exact ih _ _ (by omega) (by omega)
    ·rw [if_neg h2, if_neg h2]
     by_cases h3 : (c == 35 && r.head? == some 124) = true
     ·rw [if_pos h3, if_pos h3]
      cases hc : com (c :: r) 0 with
      | none => rfl
      | some r' =>
       have h4 := com_len _ _ _ _ (Nat.le_refl _) hc
       simp only [List.length_cons] at h4
       exact ih _ _ (by omega) (by omega)
     ·rw [if_neg h3, if_neg h3]
theorem dw_app (f : UInt8 → Bool) (h : f 10 = false) (b : List UInt8) : ∀ (r : List UInt8), (r ++ 10 :: b).dropWhile f = r.dropWhile f ++ 10 :: b := by
 intro r
 induction r with
 | nil => rw [List.nil_append, List.dropWhile_cons_of_neg (by rw [h]; simp)]; rfl
 | cons c r ih =>
  by_cases hc : f c = true
  ·rw [List.cons_append, List.dropWhile_cons_of_pos hc, List.dropWhile_cons_of_pos hc, ih]
  ·rw [List.cons_append, List.dropWhile_cons_of_neg hc, List.dropWhile_cons_of_neg hc]; rfl
theorem tw_app (f : UInt8 → Bool) (h : f 10 = false) (b : List UInt8) : ∀ (r : List UInt8), (r ++ 10 :: b).takeWhile f = r.takeWhile f := by
 intro r
 induction r with
 | nil => rw [List.nil_append, List.takeWhile_cons_of_neg (by rw [h]; simp)]; rfl
 | cons c r ih =>
  by_cases hc : f c = true
  ·rw [List.cons_append, List.takeWhile_cons_of_pos hc, List.takeWhile_cons_of_pos hc, ih]
  ·rw [List.cons_append, List.takeWhile_cons_of_neg hc, List.takeWhile_cons_of_neg hc]
theorem gap_app (b : List UInt8) : ∀ (f F : Nat) (t g : List UInt8), t.length ≤ f → t.length + b.length + 1 ≤ F → gap f t = (g, true) →
  gap F (t ++ 10 :: b) = if g = [] then gap (b.length + 1) (10 :: b) else (g ++ 10 :: b, true) := by
 intro f
 induction f with
 | zero =>
  intro F t g h hF hg
  have : t = [] := List.eq_nil_of_length_eq_zero (by omega)
  subst this
  have : g = [] := by simp [gap] at hg; exact hg
  rw [if_pos this, List.nil_append]
  exact gap_fuel _ _ _ (by simp at hF ⊢; omega) (by simp)
 | succ f ih =>
  intro F t g h hF hg
  cases t with
  | nil =>
   have : g = [] := by simp [gap] at hg; exact hg
   rw [if_pos this, List.nil_append]
   exact gap_fuel _ _ _ (by simp at hF ⊢; omega) (by simp)
  | cons c r =>
   simp only [List.length_cons] at h hF
   obtain ⟨F, rfl⟩ : ∃ g, F = g + 1 := ⟨F - 1, by omega⟩
   rw [List.cons_append]
   unfold gap at hg
   rw [gap]
   by_cases h1 : white c = true
   ·rw [if_pos h1] at hg ⊢
    exact ih _ _ _ (by omega) (by omega) hg
   ·rw [if_neg h1] at hg ⊢
    by_cases h2 : (c == 59) = true
    ·rw [if_pos h2] at hg ⊢
     have h3 : (r.dropWhile (· != 10)).length ≤ r.length := (List.dropWhile_sublist _).length_le
     rw [dw_app _ (by decide)]
     exact ih _ _ _ (by omega) (by omega) hg
    ·rw [if_neg h2] at hg ⊢
     rw [hd_app _ _ _ (by decide)]
     by_cases h3 : (c == 35 && r.head? == some 124) = true
     ·rw [if_pos h3] at hg ⊢
      cases hc : com (c :: r) 0 with
      | none => rw [hc] at hg; simp at hg
      | some r' =>
       rw [hc] at hg
       simp only [] at hg
       have h4 := com_len _ _ _ _ (Nat.le_refl _) hc
       simp only [List.length_cons] at h4
       have h5 := com_app b _ _ _ _ (Nat.le_refl _) hc
       rw [List.cons_append] at h5
       rw [h5]
       exact ih _ _ _ (by omega) (by omega) hg
     ·rw [if_neg h3] at hg ⊢
      simp at hg
      rw [if_neg (by rw [← hg]; simp), ← hg]
      rfl
theorem strEnd_app (z : List UInt8) : ∀ (m : Nat) (l b r : List UInt8), l.length ≤ m → strEnd l = some (b, r) → strEnd (l ++ z) = some (b, r ++ z) := by
 intro m
 induction m with
 | zero =>
  intro l b r hm h
  have : l = [] := List.eq_nil_of_length_eq_zero (by omega)
  subst this
  rw [strEnd] at h
  simp at h
 | succ m ih =>
  intro l b r hm h
  match l with
  | [] => rw [strEnd] at h; simp at h
  | [c] =>
   rw [strEnd] at h
   split at h
   ·rename_i hc
    simp at h
    obtain ⟨rfl, rfl⟩ := h
    cases z with
    | nil => rw [List.append_nil, strEnd, if_pos hc]; rfl
    | cons d z => rw [List.singleton_append, strEnd, if_pos hc]; rfl
   ·simp at h
  | c :: d :: t =>
   simp only [List.length_cons] at hm
   rw [strEnd] at h
   rw [List.cons_append, List.cons_append, strEnd]
   split at h
   ·rename_i hc
    simp at h
    obtain ⟨rfl, rfl⟩ := h
    rw [if_pos hc]; rfl
   ·rename_i h34
    rw [if_neg h34]
    split at h
    ·rename_i h92
     rw [if_pos h92]
     cases he : strEnd t with
     | none => rw [he] at h; simp at h
     | some q =>
      rw [he] at h
      simp at h
      obtain ⟨rfl, rfl⟩ := h
      rw [ih t q.1 q.2 (by omega) he]
      rfl
    ·rename_i h92
     rw [if_neg h92]
     cases he : strEnd (d :: t) with
     | none => rw [he] at h; simp at h
     | some q =>
      rw [he] at h
      simp at h
      obtain ⟨rfl, rfl⟩ := h
      have := ih (d :: t) q.1 q.2 (by simp only [List.length_cons]; omega) he
      rw [List.cons_append] at this
      rw [this]
      rfl
theorem str_app (z t : List UInt8) (k : Tok) (r : List UInt8) (h0 : t ≠ []) (h : str t = .tok k r) : str (t ++ z) = .tok k (r ++ z) := by
 cases t with
 | nil => exact absurd rfl h0
 | cons c t =>
  unfold str at h ⊢
  rw [List.cons_append, List.tail_cons]
  rw [List.tail_cons] at h
  split at h
  ·simp at h
  ·rename_i b r' he
   rw [strEnd_app z _ _ _ _ (Nat.le_refl _) he]
   simp only []
   split at h
   ·rename_i q hq
    split at h
    ·rename_i hl
     simp at h
     obtain ⟨rfl, rfl⟩ := h
     rw [if_pos hl]
    ·simp at h
   ·simp at h
theorem run_app (b t : List UInt8) (k : Tok) (r : List UInt8) (h : run t = .tok k r) : run (t ++ 10 :: b) = .tok k (r ++ 10 :: b) := by
 have hr := run_rest t k r h
 rw [run_eq] at h ⊢
 rw [tw_app _ (by decide), dw_app _ (by decide), ← hr]
 exact runW_rest _ _ _ _ h _
theorem nameLen_app (b u : List UInt8) (h0 : u ≠ []) : nameLen (u ++ 10 :: b) = nameLen u := by
 cases u with
 | nil => exact absurd rfl h0
 | cons c u =>
  unfold nameLen
  rw [List.cons_append, List.tail_cons, List.tail_cons, tw_app _ (by decide)]
  rfl
theorem char_app (b t : List UInt8) (k : Tok) (r : List UInt8) (h : char t = .tok k r) : char (t ++ 10 :: b) = .tok k (r ++ 10 :: b) := by
 unfold char at h
 split at h
 ·simp at h
 ·rename_i hne
  split at h
  ·simp at h
  ·rename_i hok
   simp at h
   obtain ⟨rfl, rfl⟩ := h
   match t, hne, hok with
   | [], hne, _ => exact absurd rfl hne
   | [_], hne, _ => exact absurd rfl hne
   | x :: y :: u, hne, hok =>
    have hd : (x :: y :: u).drop 2 = u := rfl
    rw [hd] at hne hok ⊢
    obtain ⟨_, h2, h3⟩ := nameLen_own u hne
    unfold char
    have hd2 : (x :: y :: u ++ 10 :: b).drop 2 = u ++ 10 :: b := rfl
    rw [hd2, nameLen_app b u hne, List.take_append_of_le_length h3, List.drop_append_of_le_length h3]
    have hpk : pk (x :: y :: u ++ 10 :: b) 2 = pk (x :: y :: u) 2 := pk_app _ _ _ (by
     have : 0 < u.length := List.length_pos_iff.2 hne
     simp; omega)
    rw [if_neg (by simp), hpk, if_neg hok]
    congr 2
    rw [show 2 + nameLen u = nameLen u + 2 by omega]
    rfl
theorem sg_ten (c : UInt8) : sg c 10 = sg c 0 := by
 unfold sg
 cases (c == 40) <;> cases (c == 41) <;> cases (c == 39) <;> cases (c == 96) <;> cases (c == 44) <;> cases (c == 35) <;> rfl
theorem pk_ten (t b : List UInt8) (h0 : t ≠ []) : pk (t ++ 10 :: b) 1 = pk t 1 ∨ (t.length = 1 ∧ pk t 1 = 0 ∧ pk (t ++ 10 :: b) 1 = 10) := by
 match t, h0 with
 | [c], _ => right; exact ⟨rfl, rfl, rfl⟩
 | c :: d :: t, _ => left; rfl
theorem word_app (b t : List UInt8) (h0 : t ≠ []) (k : Tok) (r : List UInt8) (h : word t = .tok k r) : word (t ++ 10 :: b) = .tok k (r ++ 10 :: b) := by
 have hpos : 0 < t.length := List.length_pos_iff.2 h0
 have p0 : pk (t ++ 10 :: b) 0 = pk t 0 := pk_app _ _ _ hpos
 have hs : sign (t ++ 10 :: b) = sign t := by
  rw [sign_sg, sign_sg, p0]
  rcases pk_ten t b h0 with h1 | ⟨_, h1, h2⟩
  ·rw [h1]
  ·rw [h1, h2, sg_ten]
 have h92 : (pk (t ++ 10 :: b) 1 == 92) = (pk t 1 == 92) := by
  rcases pk_ten t b h0 with h1 | ⟨_, h1, h2⟩
  ·rw [h1]
  ·rw [h1, h2]; rfl
 unfold word at h ⊢
 rw [hs, p0, h92]
 split at h
 ·rename_i h1
  rw [if_pos h1]
  simp at h
  obtain ⟨rfl, rfl⟩ := h
  congr 1
  apply List.drop_append_of_le_length
  rw [sign_sg] at h1 ⊢
  rcases sg_two _ _ h1 with h2 | ⟨h2, hd⟩
  ·rw [h2]; exact hpos
  ·rw [h2]
   apply Classical.byContradiction
   intro hh
   exact hd (pk_end _ _ (by omega))
 ·rename_i h1
  rw [if_neg h1]
  split at h
  ·rename_i h2
   rw [if_pos h2]
   exact str_app _ t k r h0 h
  ·rename_i h2
   rw [if_neg h2]
   split at h
   ·rename_i h3
    rw [if_pos h3]
    exact char_app b t k r h
   ·rename_i h3
    rw [if_neg h3]
    exact run_app b t k r h
def shift (a : Nat) (p : PTok) : PTok := ⟨p.at_ + a, p.to + a, p.t⟩
theorem words_few (N : Nat) : ∀ (f c : Nat) (t : List UInt8) (l : List PTok), c ≤ 4096 → words N f c t = (l, 0, 0) → c + l.length ≤ 4096 := by
 intro f
 induction f with
 | zero => intro c t l hc h; simp [words] at h; rw [h]; simpa using hc
 | succ f ih =>
  intro c t l hc h
  rw [words_step] at h
  split at h
  ·simp at h
  ·split at h
   ·simp at h; rw [h]; simpa using hc
   ·split at h
    ·simp at h
    ·rename_i h4
     split at h
     ·rename_i e he
      have := word_err _ _ he
      simp at h
      exact absurd h.2.2 this
     ·rename_i k rest he
      by_cases hz : (words N f (c + 1) rest).2.2 = 0
      ·rw [if_pos hz] at h
       have hr0 : words N f (c + 1) rest = ((words N f (c + 1) rest).1, 0, 0) := by
        have hn := words_norm N f (c + 1) rest
        unfold app at hn
        rw [if_pos hz] at hn
        rw [← hn]
       have hih := ih (c + 1) rest _ (by omega) hr0
       simp at h
       rw [← h]
       simp only [List.length_cons]
       omega
      ·rw [if_neg hz] at h
       simp at h
       try exact absurd h.2.2 hz
theorem lex_few (s : List UInt8) (l : List PTok) (h : lex s = (l, 0, 0)) : l.length ≤ 4096 := by
 unfold lex at h
 split at h
 ·simp at h
 ·split at h
  ·simp at h
  ·have := words_few _ _ _ _ _ (by omega) h
   omega
end Go.Proofs.Ytcopdfihaheplaa.Lx
