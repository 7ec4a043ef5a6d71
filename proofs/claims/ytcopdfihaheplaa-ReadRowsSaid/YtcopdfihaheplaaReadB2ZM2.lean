/-
  Several texts of this proof in one: RdCutL, RdModel, RdCutP, RdCutX, RdRowsP, Mem, DtOwnP, DtOwn, RdBase, RdRow, RdVec, RdTail, RdList.
-/
import Derived.Test.YtcopdfihaheplaaLexApartS
import Derived.Test.YtcopdfihaheplaaLexBlanksP
import Derived.Test.YtcopdfihaheplaaReadB2ZM1
import Derived.Test.YtcopdfihaheplaaLexWordsP
import Derived.Test.YtcopdfihaheplaaTbKeep
import Derived.Lib.Hide
import Derived.Lib.Builder
import Derived.Deep.MidRow
import Derived.Deep.Draws
import Derived.Deep.RegionHeld3
import Derived.Deep.DeepCutAuto
import Derived.WalkSpells
import Derived.Deep.RegionLaw
import Derived.Deep.Cut
namespace Go.Proofs.Ytcopdfihaheplaa
open Go.RowKit Go.Sort
namespace Lx
open Tx
theorem com_pre (z : List UInt8) : ∀ (m : Nat) (l : List UInt8) (o : Nat) (r : List UInt8), l.length ≤ m → com (l ++ z) o = some (r ++ z) → com l o = some r := by
 have long : ∀ (y : List UInt8) (o : Nat) (r : List UInt8), y.length ≤ z.length → com y o = some (r ++ z) → False := by
  intro y o r hy h
  have := com_len _ _ _ _ (Nat.le_refl _) h
  rw [List.length_append] at this
  omega
 intro m
 induction m with
 | zero =>
  intro l o r hm h
  have : l = [] := List.eq_nil_of_length_eq_zero (by omega)
  subst this
  exact (long z o r (Nat.le_refl _) h).elim
 | succ m ih =>
  intro l o r hm h
  cases l with
  | nil => exact (long z o r (Nat.le_refl _) h).elim
  | cons c t =>
   simp only [List.length_cons] at hm
   rw [List.cons_append, com] at h
   rw [com]
   cases t with
   | nil =>
    rw [List.nil_append] at h
    exfalso
    split at h
    ·exact long _ _ _ (by simp) h
    split at h
    ·rename_i h2
     split at h
     ·have h3 := congrArg List.length (Option.some.inj h)
      have : z ≠ [] := by rintro rfl; simp at h2
      have h4 := List.length_pos_iff.2 this
      rw [List.length_append, List.length_tail] at h3
      omega
     ·exact long _ _ _ (by simp) h
    ·exact long _ _ _ (Nat.le_refl _) h
   | cons d t =>
    simp only [List.length_cons] at hm
    have e1 : (d :: t ++ z).head? = (d :: t).head? := rfl
    have e2 : (d :: t ++ z).tail = (d :: t).tail ++ z := rfl
    rw [e1, e2] at h
    split at h
    ·rename_i h1
     rw [if_pos h1]
     exact ih _ _ _ (by simp; omega) h
    ·rename_i h1
     rw [if_neg h1]
     split at h
     ·rename_i h2
      rw [if_pos h2]
      split at h
      ·rename_i h3
       rw [if_pos h3]
       exact congrArg some (List.append_cancel_right (Option.some.inj h))
      ·rename_i h3
       rw [if_neg h3]
       exact ih _ _ _ (by simp; omega) h
     ·rename_i h2
      rw [if_neg h2]
      exact ih _ _ _ (by simp; omega) h
theorem gap_short (F : Nat) (y g z : List UInt8) (hg : g ≠ []) (hy : y.length ≤ z.length) (h : gap F y = (g ++ z, true)) : False := by
 have h1 := gap_len F y
 rw [h, List.length_append] at h1
 have := List.length_pos_iff.2 hg
 omega
theorem gap_pre (z g : List UInt8) (hg : g ≠ []) : ∀ (F f : Nat) (t : List UInt8), t.length ≤ f → t.length + z.length ≤ F → gap F (t ++ z) = (g ++ z, true) → gap f t = (g, true) := by
 intro F
 induction F with
 | zero =>
  intro f t hf hF h
  have : t = [] := List.eq_nil_of_length_eq_zero (by omega)
  subst this
  exact (gap_short _ _ g z hg (by simp) h).elim
 | succ F ih =>
  intro f t hf hF h
  cases t with
  | nil => exact (gap_short _ _ g z hg (by simp) h).elim
  | cons c r =>
   cases f with
   | zero => simp at hf
   | succ f =>
    simp only [List.length_cons] at hf hF
    rw [List.cons_append, gap] at h
    rw [gap]
    split at h
    ·rename_i h1
     rw [if_pos h1]
     exact ih f r (by omega) (by omega) h
    rename_i h1
    rw [if_neg h1]
    split at h
    ·rename_i h2
     rw [if_pos h2]
     have hdw : ∀ (r : List UInt8), (∃ r', (r ++ z).dropWhile (· != 10) = r' ++ z ∧ r.dropWhile (· != 10) = r') ∨ ((r ++ z).dropWhile (· != 10)).length ≤ z.length := by
      intro r
      induction r with
      | nil => exact .inr (by rw [List.nil_append]; exact (List.dropWhile_sublist _).length_le)
      | cons a r ihr =>
       rw [List.cons_append, List.dropWhile_cons, List.dropWhile_cons]
       split
       ·exact ihr
       ·exact .inl ⟨a :: r, rfl, rfl⟩
     rcases hdw r with ⟨r', e1, e2⟩ | h3
     ·rw [e1] at h
      rw [e2]
      have hl : r'.length ≤ r.length := by rw [← e2]; exact (List.dropWhile_sublist _).length_le
      exact ih f r' (by omega) (by omega) h
     ·exact (gap_short _ _ g z hg h3 h).elim
    rename_i h2
    rw [if_neg h2]
    split at h
    ·rename_i h3
     split at h
     ·exact absurd (Prod.mk.inj h).2 (by simp)
     ·rename_i r' hr
      have hlen : z.length < r'.length := by
       have h4 := gap_len F r'
       rw [h, List.length_append] at h4
       have := List.length_pos_iff.2 hg
       omega
      obtain ⟨p, hp⟩ := com_suf _ _ _ _ (Nat.le_refl _) hr
      have hpl : p.length + r'.length = (c :: r).length + z.length := by
       have := congrArg List.length hp
       rw [List.length_append, ← List.cons_append, List.length_append] at this
       exact this
      have hr' : r' = (c :: r).drop p.length ++ z := by
       have h5 : (p ++ r').drop p.length = r' := List.drop_left
       rw [hp, ← List.cons_append, List.drop_append_of_le_length (by omega)] at h5
       exact h5.symm
      rw [hr'] at hr h hlen
      have hc := com_pre z (c :: r).length (c :: r) 0 ((c :: r).drop p.length) (Nat.le_refl _) hr
      have hrn : r ≠ [] := by
       rintro rfl
       rw [com] at hc
       simp [com] at hc
      have h3' : (c == 35 && r.head? == some 124) = true := by
       cases r with
       | nil => exact absurd rfl hrn
       | cons d r => exact h3
      rw [if_pos h3', hc]
      have hcl := com_len _ _ _ _ (Nat.le_refl _) hc
      simp only [List.length_cons] at hcl
      exact ih f ((c :: r).drop p.length) (by omega) (by omega) h
    ·rename_i h3
     have e : c :: r = g := List.append_cancel_right (by simpa using (Prod.mk.inj h).1)
     rw [if_neg (by
      cases r with
      | nil => simp
      | cons d r => exact h3), e]
theorem dw_pre (f : UInt8 → Bool) (z : List UInt8) : ∀ t : List UInt8, z.length ≤ ((t ++ z).dropWhile f).length → (t ++ z).dropWhile f = t.dropWhile f ++ z ∧ (t ++ z).takeWhile f = t.takeWhile f
 | [], h => by
  rw [List.nil_append] at h ⊢
  have e := List.takeWhile_append_dropWhile (p := f) (l := z)
  have hl := congrArg List.length e
  rw [List.length_append] at hl
  have h0 : z.takeWhile f = [] := List.eq_nil_of_length_eq_zero (by omega)
  rw [h0, List.nil_append] at e
  exact ⟨by rw [e]; rfl, by rw [h0]; rfl⟩
 | a :: t, h => by
  rw [List.cons_append, List.dropWhile_cons] at h
  rw [List.cons_append, List.dropWhile_cons, List.takeWhile_cons, List.dropWhile_cons, List.takeWhile_cons]
  split at h
  ·rename_i h1
   obtain ⟨e1, e2⟩ := dw_pre f z t h
   rw [if_pos h1, if_pos h1, if_pos h1, if_pos h1, e1, e2]
   exact ⟨rfl, rfl⟩
  ·rename_i h1
   rw [if_neg h1, if_neg h1, if_neg h1, if_neg h1]
   exact ⟨rfl, rfl⟩
theorem app_cancel {t z p r : List UInt8} (h : t ++ z = p ++ (r ++ z)) : t = p ++ r := by
 rw [← List.append_assoc] at h
 exact List.append_cancel_right h
theorem run_pre (t z : List UInt8) (k : Tok) (r : List UInt8) (h : run (t ++ z) = .tok k (r ++ z)) : run t = .tok k r := by
 have h1 := run_rest _ _ _ h
 obtain ⟨e1, e2⟩ := dw_pre (fun c => !ends c) z t (by rw [← h1, List.length_append]; omega)
 rw [e1] at h1
 have e3 := List.append_cancel_right h1
 rw [run_eq, e2] at h
 rw [run_eq, ← e3]
 exact runW_rest _ _ _ _ h r
theorem str_pre (t z : List UInt8) (k : Tok) (r : List UInt8) (h0 : t ≠ []) (h : str (t ++ z) = .tok k (r ++ z)) : str t = .tok k r := by
 obtain ⟨p, hp, hs⟩ := str_own _ _ _ (by intro e; exact h0 (List.append_eq_nil_iff.1 e).1) h
 have ht := app_cancel hp
 have hl := str_len _ _ _ h
 have hpn : p ≠ [] := by
  rintro rfl
  rw [List.nil_append] at ht
  rw [ht] at hl
  omega
 have := str_app r p k [] hpn hs
 rw [List.nil_append] at this
 rw [ht]
 exact this
theorem sign_pre (t z r : List UInt8) (hs : (sign (t ++ z)).1 ≠ 0) (h : (t ++ z).drop (sign (t ++ z)).2 = r ++ z) (h0 : t ≠ []) (hz : z ≠ []) : sign t = sign (t ++ z) ∧ t.drop (sign t).2 = r := by
 have hpos : 0 < t.length := List.length_pos_iff.2 h0
 have hzp : 0 < z.length := List.length_pos_iff.2 hz
 have hlen := congrArg List.length h
 rw [List.length_drop, List.length_append, List.length_append] at hlen
 have c0 : pk (t ++ z) 0 = pk t 0 := pk_app _ _ _ hpos
 have he : sign t = sign (t ++ z) := by
  rw [sign_sg] at hs hlen
  rw [sign_sg, sign_sg, c0]
  rw [c0] at hs hlen
  by_cases h1 : 1 < t.length
  ·rw [pk_app _ _ _ h1]
  ·rw [pk_end t 1 (by omega)]
   rcases sg_two _ _ hs with h2 | ⟨h2, -⟩
   ·exact sg_one _ _ h2
   ·rw [h2] at hlen; omega
 refine ⟨he, ?_⟩
 rw [he]
 have hle : (sign (t ++ z)).2 ≤ t.length := by
  have : 1 ≤ (sign (t ++ z)).2 ∧ (sign (t ++ z)).2 ≤ 2 := by
   rw [sign_sg] at hs ⊢
   rcases sg_two _ _ hs with h2 | ⟨h2, -⟩ <;> omega
  omega
 rw [List.drop_append_of_le_length hle] at h
 exact List.append_cancel_right h
theorem nameLen_pre (u z : List UInt8) (h0 : u ≠ []) (h : nameLen (u ++ z) ≤ u.length) : nameLen (u ++ z) = nameLen u := by
 cases u with
 | nil => exact absurd rfl h0
 | cons c u =>
  unfold nameLen at h ⊢
  have e0 : pk (c :: u ++ z) 0 = pk (c :: u) 0 := rfl
  have e1 : (c :: u ++ z).tail = u ++ z := rfl
  rw [e0, e1] at h ⊢
  split
  ·rename_i h1
   rw [if_pos h1] at h
   have e := congrArg List.length (List.takeWhile_append_dropWhile (p := fun c => low c || figure c) (l := u ++ z))
   rw [List.length_append, List.length_append] at e
   simp only [List.length_cons] at h
   rw [(dw_pre (fun c => low c || figure c) z u (by omega)).2]
   rfl
  ·rfl
theorem char_pre (t z : List UInt8) (k : Tok) (r : List UInt8) (hz : z ≠ []) (h : char (t ++ z) = .tok k (r ++ z)) : char t = .tok k r := by
 have hzp : 0 < z.length := List.length_pos_iff.2 hz
 have hlt := char_len _ _ _ h
 unfold char at h
 split at h
 ·simp at h
 ·rename_i hne
  split at h
  ·simp at h
  ·rename_i hok
   obtain ⟨hk, hr⟩ := Res.tok.inj h
   have hlr := congrArg List.length hr
   simp only [List.length_drop, List.length_append] at hlr
   have hn1 : 1 ≤ nameLen ((t ++ z).drop 2) := (nameLen_own _ hne).2.1
   cases t with
   | nil => simp only [List.nil_append, List.length_nil] at hlr hn1; omega
   | cons a t =>
    cases t with
    | nil => simp only [List.cons_append, List.nil_append, List.length_cons, List.length_nil] at hlr hn1; omega
    | cons b u =>
     have hd : (a :: b :: u ++ z).drop 2 = u ++ z := rfl
     rw [hd] at hk hr hok hlr hn1
     simp only [List.length_cons] at hlr
     have hnu : nameLen (u ++ z) ≤ u.length := by omega
     have hu : u ≠ [] := by rintro rfl; simp at hnu; simp at hn1; omega
     have hnl := nameLen_pre u z hu hnu
     rw [hnl] at hk hr hok hnu
     have hpk : pk (a :: b :: u ++ z) 2 = pk (a :: b :: u) 2 := pk_app _ _ _ (by have := List.length_pos_iff.2 hu; simp; omega)
     rw [hpk, List.take_append_of_le_length hnu] at hok
     rw [List.take_append_of_le_length hnu] at hk
     rw [List.drop_append_of_le_length hnu] at hr
     have hr' := List.append_cancel_right hr
     unfold char
     have hd2 : (a :: b :: u).drop 2 = u := rfl
     rw [hd2, if_neg hu, if_neg hok, hk, hr']
theorem word_pre (t z : List UInt8) (k : Tok) (r : List UInt8) (h0 : t ≠ []) (hz : z ≠ []) (h : word (t ++ z) = .tok k (r ++ z)) : word t = .tok k r := by
 have hpos : 0 < t.length := List.length_pos_iff.2 h0
 have c0 : pk (t ++ z) 0 = pk t 0 := pk_app _ _ _ hpos
 unfold word at h
 split at h
 ·rename_i hs
  obtain ⟨hk, hr⟩ := Res.tok.inj h
  obtain ⟨e1, e2⟩ := sign_pre t z r hs hr h0 hz
  unfold word
  rw [e1, if_pos hs, hk, ← e1, e2]
 ·rename_i hs
  have hs' : ¬ (sign t).1 ≠ 0 := by
   intro hh
   apply hh
   have h1 : (sign (t ++ z)).1 = 0 := Classical.byContradiction hs
   rw [sign_sg, c0] at h1
   rw [sign_sg]
   by_cases h2 : 1 < t.length
   ·rw [pk_app _ _ _ h2] at h1; exact h1
   ·rw [pk_end t 1 (by omega)]; exact sg_zero _ _ h1
  unfold word
  rw [if_neg hs', ← c0]
  split at h
  ·rename_i h1
   rw [if_pos h1]
   exact str_pre t z k r h0 h
  rename_i h1
  rw [if_neg h1]
  by_cases h2 : 1 < t.length
  ·rw [← pk_app t z 1 h2]
   split at h
   ·rename_i h3
    rw [if_pos h3]
    exact char_pre t z k r hz h
   ·rename_i h3
    rw [if_neg h3]
    exact run_pre t z k r h
  ·rw [pk_end t 1 (by omega), if_neg (by simp)]
   split at h
   ·have h4 := char_pre t z k r hz h
    unfold char at h4
    rw [if_pos (List.eq_nil_of_length_eq_zero (by rw [List.length_drop]; omega))] at h4
    cases h4
   ·exact run_pre t z k r h
theorem words_inv {N f c : Nat} {y : List UInt8} {p : PTok} {l : List PTok} (h : words N f c y = (p :: l, 0, 0)) : ∃ f0 G k rest, f = f0 + 1 ∧ gap y.length y = (G, true) ∧ G ≠ [] ∧ c ≠ 4096 ∧ word G = .tok k rest ∧ words N f0 (c + 1) rest = (l, 0, 0) ∧ p = ⟨N - G.length, N - rest.length, k⟩ := by
 cases f with
 | zero => rw [words] at h; cases h
 | succ f0 =>
  rw [words] at h
  simp only at h
  split at h
  ·cases h
  rename_i hg
  split at h
  ·cases h
  rename_i hne
  split at h
  ·cases h
  rename_i hc
  split at h
  ·cases h
  ·rename_i k rest hw
   split at h
   ·rename_i h0
    have h1 := (Prod.mk.inj h).1
    obtain ⟨e1, e2⟩ := List.cons.inj h1
    refine ⟨f0, (gap y.length y).1, k, rest, rfl, ?_, hne, hc, hw, ?_, e1.symm⟩
    ·exact Prod.ext rfl (by simpa using hg)
    ·have h2 : (words N f0 (c + 1) rest).2.1 = 0 := words_zero N f0 (c + 1) rest (words N f0 (c + 1) rest).1 _ (Prod.ext rfl (Prod.ext rfl h0))
     exact Prod.ext e2 (Prod.ext h2 h0)
   ·cases (Prod.mk.inj h).1
theorem words_to (N : Nat) : ∀ (l : List PTok) (f c : Nat) (y : List UInt8), words N f c y = (l, 0, 0) → ∀ p ∈ l, N - y.length ≤ p.to
 | [], _, _, _, _, p, hp => by cases hp
 | q :: l, f, c, y, h, p, hp => by
  obtain ⟨f0, G, k, rest, rfl, hg, hne, hc, hw, hr, rfl⟩ := words_inv h
  have h1 := gap_len y.length y
  rw [hg] at h1
  have h2 := (word_suf _ _ _ hw).length_le
  simp only at h1
  rcases List.mem_cons.1 hp with rfl | hp
  ·show N - y.length ≤ N - rest.length
   omega
  ·have := words_to N l f0 (c + 1) rest hr p hp
   omega
theorem suf_app {y t z : List UInt8} (h : y <:+ t ++ z) (hl : z.length ≤ y.length) : ∃ r, y = r ++ z ∧ r.length ≤ t.length := by
 obtain ⟨p, hp⟩ := h
 have hpl := congrArg List.length hp
 rw [List.length_append, List.length_append] at hpl
 have h5 : (p ++ y).drop p.length = y := List.drop_left
 rw [hp, List.drop_append_of_le_length (by omega)] at h5
 exact ⟨_, h5.symm, by rw [List.length_drop]; omega⟩
theorem words_pre (N : Nat) (z : List UInt8) (hz : z ≠ []) : ∀ (l1 : List PTok) (f f' c : Nat) (t : List UInt8) (l2 : List PTok), t.length + z.length ≤ N → t.length < f' → words N f c (t ++ z) = (l1 ++ l2, 0, 0) → (∀ p, l1.getLast? = some p → p.to = N - z.length) → (l1 = [] → t = []) → (∀ b ∈ t ++ z, (b == 0) = false) → words (N - z.length) f' c t = (l1, 0, 0)
 | [], f, f', c, t, l2, hN, hf, h, hlast, ht, hok => by
  obtain rfl := ht rfl
  cases f' with
  | zero => exact absurd hf (Nat.not_lt_zero _)
  | succ f' => exact words_end _ _ _
 | p :: l1, f, f', c, t, l2, hN, hf, h, hlast, ht, hok => by
  obtain ⟨f0, G, k, rest, rfl, hg, hne, hc, hw, hr, rfl⟩ := words_inv h
  have hG : G <:+ t ++ z := by have := gap_suf (t ++ z).length (t ++ z); rw [hg] at this; exact this
  have hR := word_suf _ _ _ hw
  have hGl := hG.length_le
  have hRl := hR.length_le
  rw [List.length_append] at hGl
  have hle : z.length ≤ rest.length ∧ (l1 = [] → rest.length = z.length) := by
   cases l1 with
   | nil =>
    have : N - rest.length = N - z.length := hlast _ rfl
    exact ⟨by omega, fun _ => by omega⟩
   | cons q l =>
    obtain ⟨p', hp'⟩ : ∃ p', (q :: l).getLast? = some p' := ⟨_, List.getLast?_eq_some_getLast (by simp)⟩
    have h1 := hlast p' (by rw [List.getLast?_cons_cons]; exact hp')
    have h2 := words_to N _ _ _ _ hr p' (List.mem_append_left _ (List.mem_of_getLast? hp'))
    exact ⟨by omega, fun e => by cases e⟩
  obtain ⟨r, rfl, hrt⟩ := suf_app (hR.trans hG) hle.1
  obtain ⟨g, rfl, hgt⟩ := suf_app hG (Nat.le_trans hle.1 hRl)
  have hlt : (r ++ z).length < (g ++ z).length := by
   have h3 := gap_end (t ++ z).length (t ++ z) (Nat.le_refl _) (by rw [hg])
   rw [hg] at h3
   rcases h3 with h3 | ⟨h3, h4⟩
   ·exact absurd h3 hne
   ·refine word_len _ hne h3 h4 ?_ k _ hw
    cases hgz : g ++ z with
    | nil => exact absurd hgz hne
    | cons b gz => exact hok b (hG.subset (by rw [hgz]; exact List.mem_cons_self))
  rw [List.length_append, List.length_append] at hlt
  have hgn : g ≠ [] := by rintro rfl; simp only [List.length_nil] at hlt; omega
  cases f' with
  | zero => exact absurd hf (Nat.not_lt_zero _)
  | succ f' =>
   have hg' := gap_pre z g hgn (t ++ z).length t.length t (Nat.le_refl _) (by rw [List.length_append]; omega) hg
   have hw' := word_pre g z k r hgn hz hw
   have hrec := words_pre N z hz l1 f0 f' (c + 1) r l2 (by omega) (by omega) hr (fun p' hp' => hlast p' (by cases l1 with
    | nil => cases hp'
    | cons q l => rw [List.getLast?_cons_cons]; exact hp')) (fun e => by have := hle.2 e; rw [List.length_append] at this; exact List.eq_nil_of_length_eq_zero (by omega)) (fun b hb => hok b ((hR.trans hG).subset hb))
   rw [words]
   simp only [hg', hw', hrec]
   rw [if_neg (by simp), if_neg hgn, if_neg hc]
   simp only [List.length_append]
   rw [show N - z.length - g.length = N - (g.length + z.length) by omega, show N - z.length - r.length = N - (r.length + z.length) by omega]
   rfl
end Lx
end Go.Proofs.Ytcopdfihaheplaa
namespace Go.Proofs.Ytcopdfihaheplaa
namespace Rd
open Dt Lx
inductive Res where
 | ok (d : D) (rest : List PTok)
 | bad (at_ : Nat) (e : Int)
 | out
def sgn (k : Int) : ByteArray :=
 if k = 4 then ⟨#[113, 117, 111, 116, 101]⟩
 else if k = 5 then ⟨#[113, 117, 97, 115, 105, 113, 117, 111, 116, 101]⟩
 else if k = 6 then ⟨#[117, 110, 113, 117, 111, 116, 101]⟩
 else ⟨#[117, 110, 113, 117, 111, 116, 101, 45, 115, 112, 108, 105, 99, 105, 110, 103]⟩
def leafD (t : Tok) : D := .mk (t.k - 8) t.n ⟨t.s.toArray⟩ [] [] []
def listD (l : List D) : D := .mk 6 0 ⟨#[]⟩ [] l []
def vecD (l : List D) : D := .mk 8 0 ⟨#[]⟩ [] l []
def symD (s : ByteArray) : D := .mk 5 0 s [] [] []
def quoteD (k : Int) (d : D) : D := listD [symD (sgn k), d]
def joinD (acc : List D) (x : D) : D := if x.k = 6 ∨ x.k = 7 then .mk x.k 0 ⟨#[]⟩ [] (acc ++ x.l) x.t else .mk 7 0 ⟨#[]⟩ [] acc [x]
mutual
def pd : Nat → List PTok → Res
 | 0, _ => .out
 | _ + 1, [] => .out
 | f + 1, t :: r =>
  if t.t.k = 1 then pl f t.at_ [] r
  else if t.t.k = 3 then pv f t.at_ [] r
  else if t.t.k = 2 ∨ t.t.k = 8 then .bad t.at_ 40
  else if 4 ≤ t.t.k ∧ t.t.k ≤ 7 then pq f t.at_ t.t.k r
  else .ok (leafD t.t) r
def pq : Nat → Nat → Int → List PTok → Res
 | 0, _, _, _ => .out
 | _ + 1, a, _, [] => .bad a 41
 | f + 1, _, k, x :: r => match pd f (x :: r) with
  | .ok d rest => .ok (quoteD k d) rest
  | .bad b e => .bad b e
  | .out => .out
def pl : Nat → Nat → List D → List PTok → Res
 | 0, _, _, _ => .out
 | _ + 1, a, _, [] => .bad a 41
 | f + 1, a, acc, x :: r =>
  if x.t.k = 2 then .ok (listD acc) r
  else if x.t.k = 8 ∧ acc ≠ [] then pt f a acc r
  else match pd f (x :: r) with
   | .ok d rest => pl f a (acc ++ [d]) rest
   | .bad b e => .bad b e
   | .out => .out
def pt : Nat → Nat → List D → List PTok → Res
 | 0, _, _, _ => .out
 | _ + 1, a, _, [] => .bad a 41
 | f + 1, a, acc, x :: r => match pd f (x :: r) with
  | .ok _d [] => .bad a 41
  | .ok d (y :: rest) => if y.t.k = 2 then .ok (joinD acc d) rest else .bad y.at_ 40
  | .bad b e => .bad b e
  | .out => .out
def pv : Nat → Nat → List D → List PTok → Res
 | 0, _, _, _ => .out
 | _ + 1, a, _, [] => .bad a 41
 | f + 1, a, acc, x :: r =>
  if x.t.k = 2 then .ok (vecD acc) r
  else match pd f (x :: r) with
   | .ok d rest => pv f a (acc ++ [d]) rest
   | .bad b e => .bad b e
   | .out => .out
end
def Le (n : Nat) : Res → Prop
 | .ok _ rest => rest.length ≤ n
 | _ => True
theorem res_len : ∀ f, (∀ ts n, ts.length ≤ n + 1 → Le n (pd f ts)) ∧ (∀ a k ts n, ts.length ≤ n + 1 → Le n (pq f a k ts)) ∧ (∀ a acc ts n, ts.length ≤ n + 1 → Le n (pl f a acc ts)) ∧ (∀ a acc ts n, ts.length ≤ n + 1 → Le n (pt f a acc ts)) ∧ (∀ a acc ts n, ts.length ≤ n + 1 → Le n (pv f a acc ts)) := by
 intro f
 induction f with
 | zero => exact ⟨fun _ _ _ => by rw [pd]; trivial, fun _ _ _ _ _ => by rw [pq]; trivial, fun _ _ _ _ _ => by rw [pl]; trivial, fun _ _ _ _ _ => by rw [pt]; trivial, fun _ _ _ _ _ => by rw [pv]; trivial⟩
 | succ f ih =>
  obtain ⟨h1, h2, h3, h4, h5⟩ := ih
  have lm : ∀ {r : Res} {m n : Nat}, Le m r → m ≤ n → Le n r := fun {r m n} h hmn => by
   cases r with
   | ok d rest => exact Nat.le_trans h hmn
   | bad => trivial
   | out => trivial
  refine ⟨fun ts n hn => ?_, fun a k ts n hn => ?_, fun a acc ts n hn => ?_, fun a acc ts n hn => ?_, fun a acc ts n hn => ?_⟩
  ·cases ts with
   | nil => rw [pd]; trivial
   | cons t r =>
    rw [pd]
    simp only [List.length_cons] at hn
    split
    ·exact h3 _ _ _ _ (by omega)
    split
    ·exact h5 _ _ _ _ (by omega)
    split
    ·trivial
    split
    ·exact h2 _ _ _ _ (by omega)
    ·show r.length ≤ n; omega
  ·cases ts with
   | nil => rw [pq]; trivial
   | cons x r =>
    rw [pq]
    have := h1 (x :: r) n hn
    cases hp : pd f (x :: r) with
    | ok d rest => rw [hp] at this; exact this
    | bad => trivial
    | out => trivial
  ·cases ts with
   | nil => rw [pl]; trivial
   | cons x r =>
    rw [pl]
    simp only [List.length_cons] at hn
    split
    ·show r.length ≤ n; omega
    split
    ·exact h4 _ _ _ _ (by omega)
    ·have := h1 (x :: r) n hn
     cases hp : pd f (x :: r) with
     | ok d rest => rw [hp] at this; exact h3 _ _ _ _ (by have : rest.length ≤ n := this; omega)
     | bad => trivial
     | out => trivial
  ·cases ts with
   | nil => rw [pt]; trivial
   | cons x r =>
    rw [pt]
    have := h1 (x :: r) n hn
    cases hp : pd f (x :: r) with
    | ok d rest =>
     rw [hp] at this
     cases rest with
     | nil => trivial
     | cons y rest =>
      have h6 : rest.length + 1 ≤ n := this
      simp only
      split
      ·show rest.length ≤ n; omega
      ·trivial
    | bad => trivial
    | out => trivial
  ·cases ts with
   | nil => rw [pv]; trivial
   | cons x r =>
    rw [pv]
    simp only [List.length_cons] at hn
    split
    ·show r.length ≤ n; omega
    ·have := h1 (x :: r) n hn
     cases hp : pd f (x :: r) with
     | ok d rest => rw [hp] at this; exact h5 _ _ _ _ (by have : rest.length ≤ n := this; omega)
     | bad => trivial
     | out => trivial
def Mn (n : Nat) : Res → Prop
 | .ok d rest => d.l.length + rest.length ≤ n
 | _ => True
theorem res_many : ∀ f, (∀ ts, Mn ts.length (pd f ts)) ∧ (∀ a k ts, Mn (ts.length + 1) (pq f a k ts)) ∧ (∀ a acc ts, Mn (acc.length + ts.length) (pl f a acc ts)) ∧ (∀ a acc ts, Mn (acc.length + ts.length) (pt f a acc ts)) ∧ (∀ a acc ts, Mn (acc.length + ts.length) (pv f a acc ts)) := by
 intro f
 induction f with
 | zero => exact ⟨fun _ => by rw [pd]; trivial, fun _ _ _ => by rw [pq]; trivial, fun _ _ _ => by rw [pl]; trivial, fun _ _ _ => by rw [pt]; trivial, fun _ _ _ => by rw [pv]; trivial⟩
 | succ f ih =>
  obtain ⟨h1, h2, h3, h4, h5⟩ := ih
  have lm : ∀ {r : Res} {m n : Nat}, Mn m r → m ≤ n → Mn n r := fun {r m n} h hmn => by
   cases r with
   | ok d rest => exact Nat.le_trans h hmn
   | bad => trivial
   | out => trivial
  refine ⟨fun ts => ?_, fun a k ts => ?_, fun a acc ts => ?_, fun a acc ts => ?_, fun a acc ts => ?_⟩
  ·cases ts with
   | nil => rw [pd]; trivial
   | cons t r =>
    rw [pd]
    simp only [List.length_cons]
    split
    ·exact lm (h3 _ [] r) (by simp)
    split
    ·exact lm (h5 _ [] r) (by simp)
    split
    ·trivial
    split
    ·exact h2 _ _ r
    ·show 0 + r.length ≤ _; omega
  ·cases ts with
   | nil => rw [pq]; trivial
   | cons x r =>
    rw [pq]
    have hl := (res_len f).1 (x :: r) r.length (by simp)
    cases hp : pd f (x :: r) with
    | ok d rest => rw [hp] at hl; have : rest.length ≤ r.length := hl; show 2 + rest.length ≤ _; simp only [List.length_cons]; omega
    | bad => trivial
    | out => trivial
  ·cases ts with
   | nil => rw [pl]; trivial
   | cons x r =>
    rw [pl]
    simp only [List.length_cons]
    split
    ·show acc.length + r.length ≤ _; omega
    split
    ·exact lm (h4 _ acc r) (by omega)
    ·have hl := (res_len f).1 (x :: r) r.length (by simp)
     cases hp : pd f (x :: r) with
     | ok d rest => rw [hp] at hl; have : rest.length ≤ r.length := hl; exact lm (h3 _ (acc ++ [d]) rest) (by simp; omega)
     | bad => trivial
     | out => trivial
  ·cases ts with
   | nil => rw [pt]; trivial
   | cons x r =>
    rw [pt]
    have hm := h1 (x :: r)
    cases hp : pd f (x :: r) with
    | ok d rest =>
     rw [hp] at hm
     cases rest with
     | nil => trivial
     | cons y rest =>
      have h6 : d.l.length + (rest.length + 1) ≤ (x :: r).length := hm
      simp only
      split
      ·show (joinD acc d).l.length + rest.length ≤ _
       unfold joinD
       split
       ·show (acc ++ d.l).length + rest.length ≤ _; rw [List.length_append]; omega
       ·show acc.length + rest.length ≤ _; omega
      ·trivial
    | bad => trivial
    | out => trivial
  ·cases ts with
   | nil => rw [pv]; trivial
   | cons x r =>
    rw [pv]
    simp only [List.length_cons]
    split
    ·show acc.length + r.length ≤ _; omega
    ·have hl := (res_len f).1 (x :: r) r.length (by simp)
     cases hp : pd f (x :: r) with
     | ok d rest => rw [hp] at hl; have : rest.length ≤ r.length := hl; exact lm (h5 _ (acc ++ [d]) rest) (by simp; omega)
     | bad => trivial
     | out => trivial
theorem fuel : ∀ f, (∀ ts, 2 * ts.length ≤ f → ts ≠ [] → pd f ts ≠ .out) ∧ (∀ a k ts, 2 * ts.length + 1 ≤ f → pq f a k ts ≠ .out) ∧ (∀ a acc ts, 2 * ts.length + 1 ≤ f → pl f a acc ts ≠ .out) ∧ (∀ a acc ts, 2 * ts.length + 1 ≤ f → pt f a acc ts ≠ .out) ∧ (∀ a acc ts, 2 * ts.length + 1 ≤ f → pv f a acc ts ≠ .out) := by
 intro f
 induction f with
 | zero => exact ⟨fun ts h hn => by cases ts with | nil => exact absurd rfl hn | cons => simp at h, fun _ _ _ h => by omega, fun _ _ _ h => by omega, fun _ _ _ h => by omega, fun _ _ _ h => by omega⟩
 | succ f ih =>
  obtain ⟨h1, h2, h3, h4, h5⟩ := ih
  refine ⟨fun ts h hn => ?_, fun a k ts h => ?_, fun a acc ts h => ?_, fun a acc ts h => ?_, fun a acc ts h => ?_⟩
  ·cases ts with
   | nil => exact absurd rfl hn
   | cons t r =>
    rw [pd]
    simp only [List.length_cons] at h
    split
    ·exact h3 _ _ _ (by omega)
    split
    ·exact h5 _ _ _ (by omega)
    split
    ·intro e; cases e
    split
    ·exact h2 _ _ _ (by omega)
    ·intro e; cases e
  ·cases ts with
   | nil => rw [pq]; intro e; cases e
   | cons x r =>
    rw [pq]
    have := h1 (x :: r) (by omega) (by simp)
    cases hp : pd f (x :: r) with
    | ok d rest => intro e; cases e
    | bad => intro e; cases e
    | out => exact absurd hp this
  ·cases ts with
   | nil => rw [pl]; intro e; cases e
   | cons x r =>
    rw [pl]
    have h9 := h
    simp only [List.length_cons] at h
    split
    ·intro e; cases e
    split
    ·exact h4 _ _ _ (by omega)
    ·have := h1 (x :: r) (by omega) (by simp)
     have hl := (res_len f).1 (x :: r) r.length (by simp)
     cases hp : pd f (x :: r) with
     | ok d rest => rw [hp] at hl; exact h3 _ _ _ (by have : rest.length ≤ r.length := hl; omega)
     | bad => intro e; cases e
     | out => exact absurd hp this
  ·cases ts with
   | nil => rw [pt]; intro e; cases e
   | cons x r =>
    rw [pt]
    have := h1 (x :: r) (by omega) (by simp)
    cases hp : pd f (x :: r) with
    | ok d rest =>
     cases rest with
     | nil => intro e; cases e
     | cons y rest =>
      simp only
      split
      ·intro e; cases e
      ·intro e; cases e
    | bad => intro e; cases e
    | out => exact absurd hp this
  ·cases ts with
   | nil => rw [pv]; intro e; cases e
   | cons x r =>
    rw [pv]
    simp only [List.length_cons] at h
    split
    ·intro e; cases e
    ·have := h1 (x :: r) (by simp; omega) (by simp)
     have hl := (res_len f).1 (x :: r) r.length (by simp)
     cases hp : pd f (x :: r) with
     | ok d rest => rw [hp] at hl; exact h5 _ _ _ (by have : rest.length ≤ r.length := hl; omega)
     | bad => intro e; cases e
     | out => exact absurd hp this
def rf : Nat → List PTok → List (Nat × D) → List (Nat × D) × Nat × Int
 | 0, _, acc => (acc, 0, 0)
 | _ + 1, [], acc => (acc, 0, 0)
 | f + 1, t :: r, acc =>
  if acc.length = 256 then ([], t.at_, 3)
  else match pd (2 * (r.length + 1)) (t :: r) with
   | .ok d rest => if check d = 0 then rf f rest (acc ++ [(t.at_, d)]) else ([], t.at_, check d)
   | .bad a e => ([], a, e)
   | .out => ([], 0, 0)
def read (s : List UInt8) : List (Nat × D) × Nat × Int :=
 if (lex s).2.2 ≠ 0 then ([], (lex s).2.1, (lex s).2.2) else rf ((lex s).1.length + 1) (lex s).1 []
end Rd
end Go.Proofs.Ytcopdfihaheplaa
namespace Go.Proofs.Ytcopdfihaheplaa
namespace Rd
open Dt Lx
theorem mono : ∀ f, (∀ ts, pd f ts ≠ .out → pd (f + 1) ts = pd f ts) ∧ (∀ a k ts, pq f a k ts ≠ .out → pq (f + 1) a k ts = pq f a k ts) ∧ (∀ a acc ts, pl f a acc ts ≠ .out → pl (f + 1) a acc ts = pl f a acc ts) ∧ (∀ a acc ts, pt f a acc ts ≠ .out → pt (f + 1) a acc ts = pt f a acc ts) ∧ (∀ a acc ts, pv f a acc ts ≠ .out → pv (f + 1) a acc ts = pv f a acc ts) := by
 intro f
 induction f with
 | zero => exact ⟨fun _ h => absurd (by rw [pd]) h, fun _ _ _ h => absurd (by rw [pq]) h, fun _ _ _ h => absurd (by rw [pl]) h, fun _ _ _ h => absurd (by rw [pt]) h, fun _ _ _ h => absurd (by rw [pv]) h⟩
 | succ f ih =>
  obtain ⟨hd, hq, hl, ht, hv⟩ := ih
  refine ⟨fun ts h => ?_, fun a k ts h => ?_, fun a acc ts h => ?_, fun a acc ts h => ?_, fun a acc ts h => ?_⟩
  ·cases ts with
   | nil => exact absurd (by rw [pd]) h
   | cons t r =>
    rw [pd] at h ⊢
    conv => rhs; rw [pd]
    split
    ·rename_i h1; rw [if_pos h1] at h; exact hl _ _ _ h
    rename_i h1
    rw [if_neg h1] at h
    split
    ·rename_i h2; rw [if_pos h2] at h; exact hv _ _ _ h
    rename_i h2
    rw [if_neg h2] at h
    split
    ·rfl
    rename_i h3
    rw [if_neg h3] at h
    split
    ·rename_i h4; rw [if_pos h4] at h; exact hq _ _ _ h
    ·rfl
  ·cases ts with
   | nil => rw [pq, pq]
   | cons x r =>
    rw [pq] at h ⊢
    conv => rhs; rw [pq]
    have hn : pd f (x :: r) ≠ .out := fun e => by rw [e] at h; exact h rfl
    rw [hd _ hn]
  ·cases ts with
   | nil => rw [pl, pl]
   | cons x r =>
    rw [pl] at h ⊢
    conv => rhs; rw [pl]
    split
    ·rfl
    rename_i h1
    rw [if_neg h1] at h
    split
    ·rename_i h2; rw [if_pos h2] at h; exact ht _ _ _ h
    rename_i h2
    rw [if_neg h2] at h
    have hn : pd f (x :: r) ≠ .out := fun e => by rw [e] at h; exact h rfl
    rw [hd _ hn]
    cases hp : pd f (x :: r) with
    | ok d rest => rw [hp] at h; exact hl _ _ _ h
    | bad b e => rfl
    | out => rfl
  ·cases ts with
   | nil => rw [pt, pt]
   | cons x r =>
    rw [pt] at h ⊢
    conv => rhs; rw [pt]
    have hn : pd f (x :: r) ≠ .out := fun e => by rw [e] at h; exact h rfl
    rw [hd _ hn]
  ·cases ts with
   | nil => rw [pv, pv]
   | cons x r =>
    rw [pv] at h ⊢
    conv => rhs; rw [pv]
    split
    ·rfl
    rename_i h1
    rw [if_neg h1] at h
    have hn : pd f (x :: r) ≠ .out := fun e => by rw [e] at h; exact h rfl
    rw [hd _ hn]
    cases hp : pd f (x :: r) with
    | ok d rest => rw [hp] at h; exact hv _ _ _ h
    | bad b e => rfl
    | out => rfl
theorem pd_mono {f : Nat} {ts : List PTok} (h : pd f ts ≠ .out) : ∀ g, pd (f + g) ts = pd f ts
 | 0 => rfl
 | g + 1 => by
  have h1 := pd_mono h g
  rw [← Nat.add_assoc, (mono (f + g)).1 ts (by rw [h1]; exact h), h1]
def Cut (S : Nat → Prop) (us : List PTok) (full pre : Res) : Prop := match full with
 | .ok d rest => (∃ rest', pre = .ok d rest' ∧ rest = rest' ++ us ∧ ∀ p ∈ rest', S p.at_) ∨ (rest.length < us.length ∧ ∃ a, pre = .bad a 41 ∧ S a)
 | _ => True
theorem cut (S : Nat → Prop) (us : List PTok) : ∀ f, (∀ ts, ts ≠ [] → (∀ p ∈ ts, S p.at_) → Cut S us (pd f (ts ++ us)) (pd f ts)) ∧ (∀ a k ts, S a → (∀ p ∈ ts, S p.at_) → Cut S us (pq f a k (ts ++ us)) (pq f a k ts)) ∧ (∀ a acc ts, S a → (∀ p ∈ ts, S p.at_) → Cut S us (pl f a acc (ts ++ us)) (pl f a acc ts)) ∧ (∀ a acc ts, S a → (∀ p ∈ ts, S p.at_) → Cut S us (pt f a acc (ts ++ us)) (pt f a acc ts)) ∧ (∀ a acc ts, S a → (∀ p ∈ ts, S p.at_) → Cut S us (pv f a acc (ts ++ us)) (pv f a acc ts)) := by
 intro f
 induction f with
 | zero => exact ⟨fun _ _ _ => by rw [pd]; trivial, fun _ _ _ _ _ => by rw [pq]; trivial, fun _ _ _ _ _ => by rw [pl]; trivial, fun _ _ _ _ _ => by rw [pt]; trivial, fun _ _ _ _ _ => by rw [pv]; trivial⟩
 | succ f ih =>
  obtain ⟨hd, hq, hl, ht, hv⟩ := ih
  have lens := res_len (f + 1)
  have lenf := res_len f
  have fin : ∀ (R : Res) (a : Nat), S a → us ≠ [] → Le (us.length - 1) R → Cut S us R (.bad a 41) := by
   intro R a ha hu h
   cases R with
   | ok d rest =>
    have h' : rest.length ≤ us.length - 1 := h
    have : 0 < us.length := List.length_pos_iff.2 hu
    exact .inr ⟨by omega, a, rfl, ha⟩
   | bad => trivial
   | out => trivial
  have ul : us.length ≤ us.length - 1 + 1 := by omega
  refine ⟨fun ts hne hS => ?_, fun a k ts ha hS => ?_, fun a acc ts ha hS => ?_, fun a acc ts ha hS => ?_, fun a acc ts ha hS => ?_⟩
  ·cases ts with
   | nil => exact absurd rfl hne
   | cons t r =>
    have hSt : S t.at_ := hS t List.mem_cons_self
    have hSr : ∀ p ∈ r, S p.at_ := fun p hp => hS p (List.mem_cons_of_mem _ hp)
    rw [List.cons_append, pd]
    conv => arg 4; rw [pd]
    split
    ·exact hl _ _ _ hSt hSr
    split
    ·exact hv _ _ _ hSt hSr
    split
    ·trivial
    split
    ·exact hq _ _ _ hSt hSr
    ·exact .inl ⟨r, rfl, rfl, hSr⟩
  ·cases ts with
   | nil =>
    rw [List.nil_append]
    conv => arg 4; rw [pq]
    cases us with
    | nil => rw [pq]; trivial
    | cons u us => exact fin _ _ ha (by simp) (lens.2.1 a k _ _ ul)
   | cons x r =>
    rw [List.cons_append, pq]
    conv => arg 4; rw [pq]
    have h1 := hd (x :: r) (by simp) hS
    rw [List.cons_append] at h1
    cases hp : pd f (x :: (r ++ us)) with
    | ok d rest =>
     rw [hp] at h1
     rcases h1 with ⟨rest', e1, e2, e3⟩ | ⟨h2, b, e1, hb⟩
     ·rw [e1]; exact .inl ⟨rest', rfl, e2, e3⟩
     ·rw [e1]; exact .inr ⟨h2, b, rfl, hb⟩
    | bad => trivial
    | out => trivial
  ·cases ts with
   | nil =>
    rw [List.nil_append]
    conv => arg 4; rw [pl]
    cases us with
    | nil => rw [pl]; trivial
    | cons u us => exact fin _ _ ha (by simp) (lens.2.2.1 a acc _ _ ul)
   | cons x r =>
    have hSr : ∀ p ∈ r, S p.at_ := fun p hp => hS p (List.mem_cons_of_mem _ hp)
    rw [List.cons_append, pl]
    conv => arg 4; rw [pl]
    split
    ·exact .inl ⟨r, rfl, rfl, hSr⟩
    split
    ·exact ht _ _ _ ha hSr
    have h1 := hd (x :: r) (by simp) hS
    rw [List.cons_append] at h1
    cases hp : pd f (x :: (r ++ us)) with
    | ok d rest =>
     rw [hp] at h1
     rcases h1 with ⟨rest', e1, e2, e3⟩ | ⟨h2, b, e1, hb⟩
     ·rw [e1]
      simp only
      subst e2
      exact hl a _ rest' ha e3
     ·rw [e1]
      simp only
      exact fin _ _ hb (by intro e; rw [e] at h2; exact absurd h2 (Nat.not_lt_zero _)) (lenf.2.2.1 a _ _ _ (by omega))
    | bad => trivial
    | out => trivial
  ·cases ts with
   | nil =>
    rw [List.nil_append]
    conv => arg 4; rw [pt]
    cases us with
    | nil => rw [pt]; trivial
    | cons u us => exact fin _ _ ha (by simp) (lens.2.2.2.1 a acc _ _ ul)
   | cons x r =>
    rw [List.cons_append, pt]
    conv => arg 4; rw [pt]
    have h1 := hd (x :: r) (by simp) hS
    rw [List.cons_append] at h1
    cases hp : pd f (x :: (r ++ us)) with
    | ok d rest =>
     rw [hp] at h1
     rcases h1 with ⟨rest', e1, e2, e3⟩ | ⟨h2, b, e1, hb⟩
     ·rw [e1]
      subst e2
      cases rest' with
      | nil =>
       simp only [List.nil_append]
       cases us with
       | nil => trivial
       | cons u us =>
        simp only
        split
        ·exact .inr ⟨by simp, a, rfl, ha⟩
        ·trivial
      | cons y rest' =>
       simp only [List.cons_append]
       split
       ·exact .inl ⟨rest', rfl, rfl, fun p hp => e3 p (List.mem_cons_of_mem _ hp)⟩
       ·trivial
     ·rw [e1]
      cases rest with
      | nil => trivial
      | cons y rest =>
       simp only
       split
       ·exact .inr ⟨by simp only [List.length_cons] at h2; omega, b, rfl, hb⟩
       ·trivial
    | bad => trivial
    | out => trivial
  ·cases ts with
   | nil =>
    rw [List.nil_append]
    conv => arg 4; rw [pv]
    cases us with
    | nil => rw [pv]; trivial
    | cons u us => exact fin _ _ ha (by simp) (lens.2.2.2.2 a acc _ _ ul)
   | cons x r =>
    rw [List.cons_append, pv]
    conv => arg 4; rw [pv]
    have hSr : ∀ p ∈ r, S p.at_ := fun p hp => hS p (List.mem_cons_of_mem _ hp)
    split
    ·exact .inl ⟨r, rfl, rfl, hSr⟩
    have h1 := hd (x :: r) (by simp) hS
    rw [List.cons_append] at h1
    cases hp : pd f (x :: (r ++ us)) with
    | ok d rest =>
     rw [hp] at h1
     rcases h1 with ⟨rest', e1, e2, e3⟩ | ⟨h2, b, e1, hb⟩
     ·rw [e1]
      simp only
      subst e2
      exact hv a _ rest' ha e3
     ·rw [e1]
      simp only
      exact fin _ _ hb (by intro e; rw [e] at h2; exact absurd h2 (Nat.not_lt_zero _)) (lenf.2.2.2.2 a _ _ _ (by omega))
    | bad => trivial
    | out => trivial
theorem rf_grow : ∀ (f : Nat) (ts : List PTok) (acc : List (Nat × D)), (rf f ts acc).1 = [] ∨ acc.length ≤ (rf f ts acc).1.length
 | 0, ts, acc => by rw [rf]; exact .inr (Nat.le_refl _)
 | f + 1, [], acc => by rw [rf]; exact .inr (Nat.le_refl _)
 | f + 1, t :: r, acc => by
  rw [rf]
  split
  ·exact .inl rfl
  split
  ·split
   ·rename_i d rest _ _
    rcases rf_grow f rest (acc ++ [(t.at_, d)]) with h | h
    ·exact .inl h
    ·rw [List.length_append] at h
     exact .inr (by omega)
   ·exact .inl rfl
  ·exact .inl rfl
  ·exact .inl rfl
theorem rf_one {f : Nat} {ts : List PTok} {p : Nat × D} (h : (rf (f + 2) ts []).1 = [p]) : pd (2 * ts.length) ts = .ok p.2 [] ∧ ts ≠ [] := by
 cases ts with
 | nil => rw [rf] at h; cases h
 | cons t r =>
  rw [rf, if_neg (by simp)] at h
  refine ⟨?_, by simp⟩
  rw [List.length_cons]
  split at h
  ·rename_i d rest hp
   split at h
   ·rw [hp]
    cases rest with
    | nil =>
     rw [rf] at h
     cases h
     rfl
    | cons u rest =>
     rw [rf, if_neg (by simp)] at h
     split at h
     ·split at h
      ·rename_i d2 rest2 _ _
       rcases rf_grow f rest2 ([] ++ [(t.at_, d)] ++ [(u.at_, d2)]) with h2 | h2
       ·rw [h] at h2; cases h2
       ·rw [h] at h2; simp at h2
      ·cases h
     ·cases h
     ·cases h
   ·cases h
  ·cases h
  ·cases h
theorem rf_cut {S : Nat → Prop} {f : Nat} {ts us : List PTok} {d : D} (h : pd (2 * (ts ++ us).length) (ts ++ us) = .ok d []) (hts : ts ≠ []) (hus : us ≠ []) (hS : ∀ p ∈ ts, S p.at_) : ∃ a, rf (f + 1) ts [] = ([], a, 41) ∧ S a := by
 have h1 := (cut S us (2 * (ts ++ us).length)).1 ts hts hS
 rw [h] at h1
 have hf := (fuel (2 * ts.length)).1 ts (Nat.le_refl _) hts
 have hm := pd_mono hf (2 * us.length)
 rw [show 2 * ts.length + 2 * us.length = 2 * (ts ++ us).length by rw [List.length_append]; omega] at hm
 rw [hm] at h1
 rcases h1 with ⟨rest', e1, e2, -⟩ | ⟨-, a, e1, ha⟩
 ·have : us = [] := (List.append_eq_nil_iff.1 e2.symm).2
  exact absurd this hus
 ·refine ⟨a, ?_, ha⟩
  cases ts with
  | nil => exact absurd rfl hts
  | cons t r =>
   rw [List.length_cons] at e1
   rw [rf, if_neg (by simp), e1]
end Rd
end Go.Proofs.Ytcopdfihaheplaa
namespace Go.Proofs.Ytcopdfihaheplaa
open Go.RowKit Go.Sort
namespace Lx
theorem ok_zero : ∀ b : UInt8, okByte b = true → (b == 0) = false := by
 intro b h
 cases hb : b == 0 with
 | false => rfl
 | true =>
  rw [beq_iff_eq.1 hb] at h
  exact absurd h (by decide)
theorem lex_pre (s z t : List UInt8) (l1 l2 : List PTok) (hs : s = t ++ z) (hz : z ≠ []) (h : lex s = (l1 ++ l2, 0, 0)) (hne : l1 ≠ []) (hlast : ∀ p, l1.getLast? = some p → p.to = t.length) : lex t = (l1, 0, 0) := by
 subst hs
 unfold lex at h
 split at h
 ·cases (Prod.mk.inj h).2
 rename_i h16
 split at h
 ·exact absurd (Prod.mk.inj (Prod.mk.inj h).2).2 (by decide)
 rename_i hok
 have hok' : (t ++ z).all okByte = true := by simpa using hok
 rw [List.length_append] at h h16
 have hw := words_pre (t.length + z.length) z hz l1 _ (t.length + 1) 0 t l2 (Nat.le_refl _) (by omega) h (fun p hp => by rw [hlast p hp]; omega) (fun e => absurd e hne) (fun b hb => ok_zero b (List.all_eq_true.1 hok' b hb))
 rw [Nat.add_sub_cancel] at hw
 unfold lex
 rw [List.all_append, Bool.and_eq_true] at hok'
 rw [if_neg (by omega), if_neg (by simp [hok'.1])]
 exact hw
theorem apart_from {s : List UInt8} : ∀ {l : List PTok} {a : Nat}, Apart s a l → ∀ q ∈ l, a ≤ q.at_ ∧ q.at_ < q.to ∧ q.to ≤ s.length
 | [], _, _, q, hq => by cases hq
 | p :: l, a, h, q, hq => by
  obtain ⟨h1, h2, h3, -, h4⟩ := h
  rcases List.mem_cons.1 hq with rfl | hq
  ·exact ⟨h1, h2, h3⟩
  ·obtain ⟨h5, h6, h7⟩ := apart_from h4 q hq
   exact ⟨by omega, h6, h7⟩
theorem apart_last {s : List UInt8} : ∀ {l1 l2 : List PTok} {a : Nat}, Apart s a (l1 ++ l2) → ∀ p, l1.getLast? = some p → ∀ q ∈ l1, q.to ≤ p.to
 | [], _, _, _, _, hp, _, _ => by cases hp
 | [x], _, _, _, p, hp, q, hq => by
  cases hp
  rw [List.mem_singleton.1 hq]
  exact Nat.le_refl _
 | x :: y :: l, l2, a, h, p, hp, q, hq => by
  obtain ⟨h1, h2, h3, -, h4⟩ := h
  rw [List.getLast?_cons_cons] at hp
  have hr := apart_last (l1 := y :: l) h4 p hp
  rcases List.mem_cons.1 hq with rfl | hq
  ·have h5 := apart_from h4 y (by simp)
   have h6 := hr y List.mem_cons_self
   omega
  ·exact hr q hq
theorem apart_next {s : List UInt8} : ∀ {l1 : List PTok} {y : PTok} {l2 : List PTok} {a : Nat}, Apart s a (l1 ++ y :: l2) → ∀ p, l1.getLast? = some p → p.to < y.to
 | [], _, _, _, _, _, hp => by cases hp
 | [x], y, l2, a, h, p, hp => by
  obtain rfl : x = p := by simpa using hp
  obtain ⟨h1, h2, h3, -, h4⟩ := h
  have h5 := apart_from h4 y List.mem_cons_self
  omega
 | x :: x' :: l, y, l2, a, h, p, hp => by
  obtain ⟨h1, h2, h3, -, h4⟩ := h
  rw [List.getLast?_cons_cons] at hp
  exact apart_next (l1 := x' :: l) h4 p hp
end Lx
namespace Rd
open Dt Lx
theorem read_cut (s : List UInt8) (t z : List UInt8) (l1 : List PTok) (y : PTok) (l2 : List PTok) (hs : s = t ++ z) (h : lex s = (l1 ++ y :: l2, 0, 0)) (hne : l1 ≠ []) (hlast : ∀ p, l1.getLast? = some p → p.to = t.length) {p : Nat × D} (hr : (read s).1 = [p]) :
  ∃ a, read t = ([], a, 41) ∧ (∀ q, l1.head? = some q → q.at_ ≤ a) ∧ a < t.length := by
 have hap := (lex_apart s _ h).1
 have hz : z ≠ [] := by
  rintro rfl
  rw [List.append_nil] at hs
  subst hs
  obtain ⟨p', hp'⟩ : ∃ p', l1.getLast? = some p' := ⟨_, List.getLast?_eq_some_getLast hne⟩
  have h1 := apart_next hap p' hp'
  have h2 := (apart_from hap y (by simp)).2.2
  have h3 := hlast p' hp'
  omega
 have hl := lex_pre s z t l1 (y :: l2) hs hz h hne hlast
 unfold read at hr
 rw [h] at hr
 simp only at hr
 rw [if_neg (by simp)] at hr
 have hlen : (l1 ++ y :: l2).length = (l1.length + l2.length) + 1 := by simp; omega
 rw [hlen] at hr
 obtain ⟨h1, -⟩ := rf_one hr
 obtain ⟨x, l1', rfl⟩ : ∃ x l1', l1 = x :: l1' := by
  cases l1 with
  | nil => exact absurd rfl hne
  | cons x l1' => exact ⟨x, l1', rfl⟩
 obtain ⟨p', hp'⟩ : ∃ p', (x :: l1').getLast? = some p' := ⟨_, List.getLast?_eq_some_getLast hne⟩
 obtain ⟨a, ha, hS⟩ := rf_cut (S := fun a => x.at_ ≤ a ∧ a < t.length) (f := (x :: l1').length) h1 (by simp) (by simp) (fun q hq => by
  have hq1 := apart_from hap q (List.mem_append_left _ hq)
  have hq2 := apart_last hap p' hp' q hq
  have hq3 := hlast p' hp'
  refine ⟨?_, by omega⟩
  rcases List.mem_cons.1 hq with rfl | hq
  ·exact Nat.le_refl _
  ·obtain ⟨g1, g2, g3, -, g4⟩ := hap
   have := apart_from g4 q (List.mem_append_left _ hq)
   omega)
 refine ⟨a, ?_, fun q hq => by cases hq; exact hS.1, hS.2⟩
 unfold read
 rw [hl]
 simp only
 rw [if_neg (by simp)]
 exact ha
end Rd
end Go.Proofs.Ytcopdfihaheplaa
namespace Go.Proofs.Ytcopdfihaheplaa
namespace Lx
theorem words_split (N f c : Nat) (t : List UInt8) (l : List PTok) (g : List UInt8) (hg : gap t.length t = (g, true)) (hge : g ≠ []) (h : words N (f + 1) c t = (l, 0, 0)) :
  c ≠ 4096 ∧ ∃ k rest l', word g = .tok k rest ∧ words N f (c + 1) rest = (l', 0, 0) ∧ l = ⟨N - g.length, N - rest.length, k⟩ :: l' := by
 rw [words_step, hg] at h
 simp only at h
 rw [if_neg (by simp), if_neg hge] at h
 by_cases h4 : c = 4096
 ·rw [if_pos h4] at h; simp at h
 rw [if_neg h4] at h
 refine ⟨h4, ?_⟩
 cases hw : word g with
 | err e =>
  rw [hw] at h
  have := word_err _ _ hw
  simp at h
  exact absurd h.2.2 this
 | tok k rest =>
  rw [hw] at h
  simp only [] at h
  by_cases hz : (words N f (c + 1) rest).2.2 = 0
  ·rw [if_pos hz] at h
   have hr0 : words N f (c + 1) rest = ((words N f (c + 1) rest).1, 0, 0) := by
    have hn := words_norm N f (c + 1) rest
    unfold app at hn
    rw [if_pos hz] at hn
    rw [← hn]
   refine ⟨k, rest, _, rfl, hr0, ?_⟩
   simp at h
   exact h.symm
  ·rw [if_neg hz] at h
   simp at h
   exact absurd h.2.2 hz
theorem ok_pos (g : List UInt8) (hge : g ≠ []) (hgok : g.all okByte = true) : (pk g 0 == 0) = false := by
 cases g with
 | nil => exact absurd rfl hge
 | cons c r =>
  show (c == 0) = false
  rw [List.all_cons, Bool.and_eq_true] at hgok
  cases hc : (c == 0)
  ·rfl
  ·have : c = 0 := by simpa using hc
   rw [this] at hgok
   exact absurd hgok.1 (by decide)
theorem all_suf {f : UInt8 → Bool} {t g : List UInt8} (h : t.all f = true) (hs : g <:+ t) : g.all f = true := by
 rw [List.all_eq_true] at h ⊢
 intro x hx
 exact h x (hs.subset hx)
theorem words_nil_gap (N f c : Nat) (t : List UInt8) (q : Bool) (hg : gap t.length t = ([], q)) (l : List PTok) (h : words N (f + 1) c t = (l, 0, 0)) : q = true ∧ l = [] := by
 rw [words_step, hg] at h
 simp only at h
 cases q with
 | false => simp at h
 | true => rw [if_neg (by simp), if_pos trivial] at h; simp at h; exact ⟨rfl, h⟩
theorem words_gap (N f c : Nat) (t : List UInt8) (l : List PTok) (h : words N (f + 1) c t = (l, 0, 0)) : ∃ g, gap t.length t = (g, true) := by
 obtain ⟨g, q, hg⟩ : ∃ g q, gap t.length t = (g, q) := ⟨_, _, rfl⟩
 cases q with
 | true => exact ⟨g, hg⟩
 | false =>
  rw [words_step, hg] at h
  simp at h
theorem words_shift (N A : Nat) : ∀ (f F c c' : Nat) (t : List UInt8) (l : List PTok), f ≤ F → t.length < f → t.length ≤ N → t.all okByte = true → c' ≤ 4096 → words N f c t = (l, 0, 0) →
  (c' + l.length ≤ 4096 ∧ words (N + A) F c' t = (l.map (shift A), 0, 0)) ∨ (4096 < c' + l.length ∧ ∃ p, words (N + A) F c' t = ([], p, 3)) := by
 intro f
 induction f with
 | zero => intro F c c' t l _ h; omega
 | succ f ih =>
  intro F c c' t l hf ht hN hok hc' h
  obtain ⟨F, rfl⟩ : ∃ g, F = g + 1 := ⟨F - 1, by omega⟩
  obtain ⟨g, hg⟩ := words_gap _ _ _ _ _ h
  have hend := gap_end2 t.length t (Nat.le_refl _)
  have hsuf := gap_suf t.length t
  rw [hg] at hend hsuf
  simp only at hend hsuf
  by_cases hge : g = []
  ·subst hge
   obtain ⟨-, rfl⟩ := words_nil_gap _ _ _ _ _ hg _ h
   refine .inl ⟨by simpa using hc', ?_⟩
   rw [words_step, hg]
   simp
  obtain ⟨h4, k, rest, l', hw, hr, rfl⟩ := words_split _ _ _ _ _ _ hg hge h
  rw [words_step, hg]
  simp only
  rw [if_neg (by simp), if_neg hge]
  have hsol := (hend trivial).resolve_left hge
  have hgl := hsuf.length_le
  have hgok := all_suf hok hsuf
  have hlen := word_len g hge hsol.1 hsol.2.1 (ok_pos g hge hgok) k rest hw
  obtain ⟨p, hp, _, _⟩ := word_own g hge k rest hw hlen
  by_cases h5 : c' = 4096
  ·rw [if_pos h5]
   exact .inr ⟨by rw [h5]; simp, _, rfl⟩
  rw [if_neg h5, hw]
  simp only
  have hro : rest.all okByte = true := by rw [hp, List.all_append, Bool.and_eq_true] at hgok; exact hgok.2
  rcases ih F (c + 1) (c' + 1) rest l' (by omega) (by omega) (by omega) hro (by omega) hr with ⟨h6, h7⟩ | ⟨h6, p, h7⟩
  ·refine .inl ⟨by simp only [List.length_cons]; omega, ?_⟩
   rw [h7]
   simp only [if_true, List.map_cons]
   unfold shift
   simp only []
   rw [show N + A - g.length = N - g.length + A by omega, show N + A - rest.length = N - rest.length + A by omega]
  ·refine .inr ⟨by simp only [List.length_cons]; omega, p, ?_⟩
   rw [h7]
   simp
theorem words_ten (N : Nat) (b : List UInt8) : ∀ (f F c : Nat) (t : List UInt8) (l : List PTok), t.length < f → f + b.length + 1 ≤ F → t.length ≤ N → t.all okByte = true → words N f c t = (l, 0, 0) →
  ∃ F', b.length + 1 < F' ∧ words (N + (b.length + 1)) F c (t ++ 10 :: b) = app l (words (N + (b.length + 1)) F' (c + l.length) (10 :: b)) := by
 intro f
 induction f with
 | zero => intro F c t l h; omega
 | succ f ih =>
  intro F c t l ht hF hN hok h
  obtain ⟨F, rfl⟩ : ∃ g, F = g + 1 := ⟨F - 1, by omega⟩
  obtain ⟨g, hg⟩ := words_gap _ _ _ _ _ h
  have hend := gap_end2 t.length t (Nat.le_refl _)
  have hsuf := gap_suf t.length t
  rw [hg] at hend hsuf
  simp only at hend hsuf
  have hga := gap_app b t.length (t ++ 10 :: b).length t g (Nat.le_refl _) (by simp; omega) hg
  by_cases hge : g = []
  ·subst hge
   obtain ⟨-, rfl⟩ := words_nil_gap _ _ _ _ _ hg _ h
   rw [if_pos rfl] at hga
   refine ⟨F + 1, by omega, ?_⟩
   rw [List.length_nil, Nat.add_zero, words_norm, words_step, words_step, hga]
   rfl
  rw [if_neg hge] at hga
  obtain ⟨h4, k, rest, l', hw, hr, rfl⟩ := words_split _ _ _ _ _ _ hg hge h
  have hsol := (hend trivial).resolve_left hge
  have hgl := hsuf.length_le
  have hgok := all_suf hok hsuf
  have hlen := word_len g hge hsol.1 hsol.2.1 (ok_pos g hge hgok) k rest hw
  obtain ⟨p, hp, _, _⟩ := word_own g hge k rest hw hlen
  have hro : rest.all okByte = true := by rw [hp, List.all_append, Bool.and_eq_true] at hgok; exact hgok.2
  obtain ⟨F', hF', hih⟩ := ih F (c + 1) rest l' (by omega) (by omega) (by omega) hro hr
  refine ⟨F', hF', ?_⟩
  rw [words_step, hga]
  simp only
  rw [if_neg (by simp), if_neg (by simp), if_neg h4, word_app b g hge k rest hw]
  simp only
  rw [hih]
  have e1 : N + (b.length + 1) - (g ++ 10 :: b).length = N - g.length := by simp only [List.length_append, List.length_cons]; omega
  have e2 : N + (b.length + 1) - (rest ++ 10 :: b).length = N - rest.length := by simp only [List.length_append, List.length_cons]; omega
  rw [e1, e2, show c + 1 + l'.length = c + (⟨N - g.length, N - rest.length, k⟩ :: l' : List PTok).length by simp only [List.length_cons]; omega]
  generalize words (N + (b.length + 1)) F' _ (10 :: b) = W
  unfold app
  by_cases hz : W.2.2 = 0
  ·rw [if_pos hz, if_pos hz, if_pos rfl]; rfl
  ·rw [if_neg hz, if_neg hz, if_neg hz]
theorem words_ten0 (N f c : Nat) (b : List UInt8) : words N (f + 1) c (10 :: b) = words N (f + 1) c b := by
 rw [words_step, words_step]
 have : gap (10 :: b).length (10 :: b) = gap b.length b := by
  rw [List.length_cons, gap, if_pos (by decide)]
 rw [this]
theorem lex_ten (a b : List UInt8) (la lb : List PTok) (ha : lex a = (la, 0, 0)) (hb : lex b = (lb, 0, 0)) (hl : a.length + b.length < 16384) :
  (la.length + lb.length ≤ 4096 ∧ lex (a ++ 10 :: b) = (la ++ lb.map (shift (a.length + 1)), 0, 0)) ∨ (∃ p, lex (a ++ 10 :: b) = ([], p, 3)) := by
 have hfa := lex_few a la ha
 unfold lex at ha hb ⊢
 rw [if_neg (by omega)] at ha hb
 rw [if_neg (by simp; omega)]
 split at ha
 ·simp at ha
 rename_i hoka
 split at hb
 ·simp at hb
 rename_i hokb
 have hoka' : a.all okByte = true := by simpa using hoka
 have hokb' : b.all okByte = true := by simpa using hokb
 rw [if_neg (by rw [List.all_append, List.all_cons, hoka', hokb']; decide)]
 obtain ⟨F', hF', h1⟩ := words_ten a.length b (a.length + 1) (a.length + 1 + (b.length + 1)) 0 a la (by omega) (by omega) (Nat.le_refl _) hoka' ha
 have e : (a ++ 10 :: b).length = a.length + (b.length + 1) := by simp
 rw [e, show a.length + (b.length + 1) + 1 = a.length + 1 + (b.length + 1) by omega, h1]
 obtain ⟨F', rfl⟩ : ∃ g, F' = g + 1 := ⟨F' - 1, by omega⟩
 rw [words_ten0, Nat.zero_add]
 rcases words_shift b.length (a.length + 1) (b.length + 1) (F' + 1) 0 la.length b lb (by omega) (by omega) (Nat.le_refl _) hokb' hfa hb with ⟨h6, h7⟩ | ⟨h6, p, h7⟩
 ·refine .inl ⟨h6, ?_⟩
  rw [show a.length + (b.length + 1) = b.length + (a.length + 1) by omega, h7]
  rfl
 ·refine .inr ⟨p, ?_⟩
  rw [show a.length + (b.length + 1) = b.length + (a.length + 1) by omega, h7]
  rfl
end Lx
namespace Rd
open Dt Lx
def Res.shift (A : Nat) : Res → Res
 | .ok d rest => .ok d (rest.map (Lx.shift A))
 | .bad a e => .bad (a + A) e
 | .out => .out
theorem pd_shift (A : Nat) : ∀ f, (∀ ts, pd f (ts.map (Lx.shift A)) = (pd f ts).shift A) ∧ (∀ a k ts, pq f (a + A) k (ts.map (Lx.shift A)) = (pq f a k ts).shift A) ∧ (∀ a acc ts, pl f (a + A) acc (ts.map (Lx.shift A)) = (pl f a acc ts).shift A) ∧ (∀ a acc ts, pt f (a + A) acc (ts.map (Lx.shift A)) = (pt f a acc ts).shift A) ∧ (∀ a acc ts, pv f (a + A) acc (ts.map (Lx.shift A)) = (pv f a acc ts).shift A) := by
 intro f
 induction f with
 | zero => exact ⟨fun _ => by simp [pd, Res.shift], fun _ _ _ => by simp [pq, Res.shift], fun _ _ _ => by simp [pl, Res.shift], fun _ _ _ => by simp [pt, Res.shift], fun _ _ _ => by simp [pv, Res.shift]⟩
 | succ f ih =>
  obtain ⟨hd, hq, hl, ht, hv⟩ := ih
  refine ⟨fun ts => ?_, fun a k ts => ?_, fun a acc ts => ?_, fun a acc ts => ?_, fun a acc ts => ?_⟩
  ·cases ts with
   | nil => rw [List.map_nil, pd]; rfl
   | cons t r =>
    rw [List.map_cons, pd, pd]
    have e1 : (Lx.shift A t).t = t.t := rfl
    have e2 : (Lx.shift A t).at_ = t.at_ + A := rfl
    rw [e1, e2]
    split
    ·exact hl _ _ _
    split
    ·exact hv _ _ _
    split
    ·rfl
    split
    ·exact hq _ _ _
    ·rfl
  ·cases ts with
   | nil => rw [List.map_nil, pq, pq]; rfl
   | cons x r =>
    rw [List.map_cons, pq, pq, ← List.map_cons, hd]
    cases pd f (x :: r) <;> rfl
  ·cases ts with
   | nil => rw [List.map_nil, pl, pl]; rfl
   | cons x r =>
    rw [List.map_cons, pl, pl, ← List.map_cons, hd]
    have e1 : (Lx.shift A x).t = x.t := rfl
    rw [e1]
    split
    ·rfl
    split
    ·exact ht _ _ _
    cases pd f (x :: r) with
    | ok d rest => exact hl _ _ _
    | bad => rfl
    | out => rfl
  ·cases ts with
   | nil => rw [List.map_nil, pt, pt]; rfl
   | cons x r =>
    rw [List.map_cons, pt, pt, ← List.map_cons, hd]
    cases pd f (x :: r) with
    | ok d rest =>
     cases rest with
     | nil => rfl
     | cons y rest =>
      show (if (Lx.shift A y).t.k = 2 then _ else _) = Res.shift A (if y.t.k = 2 then _ else _)
      have e1 : (Lx.shift A y).t = y.t := rfl
      rw [e1]
      split <;> rfl
    | bad => rfl
    | out => rfl
  ·cases ts with
   | nil => rw [List.map_nil, pv, pv]; rfl
   | cons x r =>
    rw [List.map_cons, pv, pv, ← List.map_cons, hd]
    have e1 : (Lx.shift A x).t = x.t := rfl
    rw [e1]
    split
    ·rfl
    cases pd f (x :: r) with
    | ok d rest => exact hv _ _ _
    | bad => rfl
    | out => rfl
def More (us : List PTok) (pre full : Res) : Prop := ∀ d rest, pre = .ok d rest → full = .ok d (rest ++ us)
theorem more (us : List PTok) : ∀ f, (∀ ts, More us (pd f ts) (pd f (ts ++ us))) ∧ (∀ a k ts, More us (pq f a k ts) (pq f a k (ts ++ us))) ∧ (∀ a acc ts, More us (pl f a acc ts) (pl f a acc (ts ++ us))) ∧ (∀ a acc ts, More us (pt f a acc ts) (pt f a acc (ts ++ us))) ∧ (∀ a acc ts, More us (pv f a acc ts) (pv f a acc (ts ++ us))) := by
 intro f
 induction f with
 | zero => exact ⟨fun _ d r h => by (rw [pd] at h; cases h), fun _ _ _ d r h => by (rw [pq] at h; cases h), fun _ _ _ d r h => by (rw [pl] at h; cases h), fun _ _ _ d r h => by (rw [pt] at h; cases h), fun _ _ _ d r h => by (rw [pv] at h; cases h)⟩
 | succ f ih =>
  obtain ⟨hd, hq, hl, ht, hv⟩ := ih
  refine ⟨fun ts d0 r0 h => ?_, fun a k ts d0 r0 h => ?_, fun a acc ts d0 r0 h => ?_, fun a acc ts d0 r0 h => ?_, fun a acc ts d0 r0 h => ?_⟩
  ·cases ts with
   | nil => rw [pd] at h; cases h
   | cons t r =>
    rw [pd] at h
    rw [List.cons_append, pd]
    split at h
    ·rename_i h1; rw [if_pos h1]; exact hl _ _ _ _ _ h
    rename_i h1; rw [if_neg h1]
    split at h
    ·rename_i h1; rw [if_pos h1]; exact hv _ _ _ _ _ h
    rename_i h1; rw [if_neg h1]
    split at h
    ·cases h
    rename_i h1; rw [if_neg h1]
    split at h
    ·rename_i h1; rw [if_pos h1]; exact hq _ _ _ _ _ h
    rename_i h1; rw [if_neg h1]
    cases h; rfl
  ·cases ts with
   | nil => rw [pq] at h; cases h
   | cons x r =>
    rw [pq] at h
    rw [List.cons_append, pq, ← List.cons_append]
    cases hp : pd f (x :: r) with
    | ok d rest => rw [hp] at h; rw [hd _ _ _ hp]; cases h; rfl
    | bad => rw [hp] at h; cases h
    | out => rw [hp] at h; cases h
  ·cases ts with
   | nil => rw [pl] at h; cases h
   | cons x r =>
    rw [pl] at h
    rw [List.cons_append, pl, ← List.cons_append]
    split at h
    ·rename_i h1; rw [if_pos h1]; cases h; rfl
    rename_i h1; rw [if_neg h1]
    split at h
    ·rename_i h1; rw [if_pos h1]; exact ht _ _ _ _ _ h
    rename_i h1; rw [if_neg h1]
    cases hp : pd f (x :: r) with
    | ok d rest => rw [hp] at h; rw [hd _ _ _ hp]; exact hl _ _ _ _ _ h
    | bad => rw [hp] at h; cases h
    | out => rw [hp] at h; cases h
  ·cases ts with
   | nil => rw [pt] at h; cases h
   | cons x r =>
    rw [pt] at h
    rw [List.cons_append, pt, ← List.cons_append]
    cases hp : pd f (x :: r) with
    | ok d rest =>
     rw [hp] at h
     rw [hd _ _ _ hp]
     cases rest with
     | nil => cases h
     | cons y rest =>
      simp only [List.cons_append] at h ⊢
      split at h
      ·rename_i h1; rw [if_pos h1]; cases h; rfl
      ·cases h
    | bad => rw [hp] at h; cases h
    | out => rw [hp] at h; cases h
  ·cases ts with
   | nil => rw [pv] at h; cases h
   | cons x r =>
    rw [pv] at h
    rw [List.cons_append, pv, ← List.cons_append]
    split at h
    ·rename_i h1; rw [if_pos h1]; cases h; rfl
    rename_i h1; rw [if_neg h1]
    cases hp : pd f (x :: r) with
    | ok d rest => rw [hp] at h; rw [hd _ _ _ hp]; exact hv _ _ _ _ _ h
    | bad => rw [hp] at h; cases h
    | out => rw [hp] at h; cases h
def sh (A : Nat) (p : Nat × D) : Nat × D := (p.1 + A, p.2)
def Be : Res → Prop
 | .bad _ e => e = 40 ∨ e = 41
 | _ => True
theorem bad_e : ∀ f, (∀ ts, Be (pd f ts)) ∧ (∀ a k ts, Be (pq f a k ts)) ∧ (∀ a acc ts, Be (pl f a acc ts)) ∧ (∀ a acc ts, Be (pt f a acc ts)) ∧ (∀ a acc ts, Be (pv f a acc ts)) := by
 intro f
 induction f with
 | zero => exact ⟨fun _ => by rw [pd]; trivial, fun _ _ _ => by rw [pq]; trivial, fun _ _ _ => by rw [pl]; trivial, fun _ _ _ => by rw [pt]; trivial, fun _ _ _ => by rw [pv]; trivial⟩
 | succ f ih =>
  obtain ⟨hd, hq, hl, ht, hv⟩ := ih
  refine ⟨fun ts => ?_, fun a k ts => ?_, fun a acc ts => ?_, fun a acc ts => ?_, fun a acc ts => ?_⟩
  ·cases ts with
   | nil => rw [pd]; trivial
   | cons t r =>
    rw [pd]
    split
    ·exact hl _ _ _
    split
    ·exact hv _ _ _
    split
    ·exact .inl rfl
    split
    ·exact hq _ _ _
    ·trivial
  ·cases ts with
   | nil => rw [pq]; exact .inr rfl
   | cons x r =>
    rw [pq]
    have := hd (x :: r)
    cases hp : pd f (x :: r) with
    | ok d rest => trivial
    | bad => rw [hp] at this; exact this
    | out => trivial
  ·cases ts with
   | nil => rw [pl]; exact .inr rfl
   | cons x r =>
    rw [pl]
    split
    ·trivial
    split
    ·exact ht _ _ _
    have := hd (x :: r)
    cases hp : pd f (x :: r) with
    | ok d rest => exact hl _ _ _
    | bad => rw [hp] at this; exact this
    | out => trivial
  ·cases ts with
   | nil => rw [pt]; exact .inr rfl
   | cons x r =>
    rw [pt]
    have := hd (x :: r)
    cases hp : pd f (x :: r) with
    | ok d rest =>
     cases rest with
     | nil => exact .inr rfl
     | cons y rest =>
      simp only
      split
      ·trivial
      ·exact .inl rfl
    | bad => rw [hp] at this; exact this
    | out => trivial
  ·cases ts with
   | nil => rw [pv]; exact .inr rfl
   | cons x r =>
    rw [pv]
    split
    ·trivial
    have := hd (x :: r)
    cases hp : pd f (x :: r) with
    | ok d rest => exact hv _ _ _
    | bad => rw [hp] at this; exact this
    | out => trivial
theorem rf_ok (f : Nat) (t : PTok) (r : List PTok) (acc : List (Nat × D)) (h : (rf (f + 1) (t :: r) acc).2.2 = 0) :
  acc.length ≠ 256 ∧ ∃ d rest, pd (2 * (r.length + 1)) (t :: r) = .ok d rest ∧ check d = 0 ∧ rest.length ≤ r.length ∧ rf (f + 1) (t :: r) acc = rf f rest (acc ++ [(t.at_, d)]) := by
 rw [rf] at h
 by_cases h1 : acc.length = 256
 ·rw [if_pos h1] at h; exact absurd (show (3 : Int) = 0 from h) (by decide)
 rw [if_neg h1] at h
 refine ⟨h1, ?_⟩
 cases hp : pd (2 * (r.length + 1)) (t :: r) with
 | ok d rest =>
  rw [hp] at h
  simp only at h
  have hle := (res_len (2 * (r.length + 1))).1 (t :: r) r.length (by simp)
  rw [hp] at hle
  by_cases hc : check d = 0
  ·refine ⟨d, rest, rfl, hc, hle, ?_⟩
   rw [rf, if_neg h1, hp]
   simp only
   rw [if_pos hc]
  ·rw [if_neg hc] at h; exact absurd h hc
 | bad a e =>
  rw [hp] at h
  have := (bad_e (2 * (r.length + 1))).1 (t :: r)
  rw [hp] at this
  have h3 : e = 0 := h
  have h4 : e = 40 ∨ e = 41 := this
  omega
 | out => exact absurd hp ((fuel _).1 _ (by simp) (by simp))
theorem rf_more (us : List PTok) : ∀ (f F : Nat) (ts : List PTok) (acc x : List (Nat × D)) (p : Nat), ts.length < f → ts.length + us.length < F → rf f ts acc = (x, p, 0) → ∃ F', us.length < F' ∧ rf F (ts ++ us) acc = rf F' us x
 | 0, F, ts, acc, x, p, h, _, _ => by omega
 | f + 1, F, [], acc, x, p, _, hF, h => by
  rw [rf] at h
  cases h
  exact ⟨F, by simpa using hF, rfl⟩
 | f + 1, F, t :: r, acc, x, p, hf, hF, h => by
  obtain ⟨h1, d, rest, hp, hc, hle, e⟩ := rf_ok f t r acc (by rw [h])
  rw [e] at h
  simp only [List.length_cons] at hf hF
  obtain ⟨F, rfl⟩ : ∃ g, F = g + 1 := ⟨F - 1, by omega⟩
  have hm := (more us (2 * (r.length + 1))).1 (t :: r) d rest hp
  have hm' : pd (2 * ((r ++ us).length + 1)) (t :: r ++ us) = .ok d (rest ++ us) := by
   rw [show 2 * ((r ++ us).length + 1) = 2 * (r.length + 1) + 2 * us.length by rw [List.length_append]; omega, pd_mono (by rw [hm]; simp), hm]
  obtain ⟨F', hF', hih⟩ := rf_more us f F rest _ x p (by omega) (by omega) h
  refine ⟨F', hF', ?_⟩
  rw [List.cons_append, rf, if_neg h1, ← List.cons_append, hm']
  simp only
  rw [if_pos hc]
  exact hih
theorem rf_shift (A : Nat) : ∀ (f : Nat) (ts : List PTok) (acc y : List (Nat × D)) (p : Nat), ts.length < f → rf f ts acc = (y, p, 0) →
  ∃ z, y = acc ++ z ∧ ∀ acc' F, acc'.length + z.length ≤ 256 → ts.length < F → rf F (ts.map (Lx.shift A)) acc' = (acc' ++ z.map (sh A), 0, 0)
 | 0, ts, acc, y, p, h, _ => by omega
 | f + 1, [], acc, y, p, _, h => by
  rw [rf] at h
  cases h
  refine ⟨[], by simp, fun acc' F _ hF => ?_⟩
  obtain ⟨F, rfl⟩ : ∃ g, F = g + 1 := ⟨F - 1, by simp at hF; omega⟩
  rw [List.map_nil, rf]
  simp
 | f + 1, t :: r, acc, y, p, hf, h => by
  obtain ⟨h1, d, rest, hp, hc, hle, e⟩ := rf_ok f t r acc (by rw [h])
  rw [e] at h
  simp only [List.length_cons] at hf
  obtain ⟨z, rfl, hz⟩ := rf_shift A f rest _ y p (by omega) h
  refine ⟨(t.at_, d) :: z, by simp, fun acc' F hl hF => ?_⟩
  simp only [List.length_cons] at hl hF
  obtain ⟨F, rfl⟩ : ∃ g, F = g + 1 := ⟨F - 1, by omega⟩
  have hs := (pd_shift A (2 * (r.length + 1))).1 (t :: r)
  rw [hp, List.map_cons] at hs
  rw [List.map_cons, rf, if_neg (by omega), List.length_map, hs]
  simp only [Res.shift]
  rw [if_pos hc, hz _ _ (by simp; omega) (by omega)]
  simp [sh, Lx.shift]
def Sf (ts : List PTok) : Res → Prop
 | .ok _ rest => ∀ p ∈ rest, p ∈ ts
 | _ => True
theorem Sf.mono {a b : List PTok} {r : Res} (h : Sf a r) (hab : ∀ p ∈ a, p ∈ b) : Sf b r := by
 cases r with
 | ok d rest => exact fun p hp => hab p (h p hp)
 | bad => trivial
 | out => trivial
theorem res_suf : ∀ f, (∀ ts, Sf ts (pd f ts)) ∧ (∀ a k ts, Sf ts (pq f a k ts)) ∧ (∀ a acc ts, Sf ts (pl f a acc ts)) ∧ (∀ a acc ts, Sf ts (pt f a acc ts)) ∧ (∀ a acc ts, Sf ts (pv f a acc ts)) := by
 intro f
 induction f with
 | zero => exact ⟨fun _ => by rw [pd]; trivial, fun _ _ _ => by rw [pq]; trivial, fun _ _ _ => by rw [pl]; trivial, fun _ _ _ => by rw [pt]; trivial, fun _ _ _ => by rw [pv]; trivial⟩
 | succ f ih =>
  obtain ⟨hd, hq, hl, ht, hv⟩ := ih
  have tl : ∀ (x : PTok) (r : List PTok), ∀ p ∈ r, p ∈ x :: r := fun x r p hp => List.mem_cons_of_mem _ hp
  refine ⟨fun ts => ?_, fun a k ts => ?_, fun a acc ts => ?_, fun a acc ts => ?_, fun a acc ts => ?_⟩
  ·cases ts with
   | nil => rw [pd]; trivial
   | cons t r =>
    rw [pd]
    split
    ·exact (hl _ _ _).mono (tl t r)
    split
    ·exact (hv _ _ _).mono (tl t r)
    split
    ·trivial
    split
    ·exact (hq _ _ _).mono (tl t r)
    ·exact tl t r
  ·cases ts with
   | nil => rw [pq]; trivial
   | cons x r =>
    rw [pq]
    have := hd (x :: r)
    cases hp : pd f (x :: r) with
    | ok d rest => rw [hp] at this; exact this
    | bad => trivial
    | out => trivial
  ·cases ts with
   | nil => rw [pl]; trivial
   | cons x r =>
    rw [pl]
    split
    ·exact tl x r
    split
    ·exact (ht _ _ _).mono (tl x r)
    have := hd (x :: r)
    cases hp : pd f (x :: r) with
    | ok d rest => rw [hp] at this; exact (hl _ _ _).mono this
    | bad => trivial
    | out => trivial
  ·cases ts with
   | nil => rw [pt]; trivial
   | cons x r =>
    rw [pt]
    have := hd (x :: r)
    cases hp : pd f (x :: r) with
    | ok d rest =>
     rw [hp] at this
     cases rest with
     | nil => trivial
     | cons y rest =>
      simp only
      split
      ·exact fun p hp => this p (List.mem_cons_of_mem _ hp)
      ·trivial
    | bad => trivial
    | out => trivial
  ·cases ts with
   | nil => rw [pv]; trivial
   | cons x r =>
    rw [pv]
    split
    ·exact tl x r
    have := hd (x :: r)
    cases hp : pd f (x :: r) with
    | ok d rest => rw [hp] at this; exact (hv _ _ _).mono this
    | bad => trivial
    | out => trivial
theorem rf_at (n : Nat) : ∀ (f : Nat) (ts : List PTok) (acc : List (Nat × D)), (∀ p ∈ acc, p.1 ≤ n) → (∀ t ∈ ts, t.at_ ≤ n) → ∀ p ∈ (rf f ts acc).1, p.1 ≤ n
 | 0, ts, acc, h, _ => by rw [rf]; exact h
 | f + 1, [], acc, h, _ => by rw [rf]; exact h
 | f + 1, t :: r, acc, h, ht => by
  rw [rf]
  split
  ·intro p hp; cases hp
  have hs := (res_suf (2 * (r.length + 1))).1 (t :: r)
  cases hp : pd (2 * (r.length + 1)) (t :: r) with
  | ok d rest =>
   rw [hp] at hs
   simp only
   split
   ·refine rf_at n f rest _ (fun p hp => ?_) (fun u hu => ht u (hs u hu))
    rcases List.mem_append.1 hp with hp | hp
    ·exact h p hp
    ·rw [List.mem_singleton.1 hp]; exact ht t List.mem_cons_self
   ·intro p hp; cases hp
  | bad => intro p hp; cases hp
  | out => intro p hp; cases hp
theorem read_lex {s : List UInt8} (h : (read s).2.2 = 0) : (lex s).2.2 = 0 := by
 apply Classical.byContradiction
 intro h0
 unfold read at h
 rw [if_pos h0] at h
 exact h0 h
theorem lex_zeroW (s : List UInt8) (h : (lex s).2.2 = 0) : lex s = ((lex s).1, 0, 0) := by
 unfold lex at h ⊢
 split
 ·rename_i h1; rw [if_pos h1] at h; exact absurd (show (3 : Int) = 0 from h) (by decide)
 ·rename_i h1
  rw [if_neg h1] at h
  split
  ·rename_i h2; rw [if_pos h2] at h; exact absurd (show (32 : Int) = 0 from h) (by decide)
  ·rename_i h2
   rw [if_neg h2] at h
   have hn := words_norm s.length (s.length + 1) 0 s
   unfold app at hn
   rw [if_pos h] at hn
   rw [← hn]
theorem read_ten (a b : List UInt8) (x y : List (Nat × D)) (p q : Nat) (ha : read a = (x, p, 0)) (hb : read b = (y, q, 0)) (hxy : x.length + y.length ≤ 256) (hl : a.length + b.length < 16384) :
  (∃ p, read (a ++ 10 :: b) = ([], p, 3) ∧ lex (a ++ 10 :: b) = ([], p, 3)) ∨ read (a ++ 10 :: b) = (x ++ y.map (sh (a.length + 1)), 0, 0) := by
 have hla := lex_zeroW a (read_lex (by rw [ha]))
 have hlb := lex_zeroW b (read_lex (by rw [hb]))
 have ra := ha
 have rb := hb
 unfold read at ra rb
 rw [if_neg (by rw [hla]; simp)] at ra
 rw [if_neg (by rw [hlb]; simp)] at rb
 rcases lex_ten a b _ _ hla hlb hl with ⟨h1, h2⟩ | ⟨p, h2⟩
 ·right
  obtain ⟨F', hF', h3⟩ := rf_more ((lex b).1.map (Lx.shift (a.length + 1))) _ ((lex a).1.length + (lex b).1.length + 1) _ _ x p (by omega) (by rw [List.length_map]; omega) ra
  obtain ⟨z, hz0, hz⟩ := rf_shift (a.length + 1) _ _ _ y q (by omega) rb
  rw [List.nil_append] at hz0
  subst hz0
  rw [List.length_map] at hF'
  unfold read
  rw [h2]
  simp only
  rw [if_neg (by simp), List.length_append, List.length_map, h3, hz x F' hxy hF']
 ·left
  refine ⟨p, ?_, h2⟩
  unfold read
  rw [h2]
  simp
end Rd
end Go.Proofs.Ytcopdfihaheplaa
namespace Go.Proofs.Ytcopdfihaheplaa
open Go.RowKit
def Hp (w : World) (B : Nat) (cs : Array Value) (t : TypeId) : Prop := w.heap[B]? = some (.cells cs t (0, 0))
theorem Hp.cell {w : World} {B : Nat} {cs : Array Value} {t : TypeId} (h : Hp w B cs t) (i : Nat) {v : Value} (hv : cs[i]? = some v) : w.cell? ⟨B, i, none⟩ = some v := by
 rw [Lib.cell_of_heap h]
 exact hv
theorem Hp.frz {w : World} {B : Nat} {cs : Array Value} {t : TypeId} (h : Hp w B cs t) (i : Nat) : w.frozen? ⟨B, i, none⟩ = false := Lib.frozen_of_heap h i
theorem Hp.lt {w : World} {B : Nat} {cs : Array Value} {t : TypeId} (h : Hp w B cs t) : B < w.heap.size := (Array.getElem?_eq_some_iff.1 h).1
theorem Hp.keep {S : Nat → Prop} {w w' : World} {B : Nat} {cs : Array Value} {t : TypeId} (h : Hp w B cs t) (hk : Keep S w w') (hn : ¬ S B) : Hp w' B cs t := (hk.block B h.lt hn).trans h
theorem Hp.below {w w' : World} {B : Nat} {cs : Array Value} {t : TypeId} (h : Hp w B cs t) (hb : Below w.heap.size w w') : Hp w' B cs t := (hb.block B h.lt).trans h
theorem Hp.set {w : World} {B : Nat} {cs : Array Value} {t : TypeId} (h : Hp w B cs t) (i : Nat) (v : Value) : Hp (w.setCell ⟨B, i, none⟩ v) B (cs.setIfInBounds i v) t := by
 show ((w.heap.modify B _))[B]? = _
 rw [Array.getElem?_modify, if_pos rfl, h]
 rfl
theorem Hp.new {w w1 : World} {cs : Array Value} {t : TypeId} (h : w.alloc (.cells cs t) = w1) : Hp w1 w.heap.size cs t := by rw [← h]; show (w.heap.push _)[w.heap.size]? = _; simp
theorem new_below {w w1 : World} {o : Obj} (h : w.alloc o = w1) : Below w.heap.size w w1 ∧ w1.heap.size = w.heap.size + 1 := ⟨by rw [← h]; exact (Below.refl _ w).alloc (Nat.le_refl _) o, by rw [← h, World.size_alloc]⟩
theorem set_keep (w : World) (B i : Nat) (v : Value) : Keep (fun k => k = B) w (w.setCell ⟨B, i, none⟩ v) := (Keep.refl (fun k => k = B) w).setCell rfl _ _
theorem keep_of_below {S : Nat → Prop} {w w' : World} (h : Below w.heap.size w w') : Keep S w w' := (Keep.refl S w).below h
theorem Keep.le {S T : Nat → Prop} {w w' : World} (h : Keep S w w') (hT : ∀ k, S k → T k) : Keep T w w' := h.mono (fun k _ e => hT k e)
def set6 (w : World) (B : Nat) (a b c d e f : Value) : World := (((((w.setCell ⟨B, 0, none⟩ a).setCell ⟨B, 1, none⟩ b).setCell ⟨B, 2, none⟩ c).setCell ⟨B, 3, none⟩ d).setCell ⟨B, 4, none⟩ e).setCell ⟨B, 5, none⟩ f
theorem Hp.set6 {w : World} {B : Nat} {u0 u1 u2 u3 u4 u5 : Value} {t : TypeId} (h : Hp w B #[u0, u1, u2, u3, u4, u5] t) (a b c d e f : Value) : Hp (set6 w B a b c d e f) B #[a, b, c, d, e, f] t :=
 (((((h.set 0 a).set 1 b).set 2 c).set 3 d).set 4 e).set 5 f
theorem set6_keep (w : World) (B : Nat) (a b c d e f : Value) : Keep (fun k => k = B) w (set6 w B a b c d e f) :=
 ((((((Keep.refl (fun k => k = B) w).setCell rfl 0 a).setCell rfl 1 b).setCell rfl 2 c).setCell rfl 3 d).setCell rfl 4 e).setCell rfl 5 f
def set5 (w : World) (B : Nat) (a b c d e : Value) : World := ((((w.setCell ⟨B, 0, none⟩ a).setCell ⟨B, 1, none⟩ b).setCell ⟨B, 2, none⟩ c).setCell ⟨B, 3, none⟩ d).setCell ⟨B, 4, none⟩ e
theorem Hp.set5 {w : World} {B : Nat} {u0 u1 u2 u3 u4 : Value} {t : TypeId} (h : Hp w B #[u0, u1, u2, u3, u4] t) (a b c d e : Value) : Hp (set5 w B a b c d e) B #[a, b, c, d, e] t :=
 ((((h.set 0 a).set 1 b).set 2 c).set 3 d).set 4 e
theorem set5_keep (w : World) (B : Nat) (a b c d e : Value) : Keep (fun k => k = B) w (set5 w B a b c d e) :=
 (((((Keep.refl (fun k => k = B) w).setCell rfl 0 a).setCell rfl 1 b).setCell rfl 2 c).setCell rfl 3 d).setCell rfl 4 e
theorem Hp.there {w : World} {B : Nat} {cs : Array Value} {t : TypeId} (h : Hp w B cs t) {n : Nat} (hn : n ≤ cs.size) : w.there B 0 n := fun j hj => by
 rw [Nat.zero_add]
 refine ⟨?_, h.frz j⟩
 rw [h.cell j (Array.getElem?_eq_getElem (by omega))]
 rfl
theorem setCells6 (w : World) (B : Nat) (a b c d e f : Value) : w.setCells B 0 (#[a, b, c, d, e, f] : Array Value).toList = set6 w B a b c d e f := rfl
end Go.Proofs.Ytcopdfihaheplaa
namespace Go.Proofs.Ytcopdfihaheplaa
open Go.RowKit
namespace Dt
mutual
def Fine : D → Prop
 | .mk _ _ _ m l t => m.length ≤ 16 ∧ l.length ≤ 4096 ∧ t.length ≤ 4096 ∧ Fines l ∧ Fines t
def Fines : List D → Prop
 | [] => True
 | d :: r => Fine d ∧ Fines r
end
theorem Fines.at : ∀ {l : List D}, Fines l → ∀ y ∈ l, Fine y
 | [], _, y, h => absurd h (by simp)
 | d :: r, hw, y, h => by
  rw [Fines] at hw
  rcases List.mem_cons.1 h with rfl | h
  ·exact hw.1
  ·exact Fines.at hw.2 y h
theorem fine_parts {d : D} (h : Fine d) : d.m.length ≤ 16 ∧ d.l.length ≤ 4096 ∧ d.t.length ≤ 4096 ∧ Fines d.l ∧ Fines d.t := by cases d; rw [Fine] at h; exact h
structure Rowing (w : World) (base : Nat) (v : Value) (ls : List P) : Prop where
 row : w.ownsRow base 25 6 v ls.length (flatP ls)
 rep : ∀ p ∈ ls, Rep (fun k => base ≤ k ∧ v.ownBlock ≠ some k) w p.d p.vm p.vl p.vt
theorem Rowing.nil (w : World) (base : Nat) : Rowing w base (.slice none 0 0) [] := ⟨World.ownsRow_nil _ _ _ _, by simp⟩
theorem Rowing.keep {S : Nat → Prop} {w w' : World} {base : Nat} {v : Value} {ls : List P} (h : Rowing w base v ls) (hk : Keep S w w') (hS : ∀ k, base ≤ k → k < w.heap.size → ¬ S k) : Rowing w' base v ls :=
 ⟨own_keep h.row hk (fun k hk => hS k (own_lt h.row k hk).1 (own_lt h.row k hk).2), fun p hp => Rep.keep hk (fun b hb hb' => hS b hb.1 hb') p.d (h.rep p hp)⟩
theorem Rowing.below {w w' : World} {base : Nat} {v : Value} {ls : List P} (h : Rowing w base v ls) (hb : Below w.heap.size w w') : Rowing w' base v ls :=
 h.keep (S := fun _ => False) ((Keep.refl _ w).below hb) (fun _ _ _ h => h)
theorem Rowing.push {w w1 wA w5 : World} {base : Nat} {v v' : Value} {ls : List P} {p : P} (h : Rowing w base v ls) (hbase : base ≤ w.heap.size) (h1 : Below w.heap.size w w1) (hp : Rep (fun k => w.heap.size ≤ k) w1 p.d p.vm p.vl p.vt) (hA : Below w1.heap.size w1 wA)
  (hown : w5.ownsRow base 25 6 v' (ls.length + 1) (flatP ls ++ p.cells)) (hg : wA.grownBy w5 v.ownBlock) (hat : v'.ownBlock = v.ownBlock ∨ v'.ownBlock = some wA.heap.size) :
  Rowing w5 base v' (ls ++ [p]) ∧ Keep (fun k => v.ownBlock = some k) w w5 := by
 have hwA : Below w.heap.size w wA := h1.trans (hA.mono h1.size)
 have hK : Keep (fun k => v.ownBlock = some k) w w5 := ⟨hg.os.trans hwA.os, hg.tape.trans hwA.tape, hg.output.trans hwA.output, Nat.le_trans hwA.size hg.size, fun k hk hn => (hg.block k (by have := hwA.size; omega) (fun e => hn e.symm)).trans (hwA.block k hk)⟩
 have hK1 : Keep (fun k => v.ownBlock = some k) w1 w5 := ⟨hg.os.trans hA.os, hg.tape.trans hA.tape, hg.output.trans hA.output, Nat.le_trans hA.size hg.size, fun k hk hn => (hg.block k (by have := hA.size; omega) (fun e => hn e.symm)).trans (hA.block k hk)⟩
 have hvl : ∀ k, v.ownBlock = some k → base ≤ k ∧ k < w.heap.size := own_lt h.row
 refine ⟨⟨by rw [List.length_append, flatP_app]; exact hown, fun q hq => ?_⟩, hK⟩
 rcases List.mem_append.1 hq with hq | hq
 ·have hr := Rep.keep hK (fun b hb _ e => hb.2 e) q.d (h.rep q hq)
  have hr0 : Rep (fun k => k < w.heap.size ∧ base ≤ k ∧ v.ownBlock ≠ some k) w q.d q.vm q.vl q.vt := Rep.mono (fun b hb hl => ⟨hl, hb⟩) q.d (h.rep q hq)
  refine Rep.mono (fun b hb _ => ⟨hb.2.1, fun e => ?_⟩) q.d (Rep.keep hK (fun b hb _ e => hb.2.2 e) q.d hr0)
  rcases hat with e' | e'
  ·rw [e'] at e; exact hb.2.2 e
  ·rw [e'] at e; cases e; have := hwA.size; omega
 ·obtain rfl : q = p := by simpa using hq
  have hr0 : Rep (fun k => k < w1.heap.size ∧ w.heap.size ≤ k) w1 q.d q.vm q.vl q.vt := Rep.mono (fun b hb hl => ⟨hl, hb⟩) q.d hp
  refine Rep.mono (fun b hb _ => ⟨Nat.le_trans hbase hb.2, fun e => ?_⟩) q.d (Rep.keep hK1 (fun b hb _ e => by have := (hvl b e).2; omega) q.d hr0)
  rcases hat with e' | e'
  ·rw [e'] at e; have := (hvl b e).2; omega
  ·rw [e'] at e; cases e; have := hA.size; omega
theorem Rowing.to_row {w : World} {base : Nat} {v : Value} {ls : List P} (h : Rowing w base v ls) : Row (fun k => base ≤ k) w v (ls.map P.d) := by
 have hreps : ∀ g, v.ownBlock = some g → Reps (fun k => base ≤ k) w (ls.map P.d) g 0 := by
  intro g hg
  refine Reps.of fun j hj => ?_
  have hj' : j < ls.length := by simpa using hj
  obtain ⟨g', c, rfl, _, hs⟩ := part_at h.row j hj'
  cases hg
  refine ⟨ls[j].vm, ls[j].vl, ls[j].vt, by rw [Nat.zero_add]; simpa using hs, ?_⟩
  have := Rep.mono (fun b hb _ => hb.1) _ (h.rep ls[j] (List.getElem_mem hj'))
  simpa using this
 rcases h.row.2 with ⟨h1, h0⟩ | ⟨g, cap, cur, rfl, e2, e3, e4, _⟩
 ·have : ls = [] := List.length_eq_zero_iff.1 h0
  subst this
  exact ⟨none, 0, by rw [h1]; rfl, Nat.le_refl _, fun hn => absurd rfl hn⟩
 ·refine ⟨some ⟨g, 0, none⟩, cap, by simp, by simpa using e4, fun _ => ⟨g, 0, rfl, e2, (Array.getElem?_eq_some_iff.1 e3).1, hreps g rfl⟩⟩
end Dt
end Go.Proofs.Ytcopdfihaheplaa
namespace Go.Proofs.Ytcopdfihaheplaa
open Go.RowKit
namespace Dt
end Dt
namespace Dt
theorem Box.keep {S : Nat → Prop} {w w' : World} {X : Nat} {d : D} {a b c : Value} (h : Box w X d a b c) (hk : Keep S w w') (hS : ¬ S X) : Box w' X d a b c := by
 obtain ⟨h0, h1, h2, h3, h4, h5⟩ := h
 have hl := block_lt_of_cell h0
 exact ⟨(hk.cell 0 hl hS).trans h0, (hk.cell 1 hl hS).trans h1, (hk.cell 2 hl hS).trans h2, (hk.cell 3 hl hS).trans h3, (hk.cell 4 hl hS).trans h4, (hk.cell 5 hl hS).trans h5⟩
theorem cell_set_ne (w : World) (X i j : Nat) (v : Value) (h : i ≠ j) : (w.setCell ⟨X, i, none⟩ v).cell? ⟨X, j, none⟩ = w.cell? ⟨X, j, none⟩ := World.cell?_setCell_other _ _ _ _ (by intro e; cases e; exact h rfl)
theorem cell_set_eq (w : World) (X i : Nat) (v u : Value) (h : w.cell? ⟨X, i, none⟩ = some u) : (w.setCell ⟨X, i, none⟩ v).cell? ⟨X, i, none⟩ = some v := World.cell?_setCell_same' _ _ _ (by rw [h]; rfl)
theorem Box.set5 {w : World} {X : Nat} {d : D} {a b c : Value} (h : Box w X d a b c) (v : Value) : Box (w.setCell ⟨X, 5, none⟩ v) X d a b v := by
 obtain ⟨h0, h1, h2, h3, h4, h5⟩ := h
 exact ⟨(cell_set_ne w X 5 0 v (by omega)).trans h0, (cell_set_ne w X 5 1 v (by omega)).trans h1, (cell_set_ne w X 5 2 v (by omega)).trans h2, (cell_set_ne w X 5 3 v (by omega)).trans h3, (cell_set_ne w X 5 4 v (by omega)).trans h4, cell_set_eq w X 5 v _ h5⟩
theorem IRow.mono {F G : Nat → Prop} {w : World} {v : Value} {m : List Int} (h : IRow F w v m) (hFG : ∀ b, F b → b < w.heap.size → G b) : IRow G w v m := by
 obtain ⟨a, c, h1, h2, h3⟩ := h
 refine ⟨a, c, h1, h2, fun hn => ?_⟩
 obtain ⟨b, o, e1, e2, e3, e4⟩ := h3 hn
 exact ⟨b, o, e1, hFG b e2 e3, e3, e4⟩
theorem Row.mono {F G : Nat → Prop} {w : World} {v : Value} {l : List D} (h : Row F w v l) (hFG : ∀ b, F b → b < w.heap.size → G b) : Row G w v l := by
 obtain ⟨a, c, h1, h2, h3⟩ := h
 refine ⟨a, c, h1, h2, fun hn => ?_⟩
 obtain ⟨b, o, e1, e2, e3, e4⟩ := h3 hn
 exact ⟨b, o, e1, hFG b e2 e3, e3, Reps.mono hFG l e4⟩
end Dt
namespace Dt
theorem rep_zero (F : Nat → Prop) (w : World) : Rep F w (.mk 0 0 ⟨#[]⟩ [] [] []) (.slice none 0 0) (.slice none 0 0) (.slice none 0 0) :=
 (rep_iff _ _ _ _ _ _).2 ⟨⟨none, 0, rfl, Nat.le_refl _, fun h => absurd rfl h⟩, ⟨none, 0, rfl, Nat.le_refl _, fun h => absurd rfl h⟩, ⟨none, 0, rfl, Nat.le_refl _, fun h => absurd rfl h⟩⟩
end Dt
end Go.Proofs.Ytcopdfihaheplaa
namespace Go.Proofs.Ytcopdfihaheplaa
open Go.RowKit
attribute [local go_sem] Oper.semAt_some
namespace Rd
open Lx
def tokV (p : PTok) : Value := .agg #[.int .i64 p.t.k, .int .i64 (p.at_ : Int), .int .i64 (p.to : Int), .int .i64 p.t.n, .string ⟨p.t.s.toArray⟩]
structure Src (w : World) (tb : Nat) (xs : List PTok) : Prop where
 lt : tb < w.heap.size
 tok : ∀ i, (h : i < xs.length) → w.cell? ⟨tb, i * 5, none⟩ = some (.int .i64 xs[i].t.k) ∧ w.cell? ⟨tb, i * 5 + 1, none⟩ = some (.int .i64 (xs[i].at_ : Int)) ∧ w.cell? ⟨tb, i * 5 + 2, none⟩ = some (.int .i64 (xs[i].to : Int)) ∧ w.cell? ⟨tb, i * 5 + 3, none⟩ = some (.int .i64 xs[i].t.n) ∧ w.cell? ⟨tb, i * 5 + 4, none⟩ = some (.string ⟨xs[i].t.s.toArray⟩)
theorem Src.keep {S : Nat → Prop} {w w' : World} {tb : Nat} {xs : List PTok} (h : Src w tb xs) (hk : Keep S w w') (hS : ¬ S tb) : Src w' tb xs :=
 ⟨Nat.lt_of_lt_of_le h.lt hk.size, fun i hi => by
  obtain ⟨h0, h1, h2, h3, h4⟩ := h.tok i hi
  exact ⟨(hk.cell _ h.lt hS).trans h0, (hk.cell _ h.lt hS).trans h1, (hk.cell _ h.lt hS).trans h2, (hk.cell _ h.lt hS).trans h3, (hk.cell _ h.lt hS).trans h4⟩⟩
theorem Src.below {w w' : World} {tb : Nat} {xs : List PTok} (h : Src w tb xs) (hb : Below w.heap.size w w') : Src w' tb xs := h.keep (S := fun _ => False) (keep_of_below hb) id
def St (w : World) (P tb C : Nat) (xs rest : List PTok) (at_ e : Int) : Prop :=
 ∃ (a : Option Addr) (pre : List PTok), Hp w P #[.slice a rest.length (C - pre.length), .int .i64 at_, .int .i64 e] 69 ∧ xs = pre ++ rest ∧ (rest ≠ [] → a = some ⟨tb, pre.length * 5, none⟩)
theorem St.keep {S : Nat → Prop} {w w' : World} {P tb C : Nat} {xs rest : List PTok} {at_ e : Int} (h : St w P tb C xs rest at_ e) (hk : Keep S w w') (hS : ¬ S P) : St w' P tb C xs rest at_ e := by
 obtain ⟨a, pre, h1, h2, h3⟩ := h
 exact ⟨a, pre, h1.keep hk hS, h2, h3⟩
theorem St.below {w w' : World} {P tb C : Nat} {xs rest : List PTok} {at_ e : Int} (h : St w P tb C xs rest at_ e) (hb : Below w.heap.size w w') : St w' P tb C xs rest at_ e := h.keep (S := fun _ => False) (keep_of_below hb) id
theorem St.lt {w : World} {P tb C : Nat} {xs rest : List PTok} {at_ e : Int} (h : St w P tb C xs rest at_ e) : P < w.heap.size := by
 obtain ⟨a, pre, h1, h2, h3⟩ := h
 exact h1.lt
def NextPost (P tb C : Nat) (xs : List PTok) (t : PTok) (r : List PTok) (at_ er : Int) (w : World) (e : Ending) (w' : World) : Prop :=
 e = .returned (.tuple #[tokV t, .bool true]) ∧ St w' P tb C xs r at_ er ∧ Keep (fun k => k = P) w w'
def noTok : Value := .agg #[.int .i64 0, .int .i64 0, .int .i64 0, .int .i64 0, .string ⟨#[]⟩]
def zeroD : Value := .agg #[.int .i64 0, .int .i64 0, .string ⟨#[]⟩, .slice none 0 0, .slice none 0 0, .slice none 0 0]
def NoPost (P tb C : Nat) (xs : List PTok) (at_ er : Int) (w : World) (e : Ending) (w' : World) : Prop :=
 e = .returned (.tuple #[noTok, .bool false]) ∧ St w' P tb C xs [] at_ er ∧ Keep (fun k => k = P) w w'
def FailPost (P tb C : Nat) (xs rest : List PTok) (at_ er : Int) (w : World) (e : Ending) (w' : World) : Prop :=
 e = .returned zeroD ∧ St w' P tb C xs rest at_ er ∧ Keep (fun k => k = P) w w'
end Rd
set_option maxRecDepth 100000 in
set_option maxHeartbeats 8000000 in
theorem next_yes (P tb C : Nat) (xs : List Lx.PTok) (t : Lx.PTok) (r : List Lx.PTok) (at_ er : Int) (w : World) (hS : Rd.Src w tb xs) (h : Rd.St w P tb C xs (t :: r) at_ er) (hC : xs.length ≤ C) (_hx : xs.length ≤ 4096) (_hCC : C ≤ 9223372036854775807) :
  Calls Try.prog 40 #[.pointer (some ⟨P, 0, none⟩)] w (Rd.NextPost P tb C xs t r at_ er w) := by
 obtain ⟨a, pre, hP, hpre, ha⟩ := h
 obtain rfl := ha (by simp)
 have hlen : xs.length = pre.length + (r.length + 1) := by rw [hpre]; simp
 have hi : pre.length < xs.length := by omega
 obtain ⟨x0, x1, x2, x3, x4⟩ := hS.tok pre.length hi
 have hxi : xs[pre.length] = t := by simp only [hpre]; simp
 rw [hxi] at x0 x1 x2 x3 x4
 obtain ⟨n, hn⟩ : ∃ n, r.length = n := ⟨_, rfl⟩
 obtain ⟨c, hc⟩ : ∃ c, C - pre.length = c := ⟨_, rfl⟩
 obtain ⟨q, hq⟩ : ∃ q, pre.length = q := ⟨_, rfl⟩
 rw [show (t :: r).length = n + 1 by simp [hn], hc] at hP
 have hcn : n + 1 ≤ c := by omega
 rw [hq] at x0 x1 x2 x3 x4 hP
 obtain ⟨w1, hw1⟩ : ∃ w1, w.alloc (.cells #[.int .i64 0, .int .i64 0, .int .i64 0, .int .i64 0, .string ⟨#[]⟩] 47) = w1 := ⟨_, rfl⟩
 obtain ⟨tk, htk⟩ : ∃ tk, t.t.k = tk := ⟨_, rfl⟩
 obtain ⟨tn, htn⟩ : ∃ tn, t.t.n = tn := ⟨_, rfl⟩
 obtain ⟨ts, hts⟩ : ∃ ts : ByteArray, ⟨t.t.s.toArray⟩ = ts := ⟨_, rfl⟩
 obtain ⟨ta, hta⟩ : ∃ ta : Int, (t.at_ : Int) = ta := ⟨_, rfl⟩
 obtain ⟨tz, hto⟩ : ∃ tz : Int, (t.to : Int) = tz := ⟨_, rfl⟩
 have HTV : Hid (Rd.tokV t = .agg #[.int .i64 tk, .int .i64 ta, .int .i64 tz, .int .i64 tn, .string ts]) := by show _ = _; unfold Rd.tokV; rw [htk, hta, hto, htn, hts]
 rw [htk] at x0
 rw [hta] at x1
 rw [hto] at x2
 rw [htn] at x3
 rw [hts] at x4
 obtain ⟨w2, hw2⟩ : ∃ w2, w1.alloc (.cells #[.int .i64 tk, .int .i64 ta, .int .i64 tz, .int .i64 tn, .string ts] 47) = w2 := ⟨_, rfl⟩
 obtain ⟨hb1, hs1⟩ := new_below hw1
 obtain ⟨hb2, hs2⟩ := new_below hw2
 have hR1 := Hp.new hw1
 have hT2 := Hp.new hw2
 have hP1 := hP.below hb1
 have hP2 := hP1.below hb2
 have hR2 := hR1.below hb2
 have hPl := hP.lt
 obtain ⟨R, hR⟩ : ∃ R, w.heap.size = R := ⟨_, rfl⟩
 obtain ⟨T, hT⟩ : ∃ T, w1.heap.size = T := ⟨_, rfl⟩
 rw [hR] at hR1 hR2 hs1 hPl
 rw [hT] at hT2 hs1 hs2
 have hneR : ¬ R = P := by omega
 have hneT : ¬ T = P := by omega
 have hTR : ¬ T = R := by omega
 have xs1 := fun i => hb1.cell (p := ⟨tb, i, none⟩) hS.lt
 have x0' := (xs1 _).trans x0
 have x1' := (xs1 _).trans x1
 have x2' := (xs1 _).trans x2
 have x3' := (xs1 _).trans x3
 have x4' := (xs1 _).trans x4
 have p0 := hP1.cell 0 rfl
 have q0 := hP2.cell 0 rfl
 have q1 := hP2.frz 0
 have hn0 : (((n : Int) + 1) == 0) = false := by simp; omega
 have hni : (1 : Int) ≤ (n : Int) + 1 := by omega
 have hcni : (n : Int) + 1 ≤ (c : Int) := by omega
 have hpos : (0 : Int) < (n : Int) + 1 := by omega
 have HEND : Hid (∀ (a2 : Option Addr) (w3 : World), w2.setCell ⟨P, 0, none⟩ (.slice a2 n (c - 1)) = w3 → (n ≠ 0 → a2 = some ⟨tb, q * 5 + 5, none⟩) → Rd.NextPost P tb C xs t r at_ er w (.returned (.tuple #[Rd.tokV t, .bool true])) (set5 w3 R (.int .i64 tk) (.int .i64 ta) (.int .i64 tz) (.int .i64 tn) (.string ts))) := by
  intro a2 w3 hw3 ha2
  have hk1 : Keep (fun k => k = P) w2 w3 := by rw [← hw3]; exact set_keep _ _ _ _
  have hk2 := set5_keep w3 R (.int .i64 tk) (.int .i64 ta) (.int .i64 tz) (.int .i64 tn) (.string ts)
  refine ⟨rfl, ⟨a2, pre ++ [t], ?_, by rw [hpre]; simp, fun hr => ?_⟩, ?_⟩
  ·have h3 : Hp w3 P #[.slice a2 n (c - 1), .int .i64 at_, .int .i64 er] 69 := by rw [← hw3]; exact hP2.set 0 _
   have h4 := h3.keep hk2 (fun e => hneR e.symm)
   rw [hn, show C - (pre ++ [t]).length = c - 1 by simp; omega]
   exact h4
  ·rw [ha2 (by intro e; exact hr (List.eq_nil_of_length_eq_zero (hn.trans e)))]
   simp only [List.length_append, List.length_cons, List.length_nil, hq]
   congr 2
   omega
  ·have hkA : Keep (fun k => k = P ∨ k = R) w w3 := ((keep_of_below (hR ▸ hb1 : Below w.heap.size w w1)).trans (keep_of_below hb2)).trans (hk1.le (fun k e => .inl e))
   refine (hkA.trans (hk2.le (fun k e => .inr e))).mono (fun k hk e => ?_)
   rcases e with e | e
   ·exact e
   ·omega
 have HCL : Hid (∀ (V : Value) (w3 : World), w2.setCell ⟨P, 0, none⟩ V = w3 → (∀ i v, #[Value.int .i64 tk, .int .i64 ta, .int .i64 tz, .int .i64 tn, .string ts][i]? = some v → w3.cell? ⟨T, i, none⟩ = some v) ∧ (∀ i v, #[Value.int .i64 0, .int .i64 0, .int .i64 0, .int .i64 0, .string ⟨#[]⟩][i]? = some v → w3.cell? ⟨R, i, none⟩ = some v) ∧ (∀ i, w3.frozen? ⟨R, i, none⟩ = false)) := by
  intro V w3 hw3
  have hk1 : Keep (fun k => k = P) w2 w3 := by rw [← hw3]; exact set_keep _ _ _ _
  exact ⟨fun i v hv => (hT2.keep hk1 hneT).cell i hv, fun i v hv => (hR2.keep hk1 hneR).cell i hv, fun i => (hR2.keep hk1 hneR).frz i⟩
 have hnc : c = 1 → n = 0 := fun e => by omega
 clear hxi hpre hlen hi hn hc hq htk htn hts hta hto hb1 hb2 hs1 hs2 ha hS hC _hx _hCC hR1 hT2 hP1 hP2 hR2 hP hPl xs1 x0 x1 x2 x3 x4 hcn
 by_cases hc1 : c = 1
 ·obtain ⟨w3, hw3⟩ : ∃ w3, w2.setCell ⟨P, 0, none⟩ (.slice (some ⟨tb, q * 5, none⟩) n 0) = w3 := ⟨_, rfl⟩
  have HE := Lib.hid (HEND.out (some ⟨tb, q * 5, none⟩) w3 (by rw [hc1]; exact hw3) (fun e => absurd (hnc hc1) e))
  obtain ⟨hy, hd, hf⟩ := HCL.out _ w3 hw3
  have y0 := hy 0 _ rfl
  have y1 := hy 1 _ rfl
  have y2 := hy 2 _ rfl
  have y3 := hy 3 _ rfl
  have y4 := hy 4 _ rfl
  have d0 := hd 0 _ rfl
  have d1 := hd 1 _ rfl
  have d2 := hd 2 _ rfl
  have d3 := hd 3 _ rfl
  have d4 := hd 4 _ rfl
  have k0 := hf 0
  have k1 := hf 1
  have k2 := hf 2
  have k3 := hf 3
  have k4 := hf 4
  clear hy hd hf HCL HEND hnc
  go_enter Try.func40, Try.ntmps40
  go_wp2
  refine bodyPost_ret (v := .tuple #[.agg #[.int .i64 tk, .int .i64 ta, .int .i64 tz, .int .i64 tn, .string ts], .bool true]) (by simp [results, Try.results40, go_sem, *]) rfl ?_
  rw [← HTV.out]
  exact HE.out
 ·obtain ⟨w3, hw3⟩ : ∃ w3, w2.setCell ⟨P, 0, none⟩ (.slice (some ⟨tb, q * 5 + 5, none⟩) n (c - 1)) = w3 := ⟨_, rfl⟩
  have HE := Lib.hid (HEND.out (some ⟨tb, q * 5 + 5, none⟩) w3 hw3 (fun _ => rfl))
  obtain ⟨hy, hd, hf⟩ := HCL.out _ w3 hw3
  have y0 := hy 0 _ rfl
  have y1 := hy 1 _ rfl
  have y2 := hy 2 _ rfl
  have y3 := hy 3 _ rfl
  have y4 := hy 4 _ rfl
  have d0 := hd 0 _ rfl
  have d1 := hd 1 _ rfl
  have d2 := hd 2 _ rfl
  have d3 := hd 3 _ rfl
  have d4 := hd 4 _ rfl
  have k0 := hf 0
  have k1 := hf 1
  have k2 := hf 2
  have k3 := hf 3
  have k4 := hf 4
  clear hy hd hf HCL HEND hnc
  go_enter Try.func40, Try.ntmps40
  go_wp2
  refine bodyPost_ret (v := .tuple #[.agg #[.int .i64 tk, .int .i64 ta, .int .i64 tz, .int .i64 tn, .string ts], .bool true]) (by simp [results, Try.results40, go_sem, *]) rfl ?_
  rw [← HTV.out]
  exact HE.out
set_option maxRecDepth 100000 in
set_option maxHeartbeats 8000000 in
theorem next_no (P tb C : Nat) (xs : List Lx.PTok) (at_ er : Int) (w : World) (h : Rd.St w P tb C xs [] at_ er) :
  Calls Try.prog 40 #[.pointer (some ⟨P, 0, none⟩)] w (Rd.NoPost P tb C xs at_ er w) := by
 obtain ⟨a, pre, hP, hpre, -⟩ := h
 rw [List.length_nil] at hP
 obtain ⟨w1, hw1⟩ : ∃ w1, w.alloc (.cells #[.int .i64 0, .int .i64 0, .int .i64 0, .int .i64 0, .string ⟨#[]⟩] 47) = w1 := ⟨_, rfl⟩
 obtain ⟨hb1, hs1⟩ := new_below hw1
 have hR1 := Hp.new hw1
 have hP1 := hP.below hb1
 have p0 := hP1.cell 0 rfl
 have hPl := hP.lt
 obtain ⟨R, hR⟩ : ∃ R, w.heap.size = R := ⟨_, rfl⟩
 rw [hR] at hR1 hPl
 have HEND : Hid (Rd.NoPost P tb C xs at_ er w (.returned (.tuple #[Rd.noTok, .bool false])) (set5 w1 R (.int .i64 0) (.int .i64 0) (.int .i64 0) (.int .i64 0) (.string ⟨#[]⟩))) := by
  have hk2 := set5_keep w1 R (.int .i64 0) (.int .i64 0) (.int .i64 0) (.int .i64 0) (.string ⟨#[]⟩)
  refine ⟨rfl, ⟨a, pre, hP1.keep hk2 (by omega), hpre, fun e => absurd rfl e⟩, ?_⟩
  exact ((keep_of_below hb1).trans (hk2.le (T := fun k => k = P ∨ k = R) (fun k e => .inr e))).mono (fun k hk e => by omega)
 have d0 := hR1.cell 0 rfl
 have d1 := hR1.cell 1 rfl
 have d2 := hR1.cell 2 rfl
 have d3 := hR1.cell 3 rfl
 have d4 := hR1.cell 4 rfl
 have k0 := hR1.frz 0
 have k1 := hR1.frz 1
 have k2 := hR1.frz 2
 have k3 := hR1.frz 3
 have k4 := hR1.frz 4
 clear hP hP1 hR1 hb1 hs1 hpre hPl
 go_enter Try.func40, Try.ntmps40
 go_wp2
 refine bodyPost_ret (v := .tuple #[.agg #[.int .i64 0, .int .i64 0, .int .i64 0, .int .i64 0, .string ⟨#[]⟩], .bool false]) (by simp [results, Try.results40, go_sem, *]) rfl ?_
 exact HEND.out
set_option maxRecDepth 100000 in
set_option maxHeartbeats 8000000 in
theorem fail_any (P tb C : Nat) (xs rest : List Lx.PTok) (at_ er : Int) (w : World) (h : Rd.St w P tb C xs rest 0 0) :
  Calls Try.prog 67 #[.pointer (some ⟨P, 0, none⟩), .int .i64 at_, .int .i64 er] w (Rd.FailPost P tb C xs rest at_ er w) := by
 obtain ⟨a, pre, hP, hpre, ha⟩ := h
 obtain ⟨w1, hw1⟩ : ∃ w1, w.alloc (.cells #[.int .i64 0, .int .i64 0, .string ⟨#[]⟩, .slice none 0 0, .slice none 0 0, .slice none 0 0] 25) = w1 := ⟨_, rfl⟩
 obtain ⟨hb1, hs1⟩ := new_below hw1
 have hR1 := Hp.new hw1
 have hP1 := hP.below hb1
 have p1 := hP1.cell 1 rfl
 have p2 := hP1.cell 2 rfl
 have f1 := hP1.frz 1
 have f2 := hP1.frz 2
 have hPl := hP.lt
 obtain ⟨R, hR⟩ : ∃ R, w.heap.size = R := ⟨_, rfl⟩
 rw [hR] at hR1 hPl
 obtain ⟨w2, hw2⟩ : ∃ w2, (w1.setCell ⟨P, 1, none⟩ (.int .i64 at_)).setCell ⟨P, 2, none⟩ (.int .i64 er) = w2 := ⟨_, rfl⟩
 have hk1 : Keep (fun k => k = P) w1 w2 := by rw [← hw2]; exact (set_keep _ _ _ _).trans (set_keep _ _ _ _)
 have hP2 : Hp w2 P #[.slice a rest.length (C - pre.length), .int .i64 at_, .int .i64 er] 69 := by rw [← hw2]; exact (hP1.set 1 _).set 2 _
 have hR2 := hR1.keep hk1 (by omega : ¬ R = P)
 have HEND : Hid (Rd.FailPost P tb C xs rest at_ er w (.returned Rd.zeroD) (set6 w2 R (.int .i64 0) (.int .i64 0) (.string ⟨#[]⟩) (.slice none 0 0) (.slice none 0 0) (.slice none 0 0))) := by
  have hk2 := set6_keep w2 R (.int .i64 0) (.int .i64 0) (.string ⟨#[]⟩) (.slice none 0 0) (.slice none 0 0) (.slice none 0 0)
  refine ⟨rfl, ⟨a, pre, hP2.keep hk2 (by omega), hpre, ha⟩, ?_⟩
  exact (((keep_of_below hb1).trans (hk1.le (T := fun k => k = P ∨ k = R) (fun k e => .inl e))).trans (hk2.le (fun k e => .inr e))).mono (fun k hk e => by omega)
 have d0 := hR2.cell 0 rfl
 have d1 := hR2.cell 1 rfl
 have d2 := hR2.cell 2 rfl
 have d3 := hR2.cell 3 rfl
 have d4 := hR2.cell 4 rfl
 have d5 := hR2.cell 5 rfl
 have k0 := hR2.frz 0
 have k1 := hR2.frz 1
 have k2 := hR2.frz 2
 have k3 := hR2.frz 3
 have k4 := hR2.frz 4
 have k5 := hR2.frz 5
 clear hP hP1 hR1 hb1 hs1 hpre hPl ha hk1 hP2 hR2
 go_enter Try.func67, Try.ntmps67
 go_wp2
 refine bodyPost_ret (v := .agg #[.int .i64 0, .int .i64 0, .string ⟨#[]⟩, .slice none 0 0, .slice none 0 0, .slice none 0 0]) (by simp [results, Try.results67, go_sem, *]) rfl ?_
 exact HEND.out
set_option maxRecDepth 100000 in
set_option maxHeartbeats 8000000 in
theorem stray_any (P tb C : Nat) (xs rest : List Lx.PTok) (t : Lx.PTok) (w : World) (h : Rd.St w P tb C xs rest 0 0) :
  Calls Try.prog 44 #[.pointer (some ⟨P, 0, none⟩), Rd.tokV t] w (Rd.FailPost P tb C xs rest (t.at_ : Int) 40 w) := by
 unfold Rd.tokV
 obtain ⟨tk, htk⟩ : ∃ tk, t.t.k = tk := ⟨_, rfl⟩
 obtain ⟨tn, htn⟩ : ∃ tn, t.t.n = tn := ⟨_, rfl⟩
 obtain ⟨ts, hts⟩ : ∃ ts : ByteArray, ⟨t.t.s.toArray⟩ = ts := ⟨_, rfl⟩
 obtain ⟨ta, hta⟩ : ∃ ta : Int, (t.at_ : Int) = ta := ⟨_, rfl⟩
 obtain ⟨tz, hto⟩ : ∃ tz : Int, (t.to : Int) = tz := ⟨_, rfl⟩
 rw [htk, htn, hts, hta, hto]
 clear htk htn hts hta hto
 obtain ⟨w1, hw1⟩ : ∃ w1, w.alloc (.cells #[.int .i64 tk, .int .i64 ta, .int .i64 tz, .int .i64 tn, .string ts] 47) = w1 := ⟨_, rfl⟩
 obtain ⟨w2, hw2⟩ : ∃ w2, w1.alloc (.cells #[.int .i64 0, .int .i64 0, .string ⟨#[]⟩, .slice none 0 0, .slice none 0 0, .slice none 0 0] 25) = w2 := ⟨_, rfl⟩
 obtain ⟨hb1, hs1⟩ := new_below hw1
 obtain ⟨hb2, hs2⟩ := new_below hw2
 have hT2 := (Hp.new hw1).below hb2
 have hR2 := Hp.new hw2
 have hPl := h.lt
 have hf := fail_any P tb C xs rest ta 40 w2 ((h.below hb1).below hb2)
 obtain ⟨T, hT⟩ : ∃ T, w.heap.size = T := ⟨_, rfl⟩
 obtain ⟨R, hR⟩ : ∃ R, w1.heap.size = R := ⟨_, rfl⟩
 rw [hT] at hT2 hs1 hPl
 rw [hR] at hR2 hs1 hs2
 have y1 := hT2.cell 1 rfl
 have HK : Hid (Keep (fun k => k = P ∨ T ≤ k) w w2) := (keep_of_below hb1).trans (keep_of_below hb2)
 have HR2 := Lib.hid hR2
 have HN : Hid (P < T ∧ R = T + 1 ∧ w2.heap.size = T + 2) := ⟨hPl, hs1, by omega⟩
 have HT := Lib.hid hT
 clear h hb1 hb2 hs1 hs2 hT2 hR2 hPl
 go_enter Try.func44, Try.ntmps44
 go_wp2_with fail
 refine hf.mono ?_
 rintro e w3 ⟨rfl, hst, hk⟩
 unfold Rd.zeroD
 have hR3 := HR2.out.keep hk (by have := HN.out; omega)
 have HEND : Hid (Rd.FailPost P tb C xs rest ta 40 w (.returned Rd.zeroD) (set6 w3 R (.int .i64 0) (.int .i64 0) (.string ⟨#[]⟩) (.slice none 0 0) (.slice none 0 0) (.slice none 0 0))) := by
  have hk2 := set6_keep w3 R (.int .i64 0) (.int .i64 0) (.string ⟨#[]⟩) (.slice none 0 0) (.slice none 0 0) (.slice none 0 0)
  refine ⟨rfl, hst.keep hk2 (by have := HN.out; omega), ?_⟩
  exact ((HK.out.trans (hk.le (fun k e => .inl e))).trans (hk2.le (fun k e => .inr (by have := HN.out; omega)))).mono (fun k hk e => by have := HT.out; omega)
 have d0 := hR3.cell 0 rfl
 have d1 := hR3.cell 1 rfl
 have d2 := hR3.cell 2 rfl
 have d3 := hR3.cell 3 rfl
 have d4 := hR3.cell 4 rfl
 have d5 := hR3.cell 5 rfl
 have k0 := hR3.frz 0
 have k1 := hR3.frz 1
 have k2 := hR3.frz 2
 have k3 := hR3.frz 3
 have k4 := hR3.frz 4
 have k5 := hR3.frz 5
 clear hf hst hk hR3 y1 hw1 hw2
 go_wp2
 refine bodyPost_ret (v := .agg #[.int .i64 0, .int .i64 0, .string ⟨#[]⟩, .slice none 0 0, .slice none 0 0, .slice none 0 0]) (by simp [results, Try.results44, go_sem, *]) rfl ?_
 exact HEND.out
end Go.Proofs.Ytcopdfihaheplaa
namespace Go.Proofs.Ytcopdfihaheplaa
open Go.RowKit
namespace Rd
open Dt Lx
def Says (r : Res) (x : D) (rest : List PTok) (at_ er : Int) : Prop := (r = .ok x rest ∧ at_ = 0 ∧ er = 0) ∨ (∃ (b : Nat) (c : Int), r = .bad b c ∧ at_ = (b : Int) ∧ er = c ∧ c ≠ 0)
def Nz (v : Value) : Prop := v = .slice none 0 0 ∨ ∃ ad n c, v = .slice (some ad) n c
theorem own_nz {w : World} {base size n : Nat} {e : TypeId} {v : Value} {xs : List Value} (h : w.ownsRow base e size v n xs) : Nz v := by
 rcases h.2 with ⟨h1, h0⟩ | ⟨g, cap, cur, rfl, _⟩
 ·exact .inl h1
 ·exact .inr ⟨_, _, _, rfl⟩
def OutB (b P tb C : Nat) (xs : List PTok) (w : World) (r : Res) (e : Ending) (w' : World) : Prop :=
 ∃ (x : D) (vm vl vt : Value) (rest : List PTok) (at_ er : Int), e = .returned (.agg #[.int .i64 x.k, .int .i64 x.n, .string x.s, vm, vl, vt]) ∧ Rep (fun k => b ≤ k) w' x vm vl vt ∧ Nz vl ∧ St w' P tb C xs rest at_ er ∧ Keep (fun k => k = P ∨ b ≤ k) w w' ∧ Says r x rest at_ er
def Out (P tb C : Nat) (xs : List PTok) (w : World) (r : Res) (e : Ending) (w' : World) : Prop :=
 ∃ (x : D) (vm vl vt : Value) (rest : List PTok) (at_ er : Int), e = .returned (.agg #[.int .i64 x.k, .int .i64 x.n, .string x.s, vm, vl, vt]) ∧ Rep (fun k => w.heap.size ≤ k) w' x vm vl vt ∧ Nz vl ∧ St w' P tb C xs rest at_ er ∧ Keep (fun k => k = P) w w' ∧ Says r x rest at_ er
structure G (P tb C : Nat) (xs : List PTok) : Prop where
 ne : P ≠ tb
 cap : xs.length ≤ C
 few : xs.length ≤ 4096
 C2 : C ≤ 9223372036854775807
 ok : ∀ p ∈ xs, 1 ≤ p.t.k ∧ p.t.k ≤ 13
theorem Out.fin {P tb C : Nat} {xs rest : List PTok} {w wz : World} {r : Res} {R : Nat} {x : D} {vm vl vt : Value} {at_ er : Int} (hk : Keep (fun k => k = P) w wz) (hl : w.heap.size ≤ R) (hP : P < w.heap.size)
  (hrep : Rep (fun k => w.heap.size ≤ k ∧ k ≠ R) wz x vm vl vt) (hz : Nz vl) (hst : St wz P tb C xs rest at_ er) (hs : Says r x rest at_ er) : Out P tb C xs w r (.returned (.agg #[.int .i64 x.k, .int .i64 x.n, .string x.s, vm, vl, vt])) (set6 wz R (.int .i64 x.k) (.int .i64 x.n) (.string x.s) vm vl vt) := by
 have hk2 := set6_keep wz R (.int .i64 x.k) (.int .i64 x.n) (.string x.s) vm vl vt
 refine ⟨x, vm, vl, vt, rest, at_, er, rfl, Rep.mono (fun b hb _ => hb.1) x (Rep.keep hk2 (fun b hb _ e => hb.2 e) x hrep), hz, hst.keep hk2 (by omega), ?_, hs⟩
 exact ((hk.le (T := fun k => k = P ∨ k = R) (fun k e => .inl e)).trans (hk2.le (fun k e => .inr e))).mono (fun k hk e => by omega)
theorem OutB.fin {b P tb C : Nat} {xs rest : List PTok} {w wz : World} {r : Res} {R : Nat} {x : D} {vm vl vt : Value} {at_ er : Int} (hk : Keep (fun k => k = P ∨ b ≤ k) w wz) (hl : b ≤ R) (hP : P < b)
  (hrep : Rep (fun k => b ≤ k ∧ k ≠ R) wz x vm vl vt) (hz : Nz vl) (hst : St wz P tb C xs rest at_ er) (hs : Says r x rest at_ er) : OutB b P tb C xs w r (.returned (.agg #[.int .i64 x.k, .int .i64 x.n, .string x.s, vm, vl, vt])) (set6 wz R (.int .i64 x.k) (.int .i64 x.n) (.string x.s) vm vl vt) := by
 have hk2 := set6_keep wz R (.int .i64 x.k) (.int .i64 x.n) (.string x.s) vm vl vt
 exact ⟨x, vm, vl, vt, rest, at_, er, rfl, Rep.mono (fun b hb _ => hb.1) x (Rep.keep hk2 (fun b hb _ e => hb.2 e) x hrep), hz, hst.keep hk2 (by omega), hk.trans (hk2.le (fun k e => .inr (by omega))), hs⟩
theorem rep_zero (F : Nat → Prop) (w : World) : Rep F w (.mk 0 0 ⟨#[]⟩ [] [] []) (.slice none 0 0) (.slice none 0 0) (.slice none 0 0) :=
 (rep_iff _ _ _ _ _ _).2 ⟨⟨none, 0, rfl, Nat.le_refl _, fun h => absurd rfl h⟩, ⟨none, 0, rfl, Nat.le_refl _, fun h => absurd rfl h⟩, ⟨none, 0, rfl, Nat.le_refl _, fun h => absurd rfl h⟩⟩
theorem rep_row {F : Nat → Prop} {w : World} {vl : Value} {acc : List D} (kk : Int) (h : Row F w vl acc) : Rep F w (.mk kk 0 ⟨#[]⟩ [] acc []) (.slice none 0 0) vl (.slice none 0 0) :=
 (rep_iff _ _ _ _ _ _).2 ⟨⟨none, 0, rfl, Nat.le_refl _, fun h => absurd rfl h⟩, h, ⟨none, 0, rfl, Nat.le_refl _, fun h => absurd rfl h⟩⟩
def meas (w : World) (P : Nat) : Nat := match w.cell? ⟨P, 2, none⟩, w.cell? ⟨P, 0, none⟩ with
 | some (.int _ e), some (.slice _ n _) => if e = 0 then n + 1 else 0
 | _, _ => 0
theorem St.meas {w : World} {P tb C : Nat} {xs rest : List PTok} {at_ e : Int} (h : St w P tb C xs rest at_ e) : meas w P = if e = 0 then rest.length + 1 else 0 := by
 obtain ⟨a, pre, h1, -, -⟩ := h
 unfold Rd.meas
 rw [h1.cell 2 rfl, h1.cell 0 rfl]
 rfl
theorem flatP_len (l : List Dt.P) : (flatP l).length = l.length * 6 := by
 unfold flatP
 induction l with
 | nil => rfl
 | cons q l ih => rw [List.flatMap_cons, List.length_append, ih, List.length_cons]; show 6 + _ = _; omega
theorem flatP_one (qs : List Dt.P) (h : ∀ p ∈ qs, ∃ a1 n1 c1 a2 n2 c2 a3 n3 c3, p.vm = .slice a1 n1 c1 ∧ p.vl = .slice a2 n2 c2 ∧ p.vt = .slice a3 n3 c3) : ∀ u ∈ flatP qs, u.oneCell' = true := by
 intro u hu
 obtain ⟨p, hp, hu⟩ := List.mem_flatMap.1 hu
 obtain ⟨a1, n1, c1, a2, n2, c2, a3, n3, c3, e1, e2, e3⟩ := h p hp
 unfold P.cells at hu
 rw [e1, e2, e3] at hu
 simp only [List.mem_cons, List.not_mem_nil, or_false] at hu
 rcases hu with rfl | rfl | rfl | rfl | rfl | rfl <;> rfl
theorem flatP_at {qs : List Dt.P} {j : Nat} {u : Value} (h : (flatP qs)[j]? = some u) : ∃ i r, ∃ hi : i < qs.length, r < 6 ∧ j = i * 6 + r ∧ (qs[i].cells)[r]? = some u := by
 have hl : ∀ l : List Dt.P, (flatP l).length = l.length * 6 := fun l => by
  unfold flatP
  induction l with
  | nil => rfl
  | cons q l ih => rw [List.flatMap_cons, List.length_append, ih, List.length_cons]; show 6 + _ = _; omega
 have hlt : j < qs.length * 6 := by rw [← hl]; exact (List.getElem?_eq_some_iff.1 h).1
 have hi : j / 6 < qs.length := by omega
 refine ⟨j / 6, j % 6, hi, Nat.mod_lt _ (by decide), by omega, ?_⟩
 rw [← h]
 conv => rhs; rw [← List.take_append_drop (j / 6) qs, List.drop_eq_getElem_cons hi]
 have e1 : flatP (qs.take (j / 6) ++ qs[j / 6] :: qs.drop (j / 6 + 1)) = flatP (qs.take (j / 6)) ++ (qs[j / 6].cells ++ flatP (qs.drop (j / 6 + 1))) := by unfold flatP; rw [List.flatMap_append, List.flatMap_cons]
 rw [e1, List.getElem?_append_right (by rw [hl, List.length_take]; omega), hl, List.length_take, Nat.min_eq_left (by omega)]
 rw [List.getElem?_append_left (by show _ < 6; omega)]
 congr 1
 omega
theorem pushK {S : Nat → Prop} {w w1 wA w5 : World} {base : Nat} {v v' : Value} {ls : List P} {p : P} (h : Rowing w base v ls) (hbase : base ≤ w.heap.size) (h1 : Keep S w w1) (hS : ∀ k, base ≤ k → ¬ S k) (hp : Rep (fun k => w.heap.size ≤ k) w1 p.d p.vm p.vl p.vt) (hA : Below w1.heap.size w1 wA)
  (hown : w5.ownsRow base 25 6 v' (ls.length + 1) (flatP ls ++ p.cells)) (hg : wA.grownBy w5 v.ownBlock) (hat : v'.ownBlock = v.ownBlock ∨ v'.ownBlock = some wA.heap.size) :
  Rowing w5 base v' (ls ++ [p]) ∧ Keep (fun k => S k ∨ v.ownBlock = some k) w w5 := by
 have hwA : Keep S w wA := h1.trans (keep_of_below hA)
 have hK : Keep (fun k => S k ∨ v.ownBlock = some k) w w5 := ⟨hg.os.trans hwA.os, hg.tape.trans hwA.tape, hg.output.trans hwA.output, Nat.le_trans hwA.size hg.size, fun k hk hn => (hg.block k (by have := hwA.size; omega) (fun e => hn (.inr e.symm))).trans (hwA.block k hk (fun e => hn (.inl e)))⟩
 have hK1 : Keep (fun k => v.ownBlock = some k) w1 w5 := ⟨hg.os.trans hA.os, hg.tape.trans hA.tape, hg.output.trans hA.output, Nat.le_trans hA.size hg.size, fun k hk hn => (hg.block k (by have := hA.size; omega) (fun e => hn e.symm)).trans (hA.block k hk)⟩
 have hvl : ∀ k, v.ownBlock = some k → base ≤ k ∧ k < w.heap.size := own_lt h.row
 refine ⟨⟨by rw [List.length_append, flatP_app]; exact hown, fun q hq => ?_⟩, hK⟩
 rcases List.mem_append.1 hq with hq | hq
 ·have hr0 : Rep (fun k => k < w.heap.size ∧ base ≤ k ∧ v.ownBlock ≠ some k) w q.d q.vm q.vl q.vt := Rep.mono (fun b hb hl => ⟨hl, hb⟩) q.d (h.rep q hq)
  refine Rep.mono (fun b hb _ => ⟨hb.2.1, fun e => ?_⟩) q.d (Rep.keep hK (fun b hb _ e => e.elim (hS b hb.2.1) (fun e => hb.2.2 e)) q.d hr0)
  rcases hat with e' | e'
  ·rw [e'] at e; exact hb.2.2 e
  ·rw [e'] at e; cases e; have := hwA.size; omega
 ·obtain rfl : q = p := by simpa using hq
  have hr0 : Rep (fun k => k < w1.heap.size ∧ w.heap.size ≤ k) w1 q.d q.vm q.vl q.vt := Rep.mono (fun b hb hl => ⟨hl, hb⟩) q.d hp
  refine Rep.mono (fun b hb _ => ⟨Nat.le_trans hbase hb.2, fun e => ?_⟩) q.d (Rep.keep hK1 (fun b hb _ e => by have := (hvl b e).2; omega) q.d hr0)
  rcases hat with e' | e'
  ·rw [e'] at e; have := (hvl b e).2; omega
  ·rw [e'] at e; cases e; have := hA.size; omega
theorem srcNew {w wD : World} {a b c d e f : Value} {t : TypeId} (h : w.alloc (.cells #[a, b, c, d, e, f] t) = wD) : Ap.Src wD (.slice (some ⟨w.heap.size, 0, none⟩) 1 1) 1 [a, b, c, d, e, f] :=
 .inr ⟨_, _, rfl, fun j u hu => by
  rw [Addr.add_mid, Nat.zero_add]
  have h2 : #[a, b, c, d, e, f][j]? = some u := by rw [← hu]; simp
  exact (Hp.new h).cell j h2⟩
theorem row_of_own {F : Nat → Prop} {w : World} {base n : Nat} {v : Value} {ls : List Dt.P} (hown : w.ownsRow base 25 6 v n (flatP ls)) (hn : n = ls.length) (hF : ∀ j, v.ownBlock = some j → F j) (hr : ∀ p ∈ ls, Rep F w p.d p.vm p.vl p.vt) : Row F w v (ls.map Dt.P.d) := by
 subst hn
 have hreps : ∀ g, v.ownBlock = some g → Reps F w (ls.map Dt.P.d) g 0 := by
  intro g hg
  refine Reps.of fun j hj => ?_
  have hj' : j < ls.length := by simpa using hj
  obtain ⟨g', c, rfl, _, hs⟩ := part_at hown j hj'
  cases hg
  refine ⟨ls[j].vm, ls[j].vl, ls[j].vt, by rw [Nat.zero_add]; simpa using hs, ?_⟩
  have := hr ls[j] (List.getElem_mem hj')
  simpa using this
 rcases hown.2 with ⟨h1, h0⟩ | ⟨g, cap, cur, rfl, e2, e3, e4, _⟩
 ·have : ls = [] := List.length_eq_zero_iff.1 h0
  subst this
  exact ⟨none, 0, by rw [h1]; rfl, Nat.le_refl _, fun hn => absurd rfl hn⟩
 ·exact ⟨some ⟨g, 0, none⟩, cap, by simp, by simpa using e4, fun _ => ⟨g, 0, rfl, hF g rfl, (Array.getElem?_eq_some_iff.1 e3).1, hreps g rfl⟩⟩
theorem row_parts {F : Nat → Prop} {w : World} {a : Option Addr} {n c : Nat} {l : List D} (h : Row F w (.slice a n c) l) (hz : Nz (.slice a n c)) : ∃ qs : List Dt.P, qs.map Dt.P.d = l ∧ Ap.Src w (.slice a n c) n (flatP qs) ∧ ∀ q ∈ qs, Rep F w q.d q.vm q.vl q.vt := by
 obtain ⟨a', c', e, hc, hr⟩ := h
 cases e
 cases l with
 | nil =>
  refine ⟨[], rfl, ?_, fun q hq => by cases hq⟩
  rcases hz with e | ⟨ad, n, c, e⟩
  ·cases e; exact .inl ⟨rfl, rfl, rfl⟩
  ·cases e; exact .inr ⟨ad, _, rfl, fun j u hu => by simp [flatP] at hu⟩
 | cons d0 l0 =>
  obtain ⟨g, o, rfl, -, hlt, hreps⟩ := hr (by simp)
  have hq : ∀ j : Fin (d0 :: l0).length, ∃ q : Dt.P, q.d = (d0 :: l0)[j.1] ∧ Six w g (o + j.1 * 6) q.d q.vm q.vl q.vt ∧ Rep F w q.d q.vm q.vl q.vt := fun j => by
   obtain ⟨vm, vl, vt, h1, h2⟩ := hreps.at j.1 j.2
   exact ⟨⟨_, vm, vl, vt⟩, rfl, h1, h2⟩
  refine ⟨List.ofFn (fun j => Classical.choose (hq j)), ?_, .inr ⟨⟨g, o, none⟩, _, rfl, ?_⟩, ?_⟩
  ·apply List.ext_getElem
   ·simp
   ·intro j h1 h2
    simp only [List.getElem_map, List.getElem_ofFn]
    exact (Classical.choose_spec (hq ⟨j, h2⟩)).1
  ·intro j u hu
   rw [Addr.add_mid]
   obtain ⟨i, r, hi, hr6, hjr, hg⟩ := flatP_at hu
   rw [List.length_ofFn] at hi
   rw [List.getElem_ofFn] at hg
   obtain ⟨s0, s1, s2, s3, s4, s5⟩ := (Classical.choose_spec (hq ⟨i, hi⟩)).2.1
   rw [hjr, ← Nat.add_assoc]
   obtain rfl | rfl | rfl | rfl | rfl | rfl : r = 0 ∨ r = 1 ∨ r = 2 ∨ r = 3 ∨ r = 4 ∨ r = 5 := by omega
   all_goals (simp only [P.cells] at hg; cases hg; first | exact s0 | exact s1 | exact s2 | exact s3 | exact s4 | exact s5)
  ·intro q hq2
   obtain ⟨j, rfl⟩ := List.mem_ofFn.1 hq2
   exact (Classical.choose_spec (hq j)).2.2
theorem rep_sym (F : Nat → Prop) (w : World) (s : ByteArray) : Rep F w (symD s) (.slice none 0 0) (.slice none 0 0) (.slice none 0 0) :=
 (rep_iff _ _ _ _ _ _).2 ⟨⟨none, 0, rfl, Nat.le_refl _, fun h => absurd rfl h⟩, ⟨none, 0, rfl, Nat.le_refl _, fun h => absurd rfl h⟩, ⟨none, 0, rfl, Nat.le_refl _, fun h => absurd rfl h⟩⟩
theorem own_base {w : World} {base base' size n : Nat} {e : TypeId} {v : Value} {xs : List Value} (h : w.ownsRow base e size v n xs) (hb : base' ≤ base) : w.ownsRow base' e size v n xs := by
 obtain ⟨h1, h2⟩ := h
 refine ⟨h1, h2.elim .inl (fun h3 => ?_)⟩
 obtain ⟨g, cap, cur, e1, e2, e3⟩ := h3
 exact .inr ⟨g, cap, cur, e1, Nat.le_trans hb e2, e3⟩
theorem two_forms {s : ByteArray} {y : D} {b1 b2 b3 : Option Addr} {m1 m2 m3 p1 p2 p3 : Nat} {p : Dt.P} (hp : p ∈ [Dt.P.mk (symD s) (.slice none 0 0) (.slice none 0 0) (.slice none 0 0), Dt.P.mk y (.slice b1 m1 p1) (.slice b2 m2 p2) (.slice b3 m3 p3)]) : ∃ a1 n1 c1 a2 n2 c2 a3 n3 c3, p.vm = .slice a1 n1 c1 ∧ p.vl = .slice a2 n2 c2 ∧ p.vt = .slice a3 n3 c3 := by
 simp only [List.mem_cons, List.not_mem_nil, or_false] at hp
 rcases hp with rfl | rfl
 ·exact ⟨_, _, _, _, _, _, _, _, _, rfl, rfl, rfl⟩
 ·exact ⟨_, _, _, _, _, _, _, _, _, rfl, rfl, rfl⟩
theorem two_src {w : World} {B : Nat} {s : ByteArray} {y : D} {vm vl vt : Value} {t : TypeId} (h : Hp w B #[.int .i64 5, .int .i64 0, .string s, .slice none 0 0, .slice none 0 0, .slice none 0 0, .int .i64 y.k, .int .i64 y.n, .string y.s, vm, vl, vt] t) :
  ∀ j u, (flatP [Dt.P.mk (symD s) (.slice none 0 0) (.slice none 0 0) (.slice none 0 0), Dt.P.mk y vm vl vt])[j]? = some u → w.cell? ((⟨B, 0, none⟩ : Addr).add j) = some u := by
 intro j u hu
 rw [Addr.add_mid, Nat.zero_add]
 refine h.cell j ?_
 rw [← hu, ← Array.getElem?_toList]
 rfl
end Rd
theorem Dt.Cd_keep_grown {w w' : World} {v : Value} (hg : w.grownBy w' v.ownBlock) : Keep (fun k => v.ownBlock = some k) w w' := ⟨hg.os, hg.tape, hg.output, hg.size, fun k hk hn => hg.block k hk (fun e => hn e.symm)⟩
end Go.Proofs.Ytcopdfihaheplaa
namespace Go.Proofs.Ytcopdfihaheplaa
open Go.RowKit
attribute [local go_sem] Oper.semAt_some
namespace Rd
open Dt Lx
def DatumIs (P tb C : Nat) (xs : List PTok) (f : Nat) : Prop := ∀ (ts : List PTok) (w : World), ts ≠ [] → Src w tb xs → St w P tb C xs ts 0 0 → pd f ts ≠ .out → Calls Try.prog 28 #[.pointer (some ⟨P, 0, none⟩)] w (Out P tb C xs w (pd f ts))
def VInv (a : Nat) (R : Res) (f : Nat) (acc : List D) (ts : List PTok) (at_ er : Int) : Prop := (er = 0 ∧ at_ = 0 ∧ pv f a acc ts = R ∧ R ≠ .out ∧ (∃ q, f = q + 1) ∧ acc.length + ts.length ≤ 4096) ∨ (er ≠ 0 ∧ ∃ (b : Nat), at_ = (b : Int) ∧ R = .bad b er)
end Rd
set_option maxRecDepth 100000 in
set_option maxHeartbeats 16000000 in
theorem vector_any (P tb C : Nat) (xs : List Lx.PTok) (hG : Rd.G P tb C xs) (F : Nat) (hD : ∀ g, g < F → Rd.DatumIs P tb C xs g) (t : Lx.PTok) (r : List Lx.PTok) (w : World) (hSrc : Rd.Src w tb xs) (hSt : Rd.St w P tb C xs r 0 0) (hR : Rd.pv F t.at_ [] r ≠ .out) :
  Calls Try.prog 43 #[.pointer (some ⟨P, 0, none⟩), Rd.tokV t] w (Rd.Out P tb C xs w (Rd.pv F t.at_ [] r)) := by
 unfold Rd.tokV
 obtain ⟨tk, htk⟩ : ∃ tk, t.t.k = tk := ⟨_, rfl⟩
 obtain ⟨tn, htn⟩ : ∃ tn, t.t.n = tn := ⟨_, rfl⟩
 obtain ⟨ts, hts⟩ : ∃ ts : ByteArray, ⟨t.t.s.toArray⟩ = ts := ⟨_, rfl⟩
 obtain ⟨ta, hta⟩ : ∃ ta : Nat, t.at_ = ta := ⟨_, rfl⟩
 obtain ⟨tz, hto⟩ : ∃ tz : Int, (t.to : Int) = tz := ⟨_, rfl⟩
 rw [hta] at hR ⊢
 rw [htk, htn, hts, hto]
 clear htk htn hts hta hto
 obtain ⟨RR, hRR⟩ : ∃ RR, Rd.pv F ta [] r = RR := ⟨_, rfl⟩
 have hV0 : Rd.VInv ta RR F [] r 0 0 := .inl ⟨rfl, rfl, hRR, hRR ▸ hR, by
  cases F with
  | zero => exact absurd (by rw [Rd.pv]) hR
  | succ q => exact ⟨q, rfl⟩, by
   obtain ⟨_, pre, -, hpre, -⟩ := hSt
   have := hG.few
   rw [hpre] at this
   simp at this ⊢
   omega⟩
 rw [hRR]
 obtain ⟨w1, hw1⟩ : ∃ w1, w.alloc (.cells #[.int .i64 tk, .int .i64 (ta : Int), .int .i64 tz, .int .i64 tn, .string ts] 47) = w1 := ⟨_, rfl⟩
 obtain ⟨w2, hw2⟩ : ∃ w2, w1.alloc (.cells #[.int .i64 0, .int .i64 0, .string ⟨#[]⟩, .slice none 0 0, .slice none 0 0, .slice none 0 0] 25) = w2 := ⟨_, rfl⟩
 obtain ⟨w3, hw3⟩ : ∃ w3, w2.alloc (.cells #[.int .i64 8, .int .i64 0, .string ⟨#[]⟩, .slice none 0 0, .slice none 0 0, .slice none 0 0] 25) = w3 := ⟨_, rfl⟩
 obtain ⟨hb1, hs1⟩ := new_below hw1
 obtain ⟨hb2, hs2⟩ := new_below hw2
 obtain ⟨hb3, hs3⟩ := new_below hw3
 have hT3 := ((Hp.new hw1).below hb2).below hb3
 have hR3 := (Hp.new hw2).below hb3
 have hD3 := Hp.new hw3
 have hb13 := hb1.trans ((hb2.trans (hb3.mono hb2.size)).mono hb1.size)
 obtain ⟨T, hT⟩ : ∃ T, w.heap.size = T := ⟨_, rfl⟩
 obtain ⟨R, hRb⟩ : ∃ R, w1.heap.size = R := ⟨_, rfl⟩
 obtain ⟨D, hDb⟩ : ∃ D, w2.heap.size = D := ⟨_, rfl⟩
 rw [hT] at hT3 hs1
 rw [hRb] at hR3 hs1 hs2
 rw [hDb] at hD3 hs2 hs3
 have hPl := hSt.lt
 rw [hT] at hPl
 have HN : Hid (P < T ∧ R = T + 1 ∧ D = T + 2 ∧ w3.heap.size = T + 3 ∧ w.heap.size = T) := ⟨hPl, hs1, by omega, by omega, hT⟩
 have HT3 := Lib.hid hT3
 have HR3 := Lib.hid hR3
 have HD3 := Lib.hid hD3
 have HK3 : Hid (Keep (fun k => k = P) w w3) := keep_of_below hb13
 have HST3 := Lib.hid (hSt.below hb13)
 have HSRC := Lib.hid hSrc
 have HG := Lib.hid hG
 have HD := Lib.hid hD
 have HV0 := Lib.hid hV0
 have HROW0 : Hid (Dt.Rowing w3 (D + 1) (.slice none 0 0) [] ∧ ([] : List Dt.P).length = 0) := ⟨Dt.Rowing.nil _ _, rfl⟩
 obtain ⟨i0, hi, hz0, hz1, hz2⟩ := info_parts Dt.infoD
 have HW3 := Lib.hid hw3
 have HI1 := Lib.hid hi
 have HZ0 := Lib.hid hz0
 have HZ1 := Lib.hid hz1
 have HZ2 := Lib.hid hz2
 clear hb1 hb2 hb3 hs1 hs2 hs3 hT3 hR3 hD3 hb13 hSt hSrc hG hD hV0 hRR hR hPl hi hz0 hz1 hz2 hw3
 go_enter Try.func43, Try.ntmps43
 go_wp2
 rw [HW3.out]
 clear hw1 hw2
 go_loopw [7] (fun _ wr => ∃ (k : Nat) (ps : List Dt.P) (al : Option Addr) (cl f : Nat) (us : List Lx.PTok) (at_ er : Int), Hid (Hp wr D #[.int .i64 8, .int .i64 0, .string ⟨#[]⟩, .slice none 0 0, .slice al k cl, .slice none 0 0] 25) ∧ Hid (Dt.Rowing wr (D + 1) (.slice al k cl) ps ∧ ps.length = k) ∧ Hid (Rd.St wr P tb C xs us at_ er) ∧ Hid (Rd.VInv ta RR f (ps.map Dt.P.d) us at_ er ∧ f ≤ F) ∧ Hid (Keep (fun k => k = P) w wr) ∧ Hid (Keep (fun k => k = P ∨ D ≤ k) w3 wr)) (fun _ wr => Rd.meas wr P)
 case atStart => exact ⟨0, [], none, 0, F, r, 0, 0, HD3, HROW0, HST3, ⟨HV0.out, Nat.le_refl _⟩, HK3, Keep.refl _ _⟩
 case round =>
  clear HD3 HROW0 HST3 HV0 HK3
  obtain ⟨k, ps, al, cl, f, us, at_, er, HDB, HRW, HST, HV, HK, HK2⟩ := hrel
  obtain ⟨pa, pre, hP, hpre, hpa⟩ := HST.out
  have hTr := HT3.out.keep HK2.out (by have := HN.out; omega)
  have hRr := HR3.out.keep HK2.out (by have := HN.out; omega)
  have p0 := hP.cell 0 rfl
  have p2 := hP.cell 2 rfl
  have y1 := hTr.cell 1 rfl
  have hmeas := HST.out.meas
  have hgw : D < wr.heap.size := HDB.out.lt
  have HTR := Lib.hid hTr
  have HRR := Lib.hid hRr
  have HFIN : Hid (∀ (wz : World) (rest : List Lx.PTok) (a2 e2 : Int), Keep (fun k => k = P) w wz → Dt.Row (fun k => D + 1 ≤ k) wz (.slice al k cl) (ps.map Dt.P.d) → Rd.St wz P tb C xs rest a2 e2 → Rd.Says RR (Rd.vecD (ps.map Dt.P.d)) rest a2 e2 → Rd.Out P tb C xs w RR (.returned (.agg #[.int .i64 8, .int .i64 0, .string ⟨#[]⟩, .slice none 0 0, .slice al k cl, .slice none 0 0])) (set6 wz R (.int .i64 8) (.int .i64 0) (.string ⟨#[]⟩) (.slice none 0 0) (.slice al k cl) (.slice none 0 0))) := fun wz rest a2 e2 h1 h2 h3 h4 =>
   Rd.Out.fin (x := Rd.vecD (ps.map Dt.P.d)) h1 (by have := HN.out; omega) (by have := HN.out; omega) (Dt.Rep.mono (fun b hb _ => by have := HN.out; omega) _ (Rd.rep_row 8 h2)) (Rd.own_nz HRW.out.1.row) h3 h4
  by_cases he : er = 0
  case neg =>
   have he1 : (er == 0) = false := by simpa using he
   obtain ⟨b, hb1, hb2⟩ : ∃ b : Nat, at_ = (b : Int) ∧ RR = .bad b er := HV.out.1.elim (fun h => absurd h.1 he) (fun h => h.2)
   have HE := Lib.hid (HFIN.out wr us at_ er HK.out (HRW.out.2 ▸ HRW.out.1.to_row) HST.out (.inr ⟨b, er, hb2, hb1, rfl, he⟩))
   have d0 := HDB.out.cell 0 rfl
   have d1 := HDB.out.cell 1 rfl
   have d2 := HDB.out.cell 2 rfl
   have d3 := HDB.out.cell 3 rfl
   have d4 := HDB.out.cell 4 rfl
   have d5 := HDB.out.cell 5 rfl
   have r0 := hRr.cell 0 rfl
   have r1 := hRr.cell 1 rfl
   have r2 := hRr.cell 2 rfl
   have r3 := hRr.cell 3 rfl
   have r4 := hRr.cell 4 rfl
   have r5 := hRr.cell 5 rfl
   have k0 := hRr.frz 0
   have k1 := hRr.frz 1
   have k2 := hRr.frz 2
   have k3 := hRr.frz 3
   have k4 := hRr.frz 4
   have k5 := hRr.frz 5
   clear hP hpre hpa p0 hmeas hTr hRr hb1 hb2 he HV
   go_wp2
   refine bodyPost_ret (v := .agg #[.int .i64 8, .int .i64 0, .string ⟨#[]⟩, .slice none 0 0, .slice al k cl, .slice none 0 0]) (by simp [results, Try.results43, go_sem, *]) rfl ?_
   exact HE.out
  subst he
  obtain ⟨-, rfl, hpv, hro, ⟨q, rfl⟩, hkn⟩ : (0 : Int) = 0 ∧ at_ = 0 ∧ Rd.pv f ta (ps.map Dt.P.d) us = RR ∧ RR ≠ .out ∧ (∃ q, f = q + 1) ∧ (ps.map Dt.P.d).length + us.length ≤ 4096 := HV.out.1.elim id (fun h => absurd rfl h.1)
  have hfF := HV.out.2
  cases us with
  | nil =>
   rw [Rd.pv] at hpv
   have hf := fail_any P tb C xs [] (ta : Int) 41 wr HST.out
   rw [List.length_nil] at p0
   have HPV := Lib.hid hpv
   clear hP hpre hpa hmeas hTr hRr hpv hro HV hkn
   go_wp2_with fail
   refine hf.mono ?_
   rintro e w4 ⟨rfl, hst4, hk4⟩
   unfold Rd.zeroD
   have hR4 := HRR.out.keep hk4 (by have := HN.out; omega)
   have HE := Lib.hid (Rd.Out.fin (r := RR) (x := .mk 0 0 ⟨#[]⟩ [] [] []) (HK.out.trans hk4) (R := R) (by have := HN.out; omega) (by have := HN.out; omega) (Rd.rep_zero _ _) (.inl rfl) hst4 (.inr ⟨ta, 41, HPV.out.symm, rfl, rfl, by decide⟩))
   have r0 := hR4.cell 0 rfl
   have r1 := hR4.cell 1 rfl
   have r2 := hR4.cell 2 rfl
   have r3 := hR4.cell 3 rfl
   have r4 := hR4.cell 4 rfl
   have r5 := hR4.cell 5 rfl
   have k0 := hR4.frz 0
   have k1 := hR4.frz 1
   have k2 := hR4.frz 2
   have k3 := hR4.frz 3
   have k4 := hR4.frz 4
   have k5 := hR4.frz 5
   clear hf hst4 hk4 hR4 p0 p2 y1
   go_wp2
   refine bodyPost_ret (v := .agg #[.int .i64 0, .int .i64 0, .string ⟨#[]⟩, .slice none 0 0, .slice none 0 0, .slice none 0 0]) (by simp [results, Try.results43, go_sem, *]) rfl ?_
   exact HE.out
  | cons x us =>
   obtain rfl := hpa (by simp)
   have hlen : xs.length = pre.length + (us.length + 1) := by rw [hpre]; simp
   have hpi : pre.length < xs.length := by omega
   have hsrc := HSRC.out.keep HK.out (fun e => HG.out.ne e.symm)
   obtain ⟨x0, -, -, -, -⟩ := hsrc.tok pre.length hpi
   have hxi : xs[pre.length] = x := by simp only [hpre]; simp
   rw [hxi] at x0
   have hulen : us.length ≤ 4096 := by have := HG.out.few; omega
   rw [show (x :: us).length = us.length + 1 from rfl] at p0
   obtain ⟨n, hn⟩ : ∃ n, us.length = n := ⟨_, rfl⟩
   obtain ⟨cc, hcc⟩ : ∃ cc, C - pre.length = cc := ⟨_, rfl⟩
   obtain ⟨qq, hqq⟩ : ∃ qq, pre.length * 5 = qq := ⟨_, rfl⟩
   rw [hn, hcc, hqq] at p0
   rw [hqq] at x0
   have hn0 : (((n : Int) + 1) == 0) = false := by simp; omega
   have hnp : (0 : Int) < (n : Int) + 1 := by omega
   obtain ⟨xk, hxk⟩ : ∃ xk, x.t.k = xk := ⟨_, rfl⟩
   rw [hxk] at x0
   have HLN : Hid (us.length = n) := hn
   rw [Rd.pv, hxk] at hpv
   by_cases h2 : xk = 2
   ·have h2' : (xk == 2) = true := by simpa using h2
    rw [if_pos h2] at hpv
    have hnx := next_yes P tb C xs x us 0 0 wr hsrc HST.out HG.out.cap HG.out.few HG.out.C2
    have HPV := Lib.hid hpv
    clear hP hpre hpa hmeas hTr hRr hpv hro HV hkn hlen hpi hxi hulen hn hcc hqq hxk h2 hsrc
    go_wp2_with fail
    refine hnx.mono ?_
    rintro e w4 ⟨rfl, hst4, hk4⟩
    have hR4 := HRR.out.keep hk4 (by have := HN.out; omega)
    have hD4 := HDB.out.keep hk4 (by have := HN.out; omega)
    have hrow4 := HRW.out.1.keep hk4 (fun j hj _ e => by have := HN.out; omega)
    have HE := Lib.hid (HFIN.out w4 us 0 0 (HK.out.trans hk4) hrow4.to_row hst4 (.inl ⟨HPV.out.symm, rfl, rfl⟩))
    have d0 := hD4.cell 0 rfl
    have d1 := hD4.cell 1 rfl
    have d2 := hD4.cell 2 rfl
    have d3 := hD4.cell 3 rfl
    have d4 := hD4.cell 4 rfl
    have d5 := hD4.cell 5 rfl
    have r0 := hR4.cell 0 rfl
    have r1 := hR4.cell 1 rfl
    have r2 := hR4.cell 2 rfl
    have r3 := hR4.cell 3 rfl
    have r4 := hR4.cell 4 rfl
    have r5 := hR4.cell 5 rfl
    have k0 := hR4.frz 0
    have k1 := hR4.frz 1
    have k2 := hR4.frz 2
    have k3 := hR4.frz 3
    have k4 := hR4.frz 4
    have k5 := hR4.frz 5
    clear hnx hst4 hk4 hR4 hD4 hrow4 p0 p2 y1 x0
    go_wp2
    refine bodyPost_ret (v := .agg #[.int .i64 8, .int .i64 0, .string ⟨#[]⟩, .slice none 0 0, .slice al k cl, .slice none 0 0]) (by simp [results, Try.results43, go_sem, *]) rfl ?_
    exact HE.out
   ·have h2' : (xk == 2) = false := by simpa using h2
    rw [if_neg h2] at hpv
    have hdo : Rd.pd q (x :: us) ≠ .out := fun e => by rw [e] at hpv; exact hro hpv.symm
    have hrl := (Rd.res_len q).1 (x :: us) us.length (by simp)
    have hcall := HD.out q (by omega) (x :: us) wr.drew (by simp) (hsrc.below ((Below.refl _ wr).drew)) (HST.out.below ((Below.refl _ wr).drew)) hdo
    have hnext : ∀ (y : Dt.D) (rest : List Lx.PTok) (a2 e2 : Int), Rd.Says (Rd.pd q (x :: us)) y rest a2 e2 → Rd.VInv ta RR q (ps.map Dt.P.d ++ [y]) rest a2 e2 ∧ (if e2 = 0 then rest.length + 1 else 0) < n + 2 := by
     intro y rest a2 e2 hs
     rcases hs with ⟨e, rfl, rfl⟩ | ⟨b, c, e, rfl, rfl, hc0⟩
     ·rw [e] at hpv hrl
      have hl : rest.length ≤ us.length := hrl
      refine ⟨.inl ⟨rfl, rfl, hpv, hro, ?_, by simp only [List.length_append, List.length_cons, List.length_nil] at hkn ⊢; omega⟩, by rw [if_pos rfl]; omega⟩
      cases q with
      | zero => simp only [Rd.pv] at hpv; exact absurd hpv.symm hro
      | succ q => exact ⟨q, rfl⟩
     ·rw [e] at hpv
      exact ⟨.inr ⟨hc0, b, rfl, hpv.symm⟩, by rw [if_neg hc0]; omega⟩
    obtain ⟨RES, hRES⟩ : ∃ RES, Rd.pd q (x :: us) = RES := ⟨_, rfl⟩
    rw [hRES] at hcall hnext
    have HCL := Lib.hid hcall
    have hkl : k ≤ 4096 := by have := HRW.out.2; simp only [List.length_map, List.length_cons] at hkn; omega
    have c4 := HDB.out.cell 4 rfl
    have HDALL : Hid (∀ W, Keep (fun j => j = P) wr W → W.cell? ⟨D, 4, none⟩ = some (.slice al k cl) ∧ D + 1 ≤ W.heap.size ∧ W.ownsRow (D + 1) 25 6 (.slice al k cl) k (Dt.flatP ps)) := fun W hW =>
     ⟨(HDB.out.keep hW (by have := HN.out; omega)).cell 4 rfl, by have := (HDB.out.keep hW (by have := HN.out; omega)).lt; omega, by
      have h := (HRW.out.1.keep hW (fun j hj _ e => by have := HN.out; omega)).row
      rw [HRW.out.2] at h
      exact h⟩
    have HPUSH : Hid (∀ (w2 wD w5 : World) (y : Dt.D) (b1 b2 b3 : Option Addr) (m1 m2 m3 p1 p2 p3 : Nat) (v' : Value) (rest : List Lx.PTok) (a2 e2 : Int), Keep (fun j => j = P) wr w2 → Dt.Rep (fun j => wr.heap.size ≤ j) w2 y (.slice b1 m1 p1) (.slice b2 m2 p2) (.slice b3 m3 p3) → Rd.St w2 P tb C xs rest a2 e2 → Rd.Says RES y rest a2 e2 → Below w2.heap.size w2 wD →
      w5.ownsRow (D + 1) 25 6 v' (k + 1) (Dt.flatP ps ++ [.int .i64 y.k, .int .i64 y.n, .string y.s, .slice b1 m1 p1, .slice b2 m2 p2, .slice b3 m3 p3]) → wD.grownBy w5 (Value.slice al k cl).ownBlock → (v'.ownBlock = (Value.slice al k cl).ownBlock ∨ v'.ownBlock = some wD.heap.size) →
      w5.cell? ⟨D, 4, none⟩ = some (.slice al k cl) ∧ w5.frozen? ⟨D, 4, none⟩ = false ∧ Hid (Hp (w5.setCell ⟨D, 4, none⟩ v') D #[.int .i64 8, .int .i64 0, .string ⟨#[]⟩, .slice none 0 0, v', .slice none 0 0] 25 ∧ (Dt.Rowing (w5.setCell ⟨D, 4, none⟩ v') (D + 1) v' (ps ++ [Dt.P.mk y (.slice b1 m1 p1) (.slice b2 m2 p2) (.slice b3 m3 p3)]) ∧ (ps ++ [Dt.P.mk y (.slice b1 m1 p1) (.slice b2 m2 p2) (.slice b3 m3 p3)]).length = k + 1) ∧ Rd.St (w5.setCell ⟨D, 4, none⟩ v') P tb C xs rest a2 e2 ∧ (Rd.VInv ta RR q ((ps ++ [Dt.P.mk y (.slice b1 m1 p1) (.slice b2 m2 p2) (.slice b3 m3 p3)]).map Dt.P.d) rest a2 e2 ∧ q ≤ F) ∧ Keep (fun j => j = P) w (w5.setCell ⟨D, 4, none⟩ v') ∧ Keep (fun j => j = P ∨ D ≤ j) w3 (w5.setCell ⟨D, 4, none⟩ v') ∧ Rd.meas (w5.setCell ⟨D, 4, none⟩ v') P < Rd.meas wr P)) := by
     intro w2 wD w5 y b1 b2 b3 m1 m2 m3 p1 p2 p3 v' rest a2 e2 hk2 hr2 hst2 hs2 hbD hown hgr hat
     have hN := HN.out
     have hlp := HRW.out.2
     have hown2 : w5.ownsRow (D + 1) 25 6 v' (ps.length + 1) (Dt.flatP ps ++ (Dt.P.mk y (.slice b1 m1 p1) (.slice b2 m2 p2) (.slice b3 m3 p3)).cells) := by rw [hlp]; exact hown
     obtain ⟨g1, g2⟩ := Rd.pushK HRW.out.1 (by have := HDB.out.lt; omega) hk2 (fun j hj e => by omega) hr2 hbD hown2 hgr hat
     have hvb : ∀ j, (Value.slice al k cl).ownBlock = some j → D + 1 ≤ j ∧ j < wr.heap.size := fun j e => Dt.own_lt HRW.out.1.row j e
     have hD5 := HDB.out.keep g2 (fun e => e.elim (fun e => by omega) (fun e => by have := hvb D e; omega))
     have hk6 : Keep (fun j => j = D) w5 (w5.setCell ⟨D, 4, none⟩ v') := set_keep _ _ _ _
     have hst5 : Rd.St (w5.setCell ⟨D, 4, none⟩ v') P tb C xs rest a2 e2 := by
      refine ((hst2.below hbD).keep (Dt.Cd_keep_grown hgr) (fun e => by have := hvb P e; omega)).keep hk6 (by omega)
     have hkw : Keep (fun j => j = P ∨ D ≤ j) wr (w5.setCell ⟨D, 4, none⟩ v') := (g2.le (fun j e => e.elim .inl (fun e => .inr (by have := hvb j e; omega)))).trans (hk6.le (fun j e => .inr (by omega)))
     obtain ⟨n1, n2⟩ := hnext y rest a2 e2 hs2
     refine ⟨hD5.cell 4 rfl, hD5.frz 4, hD5.set 4 _, ⟨g1.keep hk6 (fun j hj _ e => by omega), by rw [List.length_append, hlp]; rfl⟩, hst5, ⟨by rw [List.map_append]; exact n1, by omega⟩, ?_, HK2.out.trans hkw, ?_⟩
     ·exact (((HK.out.le (T := fun j => j = P ∨ D ≤ j) (fun j e => .inl e)).trans hkw)).mono (fun j hj e => by omega)
     ·rw [hst5.meas, HST.out.meas, if_pos rfl]
      simp only [List.length_cons]
      omega
    have hm1 : k + 1 ≤ maxLen := by unfold maxLen; omega
    have hm2 : (k + 1) * 104 ≤ 140737488355328 := by omega
    have HBD : Hid (Keep (fun j => j = P) wr wr.drew) := (Keep.refl _ wr).drew 1
    obtain ⟨-, HB0, -⟩ := HDALL.out wr (Keep.refl _ _)
    clear hP hpre hpa hmeas hTr hRr hpv hro HV hkn hlen hpi hxi hulen hn hcc hqq hxk h2 hsrc hdo hrl hcall hnext hRES HRW HST HK HK2 HDB HFIN HTR HRR hkl
    go_upto_region 7 with fail
    clear p0 p2 y1 x0
    go_region_law (first | (refine Ap.step rfl (.tmp 34) (.tmp 37) 23 (by kernel_rfl) (D + 1) 25 i0 (.agg #[.int .i64 0, .int .i64 0, .string ⟨#[]⟩, .slice none 0 0, .slice none 0 0, .slice none 0 0]) 6 104 Try.underlying23 HI1.out HZ0.out HZ1.out HZ2.out rfl (by decide) (.slice al k cl) k (Dt.flatP ps) (by kernel_rfl) HOWND.out (.slice (some ⟨w2.heap.size, 0, none⟩) 1 1) 1 [.int .i64 y.k, .int .i64 y.n, .string y.s, .slice b1 m1 p1, .slice b2 m2 p2, .slice b3 m3 p3] (by kernel_rfl) HSRD.out rfl (by simp [Value.oneCell']) hm1 hm2 HBS.out ?_; intro v' w5 hown hgrow hat; obtain ⟨a5, c5, rfl⟩ := Dt.row_form hown; obtain ⟨d1, f1, HFN⟩ := HPUSH.out w2 wD w5 y b1 b2 b3 m1 m2 m3 p1 p2 p3 _ rest a2 e2 HKW.out HR2W.out HSTW.out HSAY.out HBWD.out hown hgrow hat; clear hown hgrow hat) | (go_simp; refine HCL.out.mono ?_; rintro e w2 ⟨y, vm, vl, vt, rest, a2, e2, rfl, hr2, -, hst2, hk2, hsay⟩; obtain ⟨b1, m1, p1, b2, m2, p2, b3, m3, p3, rfl, rfl, rfl⟩ := hr2.forms; have HKW : Hid (Keep (fun j => j = P) wr w2) := HBD.out.trans hk2; have HR2W : Hid (Dt.Rep (fun k => wr.heap.size ≤ k) w2 y (.slice b1 m1 p1) (.slice b2 m2 p2) (.slice b3 m3 p3)) := hr2; have HSTW := Lib.hid hst2; have HSAY := Lib.hid hsay; obtain ⟨wD, hwD⟩ : ∃ wD, w2.alloc (.cells #[.int .i64 y.k, .int .i64 y.n, .string y.s, .slice b1 m1 p1, .slice b2 m2 p2, .slice b3 m3 p3] 25) = wD := ⟨_, rfl⟩; have HBWD : Hid (Below w2.heap.size w2 wD) := (new_below hwD).1; have HSRD : Hid (Ap.Src wD (.slice (some ⟨w2.heap.size, 0, none⟩) 1 1) 1 [.int .i64 y.k, .int .i64 y.n, .string y.s, .slice b1 m1 p1, .slice b2 m2 p2, .slice b3 m3 p3]) := Rd.srcNew hwD; obtain ⟨e1, -, -⟩ := HDALL.out w2 HKW.out; obtain ⟨e3, hbs, howD⟩ := HDALL.out wD (HKW.out.trans (keep_of_below HBWD.out)); have HBS := Lib.hid hbs; have HOWND := Lib.hid howD; clear hr2 hst2 hk2 hsay hbs howD; dsimp only))
    all_goals
     go_wp2
     go_roundw
     case rel =>
      obtain ⟨h1, h2, h3, h4, h5, h6, h7⟩ := HFN.out
      exact ⟨k + 1, ps ++ [Dt.P.mk y (.slice b1 m1 p1) (.slice b2 m2 p2) (.slice b3 m3 p3)], a5, c5, q, rest, a2, e2, h1, h2, h3, h4, h5, h6⟩
     case measure => exact HFN.out.2.2.2.2.2.2
end Go.Proofs.Ytcopdfihaheplaa
namespace Go.Proofs.Ytcopdfihaheplaa
open Go.RowKit
attribute [local go_sem] Oper.semAt_some
namespace Rd
open Dt Lx
theorem row_one {F : Nat → Prop} {w w1 : World} {y : D} {vm vl vt : Value} (h : w.alloc (.cells #[.int .i64 y.k, .int .i64 y.n, .string y.s, vm, vl, vt] 25) = w1) (hr : Rep F w y vm vl vt) (hF : F w.heap.size) : Row F w1 (.slice (some ⟨w.heap.size, 0, none⟩) 1 1) [y] := by
 have hp := Hp.new h
 refine ⟨_, _, rfl, Nat.le_refl _, fun _ => ⟨_, _, rfl, hF, hp.lt, ?_⟩⟩
 rw [Reps, Reps]
 exact ⟨⟨vm, vl, vt, ⟨hp.cell 0 rfl, hp.cell 1 rfl, hp.cell 2 rfl, hp.cell 3 rfl, hp.cell 4 rfl, hp.cell 5 rfl⟩, hr.below (new_below h).1⟩, trivial⟩
end Rd
set_option maxRecDepth 100000 in
set_option maxHeartbeats 16000000 in
theorem tail_any (P tb C : Nat) (xs : List Lx.PTok) (hG : Rd.G P tb C xs) (F : Nat) (hD : ∀ g, g < F → Rd.DatumIs P tb C xs g) (t : Lx.PTok) (r : List Lx.PTok) (w : World) (base : Nat) (ps : List Dt.P) (al : Option Addr) (k cl : Nat) (hSrc : Rd.Src w tb xs) (hSt : Rd.St w P tb C xs r 0 0)
  (hrow : Dt.Rowing w base (.slice al k cl) ps) (hk : ps.length = k) (hbase : base ≤ w.heap.size) (hPb : P < base) (hkn : k + r.length ≤ 4096) (hR : Rd.pt F t.at_ (ps.map Dt.P.d) r ≠ .out) :
  Calls Try.prog 68 #[.pointer (some ⟨P, 0, none⟩), Rd.tokV t, .agg #[.int .i64 6, .int .i64 0, .string ⟨#[]⟩, .slice none 0 0, .slice al k cl, .slice none 0 0]] w (Rd.OutB base P tb C xs w (Rd.pt F t.at_ (ps.map Dt.P.d) r)) := by
 unfold Rd.tokV
 obtain ⟨tk, htk⟩ : ∃ tk, t.t.k = tk := ⟨_, rfl⟩
 obtain ⟨tn, htn⟩ : ∃ tn, t.t.n = tn := ⟨_, rfl⟩
 obtain ⟨ts, hts⟩ : ∃ ts : ByteArray, ⟨t.t.s.toArray⟩ = ts := ⟨_, rfl⟩
 obtain ⟨ta, hta⟩ : ∃ ta : Nat, t.at_ = ta := ⟨_, rfl⟩
 obtain ⟨tz, hto⟩ : ∃ tz : Int, (t.to : Int) = tz := ⟨_, rfl⟩
 rw [hta] at hR ⊢
 rw [htk, htn, hts, hto]
 clear htk htn hts hta hto
 obtain ⟨RR, hRR⟩ : ∃ RR, Rd.pt F ta (ps.map Dt.P.d) r = RR := ⟨_, rfl⟩
 rw [hRR] at hR ⊢
 obtain ⟨q, rfl⟩ : ∃ q, F = q + 1 := by
  cases F with
  | zero => rw [Rd.pt] at hRR; exact absurd hRR.symm hR
  | succ q => exact ⟨q, rfl⟩
 obtain ⟨w1, hw1⟩ : ∃ w1, w.alloc (.cells #[.int .i64 tk, .int .i64 (ta : Int), .int .i64 tz, .int .i64 tn, .string ts] 47) = w1 := ⟨_, rfl⟩
 obtain ⟨w2, hw2⟩ : ∃ w2, w1.alloc (.cells #[.int .i64 6, .int .i64 0, .string ⟨#[]⟩, .slice none 0 0, .slice al k cl, .slice none 0 0] 25) = w2 := ⟨_, rfl⟩
 obtain ⟨w3, hw3⟩ : ∃ w3, w2.alloc (.cells #[.int .i64 0, .int .i64 0, .string ⟨#[]⟩, .slice none 0 0, .slice none 0 0, .slice none 0 0] 25) = w3 := ⟨_, rfl⟩
 obtain ⟨hb1, hs1⟩ := new_below hw1
 obtain ⟨hb2, hs2⟩ := new_below hw2
 obtain ⟨hb3, hs3⟩ := new_below hw3
 have hT3 := ((Hp.new hw1).below hb2).below hb3
 have hD3 := (Hp.new hw2).below hb3
 have hR3 := Hp.new hw3
 have hb13 := hb1.trans ((hb2.trans (hb3.mono hb2.size)).mono hb1.size)
 obtain ⟨T, hT⟩ : ∃ T, w.heap.size = T := ⟨_, rfl⟩
 obtain ⟨D, hDb⟩ : ∃ D, w1.heap.size = D := ⟨_, rfl⟩
 obtain ⟨R, hRb⟩ : ∃ R, w2.heap.size = R := ⟨_, rfl⟩
 rw [hT] at hT3 hs1
 rw [hDb] at hD3 hs1 hs2
 rw [hRb] at hR3 hs2 hs3
 have HN : Hid (P < base ∧ base ≤ T ∧ D = T + 1 ∧ R = T + 2 ∧ w3.heap.size = T + 3 ∧ w.heap.size = T) := ⟨hPb, hT ▸ hbase, hs1, by omega, by omega, hT⟩
 have hst3 := hSt.below hb13
 have hsrc3 := hSrc.below hb13
 have hrow3 := hrow.below hb13
 have hrl3 : Dt.Row (fun j => base ≤ j ∧ j < T) w3 (.slice al k cl) (ps.map Dt.P.d) := (Dt.Row.mono hrow.to_row (fun j h1 h2 => ⟨h1, by omega⟩)).below hb13
 have HRL3 := Lib.hid hrl3
 have HLT : Hid (∀ j, (Value.slice al k cl).ownBlock = some j → base ≤ j ∧ j < T) := fun j e => by have := Dt.own_lt hrow.row j e; exact ⟨this.1, by omega⟩
 have HRP3 : Hid (∀ p ∈ ps, Dt.Rep (fun j => base ≤ j ∧ j < T ∧ (Value.slice al k cl).ownBlock ≠ some j) w3 p.d p.vm p.vl p.vt) := fun p hp => Dt.Rep.below hb13 (Dt.Rep.mono (fun b hb hl => ⟨hb.1, by omega, hb.2⟩) p.d (hrow.rep p hp))
 have HT3 := Lib.hid hT3
 have HR3 := Lib.hid hR3
 have HD3 := Lib.hid hD3
 have HK3 : Hid (Keep (fun j => j = P ∨ base ≤ j) w w3) := keep_of_below hb13
 have HST3 := Lib.hid hst3
 have HSRC := Lib.hid hsrc3
 have HROW := Lib.hid hrow3
 have HG := Lib.hid hG
 have HD := Lib.hid hD
 have HKL := Lib.hid hk
 have HKN := Lib.hid hkn
 obtain ⟨i0, hi, hz0, hz1, hz2⟩ := info_parts Dt.infoD
 have HI1 := Lib.hid hi
 have HZ0 := Lib.hid hz0
 have HZ1 := Lib.hid hz1
 have HZ2 := Lib.hid hz2
 have HW3 := Lib.hid hw3
 obtain ⟨pa, pre, hP, hpre, hpa⟩ := hst3
 have p0 := hP.cell 0 rfl
 clear hb1 hb2 hb3 hs1 hs2 hs3 hb13 hSt hSrc hG hD hi hz0 hz1 hz2 hrow hk hbase hPb hkn hsrc3 hrow3 hrl3
 cases r with
 | nil =>
  rw [Rd.pt] at hRR
  have HRR := Lib.hid hRR
  have hf := fail_any P tb C xs [] (ta : Int) 41 w3 HST3.out
  have y1 := hT3.cell 1 rfl
  rw [List.length_nil] at p0
  clear hT3 hD3 hR3 hP hpre hpa hRR hR
  go_enter Try.func68, Try.ntmps68
  go_wp2_with fail
  refine hf.mono ?_
  rintro e w4 ⟨rfl, hst4, hk4⟩
  unfold Rd.zeroD
  have hR4 := HR3.out.keep hk4 (by have := HN.out; omega)
  have HE := Lib.hid (Rd.OutB.fin (b := base) (r := RR) (x := .mk 0 0 ⟨#[]⟩ [] [] []) (HK3.out.trans (hk4.le (fun j e => .inl e))) (R := R) (by have := HN.out; omega) (by have := HN.out; omega) (Rd.rep_zero _ _) (.inl rfl) hst4 (.inr ⟨ta, 41, HRR.out.symm, rfl, rfl, by decide⟩))
  have r0 := hR4.cell 0 rfl
  have r1 := hR4.cell 1 rfl
  have r2 := hR4.cell 2 rfl
  have r3 := hR4.cell 3 rfl
  have r4 := hR4.cell 4 rfl
  have r5 := hR4.cell 5 rfl
  have k0 := hR4.frz 0
  have k1 := hR4.frz 1
  have k2 := hR4.frz 2
  have k3 := hR4.frz 3
  have k4 := hR4.frz 4
  have k5 := hR4.frz 5
  clear hf hst4 hk4 hR4 p0 y1 hw1 hw2 hw3
  go_wp2
  refine bodyPost_ret (v := .agg #[.int .i64 0, .int .i64 0, .string ⟨#[]⟩, .slice none 0 0, .slice none 0 0, .slice none 0 0]) (by simp [results, Try.results68, go_sem, *]) rfl ?_
  exact HE.out
 | cons x us =>
  have hlen : xs.length = pre.length + (us.length + 1) := by rw [hpre]; simp
  rw [Rd.pt] at hRR
  have hdo : Rd.pd q (x :: us) ≠ .out := fun e => by rw [e] at hRR; exact hR hRR.symm
  have hrl := (Rd.res_len q).1 (x :: us) us.length (by simp)
  have hmany := (Rd.res_many q).1 (x :: us)
  have hcall := HD.out q (by omega) (x :: us) w3 (by simp) HSRC.out HST3.out hdo
  have hn0 : ((((x :: us).length : Nat) : Int) == 0) = false := by simp; omega
  rw [show (x :: us).length = us.length + 1 from rfl] at p0 hn0
  obtain ⟨n, hn⟩ : ∃ n, us.length = n := ⟨_, rfl⟩
  rw [hn] at p0 hn0
  have hn0' : (((n : Int) + 1) == 0) = false := by simp; omega
  have HUL : Hid (us.length = n ∧ n ≤ 4096) := ⟨hn, by have := HG.out.few; omega⟩
  clear hT3 hD3 hR3 hP hpre hpa hlen hn0 hn
  go_enter Try.func68, Try.ntmps68
  go_wp2_with fail
  refine hcall.mono ?_
  rintro e w4 ⟨y, vm, vl, vt, rest, a2, e2, rfl, hr4, hz4, hst4, hk4, hsays⟩
  obtain ⟨b1, m1, p1, b2, m2, p2, b3, m3, p3, rfl, rfl, rfl⟩ := hr4.forms
  clear hcall p0 hw1 hw2 hw3
  have hT4 := HT3.out.keep hk4 (by have := HN.out; omega)
  have hD4 := HD3.out.keep hk4 (by have := HN.out; omega)
  have hR4 := HR3.out.keep hk4 (by have := HN.out; omega)
  have hrow4 := HROW.out.keep hk4 (fun j hj _ e => by have := HN.out; omega)
  have hsrc4 := HSRC.out.keep hk4 (fun e => HG.out.ne e.symm)
  obtain ⟨w5, hw5⟩ : ∃ w5, w4.alloc (.cells #[.int .i64 y.k, .int .i64 y.n, .string y.s, .slice b1 m1 p1, .slice b2 m2 p2, .slice b3 m3 p3] 25) = w5 := ⟨_, rfl⟩
  obtain ⟨hb5, hs5⟩ := new_below hw5
  have hX5 := Hp.new hw5
  have hT5 := hT4.below hb5
  have hD5 := hD4.below hb5
  have hR5 := hR4.below hb5
  have hrow5 := hrow4.below hb5
  have hst5 := hst4.below hb5
  have hsrc5 := hsrc4.below hb5
  have hry5 : Dt.Rep (fun j => T + 3 ≤ j) w5 y (.slice b1 m1 p1) (.slice b2 m2 p2) (.slice b3 m3 p3) := Dt.Rep.mono (fun b hb _ => by have := HN.out; omega) y (hr4.below hb5)
  have HK5 : Hid (Keep (fun j => j = P ∨ base ≤ j) w w5) := (HK3.out.trans (hk4.le (fun j e => .inl e))).trans (keep_of_below hb5)
  obtain ⟨X, hX⟩ : ∃ X, w4.heap.size = X := ⟨_, rfl⟩
  rw [hX] at hX5 hs5
  have HP35 : Hid (Keep (fun j => j = P) w3 w5) := hk4.trans (keep_of_below hb5)
  have HNX : Hid (T + 3 ≤ X ∧ w5.heap.size = X + 1) := ⟨by have h1 := HN.out; have h2 := hk4.size; omega, hs5⟩
  have hrl5 := (HRL3.out.keep hk4 (fun j hj _ e => by have := HN.out; omega)).below hb5
  have HRL5 := Lib.hid hrl5
  have HX5 := Lib.hid hX5
  have HT5 := Lib.hid hT5
  have HD5 := Lib.hid hD5
  have HR5 := Lib.hid hR5
  have HROW5 := Lib.hid hrow5
  have HST5 := Lib.hid hst5
  have HSRC5 := Lib.hid hsrc5
  have HRY5 := Lib.hid hry5
  have HZ4 := Lib.hid hz4
  obtain ⟨pa5, pre5, hP5, hpre5, hpa5⟩ := hst5
  have p2' := hP5.cell 2 rfl
  have p0 := hP5.cell 0 rfl
  have y1 := hT5.cell 1 rfl
  clear hT4 hD4 hR4 hrow4 hsrc4 hst4 hb5 hs5 hk4 hr4 hz4
  rcases hsays with ⟨hpd, rfl, rfl⟩ | ⟨b, c, hpd, rfl, rfl, hc0⟩
  case inr =>
   rw [hpd] at hRR
   have he1 : (e2 != 0) = true := by simpa using hc0
   have HE := Lib.hid (Rd.OutB.fin (b := base) (r := RR) (x := Rd.listD (ps.map Dt.P.d)) HK5.out (R := R) (by have := HN.out; omega) (by have := HN.out; omega) (Rd.rep_row 6 (Dt.Row.mono HRL5.out (fun j hj _ => by have := HN.out; omega))) (Rd.own_nz hrow5.row) HST5.out (.inr ⟨b, e2, hRR.symm, rfl, rfl, hc0⟩))
   have d0 := hD5.cell 0 rfl
   have d1 := hD5.cell 1 rfl
   have d2 := hD5.cell 2 rfl
   have d3 := hD5.cell 3 rfl
   have d4 := hD5.cell 4 rfl
   have d5 := hD5.cell 5 rfl
   have r0 := hR5.cell 0 rfl
   have r1 := hR5.cell 1 rfl
   have r2 := hR5.cell 2 rfl
   have r3 := hR5.cell 3 rfl
   have r4 := hR5.cell 4 rfl
   have r5 := hR5.cell 5 rfl
   have k0 := hR5.frz 0
   have k1 := hR5.frz 1
   have k2 := hR5.frz 2
   have k3 := hR5.frz 3
   have k4 := hR5.frz 4
   have k5 := hR5.frz 5
   clear hT5 hD5 hR5 hrow5 hsrc5 hry5 hrl5 hX5 hP5 hpre5 hpa5 hRR hR hdo hrl hpd hc0 hmany
   go_wp2
   refine bodyPost_ret (v := .agg #[.int .i64 6, .int .i64 0, .string ⟨#[]⟩, .slice none 0 0, .slice al k cl, .slice none 0 0]) (by simp [results, Try.results68, go_sem, *]) rfl ?_
   exact HE.out
  case inl =>
   rw [hpd] at hRR hrl hmany
   have hml : y.l.length ≤ 4097 := by have h1 : y.l.length + rest.length ≤ us.length + 1 := hmany; have h2 := HUL.out; omega
   clear hmany
   have hrl2 : rest.length ≤ us.length := hrl
   have he1 : ((0 : Int) != 0) = false := rfl
   cases rest with
   | nil =>
    have hnx := next_no P tb C xs 0 0 w5 HST5.out
    have HRR := Lib.hid hRR
    clear hT5 hD5 hR5 hrow5 hsrc5 hry5 hrl5 hX5 hP5 hpre5 hpa5 hRR hR hdo hrl hrl2 hpd
    go_wp2_with fail
    refine hnx.mono ?_
    rintro e w6 ⟨rfl, hst6, hk6⟩
    unfold Rd.noTok
    clear hw5 p0 p2'
    go_upto_region 7 with fail
    obtain ⟨w7, hw7⟩ : ∃ w7, w6.alloc (.cells #[.int .i64 0, .int .i64 0, .int .i64 0, .int .i64 0, .string ⟨#[]⟩] 47) = w7 := ⟨_, rfl⟩
    rw [hw7]
    obtain ⟨hb7, hs7⟩ := new_below hw7
    have hf := fail_any P tb C xs [] (ta : Int) 41 w7 (hst6.below hb7)
    have hT7 := (HT5.out.keep hk6 (by have := HN.out; omega)).below hb7
    have hR7 := (HR5.out.keep hk6 (by have := HN.out; omega)).below hb7
    have y1 := hT7.cell 1 rfl
    have HR7 := Lib.hid hR7
    have HK7 : Hid (Keep (fun j => j = P ∨ base ≤ j) w w7) := (HK5.out.trans (hk6.le (fun j e => .inl e))).trans (keep_of_below hb7)
    clear hnx hst6 hk6 hb7 hs7 hT7 hR7 hw7
    go_wp2_with fail
    refine hf.mono ?_
    rintro e w8 ⟨rfl, hst8, hk8⟩
    unfold Rd.zeroD
    have hR8 := HR7.out.keep hk8 (by have := HN.out; omega)
    have HE := Lib.hid (Rd.OutB.fin (b := base) (r := RR) (x := .mk 0 0 ⟨#[]⟩ [] [] []) (HK7.out.trans (hk8.le (fun j e => .inl e))) (R := R) (by have := HN.out; omega) (by have := HN.out; omega) (Rd.rep_zero _ _) (.inl rfl) hst8 (.inr ⟨ta, 41, HRR.out.symm, rfl, rfl, by decide⟩))
    have r0 := hR8.cell 0 rfl
    have r1 := hR8.cell 1 rfl
    have r2 := hR8.cell 2 rfl
    have r3 := hR8.cell 3 rfl
    have r4 := hR8.cell 4 rfl
    have r5 := hR8.cell 5 rfl
    have k0 := hR8.frz 0
    have k1 := hR8.frz 1
    have k2 := hR8.frz 2
    have k3 := hR8.frz 3
    have k4 := hR8.frz 4
    have k5 := hR8.frz 5
    clear hf hst8 hk8 hR8 y1
    go_wp2
    refine bodyPost_ret (v := .agg #[.int .i64 0, .int .i64 0, .string ⟨#[]⟩, .slice none 0 0, .slice none 0 0, .slice none 0 0]) (by simp [results, Try.results68, go_sem, *]) rfl ?_
    exact HE.out
   | cons z rest =>
    have hnx := next_yes P tb C xs z rest 0 0 w5 HSRC5.out HST5.out HG.out.cap HG.out.few HG.out.C2
    have HRR := Lib.hid hRR
    have HRN : Hid (rest.length + 1 ≤ n) := by have := HUL.out.1; show _ ≤ _; simp only [List.length_cons] at hrl2; omega
    clear hT5 hD5 hR5 hrow5 hsrc5 hry5 hrl5 hX5 hP5 hpre5 hpa5 hRR hrl hrl2 hpd
    go_wp2_with fail
    refine hnx.mono ?_
    rintro e w6 ⟨rfl, hst6, hk6⟩
    unfold Rd.tokV
    obtain ⟨zk, hzk⟩ : ∃ zk, z.t.k = zk := ⟨_, rfl⟩
    obtain ⟨zn, hzn⟩ : ∃ zn, z.t.n = zn := ⟨_, rfl⟩
    obtain ⟨zs, hzs⟩ : ∃ zs : ByteArray, ⟨z.t.s.toArray⟩ = zs := ⟨_, rfl⟩
    obtain ⟨za, hza⟩ : ∃ za : Nat, z.at_ = za := ⟨_, rfl⟩
    obtain ⟨zz, hzz⟩ : ∃ zz : Int, (z.to : Int) = zz := ⟨_, rfl⟩
    rw [hzk, hzn, hzs, hza, hzz]
    have HZK := Lib.hid hzk
    have HZA := Lib.hid hza
    clear hzn hzs hza hzz hzk
    obtain ⟨w7, hw7⟩ : ∃ w7, w6.alloc (.cells #[.int .i64 zk, .int .i64 (za : Int), .int .i64 zz, .int .i64 zn, .string zs] 47) = w7 := ⟨_, rfl⟩
    obtain ⟨hb7, hs7⟩ := new_below hw7
    have hE7 := Hp.new hw7
    have hst7 := hst6.below hb7
    have hT7 := (HT5.out.keep hk6 (by have := HN.out; omega)).below hb7
    have hD7 := (HD5.out.keep hk6 (by have := HN.out; omega)).below hb7
    have hR7 := (HR5.out.keep hk6 (by have := HN.out; omega)).below hb7
    have hX7 := (HX5.out.keep hk6 (by have := HN.out; have := HNX.out; omega)).below hb7
    have hrow7 := (HROW5.out.keep hk6 (fun j hj _ e => by have := HN.out; omega)).below hb7
    have hry7 := (Dt.Rep.keep hk6 (fun j hj _ e => by have := HN.out; omega) y HRY5.out).below hb7
    have HR7 := Lib.hid hR7
    have HD7 := Lib.hid hD7
    have HX7 := Lib.hid hX7
    have HROW7 := Lib.hid hrow7
    have HRY7 := Lib.hid hry7
    have HST7 := Lib.hid hst7
    have HK7 : Hid (Keep (fun j => j = P ∨ base ≤ j) w w7) := (HK5.out.trans (hk6.le (fun j e => .inl e))).trans (keep_of_below hb7)
    have HP7 : Hid (Keep (fun j => j = P) w3 w7) := HP35.out.trans (hk6.trans (keep_of_below hb7))
    have HS7 : Hid (X + 1 ≤ w7.heap.size) := by have h1 := HNX.out.2; have h2 := hk6.size; show _ ≤ _; omega
    obtain ⟨E, hEe⟩ : ∃ E, w6.heap.size = E := ⟨_, rfl⟩
    rw [hEe] at hE7
    have z0 := hE7.cell 0 rfl
    have z1 := hE7.cell 1 rfl
    clear hnx hst6 hk6 hb7 hs7 hw5 p0 p2' hE7
    by_cases h2 : zk = 2
    case neg =>
     have h2' : (zk != 2) = true := by simpa using h2
     have hf := fail_any P tb C xs rest (za : Int) 40 w7 HST7.out
     have hRR2 : RR = .bad za 40 := by rw [← HRR.out]; simp only [HZK.out, HZA.out]; rw [if_neg h2]
     have HR2 := Lib.hid hRR2
     clear h2 hRR2 hst7 hT7 hD7 hR7 hX7 hrow7 hry7 hR hdo
     go_wp2_with fail
     refine hf.mono ?_
     rintro e w8 ⟨rfl, hst8, hk8⟩
     unfold Rd.zeroD
     have hR8 := HR7.out.keep hk8 (by have := HN.out; omega)
     have HE := Lib.hid (Rd.OutB.fin (b := base) (r := RR) (x := .mk 0 0 ⟨#[]⟩ [] [] []) (HK7.out.trans (hk8.le (fun j e => .inl e))) (R := R) (by have := HN.out; omega) (by have := HN.out; omega) (Rd.rep_zero _ _) (.inl rfl) hst8 (.inr ⟨za, 40, HR2.out, rfl, rfl, by decide⟩))
     have r0 := hR8.cell 0 rfl
     have r1 := hR8.cell 1 rfl
     have r2 := hR8.cell 2 rfl
     have r3 := hR8.cell 3 rfl
     have r4 := hR8.cell 4 rfl
     have r5 := hR8.cell 5 rfl
     have k0 := hR8.frz 0
     have k1 := hR8.frz 1
     have k2 := hR8.frz 2
     have k3 := hR8.frz 3
     have k4 := hR8.frz 4
     have k5 := hR8.frz 5
     clear hf hst8 hk8 hR8 hw7 z0 z1
     go_wp2
     refine bodyPost_ret (v := .agg #[.int .i64 0, .int .i64 0, .string ⟨#[]⟩, .slice none 0 0, .slice none 0 0, .slice none 0 0]) (by simp [results, Try.results68, go_sem, *]) rfl ?_
     exact HE.out
    case pos =>
     have h2' : (zk != 2) = false := by simpa using h2
     have hRR2 : RR = .ok (Rd.joinD (ps.map Dt.P.d) y) rest := by rw [← HRR.out]; simp only [HZK.out]; rw [if_pos h2]
     have HR2 := Lib.hid hRR2
     have x0 := hX7.cell 0 rfl
     have HXC : Hid (w7.cell? ⟨X, 0, none⟩ = some (.int .i64 y.k) ∧ w7.cell? ⟨X, 4, none⟩ = some (.slice b2 m2 p2) ∧ w7.cell? ⟨X, 5, none⟩ = some (.slice b3 m3 p3) ∧ w7.cell? ⟨D, 4, none⟩ = some (.slice al k cl)) := ⟨hX7.cell 0 rfl, hX7.cell 4 rfl, hX7.cell 5 rfl, hD7.cell 4 rfl⟩
     have HNE : Hid (¬ X = R ∧ ¬ D = R ∧ ¬ P = R ∧ R < w7.heap.size) := by have h1 := HN.out; have h3 := HNX.out; have h4 := HS7.out; exact ⟨by omega, by omega, by omega, by omega⟩
     have HRP7 : Hid (∀ p ∈ ps, Dt.Rep (fun j => base ≤ j ∧ j < T ∧ (Value.slice al k cl).ownBlock ≠ some j) w7 p.d p.vm p.vl p.vt) := fun p hp => Dt.Rep.keep HP7.out (fun j hj _ e => by have := HN.out; omega) p.d (HRP3.out p hp)
     have HRL7 : Hid (Dt.Row (fun j => base ≤ j ∧ j < T) w7 (.slice al k cl) (ps.map Dt.P.d)) := HRL3.out.keep HP7.out (fun j hj _ e => by have := HN.out; omega)
     have HNZ : Hid (Rd.Nz (.slice al k cl)) := Rd.own_nz hrow7.row
     by_cases hj : y.k = 6 ∨ y.k = 7
     case neg =>
      have j6 : (y.k == 6) = false := by simp; omega
      have j7 : (y.k == 7) = false := by simp; omega
      have HJ : Hid (Rd.joinD (ps.map Dt.P.d) y = .mk 7 0 ⟨#[]⟩ [] (ps.map Dt.P.d) [y]) := by show _ = _; unfold Rd.joinD; rw [if_neg hj]
      obtain ⟨w8, hw8⟩ : ∃ w8, w7.alloc (.cells #[.int .i64 y.k, .int .i64 y.n, .string y.s, .slice b1 m1 p1, .slice b2 m2 p2, .slice b3 m3 p3] 25) = w8 := ⟨_, rfl⟩
      obtain ⟨hb8, hs8⟩ := new_below hw8
      have hone := Rd.row_one (F := fun j => base ≤ j ∧ j ≠ R) hw8 (Dt.Rep.mono (fun j hj _ => by have := HN.out; omega) y hry7) (by have := HN.out; have := HNE.out; omega)
      have hrep8 : Dt.Rep (fun j => base ≤ j ∧ j ≠ R) w8 (.mk 7 0 ⟨#[]⟩ [] (ps.map Dt.P.d) [y]) (.slice none 0 0) (.slice al k cl) (.slice (some ⟨w7.heap.size, 0, none⟩) 1 1) :=
       (Dt.rep_iff _ _ _ _ _ _).2 ⟨⟨none, 0, rfl, Nat.le_refl _, fun h => absurd rfl h⟩, (Dt.Row.mono HRL7.out (fun j hj _ => by have := HN.out; omega)).below hb8, hone⟩
      have hR8 := hR7.below hb8
      have d4 := (hD7.cell 4 rfl)
      have x0' := hX7.cell 0 rfl
      have x1 := hX7.cell 1 rfl
      have x2 := hX7.cell 2 rfl
      have x3 := hX7.cell 3 rfl
      have x4 := hX7.cell 4 rfl
      have x5 := hX7.cell 5 rfl
      have HE := Lib.hid (Rd.OutB.fin (b := base) (r := RR) (x := .mk 7 0 ⟨#[]⟩ [] (ps.map Dt.P.d) [y]) (HK7.out.trans (keep_of_below hb8)) (R := R) (by have := HN.out; omega) (by have := HN.out; omega) hrep8 HNZ.out (HST7.out.below hb8) (.inl ⟨by rw [HR2.out, HJ.out], rfl, rfl⟩))
      have r0 := hR8.cell 0 rfl
      have r1 := hR8.cell 1 rfl
      have r2 := hR8.cell 2 rfl
      have r3 := hR8.cell 3 rfl
      have r4 := hR8.cell 4 rfl
      have r5 := hR8.cell 5 rfl
      have k0 := hR8.frz 0
      have k1 := hR8.frz 1
      have k2 := hR8.frz 2
      have k3 := hR8.frz 3
      have k4 := hR8.frz 4
      have k5 := hR8.frz 5
      clear hb8 hs8 hone hrep8 hR8 hRR2 hj h2 hst7 hT7 hD7 hR7 hX7 hrow7 hry7 hR hdo
      go_wp2
      refine bodyPost_ret (v := .agg #[.int .i64 7, .int .i64 0, .string ⟨#[]⟩, .slice none 0 0, .slice al k cl, .slice (some ⟨w7.heap.size, 0, none⟩) 1 1]) (by simp [results, Try.results68, go_sem, *]) rfl ?_
      exact HE.out
     case pos =>
      have HJ : Hid (Rd.joinD (ps.map Dt.P.d) y = .mk y.k 0 ⟨#[]⟩ [] (ps.map Dt.P.d ++ y.l) y.t) := by show _ = _; unfold Rd.joinD; rw [if_pos hj]
      obtain ⟨-, hrowl, hrowt⟩ := (Dt.rep_iff _ _ _ _ _ _).1 hry7
      have hm2l : m2 = y.l.length := by obtain ⟨a', c', e, -⟩ := hrowl; cases e; rfl
      obtain ⟨qs, hqd, hqs, hqr⟩ := Rd.row_parts hrowl HZ4.out
      have hql : qs.length = m2 := by rw [hm2l, ← hqd, List.length_map]
      have hN := HN.out
      have hNX := HNX.out
      have hNE := HNE.out
      have HOWN7 : Hid (w7.drew.ownsRow base 25 6 (.slice al k cl) k (Dt.flatP ps)) := by
       have h := hrow7.row
       rw [HKL.out] at h
       exact h
      have HSR : Hid (Ap.Src w7.drew (.slice b2 m2 p2) m2 (Dt.flatP qs)) := hqs
      have HLQ : Hid ((Dt.flatP qs).length = m2 * 6) := by
       show _ = _
       rw [← hql]
       exact Rd.flatP_len qs
      have HONE : Hid (∀ u ∈ Dt.flatP qs, u.oneCell' = true) := Rd.flatP_one qs (fun p hp => (hqr p hp).forms)
      have hm1 : k + m2 ≤ maxLen := by unfold maxLen; have := HKN.out; omega
      have hm3 : (k + m2) * 104 ≤ 140737488355328 := by have := HKN.out; omega
      have HBS : Hid (base ≤ w7.drew.heap.size) := by show base ≤ w7.heap.size; omega
      have HTS : Hid (w7.drew.cell? ⟨X, 0, none⟩ = some (.int .i64 y.k) ∧ w7.drew.cell? ⟨X, 4, none⟩ = some (.slice b2 m2 p2) ∧ w7.drew.cell? ⟨X, 5, none⟩ = some (.slice b3 m3 p3) ∧ w7.drew.cell? ⟨D, 4, none⟩ = some (.slice al k cl)) := HXC.out
      have HPOST : Hid (∀ (w8 : World) (a8 : Option Addr) (c8 : Nat), w8.ownsRow base 25 6 (.slice a8 (k + m2) c8) (k + m2) (Dt.flatP ps ++ Dt.flatP qs) → w7.drew.grownBy w8 (Value.slice al k cl).ownBlock → ((Value.slice a8 (k + m2) c8).ownBlock = (Value.slice al k cl).ownBlock ∨ (Value.slice a8 (k + m2) c8).ownBlock = some w7.drew.heap.size) →
        (w8.cell? ⟨X, 0, none⟩ = some (.int .i64 y.k) ∧ w8.cell? ⟨X, 4, none⟩ = some (.slice b2 m2 p2) ∧ w8.cell? ⟨X, 5, none⟩ = some (.slice b3 m3 p3) ∧ w8.cell? ⟨D, 4, none⟩ = some (.slice al k cl)) ∧ w8.there R 0 6 ∧ ((set6 w8 R (.int .i64 y.k) (.int .i64 0) (.string ⟨#[]⟩) (.slice none 0 0) (.slice a8 (k + m2) c8) (.slice b3 m3 p3)).cell? ⟨X, 0, none⟩ = some (.int .i64 y.k) ∧ (set6 w8 R (.int .i64 y.k) (.int .i64 0) (.string ⟨#[]⟩) (.slice none 0 0) (.slice a8 (k + m2) c8) (.slice b3 m3 p3)).cell? ⟨X, 4, none⟩ = some (.slice b2 m2 p2) ∧ (set6 w8 R (.int .i64 y.k) (.int .i64 0) (.string ⟨#[]⟩) (.slice none 0 0) (.slice a8 (k + m2) c8) (.slice b3 m3 p3)).cell? ⟨X, 5, none⟩ = some (.slice b3 m3 p3) ∧ (set6 w8 R (.int .i64 y.k) (.int .i64 0) (.string ⟨#[]⟩) (.slice none 0 0) (.slice a8 (k + m2) c8) (.slice b3 m3 p3)).cell? ⟨D, 4, none⟩ = some (.slice al k cl)) ∧ Hp (set6 w8 R (.int .i64 y.k) (.int .i64 0) (.string ⟨#[]⟩) (.slice none 0 0) (.slice a8 (k + m2) c8) (.slice b3 m3 p3)) R #[.int .i64 y.k, .int .i64 0, .string ⟨#[]⟩, .slice none 0 0, .slice a8 (k + m2) c8, .slice b3 m3 p3] 25 ∧ Rd.OutB base P tb C xs w RR (.returned (.agg #[.int .i64 y.k, .int .i64 0, .string ⟨#[]⟩, .slice none 0 0, .slice a8 (k + m2) c8, .slice b3 m3 p3])) (set6 w8 R (.int .i64 y.k) (.int .i64 0) (.string ⟨#[]⟩) (.slice none 0 0) (.slice a8 (k + m2) c8) (.slice b3 m3 p3))) := by
       intro w8 a8 c8 hown hgr hat
       have hk8 : Keep (fun j => (Value.slice al k cl).ownBlock = some j) w7 w8 := ((Keep.refl _ w7).drew 1).trans (Dt.Cd_keep_grown hgr)
       have hlt := HLT.out
       have hX8 := hX7.keep hk8 (fun e => by have := hlt X e; omega)
       have hD8 := hD7.keep hk8 (fun e => by have := hlt D e; omega)
       have hR8 := hR7.keep hk8 (fun e => by have := hlt R e; omega)
       have hst8 := HST7.out.keep hk8 (fun e => by have := hlt P e; omega)
       have hks := set6_keep w8 R (.int .i64 y.k) (.int .i64 0) (.string ⟨#[]⟩) (.slice none 0 0) (.slice a8 (k + m2) c8) (.slice b3 m3 p3)
       have hrow8 : Dt.Row (fun j => base ≤ j ∧ j ≠ R) w8 (.slice a8 (k + m2) c8) ((ps ++ qs).map Dt.P.d) := by
        refine Rd.row_of_own (base := base) (ls := ps ++ qs) (n := k + m2) ?_ (by rw [List.length_append, HKL.out, hql]) (fun j e => ?_) (fun p hp => ?_)
        ·have e : Dt.flatP (ps ++ qs) = Dt.flatP ps ++ Dt.flatP qs := by unfold Dt.flatP; rw [List.flatMap_append]
         rw [e]
         exact hown
        ·rcases hat with e' | e'
         ·have := hlt j (e'.symm.trans e); omega
         ·have h9 : w7.heap.size = j := Option.some.inj (e'.symm.trans e)
          omega
        ·rcases List.mem_append.1 hp with hp | hp
         ·exact Dt.Rep.mono (fun j hj _ => by omega) p.d (Dt.Rep.keep hk8 (fun j hj _ e => hj.2.2 e) p.d (HRP7.out p hp))
         ·exact Dt.Rep.mono (fun j hj _ => by omega) p.d (Dt.Rep.keep hk8 (fun j hj _ e => by have := hlt j e; omega) p.d (hqr p hp))
       rw [List.map_append, hqd] at hrow8
       have hrt8 : Dt.Row (fun j => base ≤ j ∧ j ≠ R) w8 (.slice b3 m3 p3) y.t := Dt.Row.mono (hrowt.keep hk8 (fun j hj _ e => by have := hlt j e; omega)) (fun j hj _ => by omega)
       have hrep : Dt.Rep (fun j => base ≤ j ∧ j ≠ R) w8 (.mk y.k 0 ⟨#[]⟩ [] (ps.map Dt.P.d ++ y.l) y.t) (.slice none 0 0) (.slice a8 (k + m2) c8) (.slice b3 m3 p3) :=
        (Dt.rep_iff _ _ _ _ _ _).2 ⟨⟨none, 0, rfl, Nat.le_refl _, fun h => absurd rfl h⟩, hrow8, hrt8⟩
       refine ⟨⟨hX8.cell 0 rfl, hX8.cell 4 rfl, hX8.cell 5 rfl, hD8.cell 4 rfl⟩, hR8.there (Nat.le_refl _), ⟨(hX8.keep hks hNE.1).cell 0 rfl, (hX8.keep hks hNE.1).cell 4 rfl, (hX8.keep hks hNE.1).cell 5 rfl, (hD8.keep hks hNE.2.1).cell 4 rfl⟩, hR8.set6 _ _ _ _ _ _, ?_⟩
       exact Rd.OutB.fin (b := base) (r := RR) (x := .mk y.k 0 ⟨#[]⟩ [] (ps.map Dt.P.d ++ y.l) y.t) (HK7.out.trans (hk8.le (fun j e => .inr (hlt j e).1))) (R := R) (by omega) (by omega) hrep (Rd.own_nz hown) hst8 (.inl ⟨by rw [HR2.out, HJ.out], rfl, rfl⟩)
      have HINF : Hid ((Try.prog.info? 25).map (·.size) = some 6) := by show _ = _; kernel_rfl
      have x0' := hX7.cell 0 rfl
      clear hrowl hrowt hm2l hqd hqs hqr hql hN hNX hNE hRR2 h2 hst7 hT7 hD7 hR7 hX7 hrow7 hry7 hR hdo
      rcases hj with hj | hj
      ·have j6 : (y.k == 6) = true := by simp [hj]
       clear hj
       go_upto_region 12 with fail
       refine wp_region_noPanic ?_
       refine wp_region_held_drew (S := fun W => W.cell? ⟨X, 0, none⟩ = some (.int .i64 y.k) ∧ W.cell? ⟨X, 4, none⟩ = some (.slice b2 m2 p2) ∧ W.cell? ⟨X, 5, none⟩ = some (.slice b3 m3 p3) ∧ W.cell? ⟨D, 4, none⟩ = some (.slice al k cl)) (by kernel_rfl) HTS.out (fun hHeld => ?_)
       refine wpAnyH_take (i := 0) (oi := ⟨_, _, _, _, _, _⟩) (v := ?_) rfl (by kernel_rfl) (by kernel_rfl) (by kernel_rfl) (fun _ _ _ h => h) (Or.inl ⟨by rfl, ?_⟩) (by assumption) ?_
       rotate_left
       ·intro w hSw
        clear hSw
        go_simp
        try with_reducible rfl
       simp only [Act.put, List.setIfInBounds_toArray, List.set_cons_zero, List.set_cons_succ]
       refine wpAnyH_take (i := 2) (oi := ⟨_, _, _, _, _, _⟩) (v := ?_) rfl (by kernel_rfl) (by kernel_rfl) (by kernel_rfl) (fun _ _ _ h => h) (Or.inl ⟨by rfl, ?_⟩) (by assumption) ?_
       rotate_left
       ·intro w hSw
        clear hSw
        go_simp
        try with_reducible rfl
       simp only [Act.put, List.setIfInBounds_toArray, List.set_cons_zero, List.set_cons_succ]
       refine wpAnyH_take (i := 4) (oi := ⟨_, _, _, _, _, _⟩) (v := ?_) rfl (by kernel_rfl) (by kernel_rfl) (by kernel_rfl) (fun _ _ _ h => h) (Or.inl ⟨by rfl, ?_⟩) (by assumption) ?_
       rotate_left
       ·intro w hSw
        clear hSw
        go_simp
        try with_reducible rfl
       simp only [Act.put, List.setIfInBounds_toArray, List.set_cons_zero, List.set_cons_succ]
       refine wpAnyH_take (i := 7) (oi := ⟨_, _, _, _, _, _⟩) (v := ?_) rfl (by kernel_rfl) (by kernel_rfl) (by kernel_rfl) (fun _ _ _ h => h) (Or.inl ⟨by rfl, ?_⟩) (by assumption) ?_
       rotate_left
       ·intro w hSw
        clear hSw
        go_simp
        try with_reducible rfl
       simp only [Act.put, List.setIfInBounds_toArray, List.set_cons_zero, List.set_cons_succ]
       refine wpAnyH_take (i := 1) (oi := ⟨_, _, _, _, _, _⟩) (v := ?_) rfl (by kernel_rfl) (by kernel_rfl) (by kernel_rfl) (fun _ _ _ h => h) (Or.inl ⟨by rfl, ?_⟩) (by assumption) ?_
       rotate_left
       ·intro w hSw
        obtain ⟨s0, s1, s2, s3⟩ := hSw
        go_simp
        try with_reducible rfl
       simp only [Act.put, List.setIfInBounds_toArray, List.set_cons_zero, List.set_cons_succ]
       refine wpAnyH_take (i := 3) (oi := ⟨_, _, _, _, _, _⟩) (v := ?_) rfl (by kernel_rfl) (by kernel_rfl) (by kernel_rfl) (fun _ _ _ h => h) (Or.inl ⟨by rfl, ?_⟩) (by assumption) ?_
       rotate_left
       ·intro w hSw
        obtain ⟨s0, s1, s2, s3⟩ := hSw
        go_simp
        try with_reducible rfl
       simp only [Act.put, List.setIfInBounds_toArray, List.set_cons_zero, List.set_cons_succ]
       refine wpAnyH_take (i := 5) (oi := ⟨_, _, _, _, _, _⟩) (v := ?_) rfl (by kernel_rfl) (by kernel_rfl) (by kernel_rfl) (fun _ _ _ h => h) (Or.inl ⟨by rfl, ?_⟩) (by assumption) ?_
       rotate_left
       ·intro w hSw
        obtain ⟨s0, s1, s2, s3⟩ := hSw
        go_simp
        try with_reducible rfl
       simp only [Act.put, List.setIfInBounds_toArray, List.set_cons_zero, List.set_cons_succ]
       refine wpAnyH_take (i := 8) (oi := ⟨_, _, _, _, _, _⟩) (v := ?_) rfl (by kernel_rfl) (by kernel_rfl) (by kernel_rfl) (fun _ _ _ h => h) (Or.inl ⟨by rfl, ?_⟩) (by assumption) ?_
       rotate_left
       ·intro w hSw
        obtain ⟨s0, s1, s2, s3⟩ := hSw
        go_simp
        try with_reducible rfl
       simp only [Act.put, List.setIfInBounds_toArray, List.set_cons_zero, List.set_cons_succ]
       refine wpAnyH_ready (rs := [6]) (by kernel_rfl) (by simp) ?_
       refine AllReadyH.cons (o := ⟨_, _, _, _, _, _⟩) rfl (fun K hK => ?_) AllReadyH.nil
       refine Ap.wp (.tmp 60) (.tmp 62) 23 rfl base 25 i0 (.agg #[.int .i64 0, .int .i64 0, .string ⟨#[]⟩, .slice none 0 0, .slice none 0 0, .slice none 0 0]) 6 104 Try.underlying23 HI1.out HZ0.out HZ1.out HZ2.out rfl (by decide) (.slice al k cl) k (Dt.flatP ps) rfl HOWN7.out (.slice b2 m2 p2) m2 (Dt.flatP qs) rfl HSR.out HLQ.out HONE.out hm1 hm3 HBS.out ?_
       intro v8 w8 hown hgrow hat
       obtain ⟨a8, c8, rfl⟩ := Dt.row_form hown
       obtain ⟨g1, g2, g3, g4, g5⟩ := HPOST.out w8 a8 c8 hown hgrow hat
       obtain ⟨w9, hw9⟩ : ∃ w9, set6 w8 R (.int .i64 y.k) (.int .i64 0) (.string ⟨#[]⟩) (.slice none 0 0) (.slice a8 (k + m2) c8) (.slice b3 m3 p3) = w9 := ⟨_, rfl⟩
       rw [hw9] at g3 g4 g5
       have HTH := Lib.hid g2
       have HE := Lib.hid g5
       have HG3 := Lib.hid g3
       have HW9 := Lib.hid hw9
       have e0 := g4.cell 0 rfl
       have e1 := g4.cell 1 rfl
       have e2 := g4.cell 2 rfl
       have e3 := g4.cell 3 rfl
       have e4 := g4.cell 4 rfl
       have e5 := g4.cell 5 rfl
       clear hown hgrow hat g2 g3 g4 g5 hw9
       refine hK.out _ _ ?_ (fun hHeld => ?_)
       ·exact g1
       clear hK K
       try simp only [Act.put, List.setIfInBounds_toArray, List.set_cons_zero, List.set_cons_succ]
       refine wpAnyH_take (i := 9) (oi := ⟨_, _, _, _, _, _⟩) (v := ?_) rfl (by kernel_rfl) (by kernel_rfl) (by kernel_rfl) (fun _ _ _ h => h) (Or.inl ⟨by rfl, ?_⟩) (by assumption) ?_
       rotate_left
       ·intro w hSw
        clear hSw
        go_simp
        try with_reducible rfl
       simp only [Act.put, List.setIfInBounds_toArray, List.set_cons_zero, List.set_cons_succ]
       refine wpAnyH_ready (rs := [10]) (by kernel_rfl) (by simp) ?_
       refine AllReadyH.cons (o := ⟨_, _, _, _, _, _⟩) rfl (fun K hK => ?_) AllReadyH.nil
       refine wp_store_mid _ _ _ rfl R 0 #[.int .i64 y.k, .int .i64 0, .string ⟨#[]⟩, .slice none 0 0, .slice a8 (k + m2) c8, .slice b3 m3 p3] rfl rfl HTH.out HINF.out (by simp [Value.oneCell']) ?_
       rw [setCells6, HW9.out]
       refine hK.out _ _ ?_ (fun hHeld => ?_)
       ·exact HG3.out
       clear hK K
       try simp only [Act.put]
       refine wpAnyH_done (by kernel_rfl) ?_ _
       refine NoPanic.normal ?_
       go_wp2
       refine bodyPost_ret (v := .agg #[.int .i64 y.k, .int .i64 0, .string ⟨#[]⟩, .slice none 0 0, .slice a8 (k + m2) c8, .slice b3 m3 p3]) (by simp [results, Try.results68, go_sem, *]) rfl ?_
       exact HE.out
      ·have j6 : (y.k == 6) = false := by simp [hj]
       have j7 : (y.k == 7) = true := by simp [hj]
       clear hj
       go_upto_region 12 with fail
       refine wp_region_noPanic ?_
       refine wp_region_held_drew (S := fun W => W.cell? ⟨X, 0, none⟩ = some (.int .i64 y.k) ∧ W.cell? ⟨X, 4, none⟩ = some (.slice b2 m2 p2) ∧ W.cell? ⟨X, 5, none⟩ = some (.slice b3 m3 p3) ∧ W.cell? ⟨D, 4, none⟩ = some (.slice al k cl)) (by kernel_rfl) HTS.out (fun hHeld => ?_)
       refine wpAnyH_take (i := 0) (oi := ⟨_, _, _, _, _, _⟩) (v := ?_) rfl (by kernel_rfl) (by kernel_rfl) (by kernel_rfl) (fun _ _ _ h => h) (Or.inl ⟨by rfl, ?_⟩) (by assumption) ?_
       rotate_left
       ·intro w hSw
        clear hSw
        go_simp
        try with_reducible rfl
       simp only [Act.put, List.setIfInBounds_toArray, List.set_cons_zero, List.set_cons_succ]
       refine wpAnyH_take (i := 2) (oi := ⟨_, _, _, _, _, _⟩) (v := ?_) rfl (by kernel_rfl) (by kernel_rfl) (by kernel_rfl) (fun _ _ _ h => h) (Or.inl ⟨by rfl, ?_⟩) (by assumption) ?_
       rotate_left
       ·intro w hSw
        clear hSw
        go_simp
        try with_reducible rfl
       simp only [Act.put, List.setIfInBounds_toArray, List.set_cons_zero, List.set_cons_succ]
       refine wpAnyH_take (i := 4) (oi := ⟨_, _, _, _, _, _⟩) (v := ?_) rfl (by kernel_rfl) (by kernel_rfl) (by kernel_rfl) (fun _ _ _ h => h) (Or.inl ⟨by rfl, ?_⟩) (by assumption) ?_
       rotate_left
       ·intro w hSw
        clear hSw
        go_simp
        try with_reducible rfl
       simp only [Act.put, List.setIfInBounds_toArray, List.set_cons_zero, List.set_cons_succ]
       refine wpAnyH_take (i := 7) (oi := ⟨_, _, _, _, _, _⟩) (v := ?_) rfl (by kernel_rfl) (by kernel_rfl) (by kernel_rfl) (fun _ _ _ h => h) (Or.inl ⟨by rfl, ?_⟩) (by assumption) ?_
       rotate_left
       ·intro w hSw
        clear hSw
        go_simp
        try with_reducible rfl
       simp only [Act.put, List.setIfInBounds_toArray, List.set_cons_zero, List.set_cons_succ]
       refine wpAnyH_take (i := 1) (oi := ⟨_, _, _, _, _, _⟩) (v := ?_) rfl (by kernel_rfl) (by kernel_rfl) (by kernel_rfl) (fun _ _ _ h => h) (Or.inl ⟨by rfl, ?_⟩) (by assumption) ?_
       rotate_left
       ·intro w hSw
        obtain ⟨s0, s1, s2, s3⟩ := hSw
        go_simp
        try with_reducible rfl
       simp only [Act.put, List.setIfInBounds_toArray, List.set_cons_zero, List.set_cons_succ]
       refine wpAnyH_take (i := 3) (oi := ⟨_, _, _, _, _, _⟩) (v := ?_) rfl (by kernel_rfl) (by kernel_rfl) (by kernel_rfl) (fun _ _ _ h => h) (Or.inl ⟨by rfl, ?_⟩) (by assumption) ?_
       rotate_left
       ·intro w hSw
        obtain ⟨s0, s1, s2, s3⟩ := hSw
        go_simp
        try with_reducible rfl
       simp only [Act.put, List.setIfInBounds_toArray, List.set_cons_zero, List.set_cons_succ]
       refine wpAnyH_take (i := 5) (oi := ⟨_, _, _, _, _, _⟩) (v := ?_) rfl (by kernel_rfl) (by kernel_rfl) (by kernel_rfl) (fun _ _ _ h => h) (Or.inl ⟨by rfl, ?_⟩) (by assumption) ?_
       rotate_left
       ·intro w hSw
        obtain ⟨s0, s1, s2, s3⟩ := hSw
        go_simp
        try with_reducible rfl
       simp only [Act.put, List.setIfInBounds_toArray, List.set_cons_zero, List.set_cons_succ]
       refine wpAnyH_take (i := 8) (oi := ⟨_, _, _, _, _, _⟩) (v := ?_) rfl (by kernel_rfl) (by kernel_rfl) (by kernel_rfl) (fun _ _ _ h => h) (Or.inl ⟨by rfl, ?_⟩) (by assumption) ?_
       rotate_left
       ·intro w hSw
        obtain ⟨s0, s1, s2, s3⟩ := hSw
        go_simp
        try with_reducible rfl
       simp only [Act.put, List.setIfInBounds_toArray, List.set_cons_zero, List.set_cons_succ]
       refine wpAnyH_ready (rs := [6]) (by kernel_rfl) (by simp) ?_
       refine AllReadyH.cons (o := ⟨_, _, _, _, _, _⟩) rfl (fun K hK => ?_) AllReadyH.nil
       refine Ap.wp (.tmp 60) (.tmp 62) 23 rfl base 25 i0 (.agg #[.int .i64 0, .int .i64 0, .string ⟨#[]⟩, .slice none 0 0, .slice none 0 0, .slice none 0 0]) 6 104 Try.underlying23 HI1.out HZ0.out HZ1.out HZ2.out rfl (by decide) (.slice al k cl) k (Dt.flatP ps) rfl HOWN7.out (.slice b2 m2 p2) m2 (Dt.flatP qs) rfl HSR.out HLQ.out HONE.out hm1 hm3 HBS.out ?_
       intro v8 w8 hown hgrow hat
       obtain ⟨a8, c8, rfl⟩ := Dt.row_form hown
       obtain ⟨g1, g2, g3, g4, g5⟩ := HPOST.out w8 a8 c8 hown hgrow hat
       obtain ⟨w9, hw9⟩ : ∃ w9, set6 w8 R (.int .i64 y.k) (.int .i64 0) (.string ⟨#[]⟩) (.slice none 0 0) (.slice a8 (k + m2) c8) (.slice b3 m3 p3) = w9 := ⟨_, rfl⟩
       rw [hw9] at g3 g4 g5
       have HTH := Lib.hid g2
       have HE := Lib.hid g5
       have HG3 := Lib.hid g3
       have HW9 := Lib.hid hw9
       have e0 := g4.cell 0 rfl
       have e1 := g4.cell 1 rfl
       have e2 := g4.cell 2 rfl
       have e3 := g4.cell 3 rfl
       have e4 := g4.cell 4 rfl
       have e5 := g4.cell 5 rfl
       clear hown hgrow hat g2 g3 g4 g5 hw9
       refine hK.out _ _ ?_ (fun hHeld => ?_)
       ·exact g1
       clear hK K
       try simp only [Act.put, List.setIfInBounds_toArray, List.set_cons_zero, List.set_cons_succ]
       refine wpAnyH_take (i := 9) (oi := ⟨_, _, _, _, _, _⟩) (v := ?_) rfl (by kernel_rfl) (by kernel_rfl) (by kernel_rfl) (fun _ _ _ h => h) (Or.inl ⟨by rfl, ?_⟩) (by assumption) ?_
       rotate_left
       ·intro w hSw
        clear hSw
        go_simp
        try with_reducible rfl
       simp only [Act.put, List.setIfInBounds_toArray, List.set_cons_zero, List.set_cons_succ]
       refine wpAnyH_ready (rs := [10]) (by kernel_rfl) (by simp) ?_
       refine AllReadyH.cons (o := ⟨_, _, _, _, _, _⟩) rfl (fun K hK => ?_) AllReadyH.nil
       refine wp_store_mid _ _ _ rfl R 0 #[.int .i64 y.k, .int .i64 0, .string ⟨#[]⟩, .slice none 0 0, .slice a8 (k + m2) c8, .slice b3 m3 p3] rfl rfl HTH.out HINF.out (by simp [Value.oneCell']) ?_
       rw [setCells6, HW9.out]
       refine hK.out _ _ ?_ (fun hHeld => ?_)
       ·exact HG3.out
       clear hK K
       try simp only [Act.put]
       refine wpAnyH_done (by kernel_rfl) ?_ _
       refine NoPanic.normal ?_
       go_wp2
       refine bodyPost_ret (v := .agg #[.int .i64 y.k, .int .i64 0, .string ⟨#[]⟩, .slice none 0 0, .slice a8 (k + m2) c8, .slice b3 m3 p3]) (by simp [results, Try.results68, go_sem, *]) rfl ?_
       exact HE.out
end Go.Proofs.Ytcopdfihaheplaa
namespace Go.Proofs.Ytcopdfihaheplaa
open Go.RowKit
attribute [local go_sem] Oper.semAt_some
namespace Rd
open Dt Lx
def LInv (a : Nat) (R : Res) (f : Nat) (acc : List D) (ts : List PTok) (at_ er : Int) : Prop := (er = 0 ∧ at_ = 0 ∧ pl f a acc ts = R ∧ R ≠ .out ∧ (∃ q, f = q + 1) ∧ acc.length + ts.length ≤ 4096) ∨ (er ≠ 0 ∧ ∃ (b : Nat), at_ = (b : Int) ∧ R = .bad b er)
end Rd
set_option maxRecDepth 100000 in
set_option maxHeartbeats 16000000 in
theorem list_any (P tb C : Nat) (xs : List Lx.PTok) (hG : Rd.G P tb C xs) (F : Nat) (hD : ∀ g, g < F → Rd.DatumIs P tb C xs g) (t : Lx.PTok) (r : List Lx.PTok) (w : World) (hSrc : Rd.Src w tb xs) (hSt : Rd.St w P tb C xs r 0 0) (hR : Rd.pl F t.at_ [] r ≠ .out) :
  Calls Try.prog 42 #[.pointer (some ⟨P, 0, none⟩), Rd.tokV t] w (Rd.Out P tb C xs w (Rd.pl F t.at_ [] r)) := by
 unfold Rd.tokV
 obtain ⟨tk, htk⟩ : ∃ tk, t.t.k = tk := ⟨_, rfl⟩
 obtain ⟨tn, htn⟩ : ∃ tn, t.t.n = tn := ⟨_, rfl⟩
 obtain ⟨ts, hts⟩ : ∃ ts : ByteArray, ⟨t.t.s.toArray⟩ = ts := ⟨_, rfl⟩
 obtain ⟨ta, hta⟩ : ∃ ta : Nat, t.at_ = ta := ⟨_, rfl⟩
 obtain ⟨tz, hto⟩ : ∃ tz : Int, (t.to : Int) = tz := ⟨_, rfl⟩
 have HTV : Hid (Rd.tokV t = .agg #[.int .i64 tk, .int .i64 (ta : Int), .int .i64 tz, .int .i64 tn, .string ts] ∧ t.at_ = ta) := ⟨by unfold Rd.tokV; rw [htk, htn, hts, hto, hta], hta⟩
 rw [hta] at hR ⊢
 rw [htk, htn, hts, hto]
 clear htk htn hts hta hto
 obtain ⟨RR, hRR⟩ : ∃ RR, Rd.pl F ta [] r = RR := ⟨_, rfl⟩
 have hV0 : Rd.LInv ta RR F [] r 0 0 := .inl ⟨rfl, rfl, hRR, hRR ▸ hR, by
  cases F with
  | zero => exact absurd (by rw [Rd.pl]) hR
  | succ q => exact ⟨q, rfl⟩, by
   obtain ⟨_, pre, -, hpre, -⟩ := hSt
   have := hG.few
   rw [hpre] at this
   simp at this ⊢
   omega⟩
 rw [hRR]
 obtain ⟨w1, hw1⟩ : ∃ w1, w.alloc (.cells #[.int .i64 tk, .int .i64 (ta : Int), .int .i64 tz, .int .i64 tn, .string ts] 47) = w1 := ⟨_, rfl⟩
 obtain ⟨w2, hw2⟩ : ∃ w2, w1.alloc (.cells #[.int .i64 0, .int .i64 0, .string ⟨#[]⟩, .slice none 0 0, .slice none 0 0, .slice none 0 0] 25) = w2 := ⟨_, rfl⟩
 obtain ⟨w3, hw3⟩ : ∃ w3, w2.alloc (.cells #[.int .i64 6, .int .i64 0, .string ⟨#[]⟩, .slice none 0 0, .slice none 0 0, .slice none 0 0] 25) = w3 := ⟨_, rfl⟩
 obtain ⟨hb1, hs1⟩ := new_below hw1
 obtain ⟨hb2, hs2⟩ := new_below hw2
 obtain ⟨hb3, hs3⟩ := new_below hw3
 have hT3 := ((Hp.new hw1).below hb2).below hb3
 have hR3 := (Hp.new hw2).below hb3
 have hD3 := Hp.new hw3
 have hb13 := hb1.trans ((hb2.trans (hb3.mono hb2.size)).mono hb1.size)
 obtain ⟨T, hT⟩ : ∃ T, w.heap.size = T := ⟨_, rfl⟩
 obtain ⟨R, hRb⟩ : ∃ R, w1.heap.size = R := ⟨_, rfl⟩
 obtain ⟨D, hDb⟩ : ∃ D, w2.heap.size = D := ⟨_, rfl⟩
 rw [hT] at hT3 hs1
 rw [hRb] at hR3 hs1 hs2
 rw [hDb] at hD3 hs2 hs3
 have hPl := hSt.lt
 rw [hT] at hPl
 have HN : Hid (P < T ∧ R = T + 1 ∧ D = T + 2 ∧ w3.heap.size = T + 3 ∧ w.heap.size = T) := ⟨hPl, hs1, by omega, by omega, hT⟩
 have HT3 := Lib.hid hT3
 have HR3 := Lib.hid hR3
 have HD3 := Lib.hid hD3
 have HK3 : Hid (Keep (fun k => k = P) w w3) := keep_of_below hb13
 have HST3 := Lib.hid (hSt.below hb13)
 have HSRC := Lib.hid hSrc
 have HG := Lib.hid hG
 have HD := Lib.hid hD
 have HV0 := Lib.hid hV0
 have HROW0 : Hid (Dt.Rowing w3 (D + 1) (.slice none 0 0) [] ∧ ([] : List Dt.P).length = 0) := ⟨Dt.Rowing.nil _ _, rfl⟩
 obtain ⟨i0, hi, hz0, hz1, hz2⟩ := info_parts Dt.infoD
 have HW3 := Lib.hid hw3
 have HI1 := Lib.hid hi
 have HZ0 := Lib.hid hz0
 have HZ1 := Lib.hid hz1
 have HZ2 := Lib.hid hz2
 clear hb1 hb2 hb3 hs1 hs2 hs3 hT3 hR3 hD3 hb13 hSt hSrc hG hD hV0 hRR hR hPl hi hz0 hz1 hz2 hw3
 go_enter Try.func42, Try.ntmps42
 go_wp2
 rw [HW3.out]
 clear hw1 hw2
 go_loopw [8] (fun _ wr => ∃ (k : Nat) (ps : List Dt.P) (al : Option Addr) (cl f : Nat) (us : List Lx.PTok) (at_ er : Int), Hid (Hp wr D #[.int .i64 6, .int .i64 0, .string ⟨#[]⟩, .slice none 0 0, .slice al k cl, .slice none 0 0] 25) ∧ Hid (Dt.Rowing wr (D + 1) (.slice al k cl) ps ∧ ps.length = k) ∧ Hid (Rd.St wr P tb C xs us at_ er) ∧ Hid (Rd.LInv ta RR f (ps.map Dt.P.d) us at_ er ∧ f ≤ F) ∧ Hid (Keep (fun k => k = P) w wr) ∧ Hid (Keep (fun k => k = P ∨ D ≤ k) w3 wr)) (fun _ wr => Rd.meas wr P)
 case atStart => exact ⟨0, [], none, 0, F, r, 0, 0, HD3, HROW0, HST3, ⟨HV0.out, Nat.le_refl _⟩, HK3, Keep.refl _ _⟩
 case round =>
  clear HD3 HROW0 HST3 HV0 HK3
  obtain ⟨k, ps, al, cl, f, us, at_, er, HDB, HRW, HST, HV, HK, HK2⟩ := hrel
  obtain ⟨pa, pre, hP, hpre, hpa⟩ := HST.out
  have hTr := HT3.out.keep HK2.out (by have := HN.out; omega)
  have hRr := HR3.out.keep HK2.out (by have := HN.out; omega)
  have p0 := hP.cell 0 rfl
  have p2 := hP.cell 2 rfl
  have y0 := hTr.cell 0 rfl
  have y1 := hTr.cell 1 rfl
  have y2 := hTr.cell 2 rfl
  have y3 := hTr.cell 3 rfl
  have y4 := hTr.cell 4 rfl
  have hmeas := HST.out.meas
  have hgw : D < wr.heap.size := HDB.out.lt
  have HTR := Lib.hid hTr
  have HRR := Lib.hid hRr
  have HFIN : Hid (∀ (wz : World) (rest : List Lx.PTok) (a2 e2 : Int), Keep (fun k => k = P) w wz → Dt.Row (fun k => D + 1 ≤ k) wz (.slice al k cl) (ps.map Dt.P.d) → Rd.St wz P tb C xs rest a2 e2 → Rd.Says RR (Rd.listD (ps.map Dt.P.d)) rest a2 e2 → Rd.Out P tb C xs w RR (.returned (.agg #[.int .i64 6, .int .i64 0, .string ⟨#[]⟩, .slice none 0 0, .slice al k cl, .slice none 0 0])) (set6 wz R (.int .i64 6) (.int .i64 0) (.string ⟨#[]⟩) (.slice none 0 0) (.slice al k cl) (.slice none 0 0))) := fun wz rest a2 e2 h1 h2 h3 h4 =>
   Rd.Out.fin (x := Rd.listD (ps.map Dt.P.d)) h1 (by have := HN.out; omega) (by have := HN.out; omega) (Dt.Rep.mono (fun b hb _ => by have := HN.out; omega) _ (Rd.rep_row 6 h2)) (Rd.own_nz HRW.out.1.row) h3 h4
  by_cases he : er = 0
  case neg =>
   have he1 : (er == 0) = false := by simpa using he
   obtain ⟨b, hb1, hb2⟩ : ∃ b : Nat, at_ = (b : Int) ∧ RR = .bad b er := HV.out.1.elim (fun h => absurd h.1 he) (fun h => h.2)
   have HE := Lib.hid (HFIN.out wr us at_ er HK.out (HRW.out.2 ▸ HRW.out.1.to_row) HST.out (.inr ⟨b, er, hb2, hb1, rfl, he⟩))
   have d0 := HDB.out.cell 0 rfl
   have d1 := HDB.out.cell 1 rfl
   have d2 := HDB.out.cell 2 rfl
   have d3 := HDB.out.cell 3 rfl
   have d4 := HDB.out.cell 4 rfl
   have d5 := HDB.out.cell 5 rfl
   have r0 := hRr.cell 0 rfl
   have r1 := hRr.cell 1 rfl
   have r2 := hRr.cell 2 rfl
   have r3 := hRr.cell 3 rfl
   have r4 := hRr.cell 4 rfl
   have r5 := hRr.cell 5 rfl
   have k0 := hRr.frz 0
   have k1 := hRr.frz 1
   have k2 := hRr.frz 2
   have k3 := hRr.frz 3
   have k4 := hRr.frz 4
   have k5 := hRr.frz 5
   clear hP hpre hpa p0 hmeas hTr hRr hb1 hb2 he HV
   go_wp2
   refine bodyPost_ret (v := .agg #[.int .i64 6, .int .i64 0, .string ⟨#[]⟩, .slice none 0 0, .slice al k cl, .slice none 0 0]) (by simp [results, Try.results42, go_sem, *]) rfl ?_
   exact HE.out
  subst he
  obtain ⟨-, rfl, hpv, hro, ⟨q, rfl⟩, hkn⟩ : (0 : Int) = 0 ∧ at_ = 0 ∧ Rd.pl f ta (ps.map Dt.P.d) us = RR ∧ RR ≠ .out ∧ (∃ q, f = q + 1) ∧ (ps.map Dt.P.d).length + us.length ≤ 4096 := HV.out.1.elim id (fun h => absurd rfl h.1)
  have hfF := HV.out.2
  cases us with
  | nil =>
   rw [Rd.pl] at hpv
   have hf := fail_any P tb C xs [] (ta : Int) 41 wr HST.out
   rw [List.length_nil] at p0
   have HPV := Lib.hid hpv
   clear hP hpre hpa hmeas hTr hRr hpv hro HV hkn
   go_wp2_with fail
   refine hf.mono ?_
   rintro e w4 ⟨rfl, hst4, hk4⟩
   unfold Rd.zeroD
   have hR4 := HRR.out.keep hk4 (by have := HN.out; omega)
   have HE := Lib.hid (Rd.Out.fin (r := RR) (x := .mk 0 0 ⟨#[]⟩ [] [] []) (HK.out.trans hk4) (R := R) (by have := HN.out; omega) (by have := HN.out; omega) (Rd.rep_zero _ _) (.inl rfl) hst4 (.inr ⟨ta, 41, HPV.out.symm, rfl, rfl, by decide⟩))
   have r0 := hR4.cell 0 rfl
   have r1 := hR4.cell 1 rfl
   have r2 := hR4.cell 2 rfl
   have r3 := hR4.cell 3 rfl
   have r4 := hR4.cell 4 rfl
   have r5 := hR4.cell 5 rfl
   have k0 := hR4.frz 0
   have k1 := hR4.frz 1
   have k2 := hR4.frz 2
   have k3 := hR4.frz 3
   have k4 := hR4.frz 4
   have k5 := hR4.frz 5
   clear hf hst4 hk4 hR4 p0 p2 y0 y1 y2 y3 y4
   go_wp2
   refine bodyPost_ret (v := .agg #[.int .i64 0, .int .i64 0, .string ⟨#[]⟩, .slice none 0 0, .slice none 0 0, .slice none 0 0]) (by simp [results, Try.results42, go_sem, *]) rfl ?_
   exact HE.out
  | cons x us =>
   obtain rfl := hpa (by simp)
   have hlen : xs.length = pre.length + (us.length + 1) := by rw [hpre]; simp
   have hpi : pre.length < xs.length := by omega
   have hsrc := HSRC.out.keep HK.out (fun e => HG.out.ne e.symm)
   obtain ⟨x0, -, -, -, -⟩ := hsrc.tok pre.length hpi
   have hxi : xs[pre.length] = x := by simp only [hpre]; simp
   rw [hxi] at x0
   have hulen : us.length ≤ 4096 := by have := HG.out.few; omega
   rw [show (x :: us).length = us.length + 1 from rfl] at p0
   obtain ⟨n, hn⟩ : ∃ n, us.length = n := ⟨_, rfl⟩
   obtain ⟨cc, hcc⟩ : ∃ cc, C - pre.length = cc := ⟨_, rfl⟩
   obtain ⟨qq, hqq⟩ : ∃ qq, pre.length * 5 = qq := ⟨_, rfl⟩
   rw [hn, hcc, hqq] at p0
   rw [hqq] at x0
   have hn0 : (((n : Int) + 1) == 0) = false := by simp; omega
   have hnp : (0 : Int) < (n : Int) + 1 := by omega
   obtain ⟨xk, hxk⟩ : ∃ xk, x.t.k = xk := ⟨_, rfl⟩
   rw [hxk] at x0
   have HLN : Hid (us.length = n) := hn
   rw [Rd.pl, hxk] at hpv
   by_cases h2 : xk = 2
   ·have h2' : (xk == 2) = true := by simpa using h2
    rw [if_pos h2] at hpv
    have hnx := next_yes P tb C xs x us 0 0 wr hsrc HST.out HG.out.cap HG.out.few HG.out.C2
    have HPV := Lib.hid hpv
    clear hP hpre hpa hmeas hTr hRr hpv hro HV hkn hlen hpi hxi hulen hn hcc hqq hxk h2 hsrc
    go_wp2_with fail
    refine hnx.mono ?_
    rintro e w4 ⟨rfl, hst4, hk4⟩
    have hR4 := HRR.out.keep hk4 (by have := HN.out; omega)
    have hD4 := HDB.out.keep hk4 (by have := HN.out; omega)
    have hrow4 := HRW.out.1.keep hk4 (fun j hj _ e => by have := HN.out; omega)
    have HE := Lib.hid (HFIN.out w4 us 0 0 (HK.out.trans hk4) hrow4.to_row hst4 (.inl ⟨HPV.out.symm, rfl, rfl⟩))
    have d0 := hD4.cell 0 rfl
    have d1 := hD4.cell 1 rfl
    have d2 := hD4.cell 2 rfl
    have d3 := hD4.cell 3 rfl
    have d4 := hD4.cell 4 rfl
    have d5 := hD4.cell 5 rfl
    have r0 := hR4.cell 0 rfl
    have r1 := hR4.cell 1 rfl
    have r2 := hR4.cell 2 rfl
    have r3 := hR4.cell 3 rfl
    have r4 := hR4.cell 4 rfl
    have r5 := hR4.cell 5 rfl
    have k0 := hR4.frz 0
    have k1 := hR4.frz 1
    have k2 := hR4.frz 2
    have k3 := hR4.frz 3
    have k4 := hR4.frz 4
    have k5 := hR4.frz 5
    clear hnx hst4 hk4 hR4 hD4 hrow4 p0 p2 y0 y1 y2 y3 y4 x0
    go_wp2
    refine bodyPost_ret (v := .agg #[.int .i64 6, .int .i64 0, .string ⟨#[]⟩, .slice none 0 0, .slice al k cl, .slice none 0 0]) (by simp [results, Try.results42, go_sem, *]) rfl ?_
    exact HE.out
   ·have h2' : (xk == 2) = false := by simpa using h2
    rw [if_neg h2] at hpv
    by_cases h8 : xk = 8 ∧ ps.map Dt.P.d ≠ []
    case pos =>
     rw [if_pos h8] at hpv
     have h8' : (xk == 8) = true := by simpa using h8.1
     have hk1 : 0 < k := by
      have h1 := HRW.out.2
      have h3 := h8.2
      cases ps with
      | nil => exact absurd rfl h3
      | cons p l => simp at h1; omega
     have hk1' : decide ((0 : Int) < (k : Int)) = true := decide_eq_true (by omega)
     have hk1n : decide (0 < k) = true := decide_eq_true hk1
     have hto : Rd.pt q ta (ps.map Dt.P.d) us ≠ .out := by rw [hpv]; exact hro
     have hnx := next_yes P tb C xs x us 0 0 wr hsrc HST.out HG.out.cap HG.out.few HG.out.C2
     have HPV := Lib.hid hpv
     have HTO := Lib.hid hto
     have HKN : Hid (k + us.length ≤ 4096 ∧ q ≤ F) := ⟨by have := HRW.out.2; simp only [List.length_map, List.length_cons] at hkn; omega, by omega⟩
     have HSR := Lib.hid hsrc
     have d4 := HDB.out.cell 4 rfl
     clear hP hpre hpa hmeas hTr hRr hpv hro HV hkn hlen hpi hxi hulen hn hcc hqq hxk h2 hsrc h8 hk1 hto
     go_wp2_with fail
     refine hnx.mono ?_
     rintro e w4 ⟨rfl, hst4, hk4⟩
     have hT4 := HTR.out.keep hk4 (by have := HN.out; omega)
     have hD4 := HDB.out.keep hk4 (by have := HN.out; omega)
     have hrow4 := HRW.out.1.keep hk4 (fun j hj _ e => by have := HN.out; omega)
     have hsrc4 := HSR.out.keep hk4 (fun e => HG.out.ne e.symm)
     have hta := HTV.out.2
     have htl := tail_any P tb C xs HG.out q (fun g hg => HD.out g (by have := HKN.out.2; omega)) t us w4 (D + 1) ps al k cl hsrc4 hst4 hrow4 HRW.out.2 (by have := hD4.lt; omega) (by have := HN.out; omega) HKN.out.1 (by rw [hta]; exact HTO.out)
     rw [HTV.out.1, hta, HPV.out] at htl
     have HR4 := Lib.hid (HRR.out.keep hk4 (by have := HN.out; omega))
     have HK4 := Lib.hid hk4
     have y0 := hT4.cell 0 rfl
     have y1 := hT4.cell 1 rfl
     have y2 := hT4.cell 2 rfl
     have y3 := hT4.cell 3 rfl
     have y4 := hT4.cell 4 rfl
     have d0 := hD4.cell 0 rfl
     have d1 := hD4.cell 1 rfl
     have d2 := hD4.cell 2 rfl
     have d3 := hD4.cell 3 rfl
     have d4 := hD4.cell 4 rfl
     have d5 := hD4.cell 5 rfl
     clear hnx hst4 hk4 hT4 hD4 hrow4 hsrc4 hta p0 p2 x0
     go_wp2_with fail
     refine htl.mono ?_
     rintro e w5 ⟨y, vm, vl, vt, rest, a2, e2, rfl, hr5, hz5, hst5, hk5, hsay⟩
     obtain ⟨b1, m1, p1, b2, m2, p2, b3, m3, p3, rfl, rfl, rfl⟩ := hr5.forms
     have hR5 := HR4.out.keep hk5 (by have := HN.out; omega)
     have hkw : Keep (fun k => k = P) w w5 := ((HK.out.trans HK4.out).le (T := fun k => k = P ∨ D + 1 ≤ k) (fun j e => .inl e)).trans hk5 |>.mono (fun j hj e => by have := HN.out; omega)
     have HE := Lib.hid (Rd.Out.fin (x := y) hkw (R := R) (by have := HN.out; omega) (by have := HN.out; omega) (Dt.Rep.mono (fun j hj _ => by have := HN.out; omega) y hr5) hz5 hst5 hsay)
     have r0 := hR5.cell 0 rfl
     have r1 := hR5.cell 1 rfl
     have r2 := hR5.cell 2 rfl
     have r3 := hR5.cell 3 rfl
     have r4 := hR5.cell 4 rfl
     have r5 := hR5.cell 5 rfl
     have k0 := hR5.frz 0
     have k1 := hR5.frz 1
     have k2 := hR5.frz 2
     have k3 := hR5.frz 3
     have k4 := hR5.frz 4
     have k5 := hR5.frz 5
     clear htl hr5 hz5 hst5 hk5 hsay hR5 hkw y0 y1 y2 y3 y4 d0 d1 d2 d3 d4 d5
     go_wp2
     refine bodyPost_ret (v := .agg #[.int .i64 y.k, .int .i64 y.n, .string y.s, .slice b1 m1 p1, .slice b2 m2 p2, .slice b3 m3 p3]) (by simp [results, Try.results42, go_sem, *]) rfl ?_
     exact HE.out
    case neg =>
     rw [if_neg h8] at hpv
     by_cases h88 : xk = 8
     case pos =>
      have h8' : (xk == 8) = true := by simpa using h88
      have hk0 : k = 0 := by
       have h1 := HRW.out.2
       have h3 : ps.map Dt.P.d = [] := Classical.byContradiction fun h => h8 ⟨h88, h⟩
       have h4 : ps = [] := List.map_eq_nil_iff.1 h3
       rw [h4] at h1
       exact h1.symm
      have hk1' : decide ((0 : Int) < (k : Int)) = false := decide_eq_false (by omega)
      have hk1n : decide (0 < k) = false := decide_eq_false (by omega)
      have d4 := HDB.out.cell 4 rfl
      clear h8 h88 hk0
      have hdo : Rd.pd q (x :: us) ≠ .out := fun e => by rw [e] at hpv; exact hro hpv.symm
      have hrl := (Rd.res_len q).1 (x :: us) us.length (by simp)
      have hcall := HD.out q (by omega) (x :: us) wr.drew (by simp) (hsrc.below ((Below.refl _ wr).drew)) (HST.out.below ((Below.refl _ wr).drew)) hdo
      have hnext : ∀ (y : Dt.D) (rest : List Lx.PTok) (a2 e2 : Int), Rd.Says (Rd.pd q (x :: us)) y rest a2 e2 → Rd.LInv ta RR q (ps.map Dt.P.d ++ [y]) rest a2 e2 ∧ (if e2 = 0 then rest.length + 1 else 0) < n + 2 := by
       intro y rest a2 e2 hs
       rcases hs with ⟨e, rfl, rfl⟩ | ⟨b, c, e, rfl, rfl, hc0⟩
       ·rw [e] at hpv hrl
        have hl : rest.length ≤ us.length := hrl
        refine ⟨.inl ⟨rfl, rfl, hpv, hro, ?_, by simp only [List.length_append, List.length_cons, List.length_nil] at hkn ⊢; omega⟩, by rw [if_pos rfl]; omega⟩
        cases q with
        | zero => simp only [Rd.pl] at hpv; exact absurd hpv.symm hro
        | succ q => exact ⟨q, rfl⟩
       ·rw [e] at hpv
        exact ⟨.inr ⟨hc0, b, rfl, hpv.symm⟩, by rw [if_neg hc0]; omega⟩
      obtain ⟨RES, hRES⟩ : ∃ RES, Rd.pd q (x :: us) = RES := ⟨_, rfl⟩
      rw [hRES] at hcall hnext
      have HCL := Lib.hid hcall
      have hkl : k ≤ 4096 := by have := HRW.out.2; simp only [List.length_map, List.length_cons] at hkn; omega
      have c4 := HDB.out.cell 4 rfl
      have HDALL : Hid (∀ W, Keep (fun j => j = P) wr W → W.cell? ⟨D, 4, none⟩ = some (.slice al k cl) ∧ D + 1 ≤ W.heap.size ∧ W.ownsRow (D + 1) 25 6 (.slice al k cl) k (Dt.flatP ps)) := fun W hW =>
       ⟨(HDB.out.keep hW (by have := HN.out; omega)).cell 4 rfl, by have := (HDB.out.keep hW (by have := HN.out; omega)).lt; omega, by
        have h := (HRW.out.1.keep hW (fun j hj _ e => by have := HN.out; omega)).row
        rw [HRW.out.2] at h
        exact h⟩
      have HPUSH : Hid (∀ (w2 wD w5 : World) (y : Dt.D) (b1 b2 b3 : Option Addr) (m1 m2 m3 p1 p2 p3 : Nat) (v' : Value) (rest : List Lx.PTok) (a2 e2 : Int), Keep (fun j => j = P) wr w2 → Dt.Rep (fun j => wr.heap.size ≤ j) w2 y (.slice b1 m1 p1) (.slice b2 m2 p2) (.slice b3 m3 p3) → Rd.St w2 P tb C xs rest a2 e2 → Rd.Says RES y rest a2 e2 → Below w2.heap.size w2 wD →
        w5.ownsRow (D + 1) 25 6 v' (k + 1) (Dt.flatP ps ++ [.int .i64 y.k, .int .i64 y.n, .string y.s, .slice b1 m1 p1, .slice b2 m2 p2, .slice b3 m3 p3]) → wD.grownBy w5 (Value.slice al k cl).ownBlock → (v'.ownBlock = (Value.slice al k cl).ownBlock ∨ v'.ownBlock = some wD.heap.size) →
        w5.cell? ⟨D, 4, none⟩ = some (.slice al k cl) ∧ w5.frozen? ⟨D, 4, none⟩ = false ∧ Hid (Hp (w5.setCell ⟨D, 4, none⟩ v') D #[.int .i64 6, .int .i64 0, .string ⟨#[]⟩, .slice none 0 0, v', .slice none 0 0] 25 ∧ (Dt.Rowing (w5.setCell ⟨D, 4, none⟩ v') (D + 1) v' (ps ++ [Dt.P.mk y (.slice b1 m1 p1) (.slice b2 m2 p2) (.slice b3 m3 p3)]) ∧ (ps ++ [Dt.P.mk y (.slice b1 m1 p1) (.slice b2 m2 p2) (.slice b3 m3 p3)]).length = k + 1) ∧ Rd.St (w5.setCell ⟨D, 4, none⟩ v') P tb C xs rest a2 e2 ∧ (Rd.LInv ta RR q ((ps ++ [Dt.P.mk y (.slice b1 m1 p1) (.slice b2 m2 p2) (.slice b3 m3 p3)]).map Dt.P.d) rest a2 e2 ∧ q ≤ F) ∧ Keep (fun j => j = P) w (w5.setCell ⟨D, 4, none⟩ v') ∧ Keep (fun j => j = P ∨ D ≤ j) w3 (w5.setCell ⟨D, 4, none⟩ v') ∧ Rd.meas (w5.setCell ⟨D, 4, none⟩ v') P < Rd.meas wr P)) := by
       intro w2 wD w5 y b1 b2 b3 m1 m2 m3 p1 p2 p3 v' rest a2 e2 hk2 hr2 hst2 hs2 hbD hown hgr hat
       have hN := HN.out
       have hlp := HRW.out.2
       have hown2 : w5.ownsRow (D + 1) 25 6 v' (ps.length + 1) (Dt.flatP ps ++ (Dt.P.mk y (.slice b1 m1 p1) (.slice b2 m2 p2) (.slice b3 m3 p3)).cells) := by rw [hlp]; exact hown
       obtain ⟨g1, g2⟩ := Rd.pushK HRW.out.1 (by have := HDB.out.lt; omega) hk2 (fun j hj e => by omega) hr2 hbD hown2 hgr hat
       have hvb : ∀ j, (Value.slice al k cl).ownBlock = some j → D + 1 ≤ j ∧ j < wr.heap.size := fun j e => Dt.own_lt HRW.out.1.row j e
       have hD5 := HDB.out.keep g2 (fun e => e.elim (fun e => by omega) (fun e => by have := hvb D e; omega))
       have hk6 : Keep (fun j => j = D) w5 (w5.setCell ⟨D, 4, none⟩ v') := set_keep _ _ _ _
       have hst5 : Rd.St (w5.setCell ⟨D, 4, none⟩ v') P tb C xs rest a2 e2 := by
        refine ((hst2.below hbD).keep (Dt.Cd_keep_grown hgr) (fun e => by have := hvb P e; omega)).keep hk6 (by omega)
       have hkw : Keep (fun j => j = P ∨ D ≤ j) wr (w5.setCell ⟨D, 4, none⟩ v') := (g2.le (fun j e => e.elim .inl (fun e => .inr (by have := hvb j e; omega)))).trans (hk6.le (fun j e => .inr (by omega)))
       obtain ⟨n1, n2⟩ := hnext y rest a2 e2 hs2
       refine ⟨hD5.cell 4 rfl, hD5.frz 4, hD5.set 4 _, ⟨g1.keep hk6 (fun j hj _ e => by omega), by rw [List.length_append, hlp]; rfl⟩, hst5, ⟨by rw [List.map_append]; exact n1, by omega⟩, ?_, HK2.out.trans hkw, ?_⟩
       ·exact (((HK.out.le (T := fun j => j = P ∨ D ≤ j) (fun j e => .inl e)).trans hkw)).mono (fun j hj e => by omega)
       ·rw [hst5.meas, HST.out.meas, if_pos rfl]
        simp only [List.length_cons]
        omega
      have hm1 : k + 1 ≤ maxLen := by unfold maxLen; omega
      have hm2 : (k + 1) * 104 ≤ 140737488355328 := by omega
      have HBD : Hid (Keep (fun j => j = P) wr wr.drew) := (Keep.refl _ wr).drew 1
      obtain ⟨-, HB0, -⟩ := HDALL.out wr (Keep.refl _ _)
      clear hP hpre hpa hmeas hTr hRr hpv hro HV hkn hlen hpi hxi hulen hn hcc hqq hxk h2 hsrc hdo hrl hcall hnext hRES HRW HST HK HK2 HDB HFIN HTR HRR hkl
      go_upto_region 12 with fail
      clear p0 p2 y0 y1 y2 y3 y4 x0
      go_region_law (first | (refine Ap.step rfl (.tmp 53) (.tmp 56) 23 (by kernel_rfl) (D + 1) 25 i0 (.agg #[.int .i64 0, .int .i64 0, .string ⟨#[]⟩, .slice none 0 0, .slice none 0 0, .slice none 0 0]) 6 104 Try.underlying23 HI1.out HZ0.out HZ1.out HZ2.out rfl (by decide) (.slice al k cl) k (Dt.flatP ps) (by kernel_rfl) HOWND.out (.slice (some ⟨w2.heap.size, 0, none⟩) 1 1) 1 [.int .i64 y.k, .int .i64 y.n, .string y.s, .slice b1 m1 p1, .slice b2 m2 p2, .slice b3 m3 p3] (by kernel_rfl) HSRD.out rfl (by simp [Value.oneCell']) hm1 hm2 HBS.out ?_; intro v' w5 hown hgrow hat; obtain ⟨a5, c5, rfl⟩ := Dt.row_form hown; obtain ⟨d1, f1, HFN⟩ := HPUSH.out w2 wD w5 y b1 b2 b3 m1 m2 m3 p1 p2 p3 _ rest a2 e2 HKW.out HR2W.out HSTW.out HSAY.out HBWD.out hown hgrow hat; clear hown hgrow hat) | (go_simp; refine HCL.out.mono ?_; rintro e w2 ⟨y, vm, vl, vt, rest, a2, e2, rfl, hr2, -, hst2, hk2, hsay⟩; obtain ⟨b1, m1, p1, b2, m2, p2, b3, m3, p3, rfl, rfl, rfl⟩ := hr2.forms; have HKW : Hid (Keep (fun j => j = P) wr w2) := HBD.out.trans hk2; have HR2W : Hid (Dt.Rep (fun k => wr.heap.size ≤ k) w2 y (.slice b1 m1 p1) (.slice b2 m2 p2) (.slice b3 m3 p3)) := hr2; have HSTW := Lib.hid hst2; have HSAY := Lib.hid hsay; obtain ⟨wD, hwD⟩ : ∃ wD, w2.alloc (.cells #[.int .i64 y.k, .int .i64 y.n, .string y.s, .slice b1 m1 p1, .slice b2 m2 p2, .slice b3 m3 p3] 25) = wD := ⟨_, rfl⟩; have HBWD : Hid (Below w2.heap.size w2 wD) := (new_below hwD).1; have HSRD : Hid (Ap.Src wD (.slice (some ⟨w2.heap.size, 0, none⟩) 1 1) 1 [.int .i64 y.k, .int .i64 y.n, .string y.s, .slice b1 m1 p1, .slice b2 m2 p2, .slice b3 m3 p3]) := Rd.srcNew hwD; obtain ⟨e1, -, -⟩ := HDALL.out w2 HKW.out; obtain ⟨e3, hbs, howD⟩ := HDALL.out wD (HKW.out.trans (keep_of_below HBWD.out)); have HBS := Lib.hid hbs; have HOWND := Lib.hid howD; clear hr2 hst2 hk2 hsay hbs howD; dsimp only))
      all_goals
       go_wp2
       go_roundw
       case rel =>
        obtain ⟨h1, h2, h3, h4, h5, h6, h7⟩ := HFN.out
        exact ⟨k + 1, ps ++ [Dt.P.mk y (.slice b1 m1 p1) (.slice b2 m2 p2) (.slice b3 m3 p3)], a5, c5, q, rest, a2, e2, h1, h2, h3, h4, h5, h6⟩
       case measure => exact HFN.out.2.2.2.2.2.2
     case neg =>
      have h8' : (xk == 8) = false := by simpa using h88
      clear h8 h88
      have hdo : Rd.pd q (x :: us) ≠ .out := fun e => by rw [e] at hpv; exact hro hpv.symm
      have hrl := (Rd.res_len q).1 (x :: us) us.length (by simp)
      have hcall := HD.out q (by omega) (x :: us) wr.drew (by simp) (hsrc.below ((Below.refl _ wr).drew)) (HST.out.below ((Below.refl _ wr).drew)) hdo
      have hnext : ∀ (y : Dt.D) (rest : List Lx.PTok) (a2 e2 : Int), Rd.Says (Rd.pd q (x :: us)) y rest a2 e2 → Rd.LInv ta RR q (ps.map Dt.P.d ++ [y]) rest a2 e2 ∧ (if e2 = 0 then rest.length + 1 else 0) < n + 2 := by
       intro y rest a2 e2 hs
       rcases hs with ⟨e, rfl, rfl⟩ | ⟨b, c, e, rfl, rfl, hc0⟩
       ·rw [e] at hpv hrl
        have hl : rest.length ≤ us.length := hrl
        refine ⟨.inl ⟨rfl, rfl, hpv, hro, ?_, by simp only [List.length_append, List.length_cons, List.length_nil] at hkn ⊢; omega⟩, by rw [if_pos rfl]; omega⟩
        cases q with
        | zero => simp only [Rd.pl] at hpv; exact absurd hpv.symm hro
        | succ q => exact ⟨q, rfl⟩
       ·rw [e] at hpv
        exact ⟨.inr ⟨hc0, b, rfl, hpv.symm⟩, by rw [if_neg hc0]; omega⟩
      obtain ⟨RES, hRES⟩ : ∃ RES, Rd.pd q (x :: us) = RES := ⟨_, rfl⟩
      rw [hRES] at hcall hnext
      have HCL := Lib.hid hcall
      have hkl : k ≤ 4096 := by have := HRW.out.2; simp only [List.length_map, List.length_cons] at hkn; omega
      have c4 := HDB.out.cell 4 rfl
      have HDALL : Hid (∀ W, Keep (fun j => j = P) wr W → W.cell? ⟨D, 4, none⟩ = some (.slice al k cl) ∧ D + 1 ≤ W.heap.size ∧ W.ownsRow (D + 1) 25 6 (.slice al k cl) k (Dt.flatP ps)) := fun W hW =>
       ⟨(HDB.out.keep hW (by have := HN.out; omega)).cell 4 rfl, by have := (HDB.out.keep hW (by have := HN.out; omega)).lt; omega, by
        have h := (HRW.out.1.keep hW (fun j hj _ e => by have := HN.out; omega)).row
        rw [HRW.out.2] at h
        exact h⟩
      have HPUSH : Hid (∀ (w2 wD w5 : World) (y : Dt.D) (b1 b2 b3 : Option Addr) (m1 m2 m3 p1 p2 p3 : Nat) (v' : Value) (rest : List Lx.PTok) (a2 e2 : Int), Keep (fun j => j = P) wr w2 → Dt.Rep (fun j => wr.heap.size ≤ j) w2 y (.slice b1 m1 p1) (.slice b2 m2 p2) (.slice b3 m3 p3) → Rd.St w2 P tb C xs rest a2 e2 → Rd.Says RES y rest a2 e2 → Below w2.heap.size w2 wD →
        w5.ownsRow (D + 1) 25 6 v' (k + 1) (Dt.flatP ps ++ [.int .i64 y.k, .int .i64 y.n, .string y.s, .slice b1 m1 p1, .slice b2 m2 p2, .slice b3 m3 p3]) → wD.grownBy w5 (Value.slice al k cl).ownBlock → (v'.ownBlock = (Value.slice al k cl).ownBlock ∨ v'.ownBlock = some wD.heap.size) →
        w5.cell? ⟨D, 4, none⟩ = some (.slice al k cl) ∧ w5.frozen? ⟨D, 4, none⟩ = false ∧ Hid (Hp (w5.setCell ⟨D, 4, none⟩ v') D #[.int .i64 6, .int .i64 0, .string ⟨#[]⟩, .slice none 0 0, v', .slice none 0 0] 25 ∧ (Dt.Rowing (w5.setCell ⟨D, 4, none⟩ v') (D + 1) v' (ps ++ [Dt.P.mk y (.slice b1 m1 p1) (.slice b2 m2 p2) (.slice b3 m3 p3)]) ∧ (ps ++ [Dt.P.mk y (.slice b1 m1 p1) (.slice b2 m2 p2) (.slice b3 m3 p3)]).length = k + 1) ∧ Rd.St (w5.setCell ⟨D, 4, none⟩ v') P tb C xs rest a2 e2 ∧ (Rd.LInv ta RR q ((ps ++ [Dt.P.mk y (.slice b1 m1 p1) (.slice b2 m2 p2) (.slice b3 m3 p3)]).map Dt.P.d) rest a2 e2 ∧ q ≤ F) ∧ Keep (fun j => j = P) w (w5.setCell ⟨D, 4, none⟩ v') ∧ Keep (fun j => j = P ∨ D ≤ j) w3 (w5.setCell ⟨D, 4, none⟩ v') ∧ Rd.meas (w5.setCell ⟨D, 4, none⟩ v') P < Rd.meas wr P)) := by
       intro w2 wD w5 y b1 b2 b3 m1 m2 m3 p1 p2 p3 v' rest a2 e2 hk2 hr2 hst2 hs2 hbD hown hgr hat
       have hN := HN.out
       have hlp := HRW.out.2
       have hown2 : w5.ownsRow (D + 1) 25 6 v' (ps.length + 1) (Dt.flatP ps ++ (Dt.P.mk y (.slice b1 m1 p1) (.slice b2 m2 p2) (.slice b3 m3 p3)).cells) := by rw [hlp]; exact hown
       obtain ⟨g1, g2⟩ := Rd.pushK HRW.out.1 (by have := HDB.out.lt; omega) hk2 (fun j hj e => by omega) hr2 hbD hown2 hgr hat
       have hvb : ∀ j, (Value.slice al k cl).ownBlock = some j → D + 1 ≤ j ∧ j < wr.heap.size := fun j e => Dt.own_lt HRW.out.1.row j e
       have hD5 := HDB.out.keep g2 (fun e => e.elim (fun e => by omega) (fun e => by have := hvb D e; omega))
       have hk6 : Keep (fun j => j = D) w5 (w5.setCell ⟨D, 4, none⟩ v') := set_keep _ _ _ _
       have hst5 : Rd.St (w5.setCell ⟨D, 4, none⟩ v') P tb C xs rest a2 e2 := by
        refine ((hst2.below hbD).keep (Dt.Cd_keep_grown hgr) (fun e => by have := hvb P e; omega)).keep hk6 (by omega)
       have hkw : Keep (fun j => j = P ∨ D ≤ j) wr (w5.setCell ⟨D, 4, none⟩ v') := (g2.le (fun j e => e.elim .inl (fun e => .inr (by have := hvb j e; omega)))).trans (hk6.le (fun j e => .inr (by omega)))
       obtain ⟨n1, n2⟩ := hnext y rest a2 e2 hs2
       refine ⟨hD5.cell 4 rfl, hD5.frz 4, hD5.set 4 _, ⟨g1.keep hk6 (fun j hj _ e => by omega), by rw [List.length_append, hlp]; rfl⟩, hst5, ⟨by rw [List.map_append]; exact n1, by omega⟩, ?_, HK2.out.trans hkw, ?_⟩
       ·exact (((HK.out.le (T := fun j => j = P ∨ D ≤ j) (fun j e => .inl e)).trans hkw)).mono (fun j hj e => by omega)
       ·rw [hst5.meas, HST.out.meas, if_pos rfl]
        simp only [List.length_cons]
        omega
      have hm1 : k + 1 ≤ maxLen := by unfold maxLen; omega
      have hm2 : (k + 1) * 104 ≤ 140737488355328 := by omega
      have HBD : Hid (Keep (fun j => j = P) wr wr.drew) := (Keep.refl _ wr).drew 1
      obtain ⟨-, HB0, -⟩ := HDALL.out wr (Keep.refl _ _)
      clear hP hpre hpa hmeas hTr hRr hpv hro HV hkn hlen hpi hxi hulen hn hcc hqq hxk h2 hsrc hdo hrl hcall hnext hRES HRW HST HK HK2 HDB HFIN HTR HRR hkl
      go_upto_region 12 with fail
      clear p0 p2 y0 y1 y2 y3 y4 x0
      go_region_law (first | (refine Ap.step rfl (.tmp 53) (.tmp 56) 23 (by kernel_rfl) (D + 1) 25 i0 (.agg #[.int .i64 0, .int .i64 0, .string ⟨#[]⟩, .slice none 0 0, .slice none 0 0, .slice none 0 0]) 6 104 Try.underlying23 HI1.out HZ0.out HZ1.out HZ2.out rfl (by decide) (.slice al k cl) k (Dt.flatP ps) (by kernel_rfl) HOWND.out (.slice (some ⟨w2.heap.size, 0, none⟩) 1 1) 1 [.int .i64 y.k, .int .i64 y.n, .string y.s, .slice b1 m1 p1, .slice b2 m2 p2, .slice b3 m3 p3] (by kernel_rfl) HSRD.out rfl (by simp [Value.oneCell']) hm1 hm2 HBS.out ?_; intro v' w5 hown hgrow hat; obtain ⟨a5, c5, rfl⟩ := Dt.row_form hown; obtain ⟨d1, f1, HFN⟩ := HPUSH.out w2 wD w5 y b1 b2 b3 m1 m2 m3 p1 p2 p3 _ rest a2 e2 HKW.out HR2W.out HSTW.out HSAY.out HBWD.out hown hgrow hat; clear hown hgrow hat) | (go_simp; refine HCL.out.mono ?_; rintro e w2 ⟨y, vm, vl, vt, rest, a2, e2, rfl, hr2, -, hst2, hk2, hsay⟩; obtain ⟨b1, m1, p1, b2, m2, p2, b3, m3, p3, rfl, rfl, rfl⟩ := hr2.forms; have HKW : Hid (Keep (fun j => j = P) wr w2) := HBD.out.trans hk2; have HR2W : Hid (Dt.Rep (fun k => wr.heap.size ≤ k) w2 y (.slice b1 m1 p1) (.slice b2 m2 p2) (.slice b3 m3 p3)) := hr2; have HSTW := Lib.hid hst2; have HSAY := Lib.hid hsay; obtain ⟨wD, hwD⟩ : ∃ wD, w2.alloc (.cells #[.int .i64 y.k, .int .i64 y.n, .string y.s, .slice b1 m1 p1, .slice b2 m2 p2, .slice b3 m3 p3] 25) = wD := ⟨_, rfl⟩; have HBWD : Hid (Below w2.heap.size w2 wD) := (new_below hwD).1; have HSRD : Hid (Ap.Src wD (.slice (some ⟨w2.heap.size, 0, none⟩) 1 1) 1 [.int .i64 y.k, .int .i64 y.n, .string y.s, .slice b1 m1 p1, .slice b2 m2 p2, .slice b3 m3 p3]) := Rd.srcNew hwD; obtain ⟨e1, -, -⟩ := HDALL.out w2 HKW.out; obtain ⟨e3, hbs, howD⟩ := HDALL.out wD (HKW.out.trans (keep_of_below HBWD.out)); have HBS := Lib.hid hbs; have HOWND := Lib.hid howD; clear hr2 hst2 hk2 hsay hbs howD; dsimp only))
      all_goals
       go_wp2
       go_roundw
       case rel =>
        obtain ⟨h1, h2, h3, h4, h5, h6, h7⟩ := HFN.out
        exact ⟨k + 1, ps ++ [Dt.P.mk y (.slice b1 m1 p1) (.slice b2 m2 p2) (.slice b3 m3 p3)], a5, c5, q, rest, a2, e2, h1, h2, h3, h4, h5, h6⟩
       case measure => exact HFN.out.2.2.2.2.2.2
end Go.Proofs.Ytcopdfihaheplaa
