/-
 Plain: the words of a text stand one behind the other, each one's bytes alone are that word.
-/
import Derived.Test.YtcopdfihaheplaaLexApartQ
namespace Go.Proofs.Ytcopdfihaheplaa.Lx
open Go.RowKit Go.Sort
theorem dw_suf (f : UInt8 → Bool) (t : List UInt8) : t.dropWhile f <:+ t := List.dropWhile_suffix f
theorem com_suf : ∀ (m : Nat) (l : List UInt8) (o : Nat) (r : List UInt8), l.length ≤ m → com l o = some r → r <:+ l := by
 intro m
 induction m with
 | zero =>
  intro l o r hm h
  have : l = [] := List.eq_nil_of_length_eq_zero (by omega)
  subst this
  rw [com] at h
  simp at h
 | succ m ih =>
  intro l o r hm h
  cases l with
  | nil => rw [com] at h; simp at h
  | cons c t =>
   simp only [List.length_cons] at hm
   have ht : t.tail <:+ c :: t := (List.tail_suffix t).trans (List.suffix_cons c t)
   have hl : t.tail.length ≤ m := by simp; omega
   rw [com] at h
   split at h
   ·exact (ih _ _ _ hl h).trans ht
   ·split at h
    ·split at h
     ·simp at h; rw [← h]; exact ht
     ·exact (ih _ _ _ hl h).trans ht
    ·exact (ih _ _ _ (by omega) h).trans (List.suffix_cons c t)
theorem gap_suf : ∀ (f : Nat) (t : List UInt8), (gap f t).1 <:+ t := by
 intro f
 induction f with
 | zero => intro t; exact List.suffix_refl t
 | succ f ih =>
  intro t
  cases t with
  | nil => exact List.suffix_refl _
  | cons c r =>
   unfold gap
   split
   ·exact (ih r).trans (List.suffix_cons c r)
   ·split
    ·exact ((ih _).trans (dw_suf _ r)).trans (List.suffix_cons c r)
    ·split
     ·split
      ·exact List.suffix_refl _
      ·rename_i r' hr
       exact (ih r').trans (com_suf _ _ _ _ (Nat.le_refl _) hr)
     ·exact List.suffix_refl _
def Apart (s : List UInt8) : Nat → List PTok → Prop
 | _, [] => True
 | a, p :: l => a ≤ p.at_ ∧ p.at_ < p.to ∧ p.to ≤ s.length ∧ lex ((s.drop p.at_).take (p.to - p.at_)) = ([⟨0, p.to - p.at_, p.t⟩], 0, 0) ∧ Apart s p.to l
theorem suf_drop (s r : List UInt8) (h : r <:+ s) : r = s.drop (s.length - r.length) := (List.suffix_iff_eq_drop.1 h)
theorem solid_own (p r : List UInt8) (h0 : p ≠ []) (h : Solid (p ++ r)) : Solid p := by
 have hpos : 0 < p.length := List.length_pos_iff.2 h0
 obtain ⟨h1, h2, h3⟩ := h
 rw [pk_app _ _ _ hpos] at h1 h2 h3
 refine ⟨h1, h2, ?_⟩
 by_cases hl : 1 < p.length
 ·rw [pk_app _ _ _ hl] at h3; exact h3
 ·rw [pk_end p 1 (by omega)]; simp
theorem words_apart (s : List UInt8) (hok : s.all okByte = true) (hl : s.length ≤ 16384) : ∀ (f c n : Nat) (l : List PTok), n ≤ s.length → words s.length f c (s.drop n) = (l, 0, 0) → Apart s n l := by
 intro f
 induction f with
 | zero => intro c n l hn h; simp [words] at h; rw [h]; trivial
 | succ f ih =>
  intro c n l hn h
  rw [words_step] at h
  have hend := gap_end2 (s.drop n).length (s.drop n) (Nat.le_refl _)
  have hsuf := gap_suf (s.drop n).length (s.drop n)
  obtain ⟨g, b, hg⟩ : ∃ g b, gap (s.drop n).length (s.drop n) = (g, b) := ⟨_, _, rfl⟩
  rw [hg] at h hend hsuf
  simp only [] at h hend hsuf
  cases b with
  | false => simp at h
  | true =>
   rw [if_neg (by simp)] at h
   by_cases hge : g = []
   ·rw [if_pos hge] at h
    simp at h
    rw [h]; trivial
   ·rw [if_neg hge] at h
    have hsol := (hend rfl).resolve_left hge
    by_cases h4 : c = 4096
    ·rw [if_pos h4] at h; simp at h
    ·rw [if_neg h4] at h
     have hgs : g <:+ s := hsuf.trans (List.drop_suffix n s)
     have hgl : g.length ≤ s.length - n := by have := hsuf.length_le; rw [List.length_drop] at this; exact this
     have hgd := suf_drop s g hgs
     have hgok : g.all okByte = true := by
      rw [List.all_eq_true] at hok ⊢
      intro x hx
      exact hok x (hgs.subset hx)
     have h00 : (pk g 0 == 0) = false := by
      cases g with
      | nil => exact absurd rfl hge
      | cons c r =>
       show (c == 0) = false
       rw [List.all_cons, Bool.and_eq_true] at hgok
       cases hc : (c == 0)
       ·rfl
       ·have : c = 0 := by simpa using hc
        rw [this] at hgok
        exact absurd hgok.1 (by decide)
     cases hw : word g with
     | err e =>
      rw [hw] at h
      have := word_err _ _ hw
      simp at h
      exact absurd h.2.2 this
     | tok k rest =>
      rw [hw] at h
      simp only [] at h
      have hlen := word_len g hge hsol.1 hsol.2.1 h00 k rest hw
      obtain ⟨p, hp, hpne, hpw⟩ := word_own g hge k rest hw hlen
      by_cases hz : (words s.length f (c + 1) rest).2.2 = 0
      ·rw [if_pos hz] at h
       have hrs : rest <:+ s := (by rw [hp]; exact List.suffix_append p rest : rest <:+ g).trans hgs
       have hrd := suf_drop s rest hrs
       have hpl : p.length + rest.length = g.length := by rw [hp, List.length_append]
       have hr0 : words s.length f (c + 1) rest = ((words s.length f (c + 1) rest).1, 0, 0) := by
        have hn := words_norm s.length f (c + 1) rest
        unfold app at hn
        rw [if_pos hz] at hn
        rw [← hn]
       have hih := ih (c + 1) (s.length - rest.length) _ (by omega) (by rw [← hrd]; exact hr0)
       simp at h
       rw [← h]
       refine ⟨by show n ≤ s.length - g.length; omega, by show s.length - g.length < s.length - rest.length; omega, by show s.length - rest.length ≤ s.length; omega, ?_, hih⟩
       show lex ((s.drop (s.length - g.length)).take (s.length - rest.length - (s.length - g.length))) = ([⟨0, s.length - rest.length - (s.length - g.length), k⟩], 0, 0)
       have hd : s.length - rest.length - (s.length - g.length) = p.length := by omega
       rw [hd, ← hgd, hp, List.take_left]
       exact lex_own p k hpne (solid_own p rest hpne (by rw [← hp]; exact hsol)) (by rw [hp, List.all_append, Bool.and_eq_true] at hgok; exact hgok.1) (by omega) hpw
      ·rw [if_neg hz] at h
       simp at h
       try exact absurd h.2.2 hz
theorem lex_apart (s : List UInt8) (l : List PTok) (h : lex s = (l, 0, 0)) : Apart s 0 l ∧ s.length ≤ 16384 := by
 unfold lex at h
 split at h
 ·simp at h
 ·rename_i hl
  split at h
  ·simp at h
  ·rename_i hok
   exact ⟨words_apart s (by simpa using hok) (by omega) _ _ 0 l (by omega) (by rw [List.drop_zero]; exact h), by omega⟩
end Go.Proofs.Ytcopdfihaheplaa.Lx
