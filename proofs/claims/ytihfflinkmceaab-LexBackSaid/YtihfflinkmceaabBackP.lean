/-
  Plain: a word's text is read as that word; several words' text; what is read of a text has a text.
-/
import Derived.Test.YtihfflinkmceaabLexBlanksP
import Derived.Test.YtihfflinkmceaabTxO
import Derived.Test.YtihfflinkmceaabFixBackPlain
import Derived.Test.YtihfflinkmceaabLexAwake
namespace Go.Proofs.Ytihfflinkmceaab.Lx
open Go.RowKit Go.Sort
theorem dw_appS (f : UInt8 → Bool) (h : f 32 = false) (b : List UInt8) : ∀ (r : List UInt8), (r ++ 32 :: b).dropWhile f = r.dropWhile f ++ 32 :: b := by
  intro r
  induction r with
  | nil => rw [List.nil_append, List.dropWhile_cons_of_neg (by rw [h]; simp)]; rfl
  | cons c r ih =>
    by_cases hc : f c = true
    · rw [List.cons_append, List.dropWhile_cons_of_pos hc, List.dropWhile_cons_of_pos hc, ih]
    · rw [List.cons_append, List.dropWhile_cons_of_neg hc, List.dropWhile_cons_of_neg hc]; rfl
theorem tw_appS (f : UInt8 → Bool) (h : f 32 = false) (b : List UInt8) : ∀ (r : List UInt8), (r ++ 32 :: b).takeWhile f = r.takeWhile f := by
  intro r
  induction r with
  | nil => rw [List.nil_append, List.takeWhile_cons_of_neg (by rw [h]; simp)]; rfl
  | cons c r ih =>
    by_cases hc : f c = true
    · rw [List.cons_append, List.takeWhile_cons_of_pos hc, List.takeWhile_cons_of_pos hc, ih]
    · rw [List.cons_append, List.takeWhile_cons_of_neg hc, List.takeWhile_cons_of_neg hc]
theorem run_appS (b t : List UInt8) (k : Tok) (r : List UInt8) (h : run t = .tok k r) : run (t ++ 32 :: b) = .tok k (r ++ 32 :: b) := by
  have hr := run_rest t k r h
  rw [run_eq] at h ⊢
  rw [tw_appS _ (by decide), dw_appS _ (by decide), ← hr]
  exact runW_rest _ _ _ _ h _
theorem nameLen_appS (b u : List UInt8) (h0 : u ≠ []) : nameLen (u ++ 32 :: b) = nameLen u := by
  cases u with
  | nil => exact absurd rfl h0
  | cons c u =>
    unfold nameLen
    rw [List.cons_append, List.tail_cons, List.tail_cons, tw_appS _ (by decide)]
    rfl
theorem char_appS (b t : List UInt8) (k : Tok) (r : List UInt8) (h : char t = .tok k r) : char (t ++ 32 :: b) = .tok k (r ++ 32 :: b) := by
  unfold char at h
  split at h
  · simp at h
  · rename_i hne
    split at h
    · simp at h
    · rename_i hok
      simp at h
      obtain ⟨rfl, rfl⟩ := h
      match t, hne, hok with
      | [], hne, _ => exact absurd rfl hne
      | [_], hne, _ => exact absurd rfl hne
      | x :: y :: u, hne, hok =>
        have hd : (x :: y :: u).drop 2 = u := rfl
        rw [hd] at hne hok ⊢
        obtain ⟨_, h2, h3⟩ := nameLen_own u hne
        unfold char
        have hd2 : (x :: y :: u ++ 32 :: b).drop 2 = u ++ 32 :: b := rfl
        rw [hd2, nameLen_appS b u hne, List.take_append_of_le_length h3, List.drop_append_of_le_length h3]
        have hpk : pk (x :: y :: u ++ 32 :: b) 2 = pk (x :: y :: u) 2 := pk_app _ _ _ (by
          have : 0 < u.length := List.length_pos_iff.2 hne
          simp; omega)
        rw [if_neg (by simp), hpk, if_neg hok]
        congr 2
        rw [show 2 + nameLen u = nameLen u + 2 by omega]
        rfl
theorem sg_tenS (c : UInt8) : sg c 32 = sg c 0 := by
  unfold sg
  cases (c == 40) <;> cases (c == 41) <;> cases (c == 39) <;> cases (c == 96) <;> cases (c == 44) <;> cases (c == 35) <;> rfl
theorem pk_tenS (t b : List UInt8) (h0 : t ≠ []) : pk (t ++ 32 :: b) 1 = pk t 1 ∨ (t.length = 1 ∧ pk t 1 = 0 ∧ pk (t ++ 32 :: b) 1 = 32) := by
  match t, h0 with
  | [c], _ => right; exact ⟨rfl, rfl, rfl⟩
  | c :: d :: t, _ => left; rfl
theorem word_appS (b t : List UInt8) (h0 : t ≠ []) (k : Tok) (r : List UInt8) (h : word t = .tok k r) : word (t ++ 32 :: b) = .tok k (r ++ 32 :: b) := by
  have hpos : 0 < t.length := List.length_pos_iff.2 h0
  have p0 : pk (t ++ 32 :: b) 0 = pk t 0 := pk_app _ _ _ hpos
  have hs : sign (t ++ 32 :: b) = sign t := by
    rw [sign_sg, sign_sg, p0]
    rcases pk_tenS t b h0 with h1 | ⟨_, h1, h2⟩
    · rw [h1]
    · rw [h1, h2, sg_tenS]
  have h92 : (pk (t ++ 32 :: b) 1 == 92) = (pk t 1 == 92) := by
    rcases pk_tenS t b h0 with h1 | ⟨_, h1, h2⟩
    · rw [h1]
    · rw [h1, h2]; rfl
  unfold word at h ⊢
  rw [hs, p0, h92]
  split at h
  · rename_i h1
    rw [if_pos h1]
    simp at h
    obtain ⟨rfl, rfl⟩ := h
    congr 1
    apply List.drop_append_of_le_length
    rw [sign_sg] at h1 ⊢
    rcases sg_two _ _ h1 with h2 | ⟨h2, hd⟩
    · rw [h2]; exact hpos
    · rw [h2]
      apply Classical.byContradiction
      intro hh
      exact hd (pk_end _ _ (by omega))
  · rename_i h1
    rw [if_neg h1]
    split at h
    · rename_i h2
      rw [if_pos h2]
      exact str_app _ t k r h0 h
    · rename_i h2
      rw [if_neg h2]
      split at h
      · rename_i h3
        rw [if_pos h3]
        exact char_appS b t k r h
      · rename_i h3
        rw [if_neg h3]
        exact run_appS b t k r h
end Go.Proofs.Ytihfflinkmceaab.Lx
namespace Go.Proofs.Ytihfflinkmceaab.Lx
open Go.RowKit Go.Sort
theorem u8_all (P : UInt8 → Bool) (h : ∀ n, n < 256 → P (UInt8.ofNat n) = true) (c : UInt8) : P c = true := by
  have h2 := h c.toNat c.toNat_lt
  simpa using h2
/-- what a text must be to be read as a word -/
structure Reads (x : List UInt8) (k : Tok) : Prop where
  word : word x = .tok k []
  ne : x ≠ []
  solid : Solid x
  ok : x.all okByte = true
theorem all_tw (f : UInt8 → Bool) : ∀ (x : List UInt8), x.all f = true → x.takeWhile f = x ∧ x.dropWhile f = []
  | [], _ => ⟨rfl, rfl⟩
  | c :: r, h => by
    rw [List.all_cons, Bool.and_eq_true] at h
    obtain ⟨h1, h2⟩ := all_tw f r h.2
    exact ⟨by rw [List.takeWhile_cons_of_pos h.1, h1], by rw [List.dropWhile_cons_of_pos h.1, h2]⟩
/-- a byte with which a run begins -/
def headB (c : UInt8) : Bool := (c != 40 && c != 41) && ((c != 39 && c != 96) && ((c != 44 && c != 35) && (c != 34 && (!white c && (c != 59 && c != 0)))))
theorem head_facts (x : List UInt8) (h : headB (pk x 0) = true) : sign x = (0, 0) ∧ (pk x 0 == 34) = false ∧ (pk x 0 == 35) = false ∧ Solid x := by
  unfold headB at h
  simp only [Bool.and_eq_true, bne_iff_ne, ne_eq, Bool.not_eq_true'] at h
  obtain ⟨⟨h1, h2⟩, ⟨h3, h4⟩, ⟨h5, h6⟩, h7, h8, h9, _⟩ := h
  refine ⟨?_, by simpa using h7, by simpa using h6, h8, by simpa using h9, ?_⟩
  · unfold sign
    simp [h1, h2, h3, h4, h5, h6]
  · have : (pk x 0 == 35) = false := by simpa using h6
    rw [this]; rfl
theorem run_reads (x : List UInt8) (k : Tok) (h0 : x ≠ []) (hh : headB (pk x 0) = true) (he : x.all (fun c => !ends c) = true) (hok : x.all okByte = true) (hr : runW x [] = .tok k []) : Reads x k := by
  obtain ⟨h1, h2, h3, h4⟩ := head_facts x hh
  refine ⟨?_, h0, h4, hok⟩
  unfold word
  rw [h1, if_neg (by simp), h2, if_neg (by simp), h3, if_neg (by simp), run_eq]
  obtain ⟨e1, e2⟩ := all_tw _ x he
  rw [e1, e2]
  exact hr
/-- the bytes of a number's text -/
def numB (c : UInt8) : Bool := figure c || c == 45
theorem num_ends : ∀ c, (!numB c || (!ends c && (okByte c && headB c))) = true := u8_all _ (by decide +kernel)
theorem sym_ends : ∀ c, (!goes c || (!ends c && okByte c)) = true := u8_all _ (by decide +kernel)
theorem sym_head : ∀ c, (!begins c || (headB c && (!figure c && (c != 45 && (c != 43 && c != 46))))) = true := u8_all _ (by decide +kernel)
theorem imp {a b : Bool} (h : (!a || b) = true) (ha : a = true) : b = true := by
  rw [ha] at h; simpa using h
theorem all_imp (f g : UInt8 → Bool) (h : ∀ c, f c = true → g c = true) (x : List UInt8) (hx : x.all f = true) : x.all g = true := by
  rw [List.all_eq_true] at hx ⊢
  exact fun c hc => h c (hx c hc)
theorem num_reads (n : Int) (hn : Fx.isF n = true) : Reads (Fx.textL n) ⟨9, n, []⟩ := by
  have hp := Fx.parse_text n hn
  have hd : (Fx.digF 20 n.natAbs).all Fx.isD = true := Fx.digF_all 20 n.natAbs
  have hd2 : (Fx.digF 20 n.natAbs).all figure = true := hd
  obtain ⟨c, l, hcl, _, _⟩ := Fx.digF_head 20 n.natAbs (by
    unfold Fx.isF at hn
    simp only [Bool.and_eq_true, decide_eq_true_eq] at hn
    omega)
  have hc : figure c = true := by
    rw [hcl, List.all_cons, Bool.and_eq_true] at hd2
    exact hd2.1
  have hall : (Fx.textL n).all numB = true := by
    unfold Fx.textL
    rw [List.all_append, Bool.and_eq_true]
    refine ⟨by split <;> rfl, all_imp _ _ (fun c h => by unfold numB; rw [h]; rfl) _ hd2⟩
  obtain ⟨x, hx⟩ : ∃ x, Fx.textL n = x := ⟨_, rfl⟩
  have hform : (x = c :: l) ∨ (x = 45 :: c :: l) := by
    rw [← hx]
    unfold Fx.textL
    rw [hcl]
    split
    · right; rfl
    · left; rfl
  rw [hx] at hp hall ⊢
  have h0 : x ≠ [] := by rcases hform with h | h <;> rw [h] <;> simp
  have hnb : numB (pk x 0) = true := by
    rcases hform with h | h
    · rw [h]; show numB c = true; unfold numB; rw [hc]; rfl
    · rw [h]; rfl
  have hh := imp (num_ends (pk x 0)) hnb
  simp only [Bool.and_eq_true] at hh
  refine run_reads x _ h0 hh.2.2 (all_imp _ _ (fun c h => by have := imp (num_ends c) h; simp only [Bool.and_eq_true] at this; exact this.1) x hall) (all_imp _ _ (fun c h => by have := imp (num_ends c) h; simp only [Bool.and_eq_true] at this; exact this.2.1) x hall) ?_
  have c35 : ∀ r, x ≠ 35 :: r := by
    intro r h
    rw [h] at hnb
    exact absurd (show numB 35 = true from hnb) (by decide)
  unfold runW
  rw [if_neg (c35 _), if_neg (c35 _), if_neg (by intro h; rw [h] at hnb; exact absurd hnb (by decide)), if_pos ?_, hp]
  · rfl
  · rcases hform with h | h
    · rw [h, List.headD_cons, hc]; rfl
    · rw [h, List.headD_cons]
      have : figure (pk (45 :: c :: l) 1) = true := hc
      rw [this]
      simp
theorem sym_reads (x : List UInt8) (h : symbol x = true) : Reads x ⟨13, 0, x⟩ := by
  have h' := h
  unfold symbol at h
  simp only [Bool.or_eq_true, beq_iff_eq] at h
  rcases h with ((rfl | rfl) | rfl) | h
  · exact run_reads _ _ (by simp) (by decide) (by decide) (by decide) rfl
  · exact run_reads _ _ (by simp) (by decide) (by decide) (by decide) rfl
  · exact run_reads _ _ (by simp) (by decide) (by decide) (by decide) rfl
  · simp only [Bool.and_eq_true] at h
    obtain ⟨⟨⟨he, _⟩, hb⟩, hg⟩ := h
    match x, he, hb with
    | c :: r, _, hb =>
      have hb2 : begins c = true := hb
      have hh := imp (sym_head c) hb2
      simp only [Bool.and_eq_true, bne_iff_ne, ne_eq, Bool.not_eq_true'] at hh
      obtain ⟨h1, h2, h3, h4, h5⟩ := hh
      refine run_reads _ _ (by simp) h1 (all_imp _ _ (fun c h => by have := imp (sym_ends c) h; simp only [Bool.and_eq_true] at this; exact this.1) _ hg) (all_imp _ _ (fun c h => by have := imp (sym_ends c) h; simp only [Bool.and_eq_true] at this; exact this.2) _ hg) ?_
      have c35 : c ≠ 35 := by intro e; rw [e] at h1; exact absurd h1 (by decide)
      unfold runW
      rw [if_neg (by intro e; injection e with e; exact c35 e), if_neg (by intro e; injection e with e; exact c35 e), if_neg (by intro e; injection e with e; exact h5 e), if_neg ?_, if_pos h']
      rw [List.headD_cons, h2, show (c == 45) = false by simpa using h3, show (c == 43) = false by simpa using h4]
      simp
end Go.Proofs.Ytihfflinkmceaab.Lx
namespace Go.Proofs.Ytihfflinkmceaab.Lx
open Go.RowKit Go.Sort Tx
theorem sign_reads (k : Int) (h : 1 ≤ k ∧ k ≤ 8) : Reads (signL k) ⟨k, 0, []⟩ := by
  have : k = 1 ∨ k = 2 ∨ k = 3 ∨ k = 4 ∨ k = 5 ∨ k = 6 ∨ k = 7 ∨ k = 8 := by omega
  rcases this with rfl | rfl | rfl | rfl | rfl | rfl | rfl | rfl
  · exact ⟨rfl, by decide, ⟨by decide, by decide, by decide⟩, by decide⟩
  · exact ⟨rfl, by decide, ⟨by decide, by decide, by decide⟩, by decide⟩
  · exact ⟨rfl, by decide, ⟨by decide, by decide, by decide⟩, by decide⟩
  · exact ⟨rfl, by decide, ⟨by decide, by decide, by decide⟩, by decide⟩
  · exact ⟨rfl, by decide, ⟨by decide, by decide, by decide⟩, by decide⟩
  · exact ⟨rfl, by decide, ⟨by decide, by decide, by decide⟩, by decide⟩
  · exact ⟨rfl, by decide, ⟨by decide, by decide, by decide⟩, by decide⟩
  · exact ⟨rfl, by decide, ⟨by decide, by decide, by decide⟩, by decide⟩
theorem bool_reads (n : Int) (h : n = 0 ∨ n = 1) : Reads (if n = 1 then [35, 116] else [35, 102]) ⟨10, n, []⟩ := by
  rcases h with rfl | rfl
  · exact ⟨rfl, by decide, ⟨by decide, by decide, by decide⟩, by decide⟩
  · exact ⟨rfl, by decide, ⟨by decide, by decide, by decide⟩, by decide⟩
def chB (n : Nat) : Bool := !(letL n).isEmpty && ((decide (nameLen (letL n) = (letL n).length) && decide (names (letL n) = (n : Int))) && (!white (pk (letL n) 0) && (letL n).all okByte))
theorem ch_all : ∀ n, n < 128 → chB n = true := by decide +kernel
theorem char_reads (n : Nat) (h : n < 128) : Reads (35 :: 92 :: letL n) ⟨11, (n : Int), []⟩ := by
  have hb := ch_all n h
  unfold chB at hb
  simp only [Bool.and_eq_true, decide_eq_true_eq, Bool.not_eq_true', List.isEmpty_eq_false_iff] at hb
  obtain ⟨h1, ⟨h2, h3⟩, h4, h5⟩ := hb
  refine ⟨?_, by simp, ⟨rfl, rfl, rfl⟩, ?_⟩
  · have hs : sign (35 :: 92 :: letL n) = (0, 0) := rfl
    unfold word
    rw [hs, if_neg (by simp), if_neg (by simp [pk]), if_pos (by simp [pk])]
    unfold char
    have hd : (35 :: 92 :: letL n).drop 2 = letL n := rfl
    rw [hd, if_neg h1, h2, List.take_of_length_le (Nat.le_refl _), List.drop_of_length_le (Nat.le_refl _), h3]
    have hp : pk (35 :: 92 :: letL n) 2 = pk (letL n) 0 := rfl
    rw [hp, h4, if_neg (by simp)]
  · rw [List.all_cons, List.all_cons, h5]; rfl
theorem strEnd_plain (c : UInt8) (t : List UInt8) (h1 : (c == 34) = false) (h2 : (c == 92) = false) : strEnd (c :: t) = (strEnd t).map fun p => (c :: p.1, p.2) := by
  cases t with
  | nil =>
    have e1 : strEnd [c] = none := by rw [strEnd, if_neg (by rw [h1]; simp)]
    have e2 : strEnd [] = none := by rw [strEnd]
    rw [e1, e2]; rfl
  | cons d r => rw [strEnd, h1, if_neg (by simp), h2, if_neg (by simp)]
theorem strEnd_esc (d : UInt8) (t : List UInt8) : strEnd (92 :: d :: t) = (strEnd t).map fun p => (92 :: d :: p.1, p.2) := by
  rw [strEnd, if_neg (by decide), if_pos (by decide)]
theorem strEnd_end (t : List UInt8) : strEnd (34 :: t) = some ([], t) := by
  cases t with
  | nil => rw [strEnd, if_pos (by decide)]
  | cons d r => rw [strEnd, if_pos (by decide)]
theorem fig_hex : ∀ d, d < 16 → hexOf (fig d) = some d ∧ (fig d == 34) = false ∧ (fig d == 92) = false := by decide
theorem esc_str (c : UInt8) (t : List UInt8) : strEnd (escL c ++ t) = (strEnd t).map fun p => (escL c ++ p.1, p.2) := by
  unfold escL
  split
  · exact strEnd_esc 110 t
  split
  · exact strEnd_esc 116 t
  split
  · exact strEnd_esc 34 t
  split
  · exact strEnd_esc 92 t
  split
  · rename_i h34 h92 _
    exact strEnd_plain c t (by simpa using h34) (by simpa using h92)
  · have hc := c.toNat_lt
    obtain ⟨_, a1, a2⟩ := fig_hex (c.toNat / 16) (by omega)
    obtain ⟨_, b1, b2⟩ := fig_hex (c.toNat % 16) (by omega)
    show strEnd (92 :: 120 :: fig (c.toNat / 16) :: fig (c.toNat % 16) :: t) = _
    rw [strEnd_esc, strEnd_plain _ _ a1 a2, strEnd_plain _ _ b1 b2, Option.map_map, Option.map_map]
    rfl
theorem esc_quoted (c : UInt8) (hc : c.toNat < 128) (t : List UInt8) : quoted (escL c ++ t) = (quoted t).map (c :: ·) := by
  unfold escL
  split
  · rename_i h
    have : c = 10 := by simpa using h
    subst this
    show quoted (92 :: 110 :: t) = _
    rw [quoted_esc, if_pos (by decide)]
  split
  · rename_i h
    have : c = 9 := by simpa using h
    subst this
    show quoted (92 :: 116 :: t) = _
    rw [quoted_esc, if_neg (by decide), if_pos (by decide)]
  split
  · rename_i h
    have : c = 34 := by simpa using h
    subst this
    show quoted (92 :: 34 :: t) = _
    rw [quoted_esc, if_neg (by decide), if_neg (by decide), if_pos (by decide)]
  split
  · rename_i h
    have : c = 92 := by simpa using h
    subst this
    show quoted (92 :: 92 :: t) = _
    rw [quoted_esc, if_neg (by decide), if_neg (by decide), if_pos (by decide)]
  split
  · rename_i _ _ _ h92 hr
    simp only [Bool.and_eq_true, decide_eq_true_eq] at hr
    show quoted (c :: t) = _
    rw [quoted_plain c t (by simpa using h92), if_neg]
    have hw : ∀ c : UInt8, (!(decide (32 ≤ c.toNat)) || !(white c && c != 32)) = true := u8_all _ (by decide +kernel)
    have := imp (hw c) (by simpa using hr.1)
    simp only [Bool.not_eq_true'] at this
    rw [this]
    simp
  · obtain ⟨a0, _, _⟩ := fig_hex (c.toNat / 16) (by omega)
    obtain ⟨b0, _, _⟩ := fig_hex (c.toNat % 16) (by omega)
    show quoted (92 :: 120 :: fig (c.toNat / 16) :: fig (c.toNat % 16) :: t) = _
    have h2 : two (fig (c.toNat / 16) :: fig (c.toNat % 16) :: t) = (c.toNat : Int) := by
      show (match hexOf (fig (c.toNat / 16)), hexOf (fig (c.toNat % 16)) with
        | some x, some y => if x ≤ 7 then ((16 * x + y : Nat) : Int) else -1
        | _, _ => -1) = _
      rw [a0, b0]
      show (if c.toNat / 16 ≤ 7 then ((16 * (c.toNat / 16) + c.toNat % 16 : Nat) : Int) else -1) = _
      rw [if_pos (by omega)]
      omega
    rw [quoted_esc, if_neg (by decide), if_neg (by decide), if_neg (by decide), if_pos (by decide), h2, if_neg (by omega)]
    simp
theorem escs_str : ∀ (l r : List UInt8), strEnd (escsL l ++ 34 :: r) = some (escsL l, r)
  | [], r => by show strEnd (34 :: r) = _; exact strEnd_end r
  | c :: l, r => by
    have e : escsL (c :: l) = escL c ++ escsL l := by simp [escsL]
    rw [e, List.append_assoc, esc_str, escs_str l r]
    rfl
theorem escs_quoted : ∀ (l : List UInt8), l.all (fun c => decide (c.toNat < 128)) = true → quoted (escsL l) = some l
  | [], _ => by show quoted [] = _; rw [quoted]
  | c :: l, h => by
    rw [List.all_cons, Bool.and_eq_true, decide_eq_true_eq] at h
    have e : escsL (c :: l) = escL c ++ escsL l := by simp [escsL]
    rw [e, esc_quoted c h.1, escs_quoted l h.2]
    rfl
theorem esc_ok : ∀ c, (escL c).all okByte = true := u8_all (fun c => (escL c).all okByte) (by decide +kernel)
theorem escs_ok : ∀ (l : List UInt8), (escsL l).all okByte = true
  | [] => rfl
  | c :: l => by
    have e : escsL (c :: l) = escL c ++ escsL l := by simp [escsL]
    rw [e, List.all_append, esc_ok c, escs_ok l]
    rfl
theorem str_reads (l : List UInt8) (hl : l.length ≤ 256) (ha : l.all (fun c => decide (c.toNat < 128)) = true) : Reads (quotL l) ⟨12, 0, l⟩ := by
  refine ⟨?_, by unfold quotL; simp, ⟨by unfold quotL; rfl, by unfold quotL; rfl, by unfold quotL; rfl⟩, ?_⟩
  · have hs : sign (quotL l) = (0, 0) := rfl
    unfold word
    rw [hs, if_neg (by simp), if_pos (by unfold quotL; simp [pk])]
    unfold str
    have ht : (quotL l).tail = escsL l ++ [34] := rfl
    rw [ht, escs_str]
    simp only [escs_quoted l ha]
    rw [if_pos hl]
  · unfold quotL
    rw [List.all_cons, List.all_append, escs_ok]; rfl
/-- the text of a word is read as that word -/
theorem text_reads (k n : Int) (s x : List UInt8) (h : Tx.text k n s = some x) : Reads x ⟨k, n, s⟩ := by
  have hkk : Tx.kind k = if k = 9 then 1 else if k = 10 then 2 else if k = 11 then 3 else if k = 12 then 4 else if k = 13 then 5 else 0 := rfl
  unfold Tx.text at h
  split at h
  · rename_i hk
    split at h
    · rename_i hok
      injection h with h
      subst h
      have hc : k = 9 ∨ k = 10 ∨ k = 11 ∨ k = 12 ∨ k = 13 := by
        rw [hkk] at hk
        apply Classical.byContradiction
        intro hh
        rw [if_neg (by omega), if_neg (by omega), if_neg (by omega), if_neg (by omega), if_neg (by omega)] at hk
        exact hk rfl
      rcases hc with rfl | rfl | rfl | rfl | rfl
      · rw [show Tx.kind 9 = 1 from rfl] at hok ⊢
        unfold Tx.ok at hok
        rw [if_pos rfl, Bool.and_eq_true, decide_eq_true_eq] at hok
        obtain ⟨h1, rfl⟩ := hok
        exact num_reads n h1
      · rw [show Tx.kind 10 = 2 from rfl] at hok ⊢
        unfold Tx.ok at hok
        rw [if_neg (by decide), if_pos rfl, Bool.and_eq_true, Bool.or_eq_true, decide_eq_true_eq, decide_eq_true_eq, decide_eq_true_eq] at hok
        obtain ⟨h1, rfl⟩ := hok
        exact bool_reads n h1
      · rw [show Tx.kind 11 = 3 from rfl] at hok ⊢
        unfold Tx.ok at hok
        rw [if_neg (by decide), if_neg (by decide), if_pos rfl, Bool.and_eq_true, Bool.and_eq_true, decide_eq_true_eq, decide_eq_true_eq, decide_eq_true_eq] at hok
        obtain ⟨⟨h1, h2⟩, rfl⟩ := hok
        obtain ⟨m, rfl⟩ := Int.eq_ofNat_of_zero_le h1
        exact char_reads m (by omega)
      · rw [show Tx.kind 12 = 4 from rfl] at hok ⊢
        unfold Tx.ok at hok
        rw [if_neg (by decide), if_neg (by decide), if_neg (by decide), if_pos rfl, Bool.and_eq_true, Bool.and_eq_true, decide_eq_true_eq, decide_eq_true_eq] at hok
        obtain ⟨rfl, h1, h2⟩ := hok
        exact str_reads s h1 h2
      · rw [show Tx.kind 13 = 5 from rfl] at hok ⊢
        unfold Tx.ok at hok
        rw [if_neg (by decide), if_neg (by decide), if_neg (by decide), if_neg (by decide), if_pos rfl, Bool.and_eq_true, decide_eq_true_eq] at hok
        obtain ⟨rfl, h1⟩ := hok
        exact sym_reads s h1
    · exact absurd h (by simp)
  · split at h
    · rename_i hk
      split at h
      · rename_i h0
        injection h with h
        subst h
        obtain ⟨rfl, rfl⟩ := h0
        exact sign_reads k hk
      · exact absurd h (by simp)
    · exact absurd h (by simp)
end Go.Proofs.Ytihfflinkmceaab.Lx
namespace Go.Proofs.Ytihfflinkmceaab.Lx
open Go.RowKit Go.Sort Tx
/-- behind a word stands nothing, or a blank -/
def Sep (z : List UInt8) : Prop := z = [] ∨ ∃ b, z = 32 :: b
theorem sep_tail : ∀ (xs : List (List UInt8)), Sep (Lib.joinTail [32] xs)
  | [] => .inl rfl
  | y :: r => .inr ⟨y ++ Lib.joinTail [32] r, by simp [Lib.joinTail]⟩
theorem solid_sep (x z : List UInt8) (h0 : x ≠ []) (hx : Solid x) (hz : Sep z) : Solid (x ++ z) := by
  match x, h0 with
  | [c], _ =>
    obtain ⟨h1, h2, h3⟩ := hx
    refine ⟨h1, h2, ?_⟩
    rcases hz with rfl | ⟨b, rfl⟩
    · exact h3
    · show (c == 35 && (32 : UInt8) == 124) = false
      simp
  | c :: d :: r, _ => exact hx
theorem word_sep (x z : List UInt8) (k : Tok) (hx : Reads x k) (hz : Sep z) : word (x ++ z) = .tok k z := by
  rcases hz with rfl | ⟨b, rfl⟩
  · rw [List.append_nil]; exact hx.word
  · have := word_appS b x hx.ne k [] hx.word
    simpa using this
theorem gap_sep (t : List UInt8) (h0 : t ≠ []) (hs : Solid t) : gap t.length t = (t, true) := by
  have hpos : 0 < t.length := List.length_pos_iff.2 h0
  obtain ⟨m, hm⟩ : ∃ m, t.length = m + 1 := ⟨t.length - 1, by omega⟩
  rw [hm]
  exact gap_solid m t hs
theorem gap_blank (t : List UInt8) (h0 : t ≠ []) (hs : Solid t) : gap (32 :: t).length (32 :: t) = (t, true) := by
  rw [List.length_cons, gap, if_pos (by decide)]
  exact gap_sep t h0 hs
/-- all of a list, in pairs -/
inductive Both : List (List UInt8) → List Tok → Prop where
  | nil : Both [] []
  | cons {x : List UInt8} {k : Tok} {xs : List (List UInt8)} {ks : List Tok} : Reads x k → Both xs ks → Both (x :: xs) (k :: ks)
theorem words_end (N f c : Nat) : words N (f + 1) c [] = ([], 0, 0) := by
  rw [words_step]; rfl
theorem words_tail (N : Nat) : ∀ (xs : List (List UInt8)) (ks : List Tok), Both xs ks → ∀ (f c : Nat), xs.length < f → c + xs.length ≤ 4096 →
    ∃ l, words N f c (Lib.joinTail [32] xs) = (l, 0, 0) ∧ l.map (·.t) = ks := by
  intro xs ks h
  induction h with
  | nil =>
    intro f c hf _
    obtain ⟨g, rfl⟩ : ∃ g, f = g + 1 := ⟨f - 1, by simp at hf; omega⟩
    exact ⟨[], words_end N g c, rfl⟩
  | cons hx hb ih =>
    rename_i x k xs ks
    intro f c hf hc
    simp only [List.length_cons] at hf hc
    obtain ⟨g, rfl⟩ : ∃ g, f = g + 1 := ⟨f - 1, by omega⟩
    obtain ⟨l, h1, h2⟩ := ih g (c + 1) (by omega) (by omega)
    have e : Lib.joinTail [32] (x :: xs) = 32 :: (x ++ Lib.joinTail [32] xs) := by simp [Lib.joinTail]
    have hne : x ++ Lib.joinTail [32] xs ≠ [] := by have := hx.ne; simp [this]
    have hw := words_tok N g c _ _ _ k l (gap_blank _ hne (solid_sep _ _ hx.ne hx.solid (sep_tail xs))) hne (by omega) (word_sep _ _ _ hx (sep_tail xs)) h1
    rw [e]
    exact ⟨_, hw, by rw [List.map_cons, h2]⟩
theorem words_join (N : Nat) (xs : List (List UInt8)) (ks : List Tok) (h : Both xs ks) (f : Nat) (hf : xs.length < f) (hc : xs.length ≤ 4096) :
    ∃ l, words N f 0 (Lib.join xs [32]) = (l, 0, 0) ∧ l.map (·.t) = ks := by
  cases h with
  | nil =>
    obtain ⟨g, rfl⟩ : ∃ g, f = g + 1 := ⟨f - 1, by simp at hf; omega⟩
    exact ⟨[], words_end N g 0, rfl⟩
  | cons hx hb =>
    rename_i x k xs ks
    simp only [List.length_cons] at hf hc
    obtain ⟨g, rfl⟩ : ∃ g, f = g + 1 := ⟨f - 1, by omega⟩
    obtain ⟨l, h1, h2⟩ := words_tail N xs ks hb g 1 (by omega) (by omega)
    have hne : x ++ Lib.joinTail [32] xs ≠ [] := by have := hx.ne; simp [this]
    rw [Lib.join_cons]
    have hw := words_tok N g 0 _ _ _ k l (gap_sep _ hne (solid_sep _ _ hx.ne hx.solid (sep_tail xs))) hne (by omega) (word_sep _ _ _ hx (sep_tail xs)) h1
    exact ⟨_, hw, by rw [List.map_cons, h2]⟩
theorem tail_ok : ∀ (xs : List (List UInt8)) (ks : List Tok), Both xs ks → (Lib.joinTail [32] xs).all okByte = true := by
  intro xs ks h
  induction h with
  | nil => rfl
  | cons hx _hb ih =>
    rename_i x k xs ks
    have e : Lib.joinTail [32] (x :: xs) = 32 :: (x ++ Lib.joinTail [32] xs) := by simp [Lib.joinTail]
    rw [e, List.all_cons, List.all_append, hx.ok, ih]; rfl
theorem join_ok (xs : List (List UInt8)) (ks : List Tok) (h : Both xs ks) : (Lib.join xs [32]).all okByte = true := by
  cases h with
  | nil => rfl
  | cons hx hb => rw [Lib.join_cons, List.all_append, hx.ok, tail_ok _ _ hb]; rfl
theorem join_long : ∀ (xs : List (List UInt8)) (ks : List Tok), Both xs ks → xs.length ≤ (Lib.join xs [32]).length := by
  intro xs ks h
  have ht : ∀ (xs : List (List UInt8)), xs.length ≤ (Lib.joinTail [32] xs).length := by
    intro xs
    induction xs with
    | nil => simp
    | cons y r ih =>
      have e : Lib.joinTail [32] (y :: r) = 32 :: (y ++ Lib.joinTail [32] r) := by simp [Lib.joinTail]
      rw [e, List.length_cons, List.length_cons, List.length_append]
      omega
  cases h with
  | nil => simp
  | cons hx hb =>
    rename_i x k xs ks
    rw [Lib.join_cons, List.length_append, List.length_cons]
    have := ht xs
    have : 0 < x.length := List.length_pos_iff.2 hx.ne
    omega
theorem lex_join (xs : List (List UInt8)) (ks : List Tok) (h : Both xs ks) (hl : (Lib.join xs [32]).length ≤ 16384) (hc : xs.length ≤ 4096) :
    ∃ l, lex (Lib.join xs [32]) = (l, 0, 0) ∧ l.map (·.t) = ks := by
  obtain ⟨l, h1, h2⟩ := words_join (Lib.join xs [32]).length xs ks h ((Lib.join xs [32]).length + 1) (by have := join_long xs ks h; omega) hc
  refine ⟨l, ?_, h2⟩
  unfold lex
  rw [if_neg (by omega), join_ok xs ks h, if_neg (by simp)]
  exact h1
/-- the word without its place -/
def tokOf (t : W) : Tok := ⟨t.k, t.n, t.s.data.toList⟩
theorem texts_both : ∀ (l : List W) (xs : List (List UInt8)), texts l = some xs → Both xs (l.map tokOf)
  | [], xs, h => by simp [texts] at h; subst h; exact .nil
  | t :: r, xs, h => by
    unfold texts at h
    cases ht : t.txt with
    | none => rw [ht] at h; simp at h
    | some x =>
      rw [ht] at h
      simp only [Option.map_eq_some_iff] at h
      obtain ⟨ys, hy, rfl⟩ := h
      exact .cons (text_reads t.k t.n t.s.data.toList x ht) (texts_both r ys hy)
/-- what Join has made is read as the words -/
theorem back_join (l : List W) (xs : List (List UInt8)) (h : texts l = some xs) (h4 : l.length ≤ 4096) (hl : (Lib.join xs [32]).length ≤ 16384) :
    ∃ ps, lex (Lib.join xs [32]) = (ps, 0, 0) ∧ ps.map (·.t) = l.map tokOf := by
  have hb := texts_both l xs h
  have hlen := texts_len l xs h
  exact lex_join xs _ hb hl (by omega)
end Go.Proofs.Ytihfflinkmceaab.Lx
namespace Go.Proofs.Ytihfflinkmceaab.Lx
open Go.RowKit Go.Sort Tx
def small (c : UInt8) : Bool := decide (c.toNat < 128)
theorem ok_small : ∀ c, (!okByte c || small c) = true := u8_all _ (by decide +kernel)
theorem quoted_small : ∀ (m : Nat) (l q : List UInt8), l.length ≤ m → l.all small = true → quoted l = some q → q.all small = true := by
  intro m
  induction m with
  | zero =>
    intro l q hm _ h
    have : l = [] := List.eq_nil_of_length_eq_zero (by omega)
    subst this
    rw [quoted] at h
    injection h with h
    subst h
    rfl
  | succ m ih =>
    intro l q hm ha h
    have hmap : ∀ (c : UInt8) (r : List UInt8), r.length ≤ m → r.all small = true → small c = true → (quoted r).map (c :: ·) = some q → q.all small = true := by
      intro c r hr har hc h
      simp only [Option.map_eq_some_iff] at h
      obtain ⟨p, hp, rfl⟩ := h
      rw [List.all_cons, hc, ih r p hr har hp]; rfl
    match l with
    | [] => rw [quoted] at h; injection h with h; subst h; rfl
    | c :: r =>
      rw [List.all_cons, Bool.and_eq_true] at ha
      simp only [List.length_cons] at hm
      by_cases h92 : c = 92
      · subst h92
        match r, ha, hm, h with
        | [], _, _, h => rw [quoted_92] at h; exact absurd h (by simp)
        | d :: t, ha, hm, h =>
          rw [quoted_esc] at h
          have ha2 := ha.2
          rw [List.all_cons, Bool.and_eq_true] at ha2
          simp only [List.length_cons] at hm
          split at h
          · exact hmap 10 t (by omega) ha2.2 (by decide) h
          split at h
          · exact hmap 9 t (by omega) ha2.2 (by decide) h
          split at h
          · exact hmap d t (by omega) ha2.2 ha2.1 h
          split at h
          · split at h
            · exact absurd h (by simp)
            · rename_i hneg
              have hr := two_range t (by omega)
              refine hmap _ (t.drop 2) (by rw [List.length_drop]; omega) ?_ ?_ h
              · rw [List.all_eq_true] at ha2 ⊢
                exact fun x hx => ha2.2 x (List.mem_of_mem_drop hx)
              · unfold small
                simp
                omega
          · exact absurd h (by simp)
      · rw [quoted_plain c r (by simpa using h92)] at h
        split at h
        · exact absurd h (by simp)
        · exact hmap c r (by omega) ha.2 ha.1 h
theorem strEnd_small : ∀ (l b r : List UInt8), l.all small = true → strEnd l = some (b, r) → b.all small = true := by
  intro l b r ha h
  obtain ⟨p, hp, _⟩ := strEnd_own _ l b r (Nat.le_refl _) h
  have : ∀ (m : Nat) (l b r : List UInt8), l.length ≤ m → l.all small = true → strEnd l = some (b, r) → b.all small = true := by
    intro m
    induction m with
    | zero =>
      intro l b r hm _ h
      have : l = [] := List.eq_nil_of_length_eq_zero (by omega)
      subst this
      rw [strEnd] at h
      exact absurd h (by simp)
    | succ m ih =>
      intro l b r hm ha h
      match l with
      | [] => rw [strEnd] at h; exact absurd h (by simp)
      | c :: t =>
        rw [List.all_cons, Bool.and_eq_true] at ha
        simp only [List.length_cons] at hm
        by_cases h34 : c = 34
        · subst h34
          rw [strEnd_end] at h
          injection h with h
          injection h with h _
          subst h
          rfl
        · by_cases h92 : c = 92
          · subst h92
            match t, ha, hm, h with
            | [], _, _, h => rw [strEnd, if_neg (by decide)] at h; exact absurd h (by simp)
            | d :: t, ha, hm, h =>
              rw [strEnd_esc] at h
              have ha2 := ha.2
              rw [List.all_cons, Bool.and_eq_true] at ha2
              simp only [List.length_cons] at hm
              simp only [Option.map_eq_some_iff] at h
              obtain ⟨q, hq, h⟩ := h
              injection h with h _
              subst h
              rw [List.all_cons, List.all_cons, ha2.1, ih t q.1 q.2 (by omega) ha2.2 hq]; rfl
          · rw [strEnd_plain c t (by simpa using h34) (by simpa using h92)] at h
            simp only [Option.map_eq_some_iff] at h
            obtain ⟨q, hq, h⟩ := h
            injection h with h _
            subst h
            rw [List.all_cons, ha.1, ih t q.1 q.2 (by omega) ha.2 hq]; rfl
  exact this _ l b r (Nat.le_refl _) ha h
theorem text_of_ok (k n : Int) (s : List UInt8) (hk : kind k ≠ 0) (h : Tx.ok (kind k) n s = true) : ∃ x, Tx.text k n s = some x := by
  unfold Tx.text
  rw [if_pos hk, if_pos h]
  exact ⟨_, rfl⟩
theorem text_of_sign (k : Int) (h : 1 ≤ k ∧ k ≤ 8) : ∃ x, Tx.text k 0 [] = some x := by
  unfold Tx.text
  have hk : kind k = 0 := by
    unfold kind
    rw [if_neg (by omega), if_neg (by omega), if_neg (by omega), if_neg (by omega), if_neg (by omega)]
  rw [if_neg (by rw [hk]; simp), if_pos h, if_pos ⟨rfl, rfl⟩]
  exact ⟨_, rfl⟩
theorem names_small (t : List UInt8) (h : t.all small = true) : names t ≤ 127 := by
  unfold names
  split
  · match t, h with
    | [], _ => show ((0 : UInt8).toNat : Int) ≤ 127; decide
    | c :: r, h =>
      rw [List.all_cons, Bool.and_eq_true] at h
      have := h.1
      unfold small at this
      rw [decide_eq_true_iff] at this
      show (c.toNat : Int) ≤ 127
      omega
  split
  · decide
  split
  · decide
  split
  · decide
  split
  · decide
  split
  · by_cases h0 : 0 ≤ two t.tail
    · exact (two_range _ h0).2
    · omega
  · decide
/-- what is read of a text has a text -/
theorem word_text (t r : List UInt8) (k : Tok) (ha : t.all small = true) (h : word t = .tok k r) : ∃ x, Tx.text k.k k.n k.s = some x := by
  unfold word at h
  split at h
  · rename_i hs
    injection h with h _
    subst h
    have hr : 1 ≤ (sign t).1 ∧ (sign t).1 ≤ 8 := by
      refine ⟨by omega, ?_⟩
      unfold sign
      repeat' split
      all_goals simp
    show ∃ x, Tx.text ((sign t).1 : Int) 0 [] = some x
    exact text_of_sign _ (by omega)
  · split at h
    · unfold str at h
      split at h
      · exact absurd h (by simp)
      · rename_i b rr hse
        split at h
        · rename_i q hq
          split at h
          · rename_i hl
            injection h with h _
            subst h
            have hb := strEnd_small _ _ _ (by
              match t, ha with
              | [], _ => rfl
              | c :: t, ha =>
                rw [List.all_cons, Bool.and_eq_true] at ha
                exact ha.2) hse
            have hqs := quoted_small _ _ _ (Nat.le_refl _) hb hq
            refine text_of_ok 12 0 q (by decide) ?_
            rw [show kind 12 = 4 from rfl]
            unfold Tx.ok
            rw [if_neg (by decide), if_neg (by decide), if_neg (by decide), if_pos rfl, Bool.and_eq_true, Bool.and_eq_true, decide_eq_true_eq, decide_eq_true_eq]
            exact ⟨rfl, hl, hqs⟩
          · exact absurd h (by simp)
        · exact absurd h (by simp)
    · split at h
      · unfold char at h
        split at h
        · exact absurd h (by simp)
        · split at h
          · exact absurd h (by simp)
          · rename_i hn
            injection h with h _
            subst h
            have hnn := names_small ((t.drop 2).take (nameLen (t.drop 2))) (by
              rw [List.all_eq_true] at ha ⊢
              exact fun x hx => ha x (List.mem_of_mem_drop (List.mem_of_mem_take hx)))
            simp only [Bool.or_eq_true, decide_eq_true_eq, not_or] at hn
            refine text_of_ok 11 _ [] (by decide) ?_
            rw [show kind 11 = 3 from rfl]
            unfold Tx.ok
            rw [if_neg (by decide), if_neg (by decide), if_pos rfl, Bool.and_eq_true, Bool.and_eq_true, decide_eq_true_eq, decide_eq_true_eq, decide_eq_true_eq]
            exact ⟨⟨by show (0 : Int) ≤ names _; omega, hnn⟩, rfl⟩
      · rw [run_eq] at h
        generalize (t.takeWhile fun c => !ends c) = w at h
        unfold runW at h
        split at h
        · injection h with h _; subst h; exact text_of_ok 10 0 [] (by decide) (by decide)
        split at h
        · injection h with h _; subst h; exact text_of_ok 10 1 [] (by decide) (by decide)
        split at h
        · injection h with h _; subst h; exact text_of_sign 8 (by omega)
        split at h
        · split at h
          · rename_i hp
            injection h with h _
            subst h
            have hf := (Fx.text_parse w (Fx.parse w).1 (by rw [← hp])).1
            refine text_of_ok 9 _ [] (by decide) ?_
            rw [show kind 9 = 1 from rfl]
            unfold Tx.ok
            rw [if_pos rfl, hf]; rfl
          · split at h
            · exact absurd h (by simp)
            · exact absurd h (by simp)
        split at h
        · rename_i hsy
          injection h with h _
          subst h
          refine text_of_ok 13 0 w (by decide) ?_
          rw [show kind 13 = 5 from rfl]
          unfold Tx.ok
          rw [if_neg (by decide), if_neg (by decide), if_neg (by decide), if_neg (by decide), if_pos rfl, hsy]; rfl
        · exact absurd h (by simp)
theorem word_suf (t r : List UInt8) (k : Tok) (h : word t = .tok k r) : r <:+ t := by
  unfold word at h
  split at h
  · injection h with _ h
    subst h
    exact List.drop_suffix _ _
  · split at h
    · unfold str at h
      split at h
      · exact absurd h (by simp)
      · rename_i b rr hse
        obtain ⟨p, hp, _⟩ := strEnd_own _ _ _ _ (Nat.le_refl _) hse
        have hs : rr <:+ t := by
          have h1 : rr <:+ t.tail := ⟨p, hp.symm⟩
          exact h1.trans (List.tail_suffix t)
        split at h
        · split at h
          · injection h with _ h
            subst h
            exact hs
          · exact absurd h (by simp)
        · exact absurd h (by simp)
    · split at h
      · unfold char at h
        split at h
        · exact absurd h (by simp)
        · split at h
          · exact absurd h (by simp)
          · injection h with _ h
            subst h
            exact (List.drop_suffix _ _).trans (List.drop_suffix _ _)
      · rw [run_rest t k r h]
        exact List.dropWhile_suffix _
theorem words_zero (N f c : Nat) (t : List UInt8) (l : List PTok) (a : Nat) (h : words N f c t = (l, a, 0)) : a = 0 := by
  have hn := words_norm N f c t
  rw [h] at hn
  unfold app at hn
  rw [if_pos rfl] at hn
  injection hn with _ hn
  injection hn with hn _
  exact hn.symm
/-- the words that are read have texts -/
theorem words_texts (N : Nat) : ∀ (f c : Nat) (t : List UInt8) (l : List PTok), t.all small = true → words N f c t = (l, 0, 0) → ∀ p ∈ l, ∃ x, Tx.text p.t.k p.t.n p.t.s = some x := by
  intro f
  induction f with
  | zero =>
    intro c t l _ h
    unfold words at h
    injection h with h _
    subst h
    intro p hp
    exact absurd hp (by simp)
  | succ f ih =>
    intro c t l ha h
    rw [words_step] at h
    have hsuf : ∀ (x : List UInt8), x <:+ t → x.all small = true := by
      intro x hx
      rw [List.all_eq_true] at ha ⊢
      exact fun y hy => ha y (hx.subset hy)
    split at h
    · injection h with _ h; injection h with _ h; exact absurd h (by simp)
    split at h
    · injection h with h _
      subst h
      intro p hp
      exact absurd hp (by simp)
    split at h
    · injection h with _ h; injection h with _ h; exact absurd h (by simp)
    · split at h
      · rename_i e he
        injection h with _ h
        injection h with _ h
        exact absurd h (word_err _ _ he)
      · rename_i k rest hw
        have hg := hsuf _ (gap_suf t.length t)
        split at h
        · rename_i hz
          injection h with h _
          subst h
          intro p hp
          rcases List.mem_cons.1 hp with rfl | hp
          · exact word_text _ _ _ hg hw
          · have hrest : rest.all small = true := by
              have := word_suf _ _ _ hw
              rw [List.all_eq_true] at hg ⊢
              exact fun y hy => hg y (this.subset hy)
            obtain ⟨W, hW⟩ : ∃ W, words N f (c + 1) rest = W := ⟨_, rfl⟩
            rw [hW] at hp hz
            obtain ⟨l', a, e⟩ := W
            simp only at hz hp
            subst hz
            have ha0 : a = 0 := words_zero N f (c + 1) rest l' a hW
            subst ha0
            exact ih (c + 1) rest l' hrest hW p hp
        · rename_i hz
          injection h with _ h
          injection h with _ h
          exact absurd h hz
end Go.Proofs.Ytihfflinkmceaab.Lx
