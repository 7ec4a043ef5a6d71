/-
  Plain: which scripts may be, a script's text, and that it is read back. No program in sight.
-/
import Derived.Test.YtomggdeinjediaaDoorScPlain
namespace Go.Proofs.YtomggdeinjediaaDoor.Sc
open Go.RowKit
def dec (n : Int) : List UInt8 := Fx.textL n
def numLine (k : Nat) (n : Int) : List UInt8 := nm k ++ 32 :: dec n ++ [10]
def numsT : Nat → List Int → List UInt8
  | _, [] => []
  | k, n :: r => numLine k n ++ numsT (k + 1) r
def pickText : List UInt8 → List UInt8
  | [] => []
  | b :: r => 32 :: dec (b.toNat : Int) ++ pickText r
def picks5 : List UInt8 := [112, 105, 99, 107, 115]
def picksT (p : List UInt8) : List UInt8 := if p = [] then [] else picks5 ++ pickText p ++ [10]
def Scr.v (s : Scr) : List Int := [s.c, s.s, s.w, s.q, s.t]
def body (s : Scr) : List UInt8 := numsT 0 s.v ++ (picksT s.p ++ (program ++ 10 :: s.x))
def mayAll : Nat → List Int → Bool
  | _, [] => true
  | k, n :: r => may k n && mayAll (k + 1) r
def allB (w : Int) (p : List UInt8) : Bool := p.all fun b => decide ((b.toNat : Int) < w)
def check (s : Scr) : Bool := mayAll 0 s.v && (decide (s.p.length ≤ 400) && decide (s.x.length ≤ 16384)) && allB s.w s.p
theorem numsT_snoc : ∀ (l : List Int) (k : Nat) (n : Int), numsT k (l ++ [n]) = numsT k l ++ numLine (k + l.length) n := by
  intro l
  induction l with
  | nil => intro k n; simp [numsT]
  | cons a l ih =>
    intro k n
    rw [List.cons_append, numsT, ih, numsT, List.append_assoc, List.length_cons, show k + 1 + l.length = k + (l.length + 1) by omega]
theorem pickText_snoc : ∀ (l : List UInt8) (b : UInt8), pickText (l ++ [b]) = pickText l ++ 32 :: dec (b.toNat : Int) := by
  intro l
  induction l with
  | nil => intro b; simp [pickText]
  | cons a l ih => intro b; rw [List.cons_append, pickText, ih, pickText, List.append_assoc]
/-! no line feed, no blank -/
theorem no_of_all (l : List UInt8) (c : UInt8) (hc : Fx.isD c = false) (h : l.all Fx.isD = true) : l.contains c = false := by
  cases hx : l.contains c
  · rfl
  · rw [List.contains_iff_mem] at hx
    rw [List.all_eq_true] at h
    have := h c hx
    rw [hc] at this
    cases this
theorem dec_digits (n : Int) (h : 0 ≤ n) : (dec n).all Fx.isD = true := by
  obtain ⟨m, rfl⟩ : ∃ m : Nat, n = m := ⟨n.toNat, by omega⟩
  show (Fx.textL _).all Fx.isD = true
  rw [textL_nat]
  exact Fx.digF_all 20 m
theorem dec_no10 (n : Int) (h : 0 ≤ n) : (dec n).contains 10 = false := no_of_all _ _ (by decide) (dec_digits n h)
theorem dec_no32 (n : Int) (h : 0 ≤ n) : (dec n).contains 32 = false := no_of_all _ _ (by decide) (dec_digits n h)
theorem nm_no10 (k : Nat) : (nm k).contains 10 = false := by
  unfold nm
  split <;> rfl
theorem contains_app (a b : List UInt8) (c : UInt8) : (a ++ b).contains c = (a.contains c || b.contains c) := by simp
/-! lines -/
theorem line_of (l r : List UInt8) (h : l.contains 10 = false) : line (l ++ 10 :: r) = some (l, r) := by
  have h1 : ∀ x ∈ l, (x != 10) = true := by
    intro x hx
    rw [bne_iff_ne]
    intro e
    subst e
    rw [List.contains_iff_mem.2 hx] at h
    cases h
  unfold line
  rw [if_pos (by rw [contains_app]; simp), List.takeWhile_append_of_pos h1, List.dropWhile_append_of_pos h1]
  simp
theorem of_line (t l r : List UInt8) (h : line t = some (l, r)) : t = l ++ 10 :: r ∧ l.contains 10 = false := by
  induction t generalizing l r with
  | nil => unfold line at h; simp at h
  | cons c t ih =>
    unfold line at h
    by_cases hc : c = 10
    · subst hc
      simp at h
      obtain ⟨rfl, rfl⟩ := h
      exact ⟨rfl, rfl⟩
    · have e1 : ((10 : UInt8) == c) = false := by rw [beq_eq_false_iff_ne]; exact fun e => hc e.symm
      rw [List.contains_cons, e1, Bool.false_or, List.takeWhile_cons_of_pos (by simpa using hc), List.dropWhile_cons_of_pos (by simpa using hc)] at h
      split at h
      · rename_i hk
        injection h with h
        injection h with h1 h2
        have := ih (t.takeWhile (· != 10)) (t.dropWhile (· != 10)).tail (by unfold line; rw [if_pos hk])
        rw [← h1, ← h2]
        refine ⟨by rw [List.cons_append, ← this.1], ?_⟩
        rw [List.contains_cons, e1, this.2]; rfl
      · cases h
theorem strip_of (p r : List UInt8) : strip p (p ++ r) = some r := by
  unfold strip
  rw [if_pos (List.isPrefixOf_iff_prefix.2 ⟨r, rfl⟩)]
  simp
theorem of_strip (p t r : List UInt8) (h : strip p t = some r) : t = p ++ r := by
  unfold strip at h
  split at h
  · rename_i hp
    injection h with h
    obtain ⟨q, rfl⟩ := List.isPrefixOf_iff_prefix.1 hp
    rw [← h]; simp
  · cases h
theorem value_dec (n : Int) (h0 : 0 ≤ n) (h1 : n ≤ 131072) : value (dec n) = some n := by
  have hf : Fx.isF n = true := by unfold Fx.isF; simp; omega
  unfold value dec
  rw [Fx.parse_text n hf, if_pos ⟨rfl, h0, h1⟩]
theorem of_value (s : List UInt8) (n : Int) (h : value s = some n) : s = dec n ∧ 0 ≤ n ∧ n ≤ 131072 := by
  unfold value at h
  split at h
  · rename_i hc
    injection h with h
    obtain ⟨m, e, hp⟩ : ∃ m e, Fx.parse s = (m, e) := ⟨_, _, rfl⟩
    rw [hp] at hc h
    obtain ⟨h0, h1, h2⟩ := hc
    simp only [] at h0 h1 h2 h
    subst h0
    subst h
    exact ⟨(Fx.text_parse s m hp).2.symm, h1, h2⟩
  · cases h
theorem may_bd (k : Nat) (n : Int) (h : may k n = true) : 0 ≤ n ∧ n ≤ 65536 := by
  unfold may low top at h
  simp only [Bool.and_eq_true, decide_eq_true_eq] at h
  obtain ⟨h1, h2⟩ := h
  refine ⟨?_, ?_⟩
  · split at h1 <;> omega
  · split at h2 <;> omega
/-! a line with a number -/
theorem reads_numLine (k : Nat) (n : Int) (r : List UInt8) (h : may k n = true) : reads k (numLine k n ++ r) = some (n, r) := by
  obtain ⟨h0, h1⟩ := may_bd k n h
  have e : numLine k n ++ r = (nm k ++ [32] ++ dec n) ++ 10 :: r := by unfold numLine; simp
  have hn : (nm k ++ [32] ++ dec n).contains 10 = false := by
    rw [contains_app, contains_app, nm_no10, dec_no10 n h0]; rfl
  unfold reads
  rw [e, line_of _ _ hn]
  simp only []
  rw [strip_of]
  simp only []
  rw [value_dec n h0 (by omega)]
  simp only []
  rw [if_pos h]
theorem of_reads (k : Nat) (t : List UInt8) (n : Int) (r : List UInt8) (h : reads k t = some (n, r)) : t = numLine k n ++ r ∧ may k n = true := by
  unfold reads at h
  split at h
  · cases h
  · rename_i l r' hl
    split at h
    · cases h
    · rename_i w hw
      split at h
      · cases h
      · rename_i m hm
        split at h
        · rename_i hk
          injection h with h
          injection h with h1 h2
          subst h1; subst h2
          have e1 := (of_line _ _ _ hl).1
          have e2 := of_strip _ _ _ hw
          have e3 := (of_value _ _ hm).1
          exact ⟨by rw [e1, e2, e3]; unfold numLine; simp, hk⟩
        · cases h
theorem nums_of : ∀ (l : List Int) (k : Nat) (v : List Int) (t : List UInt8), mayAll k l = true → nums l.length k v (numsT k l ++ t) = tailP (mk (v ++ l)) t := by
  intro l
  induction l with
  | nil => intro k v t _; simp [nums, numsT]
  | cons n l ih =>
    intro k v t h
    unfold mayAll at h
    rw [Bool.and_eq_true] at h
    rw [List.length_cons, nums, numsT, List.append_assoc, reads_numLine k n _ h.1]
    simp only []
    rw [ih (k + 1) (v ++ [n]) t h.2, List.append_assoc]
    rfl
theorem of_nums : ∀ (f k : Nat) (v : List Int) (t : List UInt8) (q : Scr), nums f k v t = .ok q → ∃ l r, l.length = f ∧ mayAll k l = true ∧ t = numsT k l ++ r ∧ tailP (mk (v ++ l)) r = .ok q := by
  intro f
  induction f with
  | zero => intro k v t q h; exact ⟨[], t, rfl, rfl, rfl, by simpa [nums] using h⟩
  | succ f ih =>
    intro k v t q h
    unfold nums at h
    split at h
    · cases h
    · rename_i n r hr
      obtain ⟨l, r2, h1, h2, h3, h4⟩ := ih _ _ _ _ h
      obtain ⟨e, hm⟩ := of_reads _ _ _ _ hr
      exact ⟨n :: l, r2, by simp [h1], by unfold mayAll; rw [hm, h2]; rfl, by rw [e, h3, numsT, List.append_assoc], by simpa using h4⟩
/-! picks -/
theorem cuts_app : ∀ (a t : List UInt8), a.contains 32 = false → cuts (a ++ 32 :: t) = a :: cuts t := by
  intro a t h
  have h1 : ∀ x ∈ a, (x != 32) = true := by
    intro x hx
    rw [bne_iff_ne]
    intro e
    subst e
    rw [List.contains_iff_mem.2 hx] at h
    cases h
  rw [cuts_yes _ (by rw [contains_app]; simp), List.takeWhile_append_of_pos h1, List.dropWhile_append_of_pos h1]
  simp
theorem cuts_picks : ∀ (p : List UInt8) (a : List UInt8), a.contains 32 = false → cuts (a ++ pickText p) = a :: p.map (fun b => dec (b.toNat : Int)) := by
  intro p
  induction p with
  | nil => intro a h; simp [pickText, cuts_no a h]
  | cons b p ih =>
    intro a h
    rw [pickText, List.cons_append, cuts_app a _ h, ih _ (dec_no32 _ (by omega)), List.map_cons]
theorem pick_dec (w : Int) (b : UInt8) (h : (b.toNat : Int) < w) : pick w (dec (b.toNat : Int)) = some b := by
  have := b.toNat_lt
  unfold pick
  rw [value_dec _ (by omega) (by omega)]
  simp only []
  rw [if_pos h]
  simp
theorem picks_dec (w : Int) : ∀ (p : List UInt8) (k : Nat), k + p.length ≤ 400 → allB w p = true → picks w k (p.map (fun b => dec (b.toNat : Int))) = some p := by
  intro p
  induction p with
  | nil => intro k _ _; rfl
  | cons b p ih =>
    intro k hk h
    rw [List.length_cons] at hk
    unfold allB at h
    rw [List.all_cons, Bool.and_eq_true] at h
    rw [List.map_cons, picks, pick_dec w b (by simpa using h.1)]
    simp only []
    rw [if_neg (by omega), ih (k + 1) (by omega) h.2]
    rfl
theorem of_pick (w : Int) (s : List UInt8) (b : UInt8) (hw : w ≤ 256) (h : pick w s = some b) : s = dec (b.toNat : Int) ∧ (b.toNat : Int) < w := by
  unfold pick at h
  split at h
  · cases h
  · rename_i n hn
    split at h
    · rename_i hlt
      injection h with h
      obtain ⟨e, h0, h1⟩ := of_value _ _ hn
      have hb : (b.toNat : Int) = n := by
        rw [← h, UInt8.toNat_ofNat']
        omega
      rw [hb]
      exact ⟨e, hlt⟩
    · cases h
theorem of_picks (w : Int) (hw : w ≤ 256) : ∀ (ws : List (List UInt8)) (k : Nat) (p : List UInt8), picks w k ws = some p → ws = p.map (fun b => dec (b.toNat : Int)) ∧ allB w p = true ∧ (k ≤ 400 → k + p.length ≤ 400) := by
  intro ws
  induction ws with
  | nil => intro k p h; simp [picks] at h; subst h; exact ⟨rfl, rfl, fun h => by simpa using h⟩
  | cons s ws ih =>
    intro k p h
    unfold picks at h
    split at h
    · cases h
    · rename_i b hb
      split at h
      · cases h
      · rename_i h4
        cases hp : picks w (k + 1) ws with
        | none => rw [hp] at h; cases h
        | some q =>
          rw [hp] at h
          simp at h
          subst h
          obtain ⟨e1, e2, e3⟩ := ih (k + 1) q hp
          obtain ⟨e4, e5⟩ := of_pick w s b hw hb
          refine ⟨by rw [List.map_cons, ← e4, ← e1], ?_, fun _ => by have := e3 (by omega); rw [List.length_cons]; omega⟩
          unfold allB at e2 ⊢
          rw [List.all_cons, e2, decide_eq_true e5]; rfl
theorem join_cuts : ∀ (t : List UInt8), ∃ a l, cuts t = a :: l ∧ t = a ++ (l.map (fun s => 32 :: s)).flatten := by
  intro t
  induction t with
  | nil => exact ⟨[], [], rfl, rfl⟩
  | cons c t ih =>
    obtain ⟨a, l, e1, e2⟩ := ih
    by_cases hc : c = 32
    · subst hc
      refine ⟨[], a :: l, by rw [cuts, if_pos rfl, e1], ?_⟩
      rw [List.map_cons, List.flatten_cons, List.nil_append, List.cons_append, ← e2]
    · refine ⟨c :: a, l, by rw [cuts, if_neg hc, e1], ?_⟩
      rw [List.cons_append, ← e2]
theorem pickText_flat : ∀ (p : List UInt8), pickText p = ((p.map (fun b => dec (b.toNat : Int))).map (fun s => 32 :: s)).flatten := by
  intro p
  induction p with
  | nil => rfl
  | cons b p ih => rw [pickText, ih]; simp
theorem dec_ne (n : Int) : dec n ≠ [] := by
  unfold dec Fx.textL
  intro h
  have h2 := (List.append_eq_nil_iff.1 h).2
  unfold Fx.digF at h2
  split at h2
  · cases h2
  · have := (List.append_eq_nil_iff.1 h2).2
    cases this
/-! the whole -/
theorem pickText_no10 : ∀ (p : List UInt8), (pickText p).contains 10 = false := by
  intro p
  induction p with
  | nil => rfl
  | cons b p ih =>
    rw [pickText, List.cons_append, List.contains_cons, contains_app, ih, dec_no10 _ (by omega)]
    rfl
theorem tailP_body (s : Scr) (p x : List UInt8) (hp : p.length ≤ 400) (ha : allB s.w p = true) (hx : x.length ≤ 16384) (hs : s.p = []) : tailP s (picksT p ++ (program ++ 10 :: x)) = .ok { s with p := p, x := x } := by
  have hl : line (program ++ 10 :: x) = some (program, x) := line_of _ _ (by decide)
  unfold picksT
  by_cases h0 : p = []
  · subst h0
    rw [if_pos rfl, List.nil_append]
    unfold tailP
    rw [hl]
    simp only []
    rw [show strip picksW program = none by decide]
    simp only []
    unfold last
    rw [if_pos ⟨rfl, hx⟩, ← hs]
  · rw [if_neg h0]
    obtain ⟨b, p', rfl⟩ := List.exists_cons_of_ne_nil h0
    unfold tailP
    have e : (picks5 ++ pickText (b :: p') ++ [10]) ++ (program ++ 10 :: x) = (picks5 ++ pickText (b :: p')) ++ 10 :: (program ++ 10 :: x) := by simp
    rw [e, line_of _ _ (by rw [contains_app, pickText_no10]; rfl)]
    simp only []
    have e2 : picks5 ++ pickText (b :: p') = picksW ++ (dec (b.toNat : Int) ++ pickText p') := by rw [pickText]; simp [picks5, picksW]
    rw [e2, strip_of]
    simp only []
    rw [cuts_picks _ _ (dec_no32 _ (by omega))]
    have e3 := picks_dec s.w (b :: p') 0 (by omega) ha
    rw [List.map_cons] at e3
    rw [e3]
    simp only []
    rw [hl]
    simp only []
    unfold last
    rw [if_pos ⟨rfl, hx⟩]
theorem of_last {n : Int} {s q : Scr} {l r : List UInt8} (h : last n s l r = .ok q) : q = { s with x := r } ∧ l = program ∧ r.length ≤ 16384 := by
  unfold last at h
  split at h
  · rename_i hc
    injection h with h
    exact ⟨h.symm, hc.1, hc.2⟩
  · cases h
theorem of_tailP (s q : Scr) (t : List UInt8) (hs : s.p = []) (hw : s.w ≤ 256) (h : tailP s t = .ok q) : t = picksT q.p ++ (program ++ 10 :: q.x) ∧ q = { s with p := q.p, x := q.x } ∧ q.p.length ≤ 400 ∧ allB s.w q.p = true ∧ q.x.length ≤ 16384 := by
  unfold tailP at h
  split at h
  · cases h
  · rename_i l r hl
    have e1 := (of_line _ _ _ hl).1
    split at h
    · obtain ⟨rfl, rfl, hx⟩ := of_last h
      have hp : ({ s with x := r } : Scr).p = [] := hs
      refine ⟨by rw [e1, hp]; rfl, rfl, by rw [hp]; simp, by rw [hp]; rfl, hx⟩
    · rename_i ws hws
      have e2 := of_strip _ _ _ hws
      split at h
      · cases h
      · rename_i ps hps
        split at h
        · cases h
        · rename_i l2 r2 hl2
          have e3 := (of_line _ _ _ hl2).1
          obtain ⟨rfl, rfl, hx⟩ := of_last h
          obtain ⟨f1, f2, f3⟩ := of_picks s.w hw _ _ _ hps
          obtain ⟨a, m, g1, g2⟩ := join_cuts ws
          have hne : ps ≠ [] := by
            intro e
            rw [e, g1] at f1
            cases f1
          simp only []
          refine ⟨?_, trivial, by have := f3 (by omega); omega, f2, hx⟩
          have hp : pickText ps = 32 :: ws := by
            rw [pickText_flat, ← f1, g1, List.map_cons, List.flatten_cons, List.cons_append, ← g2]
          unfold picksT
          rw [if_neg hne, hp, e1, e2, e3]
          simp [picks5, picksW]
theorem mayAll5 (l : List Int) (h : l.length = 5) : ∃ a b c d e, l = [a, b, c, d, e] := by
  match l, h with
  | [a, b, c, d, e], _ => exact ⟨a, b, c, d, e, rfl⟩
theorem check_parts (s : Scr) (h : check s = true) : mayAll 0 s.v = true ∧ s.p.length ≤ 400 ∧ s.x.length ≤ 16384 ∧ allB s.w s.p = true := by
  unfold check at h
  simp only [Bool.and_eq_true, decide_eq_true_eq] at h
  exact ⟨h.1.1, h.1.2.1, h.1.2.2, h.2⟩
theorem check_mk (s : Scr) (h : mayAll 0 s.v = true ∧ s.p.length ≤ 400 ∧ s.x.length ≤ 16384 ∧ allB s.w s.p = true) : check s = true := by
  unfold check
  simp only [Bool.and_eq_true, decide_eq_true_eq]
  exact ⟨⟨h.1, h.2.1, h.2.2.1⟩, h.2.2.2⟩
/-- what is printed is read as it was -/
theorem parse_body (s : Scr) (h : check s = true) (hl : (body s).length ≤ 20000) : parse (body s) = .ok s := by
  obtain ⟨h1, h2, h3, h4⟩ := check_parts s h
  unfold parse
  rw [if_neg (by omega)]
  unfold body
  rw [show (5 : Nat) = s.v.length from rfl, nums_of s.v 0 [] _ h1]
  have hm : mk ([] ++ s.v) = { s with p := [], x := [] } := by simp [mk, Scr.v]
  rw [hm, tailP_body { s with p := [], x := [] } s.p s.x h2 h4 h3 rfl]
/-- what is read has the text that it was -/
theorem of_parse (t : List UInt8) (q : Scr) (h : parse t = .ok q) : check q = true ∧ body q = t ∧ t.length ≤ 20000 := by
  unfold parse at h
  split at h
  · cases h
  · rename_i hl
    obtain ⟨l, r, h1, h2, h3, h4⟩ := of_nums _ _ _ _ _ h
    obtain ⟨a, b, c, d, e, rfl⟩ := mayAll5 l h1
    have hm := h2
    simp only [mayAll, Bool.and_eq_true] at hm
    have hw : c ≤ 256 := by
      have := hm.2.2.1
      unfold may low top at this
      simp at this
      omega
    have hk : mk ([] ++ [a, b, c, d, e]) = ⟨a, b, c, d, e, [], []⟩ := by simp [mk]
    rw [hk] at h4
    obtain ⟨g1, g2, g3, g4, g5⟩ := of_tailP ⟨a, b, c, d, e, [], []⟩ q r rfl hw h4
    have hv : q.v = [a, b, c, d, e] := by rw [g2]; rfl
    have hqw : q.w = c := by rw [g2]
    refine ⟨check_mk q ⟨by rw [hv]; exact h2, g3, g5, by rw [hqw]; exact g4⟩, ?_, by omega⟩
    unfold body
    rw [hv, ← g1, ← h3]
/-! how long a text is -/
theorem dec_len (n : Int) (h : 0 ≤ n) : (dec n).length ≤ 21 := by
  obtain ⟨m, rfl⟩ : ∃ m : Nat, n = m := ⟨n.toNat, by omega⟩
  show (Fx.textL _).length ≤ 21
  rw [textL_nat]
  have : ∀ (f n : Nat), (Fx.digF f n).length ≤ f + 1 := by
    intro f
    induction f with
    | zero => intro n; simp [Fx.digF]
    | succ f ih =>
      intro n
      unfold Fx.digF
      split
      · simp
      · have := ih (n / 10); simp only [List.length_append, List.length_singleton]; omega
  exact this 20 m
theorem nm_len (k : Nat) : (nm k).length ≤ 7 := by
  unfold nm
  split <;> decide
theorem numsT_len : ∀ (l : List Int) (k : Nat), mayAll k l = true → (numsT k l).length ≤ 30 * l.length := by
  intro l
  induction l with
  | nil => intro k _; simp [numsT]
  | cons n l ih =>
    intro k h
    unfold mayAll at h
    rw [Bool.and_eq_true] at h
    have h1 := dec_len n (may_bd k n h.1).1
    have h2 := nm_len k
    have h3 := ih (k + 1) h.2
    rw [numsT, List.length_append, List.length_cons]
    unfold numLine
    simp only [List.length_append, List.length_cons, List.length_nil]
    omega
theorem pickText_len : ∀ (p : List UInt8), (pickText p).length ≤ 22 * p.length := by
  intro p
  induction p with
  | nil => simp [pickText]
  | cons b p ih =>
    have h1 := dec_len (b.toNat : Int) (by omega)
    rw [pickText]
    simp only [List.length_append, List.length_cons]
    omega
theorem picksT_len (p : List UInt8) (h : p.length ≤ 400) : (picksT p).length ≤ 8806 := by
  unfold picksT
  split
  · simp
  · have := pickText_len p
    simp only [List.length_append, List.length_cons, List.length_nil, picks5]
    omega
theorem head_len (s : Scr) (h1 : mayAll 0 s.v = true) (h2 : s.p.length ≤ 400) : (numsT 0 s.v ++ (picksT s.p ++ (program ++ [10]))).length ≤ 8964 := by
  have a := numsT_len s.v 0 h1
  have b := picksT_len s.p h2
  have c : s.v.length = 5 := rfl
  rw [c] at a
  simp only [List.length_append, List.length_cons, List.length_nil, program]
  omega
theorem body_len (s : Scr) (h : check s = true) : (body s).length ≤ 8964 + s.x.length := by
  obtain ⟨h1, h2, _, _⟩ := check_parts s h
  have := head_len s h1 h2
  unfold body
  simp only [List.length_append, List.length_cons, List.length_nil] at this ⊢
  omega
theorem body_text (s : Scr) (x : List UInt8) : body { s with x := [] } ++ x = body { s with x := x } := by
  unfold body
  show (numsT 0 s.v ++ (picksT s.p ++ (program ++ [10]))) ++ x = numsT 0 s.v ++ (picksT s.p ++ (program ++ 10 :: x))
  simp
theorem check_text (s : Scr) (x : List UInt8) (h : check s = true) (hx : x.length ≤ 16384) : check { s with x := x } = true := by
  obtain ⟨h1, h2, _, h4⟩ := check_parts s h
  exact check_mk _ ⟨h1, h2, hx, h4⟩
end Go.Proofs.YtomggdeinjediaaDoor.Sc
