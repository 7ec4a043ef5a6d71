/-
 The walk of Words.
-/
import Derived.Test.YtcopdfihaheplaaLexWordsP
namespace Go.Proofs.Ytcopdfihaheplaa
open Go.RowKit Go.Sort
namespace Lx
theorem infoTok : (Try.prog.info? 47).map (fun i => (i.zero, i.size, i.bytes)) = some (some (.agg #[.int .i64 0, .int .i64 0, .int .i64 0, .int .i64 0, .string ⟨#[]⟩]), 5, 48) := by kernel_rfl
def cells5 (p : PTok) : List Value := [.int .i64 p.t.k, .int .i64 (p.at_ : Int), .int .i64 (p.to : Int), .int .i64 p.t.n, .string ⟨p.t.s.toArray⟩]
def flatT (l : List PTok) : List Value := l.flatMap cells5
def app (acc : List PTok) (r : List PTok × Nat × Int) : List PTok × Nat × Int := if r.2.2 = 0 then (acc ++ r.1, 0, 0) else ([], r.2.1, r.2.2)
def WordsPost (W : List PTok × Nat × Int) (w : World) (e : Ending) (w' : World) : Prop :=
 Below w.heap.size w w' ∧ ((W.2.2 = 0 ∧ ∃ v, e = .returned (.tuple #[v, .int .i64 0, .int .i64 0]) ∧ w'.ownsRow w.heap.size 47 5 v W.1.length (flatT W.1))
  ∨ (W.2.2 ≠ 0 ∧ e = .returned (.tuple #[.slice none 0 0, .int .i64 (W.2.1 : Int), .int .i64 W.2.2])))
theorem WordsPost.err {W : List PTok × Nat × Int} {w w' : World} {e : Ending} (p : Nat) (c : Int) (h : W = ([], p, c)) (hc : c ≠ 0) (hb : Below w.heap.size w w') (he : e = .returned (.tuple #[.slice none 0 0, .int .i64 (p : Int), .int .i64 c])) : WordsPost W w e w' := by
 subst h
 exact ⟨hb, .inr ⟨hc, he⟩⟩
theorem ok_int (c : UInt8) : okByte c = (decide ((c.toNat : Int) ≤ 126) && (decide (32 ≤ (c.toNat : Int)) || white c)) := by
 unfold okByte
 congr 1
 ·rw [decide_eq_decide]; omega
 ·congr 1
  rw [decide_eq_decide]; omega
theorem all_ok (s : ByteArray) (h : ∀ j, (hj : j < s.size) → okByte s[j] = true) : s.data.toList.all okByte = true := by
 rw [List.all_eq_true]
 intro x hx
 obtain ⟨i, hi, rfl⟩ := List.getElem_of_mem hx
 exact h i (by rw [← Fx.size_toList]; exact hi)
theorem Scan.alloc (w : World) (s : ByteArray) (v : Value) (ty : TypeId) : Scan (w.alloc (.cells #[.string s, .int .i64 0, v] ty)) w.heap.size s 0 := by
 have hh : (w.alloc (.cells #[.string s, .int .i64 0, v] ty)).heap[w.heap.size]? = some (.cells #[.string s, .int .i64 0, v] ty) := by
  show (w.heap.push _)[w.heap.size]? = _
  simp
 refine ⟨?_, ?_, fun j => ?_, ?_⟩
 ·unfold World.cell?; rw [hh]; rfl
 ·unfold World.cell?; rw [hh]; rfl
 ·unfold World.frozen?; rw [hh]; simp
 ·simp
theorem five_new (w : World) (k a z m : Int) (x : ByteArray) (ty : TypeId) : ∀ j u, [.int .i64 k, .int .i64 a, .int .i64 z, .int .i64 m, .string x][j]? = some u → (w.alloc (.cells #[.int .i64 k, .int .i64 a, .int .i64 z, .int .i64 m, .string x] ty)).cell? ((⟨w.heap.size, 0, none⟩ : Addr).add j) = some u := by
 intro j u h
 have T := TkAt.alloc w k a z m x ty
 match j, h with
 | 0, h => simp at h; subst h; simp [Addr.add]
 | 1, h => simp at h; subst h; simp [Addr.add]
 | 2, h => simp at h; subst h; simp [Addr.add]
 | 3, h => simp at h; subst h; simp [Addr.add]
 | 4, h => simp at h; subst h; simp [Addr.add]
 | j + 5, h => simp at h
theorem Scan.below1 {w w' : World} {B : Nat} {s : ByteArray} {at_ : Nat} (h : Scan w B s at_) (hb : Below (B + 1) w w') : Scan w' B s at_ :=
 ⟨by rw [hb.cell (p := ⟨B, 0, none⟩) (Nat.lt_succ_self B)]; exact h.c0, by rw [hb.cell (p := ⟨B, 1, none⟩) (Nat.lt_succ_self B)]; exact h.c1, fun j => by rw [hb.frozen (p := ⟨B, j, none⟩) (Nat.lt_succ_self B)]; exact h.fz j, Nat.lt_of_lt_of_le h.lt hb.size⟩
theorem below_less {b c : Nat} {w w' : World} (h : Below c w w') (hb : b ≤ c) : Below b w w' := ⟨h.os, h.tape, h.output, h.size, fun k hk => h.block k (by omega)⟩
theorem own_chg {w w' : World} {B size n : Nat} {e : TypeId} {v : Value} {xs : List Value} (h : w.ownsRow (B + 1) e size v n xs) (hc : Chg B w w') : w'.ownsRow (B + 1) e size v n xs := by
 obtain ⟨h0, h1⟩ := h
 refine ⟨h0, ?_⟩
 rcases h1 with h1 | ⟨g, cap, cur, e1, e2, e3, e4⟩
 ·exact .inl h1
 ·refine .inr ⟨g, cap, cur, e1, e2, ?_, e4⟩
  have hg : g < w.heap.size := by
   apply Classical.byContradiction
   intro hh
   rw [Array.getElem?_eq_none (by omega)] at e3
   exact absurd e3 (by simp)
  rw [hc.block g hg (by omega)]
  exact e3
theorem own_base {w : World} {b b' size n : Nat} {e : TypeId} {v : Value} {xs : List Value} (h : w.ownsRow b e size v n xs) (hb : b' ≤ b) : w.ownsRow b' e size v n xs := by
 obtain ⟨h0, h1⟩ := h
 refine ⟨h0, ?_⟩
 rcases h1 with h1 | ⟨g, cap, cur, e1, e2, e3⟩
 ·exact .inl h1
 ·exact .inr ⟨g, cap, cur, e1, by omega, e3⟩
theorem words_step (N f c : Nat) (t : List UInt8) : words N (f + 1) c t =
  if (gap t.length t).2 = false then ([], N - (gap t.length t).1.length, 31)
  else if (gap t.length t).1 = [] then ([], 0, 0)
  else if c = 4096 then ([], N - (gap t.length t).1.length, 3)
  else match word (gap t.length t).1 with
   | .err e => ([], N - (gap t.length t).1.length, e)
   | .tok k rest => if (words N f (c + 1) rest).2.2 = 0 then (⟨N - (gap t.length t).1.length, N - rest.length, k⟩ :: (words N f (c + 1) rest).1, 0, 0) else ([], (words N f (c + 1) rest).2.1, (words N f (c + 1) rest).2.2) := rfl
theorem words_norm (N f c : Nat) (t : List UInt8) : app [] (words N f c t) = words N f c t := by
 cases f with
 | zero => rfl
 | succ f =>
  rw [words_step]
  split
  ·rfl
  ·split
   ·rfl
   ·split
    ·rfl
    ·split
     ·rename_i e he
      unfold app
      rw [if_neg (word_err _ _ he)]
     ·split
      ·unfold app; simp
      ·rename_i h; unfold app; rw [if_neg h]
theorem app_err (acc : List PTok) (p : Nat) (c : Int) (hc : c ≠ 0) : app acc ([], p, c) = ([], p, c) := by
 unfold app; rw [if_neg hc]
theorem app_cons (acc : List PTok) (q : PTok) (r : List PTok × Nat × Int) : app acc (if r.2.2 = 0 then (q :: r.1, 0, 0) else ([], r.2.1, r.2.2)) = app (acc ++ [q]) r := by
 unfold app
 by_cases h : r.2.2 = 0
 ·rw [if_pos h, if_pos h]; simp
 ·rw [if_neg h, if_neg h, if_neg h]
theorem flat_app (l : List PTok) (q : PTok) : flatT (l ++ [q]) = flatT l ++ cells5 q := by
 unfold flatT; simp
end Lx
set_option maxRecDepth 100000 in
set_option maxHeartbeats 4000000 in
theorem Words_any (s : ByteArray) (w : World) (hs : s.size ≤ 9223372036854775807) :
  Calls Try.prog 27 #[.string s] w (Lx.WordsPost (Lx.lex s.data.toList) w) := by
 by_cases hl : 16384 < s.size
 ·have HR : Hid (Lx.lex s.data.toList = ([], 0, 3)) := by show _ = _; unfold Lx.lex; rw [if_pos (by rw [Fx.size_toList]; exact hl)]
  have hli : 16384 < (s.size : Int) := by omega
  go_enter Try.func27, Try.ntmps27
  go_wp2
  refine wp_scope_jumps 0 (fun _ _ => False) (fun _ _ => 0) rfl ?_ (fun _ _ h => h.elim)
  go_wp2
  simp only [Exit.jump]
  go_ret3
  exact .err 0 3 HR.out (by decide) (Below.refl _ _) rfl
 have hli : ¬ 16384 < (s.size : Int) := by omega
 have HL : Hid (Lx.lex s.data.toList = if !s.data.toList.all Lx.okByte then ([], (s.data.toList.takeWhile Lx.okByte).length, 32) else Lx.words s.size (s.size + 1) 0 s.data.toList) := by
  show _ = _; unfold Lx.lex; rw [if_neg (by rw [Fx.size_toList]; exact hl), Fx.size_toList]
 go_enter Try.func27, Try.ntmps27
 go_wp2_with fail
 refine wp_scope_jumps 0 (fun _ _ => False) (fun _ _ => 0) rfl ?_ (fun _ _ h => h.elim)
 go_wp2_with fail
 go_loopw [16] (fun v wr => ∃ k : Nat, v = .int .i64 k ∧ k ≤ s.size ∧ Hid (∀ j, j < k → (hj : j < s.size) → Lx.okByte s[j] = true) ∧ w = wr) (fun v _ => s.size - (intOf v).toNat)
 case atStart => exact ⟨0, rfl, by omega, (fun j hj => absurd hj (by omega)), rfl⟩
 case round =>
  obtain ⟨k, rfl, hk, HI, rfl⟩ := hrel
  by_cases hlt : k < s.size
  case pos =>
   have hlt' : (k : Int) < (s.size : Int) := by omega
   have hcb := Lx.b8 s[k]
   cases hok : Lx.okByte s[k]
   ·have HR : Hid (Lx.lex s.data.toList = ([], k, 32)) := by
     show _ = _
     rw [HL.out, if_pos]
     ·have e0 : s.data.toList = Lx.tl s 0 := by unfold Lx.tl; simp
      rw [e0, Lx.run_len Lx.okByte s 0 k (by omega) hk (fun j _ h2 => HI.out j h2 (by omega)) (fun _ => hok)]
      rfl
     ·have : s.data.toList.all Lx.okByte = false := by
       rw [List.all_eq_false]
       exact ⟨s[k], by have h := List.getElem_mem (l := s.data.toList) (n := k) (by rw [Fx.size_toList]; exact hlt); exact h, by rw [hok]; simp⟩
      rw [this]; rfl
    rw [Lx.ok_int] at hok
    clear HL HI
    by_cases l1 : (s[k].toNat : Int) ≤ 126
    ·have l1n : s[k].toNat ≤ 126 := by omega
     by_cases l2 : 32 ≤ (s[k].toNat : Int)
     ·simp [l1, l2] at hok
     ·have hw : Lx.white s[k] = false := by simpa [l1, l2] using hok
      go_wp2_with fail
      refine (white_any _ _).mono ?_
      rintro e w1 ⟨rfl, rfl⟩
      rw [hw]
      go_wp2
      simp only [Exit.jump]
      go_ret3
      exact .err k 32 HR.out (by decide) (Below.refl _ _) rfl
    ·go_wp2
     go_ret3
     exact .err k 32 HR.out (by decide) (Below.refl _ _) rfl
   ·have HI2 : Hid (∀ j, j < k + 1 → (hj : j < s.size) → Lx.okByte s[j] = true) := fun j hj h' => by
     by_cases e : j = k
     ·subst e; exact hok
     ·exact HI.out j (by omega) h'
    rw [Lx.ok_int] at hok
    have l1 : (s[k].toNat : Int) ≤ 126 := by
     apply Classical.byContradiction
     intro h
     simp [h] at hok
    by_cases l2 : 32 ≤ (s[k].toNat : Int)
    ·go_wp2
     go_roundw
     case rel => exact ⟨k + 1, by simp, by omega, HI2, trivial⟩
     case measure => simp [intOf]; omega
    ·have hw : Lx.white s[k] = true := by simpa [l1, l2] using hok
     go_wp2_with fail
     refine (white_any _ _).mono ?_
     rintro e w1 ⟨rfl, rfl⟩
     rw [hw]
     go_wp2
     go_roundw
     case rel => exact ⟨k + 1, by simp, by omega, HI2, trivial⟩
     case measure => simp [intOf]; omega
  have hge : (s.size : Int) ≤ (k : Int) := by omega
  have hall := Lx.all_ok s (fun j hj => HI.out j (by omega) hj)
  have HL2 : Hid (Lx.lex s.data.toList = Lx.words s.size (s.size + 1) 0 (Lx.tl s 0)) := by
   show _ = _
   rw [HL.out, hall]
   rw [show s.data.toList = Lx.tl s 0 by unfold Lx.tl; simp]
   rfl
  have HOK : Hid (∀ j, (hj : j < s.size) → Lx.okByte s[j] = true) := fun j hj => HI.out j (by omega) hj
  clear HL HI hall
  obtain ⟨i0, hi, hz0, hz1, hz2⟩ := info_parts Lx.infoTok
  go_wp2_with fail
  go_step3
  go_wp2_with fail
  go_loopw [7] (fun v wr => ∃ (n f : Nat) (acc : List Lx.PTok) (vv : Value), v = vv ∧ n ≤ s.size ∧ s.size + 1 ≤ n + f ∧ acc.length ≤ 4096 ∧ Hid (Lx.lex s.data.toList = Lx.app acc (Lx.words s.size f acc.length (Lx.tl s n))) ∧ Hid (wr.ownsRow (w.heap.size + 1) 47 5 vv acc.length (Lx.flatT acc)) ∧ Lx.Scan wr w.heap.size s n ∧ Below w.heap.size w wr) (fun _ wr => Lx.left w.heap.size s wr)
  case atStart =>
   refine ⟨0, s.size + 1, [], _, rfl, by omega, by omega, by simp, ?_, World.ownsRow_nil _ _ _ _, ?_, (Below.refl _ _).alloc (Nat.le_refl _) _⟩
   ·show _ = _
    rw [HL2.out]
    exact (Lx.words_norm _ _ _ _).symm
   ·exact Lx.Scan.alloc w s _ _
  case round =>
   obtain ⟨n, f, acc, vv, rfl, hn, hf, hacc, HM, HO, hsc, hbl⟩ := hrel
   obtain ⟨f, rfl⟩ : ∃ g, f = g + 1 := ⟨f - 1, by omega⟩
   obtain ⟨r, ok, hg⟩ : ∃ r ok, Lx.gap (s.size - n) (Lx.tl s n) = (r, ok) := ⟨_, _, rfl⟩
   have hM := HM.out
   rw [Lx.words_step, Lx.tl_len, hg] at hM
   simp only [] at hM
   have hend := Lx.gap_end (s.size - n) (Lx.tl s n) (by rw [Lx.tl_len]; exact Nat.le_refl _)
   have hgl := Lx.gap_len (s.size - n) (Lx.tl s n)
   rw [hg] at hend hgl
   simp only [] at hend hgl
   rw [Lx.tl_len] at hgl
   have HSC := Lib.hid hsc
   have HBL := Lib.hid hbl
   have hblt := hsc.lt
   clear HM hsc hbl
   go_wp2_with fail
   refine (gap_any w.heap.size n (s.size - n) s r ok _ HSC.out (by omega) hn (by omega) hg).mono ?_
   rintro e w2 ⟨n', rfl, rfl, hn', hsc2, hch2⟩
   have hO2 := Lib.hid (Lx.own_chg HO.out hch2)
   have hbl2 : Below w.heap.size w w2 := HBL.out.trans (hch2.below (Nat.le_refl _) HBL.out.size)
   have HL := Lib.hid (Lx.left_eq HSC.out)
   rw [Lx.tl_len] at hM hgl
   have hsub : s.size - (s.size - n') = n' := by omega
   rw [hsub] at hM
   have c1 := hsc2.c1
   cases ok
   case false =>
    have HR : Hid (Lx.lex s.data.toList = ([], n', 31)) := hM
    clear hM hend
    go_wp2
    go_quiet (fail)
    go_wp2
    simp only [Exit.jump]
    go_ret3
    exact .err n' 31 HR.out (by decide) (below_drewN hbl2 _) rfl
   case true =>
    simp only [Bool.true_eq_false, if_false] at hM
    by_cases hge2 : s.size ≤ n'
    ·have hgei : (s.size : Int) ≤ (n' : Int) := by omega
     have HR : Hid (Lx.lex s.data.toList = (acc, 0, 0)) := by
      show _ = _
      rw [hM, if_pos (Lx.tl_nil s n' hge2)]
      unfold Lx.app
      simp
     clear hM hend
     go_wp2
     simp only [Exit.jump]
     go_ret3
     refine ⟨hbl2, .inl ⟨by rw [HR.out], _, rfl, ?_⟩⟩
     rw [HR.out]
     exact Lx.own_base hO2.out (by omega)
    ·have hlt2 : n' < s.size := by omega
     have hlti : ¬ (s.size : Int) ≤ (n' : Int) := by omega
     have hnn : Lx.tl s n' ≠ [] := by intro hh; have := congrArg List.length hh; rw [Lx.tl_len] at this; simp at this; omega
     rw [if_neg hnn] at hM
     obtain ⟨hwh, h59⟩ := (hend rfl).resolve_left hnn
     have h00 : (Lx.pk (Lx.tl s n') 0 == 0) = false := by
      have hk := HOK.out n' hlt2
      rw [Lx.pk_in s n' 0 hlt2]
      show (s[n'] == 0) = false
      cases h : (s[n'] == 0)
      ·rfl
      ·have h' : s[n'] = 0 := by simpa using h
       rw [h'] at hk
       exact absurd hk (by decide)
     have HSC2 := Lib.hid hsc2
     have HBL2 := Lib.hid hbl2
     clear hend hsc2 hbl2
     rcases Joins.ownsRow_forms hO2.out with ⟨rfl, hz⟩ | ⟨g, cap, rfl, _⟩
     ·have hz' : acc = [] := List.eq_nil_of_length_eq_zero hz
      subst hz'
      rw [if_neg (by simp)] at hM
      go_wp2_with fail
      refine (word_any w.heap.size n' s w2 HSC2.out (by omega) hlt2 hwh h59 h00).mono ?_
      intro e w3 hpost
      obtain ⟨n2, kk, m, x, cc, rfl, hn2, hsc3, hch3, hfit⟩ := hpost
      have hO3 := Lib.hid (Lx.own_chg hO2.out hch3)
      have hbl3 : Below w.heap.size w w3 := HBL2.out.trans (hch3.below (Nat.le_refl _) HBL2.out.size)
      have htk := Lx.TkAt.alloc w3 kk (n' : Int) (n2 : Int) m x 47
      cases hword : Lx.word (Lx.tl s n') with
      | err c =>
       rw [hword] at hM hfit
       have hcc : cc = c := hfit
       subst hcc
       have hc0 := Lx.word_err _ _ hword
       have HR : Hid (Lx.lex s.data.toList = ([], n', cc)) := hM.trans (Lx.app_err _ _ _ hc0)
       have hcb : (cc != 0) = true := by simp [hc0]
       have a1 := htk.c1
       clear hM hword hfit
       go_wp2
       go_quiet (fail)
       go_wp2
       simp only [Exit.jump]
       go_ret3
       exact .err n' cc HR.out hc0 (below_drewN (hbl3.alloc hbl3.size _) _) rfl
      | tok tk rest =>
       rw [hword] at hM hfit
       obtain ⟨rfl, rfl, rfl, rfl, rfl⟩ := hfit
       have hlen := Lx.word_len _ hnn hwh h59 h00 _ _ hword
       rw [Lx.tl_len, Lx.tl_len] at hlen
       simp only [] at hM
       rw [Lx.tl_len, show s.size - (s.size - n2) = n2 by omega, Lx.app_cons] at hM
       have HM2 := Lib.hid hM
       have a0 := htk.c0
       have a1 := htk.c1
       have a2 := htk.c2
       have a3 := htk.c3
       have a4 := htk.c4
       have hfive := Lx.five_new (w3.alloc (.cells #[.int .i64 tk.k, .int .i64 (n' : Int), .int .i64 (n2 : Int), .int .i64 tk.n, .string ⟨tk.s.toArray⟩] 47)) tk.k (n' : Int) (n2 : Int) tk.n ⟨tk.s.toArray⟩ 47
       rw [show (w3.alloc (.cells #[.int .i64 tk.k, .int .i64 (n' : Int), .int .i64 (n2 : Int), .int .i64 tk.n, .string ⟨tk.s.toArray⟩] 47)).heap.size = w3.heap.size + 1 by simp] at hfive
       have hb3 := hch3.size
       have hb2s := HBL2.out.size
       have hch2s := hch2.size
       have hO4 := (hO3.out.alloc (.cells #[.int .i64 tk.k, .int .i64 (n' : Int), .int .i64 (n2 : Int), .int .i64 tk.n, .string ⟨tk.s.toArray⟩] 47)).alloc (.cells #[.int .i64 tk.k, .int .i64 (n' : Int), .int .i64 (n2 : Int), .int .i64 tk.n, .string ⟨tk.s.toArray⟩] 47)
       have HSC3 := Lib.hid hsc3
       have HBL3 := Lib.hid hbl3
       have HTK := Lib.hid htk
       clear hM hword hwh h59 h00 hsc3 hbl3 htk hch3 hnn
       go_wp2_with (at_builtin; refine wpList_append_own _ rfl _ _ 33 rfl (w.heap.size + 1) 47 i0 (.agg #[.int .i64 0, .int .i64 0, .int .i64 0, .int .i64 0, .string ⟨#[]⟩]) 5 48 Try.underlying33 hi hz0 hz1 hz2 rfl (by decide) _ _ _ rfl hO4 ⟨w3.heap.size + 1, 0, none⟩ 1 1 [.int .i64 tk.k, .int .i64 (n' : Int), .int .i64 (n2 : Int), .int .i64 tk.n, .string ⟨tk.s.toArray⟩] rfl rfl hfive (fun x hx => by simp at hx; rcases hx with rfl | rfl | rfl | rfl | rfl <;> rfl) (by unfold maxLen; omega) (by omega) (by simp; omega) ?_; intro v' w5 hown' hgrow3 hnil3)
       have hb5 : Below (w.heap.size + 1) w3 w5 := Below.grown (((Below.refl (w.heap.size + 1) w3).alloc (by omega) _).alloc (by simp; omega) _) hgrow3 (by simp; omega) (fun j hj => (hO4.lt _ hj).1)
       have hsc5 := HSC3.out.below1 hb5
       go_roundw
       case rel => exact ⟨n2, f, [] ++ [⟨n', n2, tk⟩], _, rfl, hn2, by omega, by simp; try omega, (by show _ = _; rw [HM2.out]; simp), Lib.hid (by rw [List.length_append, Lx.flat_app]; exact hown'), hsc5, HBL3.out.trans (Lx.below_less hb5 (by omega))⟩
       case measure => rw [Lx.left_eq hsc5, HL.out]; omega
     ·by_cases h4 : acc.length = 4096
      ·have h4i : ((acc.length : Int) == 4096) = true := by rw [beq_iff_eq]; omega
       rw [if_pos h4] at hM
       have HR : Hid (Lx.lex s.data.toList = ([], n', 3)) := hM
       clear hM h4
       go_wp2
       go_quiet (fail)
       go_wp2
       simp only [Exit.jump]
       go_ret3
       exact .err n' 3 HR.out (by decide) (below_drewN HBL2.out _) rfl
      ·have h4i : ((acc.length : Int) == 4096) = false := by rw [beq_eq_false_iff_ne]; omega
       rw [if_neg h4] at hM
       go_wp2_with fail
       refine (word_any w.heap.size n' s w2 HSC2.out (by omega) hlt2 hwh h59 h00).mono ?_
       intro e w3 hpost
       obtain ⟨n2, kk, m, x, cc, rfl, hn2, hsc3, hch3, hfit⟩ := hpost
       have hO3 := Lib.hid (Lx.own_chg hO2.out hch3)
       have hbl3 : Below w.heap.size w w3 := HBL2.out.trans (hch3.below (Nat.le_refl _) HBL2.out.size)
       have htk := Lx.TkAt.alloc w3 kk (n' : Int) (n2 : Int) m x 47
       cases hword : Lx.word (Lx.tl s n') with
       | err c =>
        rw [hword] at hM hfit
        have hcc : cc = c := hfit
        subst hcc
        have hc0 := Lx.word_err _ _ hword
        have HR : Hid (Lx.lex s.data.toList = ([], n', cc)) := hM.trans (Lx.app_err _ _ _ hc0)
        have hcb : (cc != 0) = true := by simp [hc0]
        have a1 := htk.c1
        clear hM hword hfit
        go_wp2
        go_quiet (fail)
        go_wp2
        simp only [Exit.jump]
        go_ret3
        exact .err n' cc HR.out hc0 (below_drewN (hbl3.alloc hbl3.size _) _) rfl
       | tok tk rest =>
        rw [hword] at hM hfit
        obtain ⟨rfl, rfl, rfl, rfl, rfl⟩ := hfit
        have hlen := Lx.word_len _ hnn hwh h59 h00 _ _ hword
        rw [Lx.tl_len, Lx.tl_len] at hlen
        simp only [] at hM
        rw [Lx.tl_len, show s.size - (s.size - n2) = n2 by omega, Lx.app_cons] at hM
        have HM2 := Lib.hid hM
        have a0 := htk.c0
        have a1 := htk.c1
        have a2 := htk.c2
        have a3 := htk.c3
        have a4 := htk.c4
        have hfive := Lx.five_new (w3.alloc (.cells #[.int .i64 tk.k, .int .i64 (n' : Int), .int .i64 (n2 : Int), .int .i64 tk.n, .string ⟨tk.s.toArray⟩] 47)) tk.k (n' : Int) (n2 : Int) tk.n ⟨tk.s.toArray⟩ 47
        rw [show (w3.alloc (.cells #[.int .i64 tk.k, .int .i64 (n' : Int), .int .i64 (n2 : Int), .int .i64 tk.n, .string ⟨tk.s.toArray⟩] 47)).heap.size = w3.heap.size + 1 by simp] at hfive
        have hb3 := hch3.size
        have hb2s := HBL2.out.size
        have hch2s := hch2.size
        have hO4 := (hO3.out.alloc (.cells #[.int .i64 tk.k, .int .i64 (n' : Int), .int .i64 (n2 : Int), .int .i64 tk.n, .string ⟨tk.s.toArray⟩] 47)).alloc (.cells #[.int .i64 tk.k, .int .i64 (n' : Int), .int .i64 (n2 : Int), .int .i64 tk.n, .string ⟨tk.s.toArray⟩] 47)
        have HSC3 := Lib.hid hsc3
        have HBL3 := Lib.hid hbl3
        have HTK := Lib.hid htk
        clear hM hword hwh h59 h00 hsc3 hbl3 htk hch3 hnn
        go_wp2_with (at_builtin; refine wpList_append_own _ rfl _ _ 33 rfl (w.heap.size + 1) 47 i0 (.agg #[.int .i64 0, .int .i64 0, .int .i64 0, .int .i64 0, .string ⟨#[]⟩]) 5 48 Try.underlying33 hi hz0 hz1 hz2 rfl (by decide) _ _ _ rfl hO4 ⟨w3.heap.size + 1, 0, none⟩ 1 1 [.int .i64 tk.k, .int .i64 (n' : Int), .int .i64 (n2 : Int), .int .i64 tk.n, .string ⟨tk.s.toArray⟩] rfl rfl hfive (fun x hx => by simp at hx; rcases hx with rfl | rfl | rfl | rfl | rfl <;> rfl) (by unfold maxLen; omega) (by omega) (by simp; omega) ?_; intro v' w5 hown' hgrow3 hnil3)
        have hb5 : Below (w.heap.size + 1) w3 w5 := Below.grown (((Below.refl (w.heap.size + 1) w3).alloc (by omega) _).alloc (by simp; omega) _) hgrow3 (by simp; omega) (fun j hj => (hO4.lt _ hj).1)
        have hsc5 := HSC3.out.below1 hb5
        go_roundw
        case rel => exact ⟨n2, f, acc ++ [⟨n', n2, tk⟩], _, rfl, hn2, by omega, by simp; try omega, (by show _ = _; rw [HM2.out]; simp), Lib.hid (by rw [List.length_append, Lx.flat_app]; exact hown'), hsc5, HBL3.out.trans (Lx.below_less hb5 (by omega))⟩
        case measure => rw [Lx.left_eq hsc5, HL.out]; omega
end Go.Proofs.Ytcopdfihaheplaa
