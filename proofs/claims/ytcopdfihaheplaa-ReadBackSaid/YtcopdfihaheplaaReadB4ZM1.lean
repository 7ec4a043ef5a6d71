/-
  Several texts of this proof in one: LexRefI, LexBlanksP, TxO, FixBackPlain, BackP, TbSym, DtModel, DtSingle, DtSingleK, DtWalk, DtCheck, TbSymR, DtAlone, App, Put, DtGoesP, DtGoes.
-/
import Derived.Test.YtcopdfihaheplaaLexRefH
import Derived.Test.YtcopdfihaheplaaLexRefB
import Derived.Test.YtcopdfihaheplaaLexWords
import Derived.Test.YtcopdfihaheplaaLexApartS
import Derived.Test.YtcopdfihaheplaaTxM
import Derived.Lib.Join
import Derived.Test.YtcopdfihaheplaaFixParseR
import Derived.Test.YtcopdfihaheplaaLexAwake
import Derived.Test.YtcopdfihaheplaaLexSym
import Derived.Test.YtcopdfihaheplaaPost
import Derived.Test.YtcopdfihaheplaaTbKeep
import Derived.Laws.EntriesVeiled
import Derived.Deep.Draws
import Derived.Test.YtcopdfihaheplaaLexRefC
import Derived.Laws.AppendOwnNone
import Derived.Deep.AppendLies
import Derived.Lib.Hide
import Derived.WalkKit
import Derived.Deep.MidRow
import Derived.Laws.OwnMore
import Derived.Deep.RegionHeld3
import Derived.Deep.DeepCutAuto
namespace Go.Proofs.Ytcopdfihaheplaa
open Go.RowKit Go.Sort
namespace Lx
theorem gap_tl (s : ByteArray) (n : Nat) (hn : n ≤ s.size) : ∃ n' ok, gap (s.size - n) (tl s n) = (tl s n', ok) ∧ n ≤ n' ∧ n' ≤ s.size := by
 have h1 : (gap (s.size - n) (tl s n)).1 <:+ s.data.toList := (gap_suf _ _).trans (List.drop_suffix _ _)
 have h2 := suf_drop _ _ h1
 have h3 := gap_len (s.size - n) (tl s n)
 rw [tl_len] at h3
 have h4 := Fx.size_toList s
 refine ⟨s.data.toList.length - (gap (s.size - n) (tl s n)).1.length, (gap (s.size - n) (tl s n)).2, ?_, by omega, by omega⟩
 exact Prod.ext h2 rfl
theorem own_bel {w w' : World} {b size n : Nat} {e : TypeId} {v : Value} {xs : List Value} (h : w.ownsRow b e size v n xs) (hb : Below w.heap.size w w') : w'.ownsRow b e size v n xs := by
 obtain ⟨h0, h1⟩ := h
 refine ⟨h0, ?_⟩
 rcases h1 with h1 | ⟨g, cap, cur, e1, e2, e3, e4⟩
 ·exact .inl h1
 ·refine .inr ⟨g, cap, cur, e1, e2, ?_, e4⟩
  have hg : g < w.heap.size := by
   apply Classical.byContradiction
   intro hh
   rw [Array.getElem?_eq_none (by omega)] at e3
   exact absurd e3 (by simp)
  rw [hb.block g hg]
  exact e3
theorem own_ne {w : World} {b size n : Nat} {T : TypeId} {v : Value} {xs : List Value} (h : w.ownsRow b T size v n xs) : some w.heap.size ≠ v.ownBlock := by
 intro he
 have := (h.lt _ he.symm).2
 omega
theorem row_form {w : World} {b size n : Nat} {T : TypeId} {pv : Value} {xs : List Value} (ho : w.ownsRow b T size pv n xs) : ∃ a c, pv = .slice a n c := by
 rcases Joins.ownsRow_forms ho with ⟨rfl, hz⟩ | ⟨g, cap, rfl, _⟩
 ·exact ⟨none, 0, by rw [hz]⟩
 ·exact ⟨_, _, rfl⟩
end Lx
set_option maxRecDepth 100000 in
set_option maxHeartbeats 8000000 in
theorem WordsR_any (s : ByteArray) (w : World) (hs : s.size ≤ 9223372036854775807) :
  Calls Try.prog 11 #[.string s] w (Lx.WordsPost (Lx.lex s.data.toList) w) := by
 by_cases hl : 16384 < s.size
 ·have HR : Hid (Lx.lex s.data.toList = ([], 0, 3)) := by show _ = _; unfold Lx.lex; rw [if_pos (by rw [Fx.size_toList]; exact hl)]
  have hli : 16384 < (s.size : Int) := by omega
  go_enter Try.func11, Try.ntmps11
  go_wp2
  go_ret3
  exact .err 0 3 HR.out (by decide) (Below.refl _ _) rfl
 have hli : ¬ 16384 < (s.size : Int) := by omega
 have HL : Hid (Lx.lex s.data.toList = if !s.data.toList.all Lx.okByte then ([], (s.data.toList.takeWhile Lx.okByte).length, 32) else Lx.words s.size (s.size + 1) 0 s.data.toList) := by
  show _ = _; unfold Lx.lex; rw [if_neg (by rw [Fx.size_toList]; exact hl), Fx.size_toList]
 go_enter Try.func11, Try.ntmps11
 go_wp2_with fail
 go_loopw [5] (fun v wr => ∃ k : Nat, v = .int .i64 k ∧ k ≤ s.size ∧ Hid (∀ j, j < k → (hj : j < s.size) → Lx.okByte s[j] = true) ∧ w = wr) (fun v _ => s.size - (intOf v).toNat)
 case atStart => exact ⟨0, rfl, by omega, (fun j hj => absurd hj (by omega)), rfl⟩
 case round =>
  obtain ⟨k, rfl, hk, HI, rfl⟩ := hrel
  by_cases hlt : k < s.size
  case pos =>
   have hlt' : (k : Int) < (s.size : Int) := by omega
   have hcb := Lx.b8 s[k]
   cases hok : Lx.okByte s[k]
   ·have HR : Hid (Lx.lex s.data.toList = ([], k, 32)) := by
     show _ = _
     rw [HL.out, if_pos]
     ·have e0 : s.data.toList = Lx.tl s 0 := by unfold Lx.tl; simp
      rw [e0, Lx.run_len Lx.okByte s 0 k (by omega) hk (fun j _ h2 => HI.out j h2 (by omega)) (fun _ => hok)]
      rfl
     ·have : s.data.toList.all Lx.okByte = false := by
       rw [List.all_eq_false]
       exact ⟨s[k], by have h := List.getElem_mem (l := s.data.toList) (n := k) (by rw [Fx.size_toList]; exact hlt); exact h, by rw [hok]; simp⟩
      rw [this]; rfl
    rw [Lx.ok_int] at hok
    clear HL HI
    by_cases l1 : (s[k].toNat : Int) ≤ 126
    ·have l1n : s[k].toNat ≤ 126 := by omega
     by_cases l2 : 32 ≤ (s[k].toNat : Int)
     ·simp [l1, l2] at hok
     ·have hw : Lx.white s[k] = false := by simpa [l1, l2] using hok
      go_wp2_with fail
      refine (blankR_any _ _).mono ?_
      rintro e w1 ⟨rfl, rfl⟩
      rw [hw]
      go_wp2
      go_ret3
      exact .err k 32 HR.out (by decide) (Below.refl _ _) rfl
    ·go_wp2
     go_ret3
     exact .err k 32 HR.out (by decide) (Below.refl _ _) rfl
   ·have HI2 : Hid (∀ j, j < k + 1 → (hj : j < s.size) → Lx.okByte s[j] = true) := fun j hj h' => by
     by_cases e : j = k
     ·subst e; exact hok
     ·exact HI.out j (by omega) h'
    rw [Lx.ok_int] at hok
    have l1 : (s[k].toNat : Int) ≤ 126 := by
     apply Classical.byContradiction
     intro h
     simp [h] at hok
    by_cases l2 : 32 ≤ (s[k].toNat : Int)
    ·go_wp2
     go_roundw
     case rel => exact ⟨k + 1, by simp, by omega, HI2, trivial⟩
     case measure => simp [intOf]; omega
    ·have hw : Lx.white s[k] = true := by simpa [l1, l2] using hok
     go_wp2_with fail
     refine (blankR_any _ _).mono ?_
     rintro e w1 ⟨rfl, rfl⟩
     rw [hw]
     go_wp2
     go_roundw
     case rel => exact ⟨k + 1, by simp, by omega, HI2, trivial⟩
     case measure => simp [intOf]; omega
  have hge : (s.size : Int) ≤ (k : Int) := by omega
  have hall := Lx.all_ok s (fun j hj => HI.out j (by omega) hj)
  have HL2 : Hid (Lx.lex s.data.toList = Lx.words s.size (s.size + 1) 0 (Lx.tl s 0)) := by
   show _ = _
   rw [HL.out, hall]
   rw [show s.data.toList = Lx.tl s 0 by unfold Lx.tl; simp]
   rfl
  have HOK : Hid (∀ j, (hj : j < s.size) → Lx.okByte s[j] = true) := fun j hj => HI.out j (by omega) hj
  clear HL HI hall
  obtain ⟨i0, hi, hz0, hz1, hz2⟩ := info_parts Lx.infoTok
  go_wp2_with fail
  go_loopw [6, 7] (fun v v2 wr => ∃ (n f : Nat) (acc : List Lx.PTok) (vv : Value), v = vv ∧ v2 = .int .i64 n ∧ n ≤ s.size ∧ s.size + 1 ≤ n + f ∧ acc.length ≤ 4096 ∧ Hid (Lx.lex s.data.toList = Lx.app acc (Lx.words s.size f acc.length (Lx.tl s n))) ∧ Hid (wr.ownsRow w.heap.size 47 5 vv acc.length (Lx.flatT acc)) ∧ Below w.heap.size w wr) (fun _ v2 _ => s.size - (intOf v2).toNat)
  case atStart =>
   refine ⟨0, s.size + 1, [], _, rfl, rfl, by omega, by omega, by simp, ?_, World.ownsRow_nil _ _ _ _, Below.refl _ _⟩
   show _ = _
   rw [HL2.out]
   exact (Lx.words_norm _ _ _ _).symm
  case round =>
   obtain ⟨n, f, acc, vv, rfl, rfl, hn, hf, hacc, HM, HO, hbl⟩ := hrel
   obtain ⟨a, c, rfl⟩ := Lx.row_form HO.out
   obtain ⟨f, rfl⟩ : ∃ g, f = g + 1 := ⟨f - 1, by omega⟩
   obtain ⟨n', ok, hg, hnn1, hn'⟩ := Lx.gap_tl s n hn
   have hM := HM.out
   have hend := Lx.gap_end (s.size - n) (Lx.tl s n) (by rw [Lx.tl_len]; exact Nat.le_refl _)
   rw [Lx.words_step, Lx.tl_len, hg] at hM
   rw [hg] at hend
   simp only [] at hM hend
   rw [Lx.tl_len, show s.size - (s.size - n') = n' by omega] at hM
   have hSK := fun wq => skipR_any s n (s.size - n) wq (by omega) hn (Nat.le_refl _)
   rw [hg] at hSK
   have HBL := Lib.hid hbl
   clear HM hbl
   cases ok
   case false =>
    rw [Lx.skip_no s n' hn'] at hSK
    have HR : Hid (Lx.lex s.data.toList = ([], n', 31)) := hM
    clear hM hend hg
    go_wp2_with fail
    refine (hSK _).mono ?_
    rintro e w2 ⟨rfl, rfl⟩
    go_wp2
    go_ret3
    exact .err n' 31 HR.out (by decide) HBL.out rfl
   case true =>
    rw [Lx.skip_ok s n' hn'] at hSK
    simp only [Bool.true_eq_false, if_false] at hM
    by_cases hge2 : s.size ≤ n'
    ·have hgei : (s.size : Int) ≤ (n' : Int) := by omega
     have HR : Hid (Lx.lex s.data.toList = (acc, 0, 0)) := by
      show _ = _
      rw [hM, if_pos (Lx.tl_nil s n' hge2)]
      unfold Lx.app
      simp
     clear hM hend hg
     go_wp2_with fail
     refine (hSK _).mono ?_
     rintro e w2 ⟨rfl, rfl⟩
     go_wp2
     go_ret3
     refine ⟨HBL.out, .inl ⟨by rw [HR.out], _, rfl, ?_⟩⟩
     rw [HR.out]
     exact HO.out
    ·have hlt2 : n' < s.size := by omega
     have hlti : ¬ (s.size : Int) ≤ (n' : Int) := by omega
     have hnn : Lx.tl s n' ≠ [] := by intro hh; have := congrArg List.length hh; rw [Lx.tl_len] at this; simp at this; omega
     rw [if_neg hnn] at hM
     obtain ⟨hwh, h59⟩ := (hend rfl).resolve_left hnn
     have h00 : (Lx.pk (Lx.tl s n') 0 == 0) = false := by
      have hk := HOK.out n' hlt2
      rw [Lx.pk_in s n' 0 hlt2]
      show (s[n'] == 0) = false
      cases h : (s[n'] == 0)
      ·rfl
      ·have h' : s[n'] = 0 := by simpa using h
       rw [h'] at hk
       exact absurd hk (by decide)
     by_cases h4 : acc.length = 4096
     ·have h4i : 4096 ≤ (acc.length : Int) := by omega
      rw [if_pos h4] at hM
      have HR : Hid (Lx.lex s.data.toList = ([], n', 3)) := hM
      clear hM h4 hend hg hwh h59 h00
      go_wp2_with fail
      refine (hSK _).mono ?_
      rintro e w2 ⟨rfl, rfl⟩
      go_wp2
      go_ret3
      exact .err n' 3 HR.out (by decide) HBL.out rfl
     ·have h4i : ¬ 4096 ≤ (acc.length : Int) := by omega
      rw [if_neg h4] at hM
      have hWD := fun wq => wordR_any s n' wq (by omega) hlt2 (fun j hj h0 => by have hk := HOK.out j hj; rw [h0] at hk; exact absurd hk (by decide)) (by have h := hwh; rw [Lx.pk_in s n' 0 hlt2] at h; exact h) (by have h := h59; rw [Lx.pk_in s n' 0 hlt2] at h; intro h0; rw [show s[n' + 0] = s[n'] from rfl, h0] at h; exact absurd h (by decide))
      have HSK := Lib.hid hSK
      have HWD := Lib.hid hWD
      clear hSK hWD
      cases hword : Lx.word (Lx.tl s n') with
      | err cc0 =>
       rw [hword] at hM
       have hc0 := Lx.word_err _ _ hword
       have HR : Hid (Lx.lex s.data.toList = ([], n', cc0)) := hM.trans (Lx.app_err _ _ _ hc0)
       have HWO := Lib.hid hword
       clear hM hword hwh h59 h00 hend hg hnn
       go_wp2_with fail
       refine (HSK.out _).mono ?_
       rintro e w2 ⟨rfl, rfl⟩
       go_wp2_with fail
       refine (HWD.out _).mono ?_
       intro e w3 hpost
       rw [HWO.out] at hpost
       obtain ⟨kk, z, m, x, cc, rfl, hbw, rfl⟩ := hpost
       have hbl3 := Lib.hid (HBL.out.trans (hbw.mono HBL.out.size))
       have hcb : (cc != 0) = true := by simp [hc0]
       clear hbw
       go_wp2
       go_ret3
       exact .err n' cc HR.out hc0 (hbl3.out.alloc hbl3.out.size _) rfl
      | tok tk rest =>
       rw [hword] at hM
       have hlen := Lx.word_len _ hnn hwh h59 h00 _ _ hword
       rw [Lx.tl_len] at hlen
       have HWO := Lib.hid hword
       clear hword hwh h59 h00 hend hg hnn
       have hMM := Lib.hid hM
       clear hM
       go_wp2_with fail
       refine (HSK.out _).mono ?_
       rintro e w2 ⟨rfl, rfl⟩
       go_wp2_with fail
       refine (HWD.out _).mono ?_
       intro e w3 hpost
       rw [HWO.out] at hpost
       obtain ⟨kk, z, m, x, cc, rfl, hbw, rfl, rfl, rfl, rfl, n2, rfl, hn2, rfl⟩ := hpost
       have hM := hMM.out
       rw [Lx.tl_len, show s.size - (s.size - n2) = n2 by omega, Lx.app_cons] at hM
       rw [Lx.tl_len] at hlen
       have HM2 := Lib.hid hM
       have hO3 := Lib.hid (Lx.own_bel HO.out hbw)
       have hb3 := hbw.size
       have hb2s := HBL.out.size
       have hbl3 := Lib.hid (HBL.out.trans (hbw.mono HBL.out.size))
       clear hbw hM hMM
       have htk := Lx.TkAt.alloc w3 tk.k (n' : Int) (n2 : Int) tk.n ⟨tk.s.toArray⟩ 47
       have a0 := htk.c0
       have a1 := htk.c1
       have a2 := htk.c2
       have a3 := htk.c3
       have a4 := htk.c4
       have hfive := Lx.five_new (w3.alloc (.cells #[.int .i64 tk.k, .int .i64 (n' : Int), .int .i64 (n2 : Int), .int .i64 tk.n, .string ⟨tk.s.toArray⟩] 47)) tk.k (n' : Int) (n2 : Int) tk.n ⟨tk.s.toArray⟩ 47
       rw [show (w3.alloc (.cells #[.int .i64 tk.k, .int .i64 (n' : Int), .int .i64 (n2 : Int), .int .i64 tk.n, .string ⟨tk.s.toArray⟩] 47)).heap.size = w3.heap.size + 1 by simp] at hfive
       have hO4 := (hO3.out.alloc (.cells #[.int .i64 tk.k, .int .i64 (n' : Int), .int .i64 (n2 : Int), .int .i64 tk.n, .string ⟨tk.s.toArray⟩] 47)).alloc (.cells #[.int .i64 tk.k, .int .i64 (n' : Int), .int .i64 (n2 : Int), .int .i64 tk.n, .string ⟨tk.s.toArray⟩] 47)
       have HTK := Lib.hid htk
       clear htk
       go_wp2_with (at_builtin; refine wpList_append_own _ rfl _ _ 33 rfl w.heap.size 47 i0 (.agg #[.int .i64 0, .int .i64 0, .int .i64 0, .int .i64 0, .string ⟨#[]⟩]) 5 48 Try.underlying33 hi hz0 hz1 hz2 rfl (by decide) _ _ _ rfl hO4 ⟨w3.heap.size + 1, 0, none⟩ 1 1 [.int .i64 tk.k, .int .i64 (n' : Int), .int .i64 (n2 : Int), .int .i64 tk.n, .string ⟨tk.s.toArray⟩] rfl rfl hfive (fun x hx => by simp at hx; rcases hx with rfl | rfl | rfl | rfl | rfl <;> rfl) (by unfold maxLen; omega) (by omega) (by simp; omega) ?_; intro v' w5 hown' hgrow3 hnil3; have c5 := World.grownBy.cell hgrow3 (a := ⟨w3.heap.size, 2, none⟩) (v := .int .i64 (n2 : Int)) (by rw [World.cell?_alloc_lt _ _ _ (by simp)]; exact a2) (Lx.own_ne hO3.out))
       have hb5 : Below w.heap.size w3 w5 := Below.grown (((Below.refl w.heap.size w3).alloc (by omega) _).alloc (by simp; omega) _) hgrow3 (by simp; omega) (fun j hj => (hO4.lt _ hj).1)
       go_roundw
       case rel => exact ⟨n2, f, acc ++ [⟨n', n2, tk⟩], _, rfl, rfl, hn2, by omega, by simp; try omega, (by show _ = _; rw [HM2.out]; simp), Lib.hid (by rw [List.length_append, Lx.flat_app]; exact hown'), hbl3.out.trans (hb5.mono (by omega))⟩
       case measure => simp [intOf]; omega
end Go.Proofs.Ytcopdfihaheplaa
namespace Go.Proofs.Ytcopdfihaheplaa.Lx
open Go.RowKit Go.Sort
theorem strEnd_app (z : List UInt8) : ∀ (m : Nat) (l b r : List UInt8), l.length ≤ m → strEnd l = some (b, r) → strEnd (l ++ z) = some (b, r ++ z) := by
 intro m
 induction m with
 | zero =>
  intro l b r hm h
  have : l = [] := List.eq_nil_of_length_eq_zero (by omega)
  subst this
  rw [strEnd] at h
  simp at h
 | succ m ih =>
  intro l b r hm h
  match l with
  | [] => rw [strEnd] at h; simp at h
  | [c] =>
   rw [strEnd] at h
   split at h
   ·rename_i hc
    simp at h
    obtain ⟨rfl, rfl⟩ := h
    cases z with
    | nil => rw [List.append_nil, strEnd, if_pos hc]; rfl
    | cons d z => rw [List.singleton_append, strEnd, if_pos hc]; rfl
   ·simp at h
  | c :: d :: t =>
   simp only [List.length_cons] at hm
   rw [strEnd] at h
   rw [List.cons_append, List.cons_append, strEnd]
   split at h
   ·rename_i hc
    simp at h
    obtain ⟨rfl, rfl⟩ := h
    rw [if_pos hc]; rfl
   ·rename_i h34
    rw [if_neg h34]
    split at h
    ·rename_i h92
     rw [if_pos h92]
     cases he : strEnd t with
     | none => rw [he] at h; simp at h
     | some q =>
      rw [he] at h
      simp at h
      obtain ⟨rfl, rfl⟩ := h
      rw [ih t q.1 q.2 (by omega) he]
      rfl
    ·rename_i h92
     rw [if_neg h92]
     cases he : strEnd (d :: t) with
     | none => rw [he] at h; simp at h
     | some q =>
      rw [he] at h
      simp at h
      obtain ⟨rfl, rfl⟩ := h
      have := ih (d :: t) q.1 q.2 (by simp only [List.length_cons]; omega) he
      rw [List.cons_append] at this
      rw [this]
      rfl
theorem str_app (z t : List UInt8) (k : Tok) (r : List UInt8) (h0 : t ≠ []) (h : str t = .tok k r) : str (t ++ z) = .tok k (r ++ z) := by
 cases t with
 | nil => exact absurd rfl h0
 | cons c t =>
  unfold str at h ⊢
  rw [List.cons_append, List.tail_cons]
  rw [List.tail_cons] at h
  split at h
  ·simp at h
  ·rename_i b r' he
   rw [strEnd_app z _ _ _ _ (Nat.le_refl _) he]
   simp only []
   split at h
   ·rename_i q hq
    split at h
    ·rename_i hl
     simp at h
     obtain ⟨rfl, rfl⟩ := h
     rw [if_pos hl]
    ·simp at h
   ·simp at h
theorem words_few (N : Nat) : ∀ (f c : Nat) (t : List UInt8) (l : List PTok), c ≤ 4096 → words N f c t = (l, 0, 0) → c + l.length ≤ 4096 := by
 intro f
 induction f with
 | zero => intro c t l hc h; simp [words] at h; rw [h]; simpa using hc
 | succ f ih =>
  intro c t l hc h
  rw [words_step] at h
  split at h
  ·simp at h
  ·split at h
   ·simp at h; rw [h]; simpa using hc
   ·split at h
    ·simp at h
    ·rename_i h4
     split at h
     ·rename_i e he
      have := word_err _ _ he
      simp at h
      exact absurd h.2.2 this
     ·rename_i k rest he
      by_cases hz : (words N f (c + 1) rest).2.2 = 0
      ·rw [if_pos hz] at h
       have hr0 : words N f (c + 1) rest = ((words N f (c + 1) rest).1, 0, 0) := by
        have hn := words_norm N f (c + 1) rest
        unfold app at hn
        rw [if_pos hz] at hn
        rw [← hn]
       have hih := ih (c + 1) rest _ (by omega) hr0
       simp at h
       rw [← h]
       simp only [List.length_cons]
       omega
      ·rw [if_neg hz] at h
       simp at h
       try exact absurd h.2.2 hz
theorem lex_few (s : List UInt8) (l : List PTok) (h : lex s = (l, 0, 0)) : l.length ≤ 4096 := by
 unfold lex at h
 split at h
 ·simp at h
 ·split at h
  ·simp at h
  ·have := words_few _ _ _ _ _ (by omega) h
   omega
end Go.Proofs.Ytcopdfihaheplaa.Lx
namespace Go.Proofs.Ytcopdfihaheplaa
open Go.RowKit
namespace Tx
structure W where
 k : Int
 a : Int
 z : Int
 n : Int
 s : ByteArray
def W.ok (t : W) : Prop := t.s.size ≤ 1000000 ∧ -9223372036854775808 ≤ t.n ∧ t.n ≤ 9223372036854775807
def W.val (t : W) : Value := .agg #[.int .i64 t.k, .int .i64 t.a, .int .i64 t.z, .int .i64 t.n, .string t.s]
def W.txt (t : W) : Option (List UInt8) := text t.k t.n t.s.data.toList
def Row (w : World) (v : Value) (l : List W) : Prop :=
 ∃ (a : Option Addr) (c : Nat), v = .slice a l.length c ∧ l.length ≤ c ∧ (l ≠ [] → ∃ b o, a = some ⟨b, o, none⟩ ∧ b < w.heap.size ∧ ∀ j, (h : j < l.length) →
  w.cell? ⟨b, o + j * 5, none⟩ = some (.int .i64 l[j].k) ∧ w.cell? ⟨b, o + j * 5 + 1, none⟩ = some (.int .i64 l[j].a) ∧ w.cell? ⟨b, o + j * 5 + 2, none⟩ = some (.int .i64 l[j].z) ∧ w.cell? ⟨b, o + j * 5 + 3, none⟩ = some (.int .i64 l[j].n) ∧ w.cell? ⟨b, o + j * 5 + 4, none⟩ = some (.string l[j].s))
theorem Row.below {w w' : World} {v : Value} {l : List W} (h : Row w v l) (hb : Below w.heap.size w w') : Row w' v l := by
 obtain ⟨a, c, h1, h2, h3⟩ := h
 refine ⟨a, c, h1, h2, fun hn => ?_⟩
 obtain ⟨b, o, h4, h5, h6⟩ := h3 hn
 refine ⟨b, o, h4, Nat.lt_of_lt_of_le h5 hb.size, fun j hj => ?_⟩
 obtain ⟨c0, c1, c2, c3, c4⟩ := h6 j hj
 exact ⟨(hb.cell (p := ⟨b, _, none⟩) h5).trans c0, (hb.cell (p := ⟨b, _, none⟩) h5).trans c1, (hb.cell (p := ⟨b, _, none⟩) h5).trans c2, (hb.cell (p := ⟨b, _, none⟩) h5).trans c3, (hb.cell (p := ⟨b, _, none⟩) h5).trans c4⟩
def texts : List W → Option (List (List UInt8))
 | [] => some []
 | t :: r => match t.txt with
  | none => none
  | some x => (texts r).map (x :: ·)
def Way (l : List W) (k : Nat) (xs : List (List UInt8)) : Prop := texts l = (texts (l.drop k)).map (xs ++ ·)
theorem Way.start (l : List W) : Way l 0 [] := by
 unfold Way
 cases h : texts l with
 | none => simp [h]
 | some xs => simp [h]
theorem Way.next {l : List W} {k : Nat} {xs : List (List UInt8)} (h : Way l k xs) (hk : k < l.length) (x : List UInt8) (hx : (l[k]).txt = some x) : Way l (k + 1) (xs ++ [x]) := by
 unfold Way at *
 rw [h, List.drop_eq_getElem_cons hk, texts, hx]
 cases texts (l.drop (k + 1)) <;> simp
theorem Way.fail {l : List W} {k : Nat} {xs : List (List UInt8)} (h : Way l k xs) (hk : k < l.length) (hx : (l[k]).txt = none) : texts l = none := by
 unfold Way at h
 rw [h, List.drop_eq_getElem_cons hk, texts, hx]
 rfl
theorem Way.done {l : List W} {k : Nat} {xs : List (List UInt8)} (h : Way l k xs) (hk : l.length ≤ k) : texts l = some xs := by
 unfold Way at h
 rw [h, List.drop_eq_nil_of_le hk]
 simp [texts]
theorem digF_len : ∀ (f n : Nat), (Fx.digF f n).length ≤ f + 1
 | 0, n => by unfold Fx.digF; simp
 | f + 1, n => by
  unfold Fx.digF
  split
  ·simp
  ·have := digF_len f (n / 10)
   simp only [List.length_append, List.length_singleton]
   omega
theorem escs_len : ∀ (l : List UInt8), (escsL l).length ≤ 4 * l.length
 | [] => by simp [escsL]
 | c :: r => by
  have h1 := escs_len r
  have h2 : (escL c).length ≤ 4 := by
   unfold escL
   split
   ·simp
   split
   ·simp
   split
   ·simp
   split
   ·simp
   split
   ·simp
   ·simp [pairL]
  have h3 : escsL (c :: r) = escL c ++ escsL r := by simp [escsL]
  rw [h3, List.length_append, List.length_cons]
  omega
theorem let_len' (n : Nat) : (letL n).length ≤ 7 := by
 unfold letL
 split
 ·simp
 split
 ·simp
 split
 ·simp
 split
 ·simp
 split
 ·simp
 ·simp [pairL]
theorem sym_len (l : List UInt8) (h : Lx.symbol l = true) : l.length ≤ 32 := by
 unfold Lx.symbol at h
 rcases Bool.or_eq_true_iff.1 h with h | h
 ·rcases Bool.or_eq_true_iff.1 h with h | h
  ·rcases Bool.or_eq_true_iff.1 h with h | h
   ·rw [beq_iff_eq.1 h]; simp
   ·rw [beq_iff_eq.1 h]; simp
  ·rw [beq_iff_eq.1 h]; simp
 ·simp only [Bool.and_eq_true, decide_eq_true_eq] at h
  omega
theorem text_len (k n : Int) (l x : List UInt8) (h : text k n l = some x) : x.length ≤ 1100 := by
 unfold text at h
 split at h
 ·split at h
  ·rename_i hk hok
   injection h with h
   subst h
   unfold datL
   split
   ·unfold Fx.textL
    have := digF_len 20 n.natAbs
    simp only [List.length_append]
    split <;> (simp; omega)
   split
   ·split <;> simp
   split
   ·have := let_len' n.toNat
    simp; omega
   split
   ·rename_i h1 h2 h3 h4
    rw [h4] at hok
    unfold ok at hok
    rw [if_neg (by decide), if_neg (by decide), if_neg (by decide), if_pos rfl, Bool.and_eq_true, Bool.and_eq_true, decide_eq_true_iff, decide_eq_true_iff] at hok
    have := escs_len l
    unfold quotL
    simp; omega
   ·rename_i h1 h2 h3 h4
    unfold ok at hok
    rw [if_neg h1, if_neg h2, if_neg h3, if_neg h4] at hok
    split at hok
    ·rw [Bool.and_eq_true] at hok
     have := sym_len l hok.2
     omega
    ·exact absurd hok (by simp)
  ·exact absurd h (by simp)
 ·split at h
  ·split at h
   ·injection h with h
    subst h
    unfold signL
    split
    ·simp
    split
    ·simp
    split
    ·simp
    split
    ·simp
    split
    ·simp
    split
    ·simp
    split
    ·simp
    ·simp
   ·exact absurd h (by simp)
  ·exact absurd h (by simp)
end Tx
end Go.Proofs.Ytcopdfihaheplaa
namespace Go.Proofs.Ytcopdfihaheplaa.Fx
open Go.RowKit
theorem digU_toNat (n : Nat) : (digU n).toNat = 48 + n % 10 := by
 unfold digU
 rw [UInt8.toNat_ofNat']
 omega
theorem digU_isD (n : Nat) : isD (digU n) = true := by
 unfold isD; rw [digU_toNat]; simp; omega
theorem digF_val : ∀ (f n : Nat), n < 10 ^ (f + 1) → val (digF f n) = n
 | 0, n => fun h => by
  have : n < 10 := by simpa using h
  simp only [digF, val, List.foldl_cons, List.foldl_nil, digU_toNat]
  omega
 | f + 1, n => fun h => by
  unfold digF
  split
  ·simp only [val, List.foldl_cons, List.foldl_nil, digU_toNat]; omega
  ·rw [val_snoc, digF_val f (n / 10) (by rw [Nat.pow_succ] at h; omega), digU_toNat]; omega
theorem digF_all : ∀ (f n : Nat), (digF f n).all isD = true
 | 0, n => by simp [digF, digU_isD]
 | f + 1, n => by
  unfold digF
  split
  ·simp [digU_isD]
  ·rw [List.all_append, digF_all f (n / 10)]; simp [digU_isD]
theorem digF_head : ∀ (f n : Nat), n < 10 ^ (f + 1) → ∃ c l, digF f n = c :: l ∧ (l = [] ∨ c.toNat ≠ 48) ∧ (1 ≤ n → c.toNat ≠ 48)
 | 0, n => fun h => by
  have : n < 10 := by simpa using h
  exact ⟨_, [], rfl, .inl rfl, fun h1 => by rw [digU_toNat]; omega⟩
 | f + 1, n => fun h => by
  unfold digF
  split
  ·exact ⟨_, [], rfl, .inl rfl, fun h1 => by rw [digU_toNat]; omega⟩
  ·obtain ⟨c, l, e, _, h3⟩ := digF_head f (n / 10) (by rw [Nat.pow_succ] at h; omega)
   exact ⟨c, l ++ [digU n], by rw [e]; rfl, .inr (h3 (by omega)), fun _ => h3 (by omega)⟩
theorem digF_length : ∀ (L f n : Nat), n < 10 ^ (L + 1) → (digF f n).length ≤ L + 1 := by
 intro L
 induction L with
 | zero =>
  intro f n h
  have h10 : n < 10 := by simpa using h
  cases f with
  | zero => simp [digF]
  | succ f => simp [digF, h10]
 | succ L ih =>
  intro f n h
  cases f with
  | zero => simp [digF]
  | succ f =>
   unfold digF
   split
   ·simp
   ·have := ih f (n / 10) (by rw [Nat.pow_succ] at h; omega)
    simp only [List.length_append, List.length_singleton]; omega
theorem c48 {c : UInt8} (h : c.toNat ≠ 48) : (some c == some (48 : UInt8)) = false := by
 rw [beq_eq_false_iff_ne]; intro e; injection e with e; rw [e] at h; exact h rfl
theorem c45 {c : UInt8} (h : isD c = true) : (some c == some (45 : UInt8)) = false := by
 rw [beq_eq_false_iff_ne]; intro e; injection e with e; rw [e] at h; revert h; decide
theorem parse_text (a : Int) (ha : isF a = true) : parse (textL a) = (a, 0) := by
 have ba := isF_bd ha
 have hN : a.natAbs < 10 ^ 21 := Nat.lt_of_le_of_lt (show a.natAbs ≤ 1152921504606846976 by omega) (by decide)
 have hN19 : a.natAbs < 10 ^ 19 := Nat.lt_of_le_of_lt (show a.natAbs ≤ 1152921504606846976 by omega) (by decide)
 obtain ⟨c, l, e, h1, h2⟩ := digF_head 20 a.natAbs hN
 have hv := digF_val 20 a.natAbs hN
 have hall := digF_all 20 a.natAbs
 have hlen := digF_length 18 20 a.natAbs hN19
 have hc : isD c = true := by rw [e] at hall; simp at hall; exact hall.1
 by_cases h0 : a < 0
 ·have et : textL a = 45 :: digF 20 a.natAbs := by unfold textL; rw [if_pos h0]; rfl
  have hd : dig (textL a) = digF 20 a.natAbs := by rw [et]; rfl
  have hn : neg (textL a) = true := by rw [et]; rfl
  have hf : form (textL a) = true := by
   unfold form
   rw [hd, hall, e, show (c :: l).head? = some c from rfl, c48 (h2 (by omega))]; rfl
  unfold parse
  rw [if_pos hf, hd, if_neg (by omega), hn, hv]
  unfold signedV
  rw [if_neg (by omega), if_pos rfl, show (-(a.natAbs : Int)) = a from by omega]
  exact fitsV_ok ha
 ·have et : textL a = digF 20 a.natAbs := by unfold textL; rw [if_neg h0]; rfl
  have hq : (textL a).head? = some c := by rw [et, e]; rfl
  have hd : dig (textL a) = digF 20 a.natAbs := by
   unfold dig
   rw [if_neg (by rw [hq]; exact beq_eq_false_iff_ne.1 (c45 hc)), et]
  have hn : neg (textL a) = false := by unfold neg; rw [hq]; exact c45 hc
  have hf : form (textL a) = true := by
   unfold form
   rw [hd, hall, et, e]
   rcases h1 with h1 | h1
   ·subst h1; simp
   ·rw [show (c :: l).head? = some c from rfl, c48 h1]; rfl
  unfold parse
  rw [if_pos hf, hd, if_neg (by omega), hn, hv]
  unfold signedV
  rw [if_neg (by omega), if_neg (by decide), show ((a.natAbs : Nat) : Int) = a from by omega]
  exact fitsV_ok ha
theorem val_pos (c : UInt8) (l : List UInt8) (hc : isD c = true) (h : c.toNat ≠ 48) (hl : l.all isD = true) : 1 ≤ val (c :: l) := by
 have h1 : 1 ≤ c.toNat - 48 := by simp [isD] at hc; omega
 have := val_ge c l h1 hl
 exact Nat.le_trans (Nat.pow_pos (by omega)) this
theorem digF_of : ∀ (r : List UInt8) (f : Nat), r.length ≤ f + 1 → r ≠ [] → r.all isD = true → (r.length = 1 ∨ ∃ c l, r.reverse = c :: l ∧ c.toNat ≠ 48) → digF f (val r.reverse) = r.reverse := by
 intro r
 induction r with
 | nil => intro f _ h; exact absurd rfl h
 | cons c r ih =>
  intro f hf _ hall hh
  have hc : isD c = true ∧ r.all isD = true := by simpa using hall
  have hcn : 48 ≤ c.toNat ∧ c.toNat ≤ 57 := by simpa [isD] using hc.1
  have hu : ∀ v, digU (10 * v + (c.toNat - 48)) = c := fun v => UInt8.toNat_inj.1 (by rw [digU_toNat]; omega)
  rw [List.reverse_cons, val_snoc]
  cases r with
  | nil =>
   simp only [List.reverse_nil, List.nil_append, val, List.foldl_nil]
   have := hu 0
   cases f with
   | zero => simp only [digF]; rw [this]
   | succ f => rw [digF, if_pos (by omega), this]
  | cons d r =>
   obtain ⟨c', l', hr, hne⟩ : ∃ c l, (d :: r).reverse = c :: l ∧ c.toNat ≠ 48 := by
    rcases hh with hh | ⟨c', l', hr, hne⟩
    ·simp at hh
    ·rw [List.reverse_cons] at hr
     cases hrev : (d :: r).reverse with
     | nil => simp at hrev
     | cons x y => rw [hrev] at hr; injection hr with h1 _; exact ⟨x, y, rfl, by rw [h1]; exact hne⟩
   have hpos : 1 ≤ val (d :: r).reverse := by
    have ha : ((d :: r).reverse).all isD = true := by rw [List.all_reverse]; exact hc.2
    rw [hr] at ha ⊢
    have : isD c' = true ∧ l'.all isD = true := by simpa using ha
    exact val_pos c' l' this.1 hne this.2
   cases f with
   | zero => simp at hf
   | succ f =>
    have h2 := ih f (by simp at hf ⊢; omega) (by simp) hc.2 (.inr ⟨c', l', hr, hne⟩)
    rw [digF, if_neg (by omega), hu, show (10 * val (d :: r).reverse + (c.toNat - 48)) / 10 = val (d :: r).reverse from by omega, h2]
theorem digF_of' (l : List UInt8) (f : Nat) (h1 : l.length ≤ f + 1) (h2 : l ≠ []) (h3 : l.all isD = true) (h4 : l.length = 1 ∨ ∃ c m, l = c :: m ∧ c.toNat ≠ 48) : digF f (val l) = l := by
 have := digF_of l.reverse f (by simpa using h1) (by simpa using h2) (by rw [List.all_reverse]; exact h3) (by simpa using h4)
 rwa [List.reverse_reverse] at this
theorem fitsV_0 {n m : Int} (h : fitsV n = (m, 0)) : isF n = true ∧ m = n := by
 cases hn : isF n
 ·rw [fitsV_no hn] at h; cases h
 ·rw [fitsV_ok hn] at h; injection h with h _; exact ⟨rfl, h.symm⟩
theorem text_parse (s : List UInt8) (n : Int) (h : parse s = (n, 0)) : isF n = true ∧ textL n = s := by
 unfold parse at h
 split at h
 case isFalse => cases h
 rename_i hf
 split at h
 ·cases h
 rename_i hl
 unfold signedV at h
 split at h
 ·cases h
 obtain ⟨hF, hn⟩ := fitsV_0 h
 rw [← hn] at hF
 refine ⟨hF, ?_⟩
 unfold form at hf
 simp only [Bool.and_eq_true, Bool.not_eq_true', List.isEmpty_eq_false_iff] at hf
 obtain ⟨⟨h1, h2⟩, h3⟩ := hf
 cases hd : dig s with
 | nil => exact absurd hd h1
 | cons c l =>
  rw [hd] at hn h2 h3 hl
  have hca : isD c = true ∧ l.all isD = true := by simpa using h3
  cases hg : neg s
  ·rw [hg, if_neg (by decide)] at hn
   have hs : s = c :: l := by
    rw [← hd]; unfold dig; rw [if_neg]; exact beq_eq_false_iff_ne.1 hg
   have h4 : (c :: l).length = 1 ∨ ∃ d m, c :: l = d :: m ∧ d.toNat ≠ 48 := by
    by_cases hc : c.toNat = 48
    ·left
     have : c = 48 := UInt8.toNat_inj.1 (by rw [hc]; rfl)
     rw [hs, this] at h2
     have h6 : decide (1 < (48 :: l).length) = false := h2
     have h7 : ¬ 1 < (48 :: l).length := of_decide_eq_false h6
     simp only [List.length_cons] at h7 ⊢
     omega
    ·exact .inr ⟨c, l, rfl, hc⟩
   have := digF_of' (c :: l) 20 (by omega) (by simp) h3 h4
   unfold textL
   rw [hn, if_neg (by omega), Int.natAbs_natCast, this, hs]; rfl
  ·rw [hg, if_pos rfl] at hn
   have hh : s.head? = some 45 := by simpa [neg] using hg
   have hs : s = 45 :: c :: l := by
    rw [← hd]; unfold dig; rw [if_pos hh]
    cases s with
    | nil => cases hh
    | cons x y => injection hh with hx; rw [hx]; rfl
   have hc : c.toNat ≠ 48 := fun hc => by
    have : c = 48 := UInt8.toNat_inj.1 (by rw [hc]; rfl)
    rw [hs, this] at h2
    have h6 : decide (1 < (45 :: 48 :: l).length) = false := h2
    simp at h6
   have hv := val_pos c l hca.1 hc hca.2
   have := digF_of' (c :: l) 20 (by omega) (by simp) h3 (.inr ⟨c, l, rfl, hc⟩)
   unfold textL
   rw [hn, if_pos (by omega), Int.natAbs_neg, Int.natAbs_natCast, this, hs]; rfl
end Go.Proofs.Ytcopdfihaheplaa.Fx
namespace Go.Proofs.Ytcopdfihaheplaa.Lx
open Go.RowKit Go.Sort
theorem dw_appS (f : UInt8 → Bool) (h : f 32 = false) (b : List UInt8) : ∀ (r : List UInt8), (r ++ 32 :: b).dropWhile f = r.dropWhile f ++ 32 :: b := by
 intro r
 induction r with
 | nil => rw [List.nil_append, List.dropWhile_cons_of_neg (by rw [h]; simp)]; rfl
 | cons c r ih =>
  by_cases hc : f c = true
  ·rw [List.cons_append, List.dropWhile_cons_of_pos hc, List.dropWhile_cons_of_pos hc, ih]
  ·rw [List.cons_append, List.dropWhile_cons_of_neg hc, List.dropWhile_cons_of_neg hc]; rfl
theorem tw_appS (f : UInt8 → Bool) (h : f 32 = false) (b : List UInt8) : ∀ (r : List UInt8), (r ++ 32 :: b).takeWhile f = r.takeWhile f := by
 intro r
 induction r with
 | nil => rw [List.nil_append, List.takeWhile_cons_of_neg (by rw [h]; simp)]; rfl
 | cons c r ih =>
  by_cases hc : f c = true
  ·rw [List.cons_append, List.takeWhile_cons_of_pos hc, List.takeWhile_cons_of_pos hc, ih]
  ·rw [List.cons_append, List.takeWhile_cons_of_neg hc, List.takeWhile_cons_of_neg hc]
theorem run_appS (b t : List UInt8) (k : Tok) (r : List UInt8) (h : run t = .tok k r) : run (t ++ 32 :: b) = .tok k (r ++ 32 :: b) := by
 have hr := run_rest t k r h
 rw [run_eq] at h ⊢
 rw [tw_appS _ (by decide), dw_appS _ (by decide), ← hr]
 exact runW_rest _ _ _ _ h _
theorem nameLen_appS (b u : List UInt8) (h0 : u ≠ []) : nameLen (u ++ 32 :: b) = nameLen u := by
 cases u with
 | nil => exact absurd rfl h0
 | cons c u =>
  unfold nameLen
  rw [List.cons_append, List.tail_cons, List.tail_cons, tw_appS _ (by decide)]
  rfl
theorem char_appS (b t : List UInt8) (k : Tok) (r : List UInt8) (h : char t = .tok k r) : char (t ++ 32 :: b) = .tok k (r ++ 32 :: b) := by
 unfold char at h
 split at h
 ·simp at h
 ·rename_i hne
  split at h
  ·simp at h
  ·rename_i hok
   simp at h
   obtain ⟨rfl, rfl⟩ := h
   match t, hne, hok with
   | [], hne, _ => exact absurd rfl hne
   | [_], hne, _ => exact absurd rfl hne
   | x :: y :: u, hne, hok =>
    have hd : (x :: y :: u).drop 2 = u := rfl
    rw [hd] at hne hok ⊢
    obtain ⟨_, h2, h3⟩ := nameLen_own u hne
    unfold char
    have hd2 : (x :: y :: u ++ 32 :: b).drop 2 = u ++ 32 :: b := rfl
    rw [hd2, nameLen_appS b u hne, List.take_append_of_le_length h3, List.drop_append_of_le_length h3]
    have hpk : pk (x :: y :: u ++ 32 :: b) 2 = pk (x :: y :: u) 2 := pk_app _ _ _ (by
     have : 0 < u.length := List.length_pos_iff.2 hne
     simp; omega)
    rw [if_neg (by simp), hpk, if_neg hok]
    congr 2
    rw [show 2 + nameLen u = nameLen u + 2 by omega]
    rfl
theorem sg_tenS (c : UInt8) : sg c 32 = sg c 0 := by
 unfold sg
 cases (c == 40) <;> cases (c == 41) <;> cases (c == 39) <;> cases (c == 96) <;> cases (c == 44) <;> cases (c == 35) <;> rfl
theorem pk_tenS (t b : List UInt8) (h0 : t ≠ []) : pk (t ++ 32 :: b) 1 = pk t 1 ∨ (t.length = 1 ∧ pk t 1 = 0 ∧ pk (t ++ 32 :: b) 1 = 32) := by
 match t, h0 with
 | [c], _ => right; exact ⟨rfl, rfl, rfl⟩
 | c :: d :: t, _ => left; rfl
theorem word_appS (b t : List UInt8) (h0 : t ≠ []) (k : Tok) (r : List UInt8) (h : word t = .tok k r) : word (t ++ 32 :: b) = .tok k (r ++ 32 :: b) := by
 have hpos : 0 < t.length := List.length_pos_iff.2 h0
 have p0 : pk (t ++ 32 :: b) 0 = pk t 0 := pk_app _ _ _ hpos
 have hs : sign (t ++ 32 :: b) = sign t := by
  rw [sign_sg, sign_sg, p0]
  rcases pk_tenS t b h0 with h1 | ⟨_, h1, h2⟩
  ·rw [h1]
  ·rw [h1, h2, sg_tenS]
 have h92 : (pk (t ++ 32 :: b) 1 == 92) = (pk t 1 == 92) := by
  rcases pk_tenS t b h0 with h1 | ⟨_, h1, h2⟩
  ·rw [h1]
  ·rw [h1, h2]; rfl
 unfold word at h ⊢
 rw [hs, p0, h92]
 split at h
 ·rename_i h1
  rw [if_pos h1]
  simp at h
  obtain ⟨rfl, rfl⟩ := h
  congr 1
  apply List.drop_append_of_le_length
  rw [sign_sg] at h1 ⊢
  rcases sg_two _ _ h1 with h2 | ⟨h2, hd⟩
  ·rw [h2]; exact hpos
  ·rw [h2]
   apply Classical.byContradiction
   intro hh
   exact hd (pk_end _ _ (by omega))
 ·rename_i h1
  rw [if_neg h1]
  split at h
  ·rename_i h2
   rw [if_pos h2]
   exact str_app _ t k r h0 h
  ·rename_i h2
   rw [if_neg h2]
   split at h
   ·rename_i h3
    rw [if_pos h3]
    exact char_appS b t k r h
   ·rename_i h3
    rw [if_neg h3]
    exact run_appS b t k r h
end Go.Proofs.Ytcopdfihaheplaa.Lx
namespace Go.Proofs.Ytcopdfihaheplaa.Lx
open Go.RowKit Go.Sort
theorem u8_all (P : UInt8 → Bool) (h : ∀ n, n < 256 → P (UInt8.ofNat n) = true) (c : UInt8) : P c = true := by
 have h2 := h c.toNat c.toNat_lt
 simpa using h2
structure Reads (x : List UInt8) (k : Tok) : Prop where
 word : word x = .tok k []
 ne : x ≠ []
 solid : Solid x
 ok : x.all okByte = true
theorem all_tw (f : UInt8 → Bool) : ∀ (x : List UInt8), x.all f = true → x.takeWhile f = x ∧ x.dropWhile f = []
 | [], _ => ⟨rfl, rfl⟩
 | c :: r, h => by
  rw [List.all_cons, Bool.and_eq_true] at h
  obtain ⟨h1, h2⟩ := all_tw f r h.2
  exact ⟨by rw [List.takeWhile_cons_of_pos h.1, h1], by rw [List.dropWhile_cons_of_pos h.1, h2]⟩
def headB (c : UInt8) : Bool := (c != 40 && c != 41) && ((c != 39 && c != 96) && ((c != 44 && c != 35) && (c != 34 && (!white c && (c != 59 && c != 0)))))
theorem head_facts (x : List UInt8) (h : headB (pk x 0) = true) : sign x = (0, 0) ∧ (pk x 0 == 34) = false ∧ (pk x 0 == 35) = false ∧ Solid x := by
 unfold headB at h
 simp only [Bool.and_eq_true, bne_iff_ne, ne_eq, Bool.not_eq_true'] at h
 obtain ⟨⟨h1, h2⟩, ⟨h3, h4⟩, ⟨h5, h6⟩, h7, h8, h9, _⟩ := h
 refine ⟨?_, by simpa using h7, by simpa using h6, h8, by simpa using h9, ?_⟩
 ·unfold sign
  simp [h1, h2, h3, h4, h5, h6]
 ·have : (pk x 0 == 35) = false := by simpa using h6
  rw [this]; rfl
theorem run_reads (x : List UInt8) (k : Tok) (h0 : x ≠ []) (hh : headB (pk x 0) = true) (he : x.all (fun c => !ends c) = true) (hok : x.all okByte = true) (hr : runW x [] = .tok k []) : Reads x k := by
 obtain ⟨h1, h2, h3, h4⟩ := head_facts x hh
 refine ⟨?_, h0, h4, hok⟩
 unfold word
 rw [h1, if_neg (by simp), h2, if_neg (by simp), h3, if_neg (by simp), run_eq]
 obtain ⟨e1, e2⟩ := all_tw _ x he
 rw [e1, e2]
 exact hr
def numB (c : UInt8) : Bool := figure c || c == 45
theorem num_ends : ∀ c, (!numB c || (!ends c && (okByte c && headB c))) = true := u8_all _ (by decide +kernel)
theorem sym_ends : ∀ c, (!goes c || (!ends c && okByte c)) = true := u8_all _ (by decide +kernel)
theorem sym_head : ∀ c, (!begins c || (headB c && (!figure c && (c != 45 && (c != 43 && c != 46))))) = true := u8_all _ (by decide +kernel)
theorem imp {a b : Bool} (h : (!a || b) = true) (ha : a = true) : b = true := by
 rw [ha] at h; simpa using h
theorem all_imp (f g : UInt8 → Bool) (h : ∀ c, f c = true → g c = true) (x : List UInt8) (hx : x.all f = true) : x.all g = true := by
 rw [List.all_eq_true] at hx ⊢
 exact fun c hc => h c (hx c hc)
theorem num_reads (n : Int) (hn : Fx.isF n = true) : Reads (Fx.textL n) ⟨9, n, []⟩ := by
 have hp := Fx.parse_text n hn
 have hd : (Fx.digF 20 n.natAbs).all Fx.isD = true := Fx.digF_all 20 n.natAbs
 have hd2 : (Fx.digF 20 n.natAbs).all figure = true := hd
 obtain ⟨c, l, hcl, _, _⟩ := Fx.digF_head 20 n.natAbs (by
  unfold Fx.isF at hn
  simp only [Bool.and_eq_true, decide_eq_true_eq] at hn
  omega)
 have hc : figure c = true := by
  rw [hcl, List.all_cons, Bool.and_eq_true] at hd2
  exact hd2.1
 have hall : (Fx.textL n).all numB = true := by
  unfold Fx.textL
  rw [List.all_append, Bool.and_eq_true]
  refine ⟨by split <;> rfl, all_imp _ _ (fun c h => by unfold numB; rw [h]; rfl) _ hd2⟩
 obtain ⟨x, hx⟩ : ∃ x, Fx.textL n = x := ⟨_, rfl⟩
 have hform : (x = c :: l) ∨ (x = 45 :: c :: l) := by
  rw [← hx]
  unfold Fx.textL
  rw [hcl]
  split
  ·right; rfl
  ·left; rfl
 rw [hx] at hp hall ⊢
 have h0 : x ≠ [] := by rcases hform with h | h <;> rw [h] <;> simp
 have hnb : numB (pk x 0) = true := by
  rcases hform with h | h
  ·rw [h]; show numB c = true; unfold numB; rw [hc]; rfl
  ·rw [h]; rfl
 have hh := imp (num_ends (pk x 0)) hnb
 simp only [Bool.and_eq_true] at hh
 refine run_reads x _ h0 hh.2.2 (all_imp _ _ (fun c h => by have := imp (num_ends c) h; simp only [Bool.and_eq_true] at this; exact this.1) x hall) (all_imp _ _ (fun c h => by have := imp (num_ends c) h; simp only [Bool.and_eq_true] at this; exact this.2.1) x hall) ?_
 have c35 : ∀ r, x ≠ 35 :: r := by
  intro r h
  rw [h] at hnb
  exact absurd (show numB 35 = true from hnb) (by decide)
 unfold runW
 rw [if_neg (c35 _), if_neg (c35 _), if_neg (by intro h; rw [h] at hnb; exact absurd hnb (by decide)), if_pos ?_, hp]
 ·rfl
 ·rcases hform with h | h
  ·rw [h, List.headD_cons, hc]; rfl
  ·rw [h, List.headD_cons]
   have : figure (pk (45 :: c :: l) 1) = true := hc
   rw [this]
   simp
theorem sym_reads (x : List UInt8) (h : symbol x = true) : Reads x ⟨13, 0, x⟩ := by
 have h' := h
 unfold symbol at h
 simp only [Bool.or_eq_true, beq_iff_eq] at h
 rcases h with ((rfl | rfl) | rfl) | h
 ·exact run_reads _ _ (by simp) (by decide) (by decide) (by decide) rfl
 ·exact run_reads _ _ (by simp) (by decide) (by decide) (by decide) rfl
 ·exact run_reads _ _ (by simp) (by decide) (by decide) (by decide) rfl
 ·simp only [Bool.and_eq_true] at h
  obtain ⟨⟨⟨he, _⟩, hb⟩, hg⟩ := h
  match x, he, hb with
  | c :: r, _, hb =>
   have hb2 : begins c = true := hb
   have hh := imp (sym_head c) hb2
   simp only [Bool.and_eq_true, bne_iff_ne, ne_eq, Bool.not_eq_true'] at hh
   obtain ⟨h1, h2, h3, h4, h5⟩ := hh
   refine run_reads _ _ (by simp) h1 (all_imp _ _ (fun c h => by have := imp (sym_ends c) h; simp only [Bool.and_eq_true] at this; exact this.1) _ hg) (all_imp _ _ (fun c h => by have := imp (sym_ends c) h; simp only [Bool.and_eq_true] at this; exact this.2) _ hg) ?_
   have c35 : c ≠ 35 := by intro e; rw [e] at h1; exact absurd h1 (by decide)
   unfold runW
   rw [if_neg (by intro e; injection e with e; exact c35 e), if_neg (by intro e; injection e with e; exact c35 e), if_neg (by intro e; injection e with e; exact h5 e), if_neg ?_, if_pos h']
   rw [List.headD_cons, h2, show (c == 45) = false by simpa using h3, show (c == 43) = false by simpa using h4]
   simp
end Go.Proofs.Ytcopdfihaheplaa.Lx
namespace Go.Proofs.Ytcopdfihaheplaa.Lx
open Go.RowKit Go.Sort Tx
theorem sign_reads (k : Int) (h : 1 ≤ k ∧ k ≤ 8) : Reads (signL k) ⟨k, 0, []⟩ := by
 have : k = 1 ∨ k = 2 ∨ k = 3 ∨ k = 4 ∨ k = 5 ∨ k = 6 ∨ k = 7 ∨ k = 8 := by omega
 rcases this with rfl | rfl | rfl | rfl | rfl | rfl | rfl | rfl
 ·exact ⟨rfl, by decide, ⟨by decide, by decide, by decide⟩, by decide⟩
 ·exact ⟨rfl, by decide, ⟨by decide, by decide, by decide⟩, by decide⟩
 ·exact ⟨rfl, by decide, ⟨by decide, by decide, by decide⟩, by decide⟩
 ·exact ⟨rfl, by decide, ⟨by decide, by decide, by decide⟩, by decide⟩
 ·exact ⟨rfl, by decide, ⟨by decide, by decide, by decide⟩, by decide⟩
 ·exact ⟨rfl, by decide, ⟨by decide, by decide, by decide⟩, by decide⟩
 ·exact ⟨rfl, by decide, ⟨by decide, by decide, by decide⟩, by decide⟩
 ·exact ⟨rfl, by decide, ⟨by decide, by decide, by decide⟩, by decide⟩
theorem bool_reads (n : Int) (h : n = 0 ∨ n = 1) : Reads (if n = 1 then [35, 116] else [35, 102]) ⟨10, n, []⟩ := by
 rcases h with rfl | rfl
 ·exact ⟨rfl, by decide, ⟨by decide, by decide, by decide⟩, by decide⟩
 ·exact ⟨rfl, by decide, ⟨by decide, by decide, by decide⟩, by decide⟩
def chB (n : Nat) : Bool := !(letL n).isEmpty && ((decide (nameLen (letL n) = (letL n).length) && decide (names (letL n) = (n : Int))) && (!white (pk (letL n) 0) && (letL n).all okByte))
theorem ch_all : ∀ n, n < 128 → chB n = true := by decide +kernel
theorem char_reads (n : Nat) (h : n < 128) : Reads (35 :: 92 :: letL n) ⟨11, (n : Int), []⟩ := by
 have hb := ch_all n h
 unfold chB at hb
 simp only [Bool.and_eq_true, decide_eq_true_eq, Bool.not_eq_true', List.isEmpty_eq_false_iff] at hb
 obtain ⟨h1, ⟨h2, h3⟩, h4, h5⟩ := hb
 refine ⟨?_, by simp, ⟨rfl, rfl, rfl⟩, ?_⟩
 ·have hs : sign (35 :: 92 :: letL n) = (0, 0) := rfl
  unfold word
  rw [hs, if_neg (by simp), if_neg (by simp [pk]), if_pos (by simp [pk])]
  unfold char
  have hd : (35 :: 92 :: letL n).drop 2 = letL n := rfl
  rw [hd, if_neg h1, h2, List.take_of_length_le (Nat.le_refl _), List.drop_of_length_le (Nat.le_refl _), h3]
  have hp : pk (35 :: 92 :: letL n) 2 = pk (letL n) 0 := rfl
  rw [hp, h4, if_neg (by simp)]
 ·rw [List.all_cons, List.all_cons, h5]; rfl
theorem strEnd_plain (c : UInt8) (t : List UInt8) (h1 : (c == 34) = false) (h2 : (c == 92) = false) : strEnd (c :: t) = (strEnd t).map fun p => (c :: p.1, p.2) := by
 cases t with
 | nil =>
  have e1 : strEnd [c] = none := by rw [strEnd, if_neg (by rw [h1]; simp)]
  have e2 : strEnd [] = none := by rw [strEnd]
  rw [e1, e2]; rfl
 | cons d r => rw [strEnd, h1, if_neg (by simp), h2, if_neg (by simp)]
theorem strEnd_esc (d : UInt8) (t : List UInt8) : strEnd (92 :: d :: t) = (strEnd t).map fun p => (92 :: d :: p.1, p.2) := by
 rw [strEnd, if_neg (by decide), if_pos (by decide)]
theorem strEnd_end (t : List UInt8) : strEnd (34 :: t) = some ([], t) := by
 cases t with
 | nil => rw [strEnd, if_pos (by decide)]
 | cons d r => rw [strEnd, if_pos (by decide)]
theorem fig_hex : ∀ d, d < 16 → hexOf (fig d) = some d ∧ (fig d == 34) = false ∧ (fig d == 92) = false := by decide
theorem esc_str (c : UInt8) (t : List UInt8) : strEnd (escL c ++ t) = (strEnd t).map fun p => (escL c ++ p.1, p.2) := by
 unfold escL
 split
 ·exact strEnd_esc 110 t
 split
 ·exact strEnd_esc 116 t
 split
 ·exact strEnd_esc 34 t
 split
 ·exact strEnd_esc 92 t
 split
 ·rename_i h34 h92 _
  exact strEnd_plain c t (by simpa using h34) (by simpa using h92)
 ·have hc := c.toNat_lt
  obtain ⟨_, a1, a2⟩ := fig_hex (c.toNat / 16) (by omega)
  obtain ⟨_, b1, b2⟩ := fig_hex (c.toNat % 16) (by omega)
  show strEnd (92 :: 120 :: fig (c.toNat / 16) :: fig (c.toNat % 16) :: t) = _
  rw [strEnd_esc, strEnd_plain _ _ a1 a2, strEnd_plain _ _ b1 b2, Option.map_map, Option.map_map]
  rfl
theorem esc_quoted (c : UInt8) (hc : c.toNat < 128) (t : List UInt8) : quoted (escL c ++ t) = (quoted t).map (c :: ·) := by
 unfold escL
 split
 ·rename_i h
  have : c = 10 := by simpa using h
  subst this
  show quoted (92 :: 110 :: t) = _
  rw [quoted_esc, if_pos (by decide)]
 split
 ·rename_i h
  have : c = 9 := by simpa using h
  subst this
  show quoted (92 :: 116 :: t) = _
  rw [quoted_esc, if_neg (by decide), if_pos (by decide)]
 split
 ·rename_i h
  have : c = 34 := by simpa using h
  subst this
  show quoted (92 :: 34 :: t) = _
  rw [quoted_esc, if_neg (by decide), if_neg (by decide), if_pos (by decide)]
 split
 ·rename_i h
  have : c = 92 := by simpa using h
  subst this
  show quoted (92 :: 92 :: t) = _
  rw [quoted_esc, if_neg (by decide), if_neg (by decide), if_pos (by decide)]
 split
 ·rename_i _ _ _ h92 hr
  simp only [Bool.and_eq_true, decide_eq_true_eq] at hr
  show quoted (c :: t) = _
  rw [quoted_plain c t (by simpa using h92), if_neg]
  have hw : ∀ c : UInt8, (!(decide (32 ≤ c.toNat)) || !(white c && c != 32)) = true := u8_all _ (by decide +kernel)
  have := imp (hw c) (by simpa using hr.1)
  simp only [Bool.not_eq_true'] at this
  rw [this]
  simp
 ·obtain ⟨a0, _, _⟩ := fig_hex (c.toNat / 16) (by omega)
  obtain ⟨b0, _, _⟩ := fig_hex (c.toNat % 16) (by omega)
  show quoted (92 :: 120 :: fig (c.toNat / 16) :: fig (c.toNat % 16) :: t) = _
  have h2 : two (fig (c.toNat / 16) :: fig (c.toNat % 16) :: t) = (c.toNat : Int) := by
   show (match hexOf (fig (c.toNat / 16)), hexOf (fig (c.toNat % 16)) with
    | some x, some y => if x ≤ 7 then ((16 * x + y : Nat) : Int) else -1
    | _, _ => -1) = _
   rw [a0, b0]
   show (if c.toNat / 16 ≤ 7 then ((16 * (c.toNat / 16) + c.toNat % 16 : Nat) : Int) else -1) = _
   rw [if_pos (by omega)]
   omega
  rw [quoted_esc, if_neg (by decide), if_neg (by decide), if_neg (by decide), if_pos (by decide), h2, if_neg (by omega)]
  simp
theorem escs_str : ∀ (l r : List UInt8), strEnd (escsL l ++ 34 :: r) = some (escsL l, r)
 | [], r => by show strEnd (34 :: r) = _; exact strEnd_end r
 | c :: l, r => by
  have e : escsL (c :: l) = escL c ++ escsL l := by simp [escsL]
  rw [e, List.append_assoc, esc_str, escs_str l r]
  rfl
theorem escs_quoted : ∀ (l : List UInt8), l.all (fun c => decide (c.toNat < 128)) = true → quoted (escsL l) = some l
 | [], _ => by show quoted [] = _; rw [quoted]
 | c :: l, h => by
  rw [List.all_cons, Bool.and_eq_true, decide_eq_true_eq] at h
  have e : escsL (c :: l) = escL c ++ escsL l := by simp [escsL]
  rw [e, esc_quoted c h.1, escs_quoted l h.2]
  rfl
theorem esc_ok : ∀ c, (escL c).all okByte = true := u8_all (fun c => (escL c).all okByte) (by decide +kernel)
theorem escs_ok : ∀ (l : List UInt8), (escsL l).all okByte = true
 | [] => rfl
 | c :: l => by
  have e : escsL (c :: l) = escL c ++ escsL l := by simp [escsL]
  rw [e, List.all_append, esc_ok c, escs_ok l]
  rfl
theorem str_reads (l : List UInt8) (hl : l.length ≤ 256) (ha : l.all (fun c => decide (c.toNat < 128)) = true) : Reads (quotL l) ⟨12, 0, l⟩ := by
 refine ⟨?_, by unfold quotL; simp, ⟨by unfold quotL; rfl, by unfold quotL; rfl, by unfold quotL; rfl⟩, ?_⟩
 ·have hs : sign (quotL l) = (0, 0) := rfl
  unfold word
  rw [hs, if_neg (by simp), if_pos (by unfold quotL; simp [pk])]
  unfold str
  have ht : (quotL l).tail = escsL l ++ [34] := rfl
  rw [ht, escs_str]
  simp only [escs_quoted l ha]
  rw [if_pos hl]
 ·unfold quotL
  rw [List.all_cons, List.all_append, escs_ok]; rfl
theorem text_reads (k n : Int) (s x : List UInt8) (h : Tx.text k n s = some x) : Reads x ⟨k, n, s⟩ := by
 have hkk : Tx.kind k = if k = 9 then 1 else if k = 10 then 2 else if k = 11 then 3 else if k = 12 then 4 else if k = 13 then 5 else 0 := rfl
 unfold Tx.text at h
 split at h
 ·rename_i hk
  split at h
  ·rename_i hok
   injection h with h
   subst h
   have hc : k = 9 ∨ k = 10 ∨ k = 11 ∨ k = 12 ∨ k = 13 := by
    rw [hkk] at hk
    apply Classical.byContradiction
    intro hh
    rw [if_neg (by omega), if_neg (by omega), if_neg (by omega), if_neg (by omega), if_neg (by omega)] at hk
    exact hk rfl
   rcases hc with rfl | rfl | rfl | rfl | rfl
   ·rw [show Tx.kind 9 = 1 from rfl] at hok ⊢
    unfold Tx.ok at hok
    rw [if_pos rfl, Bool.and_eq_true, decide_eq_true_eq] at hok
    obtain ⟨h1, rfl⟩ := hok
    exact num_reads n h1
   ·rw [show Tx.kind 10 = 2 from rfl] at hok ⊢
    unfold Tx.ok at hok
    rw [if_neg (by decide), if_pos rfl, Bool.and_eq_true, Bool.or_eq_true, decide_eq_true_eq, decide_eq_true_eq, decide_eq_true_eq] at hok
    obtain ⟨h1, rfl⟩ := hok
    exact bool_reads n h1
   ·rw [show Tx.kind 11 = 3 from rfl] at hok ⊢
    unfold Tx.ok at hok
    rw [if_neg (by decide), if_neg (by decide), if_pos rfl, Bool.and_eq_true, Bool.and_eq_true, decide_eq_true_eq, decide_eq_true_eq, decide_eq_true_eq] at hok
    obtain ⟨⟨h1, h2⟩, rfl⟩ := hok
    obtain ⟨m, rfl⟩ := Int.eq_ofNat_of_zero_le h1
    exact char_reads m (by omega)
   ·rw [show Tx.kind 12 = 4 from rfl] at hok ⊢
    unfold Tx.ok at hok
    rw [if_neg (by decide), if_neg (by decide), if_neg (by decide), if_pos rfl, Bool.and_eq_true, Bool.and_eq_true, decide_eq_true_eq, decide_eq_true_eq] at hok
    obtain ⟨rfl, h1, h2⟩ := hok
    exact str_reads s h1 h2
   ·rw [show Tx.kind 13 = 5 from rfl] at hok ⊢
    unfold Tx.ok at hok
    rw [if_neg (by decide), if_neg (by decide), if_neg (by decide), if_neg (by decide), if_pos rfl, Bool.and_eq_true, decide_eq_true_eq] at hok
    obtain ⟨rfl, h1⟩ := hok
    exact sym_reads s h1
  ·exact absurd h (by simp)
 ·split at h
  ·rename_i hk
   split at h
   ·rename_i h0
    injection h with h
    subst h
    obtain ⟨rfl, rfl⟩ := h0
    exact sign_reads k hk
   ·exact absurd h (by simp)
  ·exact absurd h (by simp)
end Go.Proofs.Ytcopdfihaheplaa.Lx
namespace Go.Proofs.Ytcopdfihaheplaa.Lx
open Go.RowKit Go.Sort Tx
theorem gap_sep (t : List UInt8) (h0 : t ≠ []) (hs : Solid t) : gap t.length t = (t, true) := by
 have hpos : 0 < t.length := List.length_pos_iff.2 h0
 obtain ⟨m, hm⟩ : ∃ m, t.length = m + 1 := ⟨t.length - 1, by omega⟩
 rw [hm]
 exact gap_solid m t hs
end Go.Proofs.Ytcopdfihaheplaa.Lx
namespace Go.Proofs.Ytcopdfihaheplaa.Lx
open Go.RowKit Go.Sort Tx
theorem text_of_ok (k n : Int) (s : List UInt8) (hk : kind k ≠ 0) (h : Tx.ok (kind k) n s = true) : ∃ x, Tx.text k n s = some x := by
 unfold Tx.text
 rw [if_pos hk, if_pos h]
 exact ⟨_, rfl⟩
end Go.Proofs.Ytcopdfihaheplaa.Lx

namespace Go.Proofs.Ytcopdfihaheplaa
open Go.RowKit
namespace Dt
inductive D where
 | mk (k n : Int) (s : ByteArray) (m : List Int) (l t : List D)
def D.k : D → Int
 | .mk k _ _ _ _ _ => k
def D.n : D → Int
 | .mk _ n _ _ _ _ => n
def D.s : D → ByteArray
 | .mk _ _ s _ _ _ => s
def D.m : D → List Int
 | .mk _ _ _ m _ _ => m
def D.l : D → List D
 | .mk _ _ _ _ l _ => l
def D.t : D → List D
 | .mk _ _ _ _ _ t => t
def isFix (n : Int) : Bool := decide (-1152921504606846976 ≤ n) && decide (n ≤ 1152921504606846975)
def mayMark (x : Int) : Bool := decide (1 ≤ x) && decide (x ≤ 1048576)
def ascii (s : ByteArray) : Bool := decide (s.data.toList.length ≤ 256) && s.data.toList.all (fun c => decide (c.toNat < 128))
def single : D → Bool
 | .mk k n s m l t =>
  if k = 1 then isFix n && s.data.toList.isEmpty && m.isEmpty && l.isEmpty && t.isEmpty
  else if k = 2 then decide (0 ≤ n ∧ n < 2) && s.data.toList.isEmpty && m.isEmpty && l.isEmpty && t.isEmpty
  else if k = 3 then decide (0 ≤ n ∧ n < 128) && s.data.toList.isEmpty && m.isEmpty && l.isEmpty && t.isEmpty
  else if k = 4 then ascii s && decide (n = 0) && m.isEmpty && l.isEmpty && t.isEmpty
  else if k = 5 then Lx.symbol s.data.toList && decide (m.length ≤ 16) && m.all mayMark && decide (n = 0) && l.isEmpty && t.isEmpty
  else if k = 6 ∨ k = 8 then decide (n = 0) && s.data.toList.isEmpty && m.isEmpty && t.isEmpty
  else if k = 7 then decide (n = 0) && s.data.toList.isEmpty && m.isEmpty && !l.isEmpty && (match t with
   | [x] => decide (x.k ≠ 6 ∧ x.k ≠ 7)
   | _ => false)
  else false
mutual
def chk : D → Nat → Nat → Int × Nat
 | .mk k n s m l t, deep, p =>
  if 64 < deep then (4, p)
  else if 4096 ≤ p then (3, p)
  else if single (.mk k n s m l t) then
   (if (chks l (deep + 1) (p + 1)).1 = 0 then chks t (deep + 1) (chks l (deep + 1) (p + 1)).2 else chks l (deep + 1) (p + 1))
  else (20, p)
def chks : List D → Nat → Nat → Int × Nat
 | [], _, p => (0, p)
 | d :: r, deep, p => if (chk d deep p).1 = 0 then chks r deep (chk d deep p).2 else chk d deep p
end
mutual
def Wf : D → Prop
 | .mk _k n s m l t => (-9223372036854775808 ≤ n ∧ n ≤ 9223372036854775807) ∧ s.size ≤ 140737488355328 ∧ m.length ≤ 140737488355328 ∧ l.length ≤ 140737488355328 ∧ t.length ≤ 140737488355328 ∧ Wfs l ∧ Wfs t
def Wfs : List D → Prop
 | [] => True
 | d :: r => Wf d ∧ Wfs r
end
theorem Wfs.at : ∀ {l : List D}, Wfs l → ∀ j, (h : j < l.length) → Wf l[j]
 | [], _, j, h => absurd h (by simp)
 | d :: r, hw, 0, _ => by rw [Wfs] at hw; exact hw.1
 | d :: r, hw, j + 1, h => by
  rw [Wfs] at hw
  exact Wfs.at hw.2 j (by simpa using h)
def check (d : D) : Int := (chk d 1 0).1
def IRow (F : Nat → Prop) (w : World) (v : Value) (m : List Int) : Prop :=
 ∃ (a : Option Addr) (c : Nat), v = .slice a m.length c ∧ m.length ≤ c ∧ (m ≠ [] → ∃ b o, a = some ⟨b, o, none⟩ ∧ F b ∧ b < w.heap.size ∧ ∀ j, (h : j < m.length) → w.cell? ⟨b, o + j, none⟩ = some (.int .i64 m[j]))
structure Six (w : World) (b o : Nat) (d : D) (vm vl vt : Value) : Prop where
 c0 : w.cell? ⟨b, o, none⟩ = some (.int .i64 d.k)
 c1 : w.cell? ⟨b, o + 1, none⟩ = some (.int .i64 d.n)
 c2 : w.cell? ⟨b, o + 2, none⟩ = some (.string d.s)
 c3 : w.cell? ⟨b, o + 3, none⟩ = some vm
 c4 : w.cell? ⟨b, o + 4, none⟩ = some vl
 c5 : w.cell? ⟨b, o + 5, none⟩ = some vt
mutual
def Rep (F : Nat → Prop) (w : World) : D → Value → Value → Value → Prop
 | .mk _ _ _ m l t, vm, vl, vt => IRow F w vm m ∧
   (∃ (a : Option Addr) (c : Nat), vl = .slice a l.length c ∧ l.length ≤ c ∧ (l ≠ [] → ∃ b o, a = some ⟨b, o, none⟩ ∧ F b ∧ b < w.heap.size ∧ Reps F w l b o)) ∧
   (∃ (a : Option Addr) (c : Nat), vt = .slice a t.length c ∧ t.length ≤ c ∧ (t ≠ [] → ∃ b o, a = some ⟨b, o, none⟩ ∧ F b ∧ b < w.heap.size ∧ Reps F w t b o))
def Reps (F : Nat → Prop) (w : World) : List D → Nat → Nat → Prop
 | [], _, _ => True
 | d :: r, b, o => (∃ vm vl vt, Six w b o d vm vl vt ∧ Rep F w d vm vl vt) ∧ Reps F w r b (o + 6)
end
def Row (F : Nat → Prop) (w : World) (v : Value) (l : List D) : Prop :=
 ∃ (a : Option Addr) (c : Nat), v = .slice a l.length c ∧ l.length ≤ c ∧ (l ≠ [] → ∃ b o, a = some ⟨b, o, none⟩ ∧ F b ∧ b < w.heap.size ∧ Reps F w l b o)
theorem rep_iff (F : Nat → Prop) (w : World) (d : D) (vm vl vt : Value) : Rep F w d vm vl vt ↔ IRow F w vm d.m ∧ Row F w vl d.l ∧ Row F w vt d.t := by
 cases d
 rw [Rep]
 exact Iff.rfl
theorem Reps.at {F : Nat → Prop} {w : World} : ∀ {l : List D} {b o : Nat}, Reps F w l b o → ∀ j, (h : j < l.length) → ∃ vm vl vt, Six w b (o + j * 6) l[j] vm vl vt ∧ Rep F w l[j] vm vl vt
 | [], _, _, _, j, h => absurd h (by simp)
 | d :: r, b, o, hr, 0, _ => by
  rw [Reps] at hr
  simpa using hr.1
 | d :: r, b, o, hr, j + 1, h => by
  rw [Reps] at hr
  have h2 := Reps.at hr.2 j (by simpa using h)
  rw [show o + (j + 1) * 6 = o + 6 + j * 6 by omega]
  simpa using h2
theorem Reps.of {F : Nat → Prop} {w : World} : ∀ {l : List D} {b o : Nat}, (∀ j, (h : j < l.length) → ∃ vm vl vt, Six w b (o + j * 6) l[j] vm vl vt ∧ Rep F w l[j] vm vl vt) → Reps F w l b o
 | [], _, _, _ => by rw [Reps]; trivial
 | d :: r, b, o, h => by
  rw [Reps]
  have h0 := h 0 (by simp)
  rw [Nat.zero_mul, Nat.add_zero] at h0
  refine ⟨h0, Reps.of fun j hj => ?_⟩
  have := h (j + 1) (by simpa using hj)
  rw [show o + (j + 1) * 6 = o + 6 + j * 6 by omega] at this
  simpa using this
theorem IRow.keep {F S : Nat → Prop} {w w' : World} {v : Value} {m : List Int} (h : IRow F w v m) (hk : Keep S w w') (hS : ∀ b, F b → b < w.heap.size → ¬ S b) : IRow F w' v m := by
 obtain ⟨a, c, h1, h2, h3⟩ := h
 refine ⟨a, c, h1, h2, fun hn => ?_⟩
 obtain ⟨b, o, h4, h5, h6, h7⟩ := h3 hn
 exact ⟨b, o, h4, h5, Nat.lt_of_lt_of_le h6 hk.size, fun j hj => (hk.cell _ h6 (hS b h5 h6)).trans (h7 j hj)⟩
theorem Six.keep {S : Nat → Prop} {w w' : World} {b o : Nat} {d : D} {vm vl vt : Value} (h : Six w b o d vm vl vt) (hk : Keep S w w') (hb : b < w.heap.size) (hS : ¬ S b) : Six w' b o d vm vl vt :=
 ⟨(hk.cell _ hb hS).trans h.c0, (hk.cell _ hb hS).trans h.c1, (hk.cell _ hb hS).trans h.c2, (hk.cell _ hb hS).trans h.c3, (hk.cell _ hb hS).trans h.c4, (hk.cell _ hb hS).trans h.c5⟩
mutual
theorem Rep.keep {F S : Nat → Prop} {w w' : World} (hk : Keep S w w') (hS : ∀ b, F b → b < w.heap.size → ¬ S b) : ∀ (d : D) {vm vl vt : Value}, Rep F w d vm vl vt → Rep F w' d vm vl vt
 | .mk k n s m l t, vm, vl, vt, h => by
  rw [Rep] at h ⊢
  obtain ⟨h1, ⟨a, c, e1, e2, e3⟩, ⟨a', c', f1, f2, f3⟩⟩ := h
  refine ⟨h1.keep hk hS, ⟨a, c, e1, e2, fun hn => ?_⟩, ⟨a', c', f1, f2, fun hn => ?_⟩⟩
  ·obtain ⟨b, o, g1, g2, g3, g4⟩ := e3 hn
   exact ⟨b, o, g1, g2, Nat.lt_of_lt_of_le g3 hk.size, Reps.keep hk hS l g2 g3 g4⟩
  ·obtain ⟨b, o, g1, g2, g3, g4⟩ := f3 hn
   exact ⟨b, o, g1, g2, Nat.lt_of_lt_of_le g3 hk.size, Reps.keep hk hS t g2 g3 g4⟩
theorem Reps.keep {F S : Nat → Prop} {w w' : World} (hk : Keep S w w') (hS : ∀ b, F b → b < w.heap.size → ¬ S b) : ∀ (l : List D) {b o : Nat}, F b → b < w.heap.size → Reps F w l b o → Reps F w' l b o
 | [], _, _, _, _, _ => by rw [Reps]; trivial
 | d :: r, b, o, hF, hb, h => by
  rw [Reps] at h ⊢
  obtain ⟨⟨vm, vl, vt, h1, h2⟩, h3⟩ := h
  exact ⟨⟨vm, vl, vt, h1.keep hk hb (hS b hF hb), Rep.keep hk hS d h2⟩, Reps.keep hk hS r hF hb h3⟩
end
mutual
theorem Rep.mono {F G : Nat → Prop} {w : World} (hFG : ∀ b, F b → b < w.heap.size → G b) : ∀ (d : D) {vm vl vt : Value}, Rep F w d vm vl vt → Rep G w d vm vl vt
 | .mk k n s m l t, vm, vl, vt, h => by
  rw [Rep] at h ⊢
  obtain ⟨⟨a0, c0, i1, i2, i3⟩, ⟨a, c, e1, e2, e3⟩, ⟨a', c', f1, f2, f3⟩⟩ := h
  refine ⟨⟨a0, c0, i1, i2, fun hn => ?_⟩, ⟨a, c, e1, e2, fun hn => ?_⟩, ⟨a', c', f1, f2, fun hn => ?_⟩⟩
  ·obtain ⟨b, o, g1, g2, g3, g4⟩ := i3 hn
   exact ⟨b, o, g1, hFG b g2 g3, g3, g4⟩
  ·obtain ⟨b, o, g1, g2, g3, g4⟩ := e3 hn
   exact ⟨b, o, g1, hFG b g2 g3, g3, Reps.mono hFG l g4⟩
  ·obtain ⟨b, o, g1, g2, g3, g4⟩ := f3 hn
   exact ⟨b, o, g1, hFG b g2 g3, g3, Reps.mono hFG t g4⟩
theorem Reps.mono {F G : Nat → Prop} {w : World} (hFG : ∀ b, F b → b < w.heap.size → G b) : ∀ (l : List D) {b o : Nat}, Reps F w l b o → Reps G w l b o
 | [], _, _, _ => by rw [Reps]; trivial
 | d :: r, b, o, h => by
  rw [Reps] at h ⊢
  obtain ⟨⟨vm, vl, vt, h1, h2⟩, h3⟩ := h
  exact ⟨⟨vm, vl, vt, h1, Rep.mono hFG d h2⟩, Reps.mono hFG r h3⟩
end
theorem Rep.below {F : Nat → Prop} {w w' : World} (hb : Below w.heap.size w w') {d : D} {vm vl vt : Value} (h : Rep F w d vm vl vt) : Rep F w' d vm vl vt :=
 Rep.keep (S := fun _ => False) ((Keep.refl _ w).below hb) (fun _ _ _ h => h) d h
theorem Row.keep {F S : Nat → Prop} {w w' : World} {v : Value} {l : List D} (h : Row F w v l) (hk : Keep S w w') (hS : ∀ b, F b → b < w.heap.size → ¬ S b) : Row F w' v l := by
 obtain ⟨a, c, e1, e2, e3⟩ := h
 refine ⟨a, c, e1, e2, fun hn => ?_⟩
 obtain ⟨b, o, g1, g2, g3, g4⟩ := e3 hn
 exact ⟨b, o, g1, g2, Nat.lt_of_lt_of_le g3 hk.size, Reps.keep hk hS l g2 g3 g4⟩
theorem Row.below {F : Nat → Prop} {w w' : World} {v : Value} {l : List D} (h : Row F w v l) (hb : Below w.heap.size w w') : Row F w' v l :=
 h.keep (S := fun _ => False) ((Keep.refl _ w).below hb) (fun _ _ _ h => h)
theorem IRow.below {F : Nat → Prop} {w w' : World} {v : Value} {m : List Int} (h : IRow F w v m) (hb : Below w.heap.size w w') : IRow F w' v m :=
 h.keep (S := fun _ => False) ((Keep.refl _ w).below hb) (fun _ _ _ h => h)
end Dt
end Go.Proofs.Ytcopdfihaheplaa
namespace Go.Proofs.Ytcopdfihaheplaa
open Go.RowKit
set_option maxRecDepth 100000 in
theorem fixIn_any (n : Int) (w : World) : Calls Try.prog 73 #[.int .i64 n] w fun e w' => e = .returned (.bool (Dt.isFix n)) ∧ w = w' := by
 by_cases h1 : -1152921504606846976 ≤ n
 ·by_cases h2 : n ≤ 1152921504606846975
  ·have HE : Hid (Dt.isFix n = true) := by show _ = _; unfold Dt.isFix; rw [decide_eq_true h1, decide_eq_true h2]; rfl
   rw [HE.out]
   go_enter Try.func73, Try.ntmps73
   go_wp2
   go_ret
   exact ⟨by simp_all, rfl⟩
  ·have HE : Hid (Dt.isFix n = false) := by show _ = _; unfold Dt.isFix; rw [decide_eq_false h2]; simp
   rw [HE.out]
   go_enter Try.func73, Try.ntmps73
   go_wp2
   go_ret
   exact ⟨by simp_all, rfl⟩
 ·have HE : Hid (Dt.isFix n = false) := by show _ = _; unfold Dt.isFix; rw [decide_eq_false h1]; rfl
  rw [HE.out]
  go_enter Try.func73, Try.ntmps73
  go_wp2
  go_ret
  exact ⟨by simp_all, rfl⟩
namespace Dt
def emptyB (n : Int) (s : ByteArray) (a b c : Nat) : Bool := (n == 0) && s.toList.isEmpty && (a + b + c == 0)
theorem emptyB_eq (n : Int) (s : ByteArray) (m : List Int) (l t : List D) : emptyB n s m.length l.length t.length = (decide (n = 0) && s.data.toList.isEmpty && m.isEmpty && l.isEmpty && t.isEmpty) := by
 unfold emptyB
 rw [ByteArray.toList_eq]
 cases m <;> cases l <;> cases t <;> simp [Bool.beq_eq_decide_eq] <;> rfl
end Dt
set_option maxRecDepth 100000 in
set_option maxHeartbeats 2000000 in
theorem dEmpty_any (k n : Int) (s : ByteArray) (am al at' : Option Addr) (lm cm ll cl lt ct : Nat) (w : World) (h1 : lm ≤ 140737488355328) (h2 : ll ≤ 140737488355328) (h3 : lt ≤ 140737488355328) :
  Calls Try.prog 74 #[.agg #[.int .i64 k, .int .i64 n, .string s, .slice am lm cm, .slice al ll cl, .slice at' lt ct]] w fun e w' => e = .returned (.bool (Dt.emptyB n s lm ll lt)) ∧ Below w.heap.size w w' := by
 have hs3 : (((lm : Int) + (ll : Int) + (lt : Int)) == 0) = (lm + ll + lt == 0) := by
  rw [Bool.eq_iff_iff]; simp; omega
 obtain ⟨E, hE⟩ : ∃ E, E = (lm + ll + lt == 0) := ⟨_, rfl⟩
 have HB : Hid (Dt.emptyB n s lm ll lt = ((n == 0) && s.toList.isEmpty && E)) := by show _ = _; rw [hE]; rfl
 rw [← hE] at hs3
 rw [HB.out]
 clear hE
 go_enter Try.func74, Try.ntmps74
 go_wp2
 all_goals
  go_ret
  exact ⟨by simp_all, (Below.refl _ _).alloc (Nat.le_refl _) _⟩
set_option maxRecDepth 100000 in
set_option maxHeartbeats 2000000 in
theorem dAscii_any (s : ByteArray) (w : World) (hs : s.size ≤ 140737488355328) :
  Calls Try.prog 75 #[.string s] w fun e w' => e = .returned (.bool (decide (s.data.toList.length ≤ 256) && s.data.toList.all (fun c => decide (c.toNat < 128)))) ∧ w = w' := by
 obtain ⟨R, hR⟩ : ∃ R, (decide (s.data.toList.length ≤ 256) && s.data.toList.all (fun c => decide (c.toNat < 128))) = R := ⟨_, rfl⟩
 rw [hR]
 have hsz := Fx.size_toList s
 by_cases h : s.size ≤ 256
 case neg =>
  have HR : Hid (R = false) := by show _ = _; rw [← hR, decide_eq_false (by omega)]; rfl
  have hi : ¬ ((s.size : Int) ≤ 256) := by omega
  clear hR hsz
  go_enter Try.func75, Try.ntmps75
  go_wp2
  go_ret
  exact ⟨by rw [HR.out]; rfl, rfl⟩
 have hi : ¬ (256 < (s.size : Int)) := by omega
 have h0 : R = (Lx.tl s 0).all (fun c => decide (c.toNat < 128)) := by rw [← hR, decide_eq_true (by omega)]; unfold Lx.tl; simp
 have H0 := Lib.hid h0
 clear hR h0 hsz
 go_enter Try.func75, Try.ntmps75
 go_wp2_with fail
 go_loop [9] (fun v => ∃ k : Nat, v = .int .i64 k ∧ k ≤ s.size ∧ Hid (R = (Lx.tl s k).all (fun c => decide (c.toNat < 128)))) (fun v => s.size - (intOf v).toNat)
 case atStart => exact ⟨0, rfl, by omega, H0⟩
 case round =>
  obtain ⟨k, rfl, hk, HR⟩ := hrel
  by_cases hlt : k < s.size
  case neg =>
   have hge : (s.size : Int) ≤ (k : Int) := by omega
   have HE : Hid (R = true) := by show _ = _; rw [HR.out, Lx.tl_nil s k (by omega)]; rfl
   go_wp2
   go_ret
   exact ⟨by rw [HE.out]; rfl, rfl⟩
  have hlti : (k : Int) < (s.size : Int) := by omega
  have hr := HR.out
  rw [Lx.tl_cons s k hlt, List.all_cons] at hr
  by_cases hc : s[k].toNat < 128
  ·rw [decide_eq_true hc, Bool.true_and] at hr
   have HN := Lib.hid hr
   have hci : ¬ (128 ≤ (s[k].toNat : Int)) := by omega
   clear hr hc
   go_wp2
   go_round
   case rel => exact ⟨k + 1, by simp, by omega, HN⟩
   case measure => simp [intOf]; omega
  ·rw [decide_eq_false hc, Bool.false_and] at hr
   have HN := Lib.hid hr
   have hci : 128 ≤ (s[k].toNat : Int) := by omega
   clear hr hc
   go_wp2
   go_ret
   exact ⟨by rw [HN.out]; rfl, rfl⟩
namespace Dt
theorem bv_zero (x m : BitVec 64) (k : Nat) (hm : m.toNat = 2 ^ k - 1) : x &&& ~~~m = 0#64 ↔ x.toNat < 2 ^ k := by
 constructor
 ·intro h
  have e : x = x &&& m := by
   have hs : x = (x &&& m) ||| (x &&& ~~~m) := by
    rw [← BitVec.and_or_distrib_left, BitVec.or_not_self, BitVec.and_allOnes]
   rw [h, BitVec.or_zero] at hs
   exact hs
  have e2 := congrArg BitVec.toNat e
  rw [BitVec.toNat_and, hm, Nat.and_two_pow_sub_one_eq_mod] at e2
  rw [e2]
  exact Nat.mod_lt _ (Nat.two_pow_pos k)
 ·intro h
  have e : x &&& m = x := by
   apply BitVec.eq_of_toNat_eq
   rw [BitVec.toNat_and, hm, Nat.and_two_pow_sub_one_eq_mod, Nat.mod_eq_of_lt h]
  rw [← e, BitVec.and_assoc, BitVec.and_not_self]
  exact BitVec.and_zero
theorem andNot_zero (n M : Int) (k : Nat) (hk : k ≤ 62) (hM : (BitVec.ofInt 64 M).toNat = 2 ^ k - 1) (hn : -9223372036854775808 ≤ n ∧ n ≤ 9223372036854775807) : bits .andNot .i64 n M = 0 ↔ 0 ≤ n ∧ n < 2 ^ k := by
 have e : bits .andNot .i64 n M = IntKind.i64.wrap ((BitVec.ofInt 64 n &&& ~~~BitVec.ofInt 64 M).toNat : Int) := rfl
 rw [e, IntKind.wrap_i64]
 obtain ⟨x, hx⟩ : ∃ x, BitVec.ofInt 64 n = x := ⟨_, rfl⟩
 have hz := bv_zero x (BitVec.ofInt 64 M) k hM
 rw [hx]
 obtain ⟨y, hy⟩ : ∃ y, (x &&& ~~~BitVec.ofInt 64 M) = y := ⟨_, rfl⟩
 rw [hy] at hz ⊢
 have hyl := y.isLt
 have hy0 : y = 0#64 ↔ y.toNat = 0 := ⟨fun h => by rw [h]; rfl, fun h => BitVec.eq_of_toNat_eq h⟩
 have hxn : x.toNat = (n % 2 ^ 64).toNat := by rw [← hx, BitVec.toNat_ofInt]; rfl
 have hp : 2 ^ k ≤ 2 ^ 62 := Nat.pow_le_pow_right (by omega) hk
 have hpi : ((2 ^ k : Nat) : Int) = (2 : Int) ^ k := by simp
 rw [← hpi]
 rw [hy0] at hz
 constructor
 ·intro h
  have := hz.1 (by omega)
  omega
 ·intro h
  have := hz.2 (by omega)
  omega
end Dt
set_option maxRecDepth 100000 in
theorem dSymbol_any (s : ByteArray) (w : World) (hs : s.size ≤ 140737488355328) :
  Calls Try.prog 77 #[.string s] w fun e w' => e = .returned (.bool (Lx.symbol s.data.toList)) ∧ w = w' := by
 by_cases h : s.size ≤ 1000000
 ·exact (Symbol_any s w h).mono fun _ _ ⟨a, b⟩ => ⟨a, b.symm⟩
 have hsz := Fx.size_toList s
 have hne : ∀ t : List UInt8, t.length ≤ 3 → (s.toList == t) = false := fun t ht => by
  rw [ByteArray.toList_eq, beq_eq_false_iff_ne]
  intro e
  rw [e] at hsz
  omega
 have hF : Hid (Lx.symbol s.data.toList = false) := by
  show _ = _
  unfold Lx.symbol
  have e1 := hne [43] (by simp)
  have e2 := hne [45] (by simp)
  have e3 := hne [46, 46, 46] (by simp)
  rw [ByteArray.toList_eq] at e1 e2 e3
  rw [e1, e2, e3, decide_eq_false (by omega)]
  simp
 rw [hF.out]
 have e1 := hne [43] (by simp)
 have e2 := hne [45] (by simp)
 have e3 := hne [46, 46, 46] (by simp)
 have e0 := hne [] (by simp)
 have e00 : s.toList.isEmpty = false := by
  rw [ByteArray.toList_eq]
  cases hh : s.data.toList with
  | nil => rw [hh] at hsz; simp at hsz; omega
  | cons a b => rfl
 have h32 : (32 : Int) < (s.size : Int) := by omega
 clear hF hne hsz
 go_enter Try.func77, Try.ntmps77
 go_wp2
 go_ret
 exact ⟨by simp_all, rfl⟩
set_option maxRecDepth 100000 in
theorem wrong_any (x : Int) (w : World) : Calls Try.prog 76 #[.int .i64 x] w fun e w' => e = .returned (.bool (!Dt.mayMark x)) ∧ w = w' := by
 by_cases h1 : 1 ≤ x
 ·by_cases h2 : x ≤ 1048576
  ·have HE : Hid (Dt.mayMark x = true) := by show _ = _; unfold Dt.mayMark; rw [decide_eq_true h1, decide_eq_true h2]; rfl
   have h1' : ¬ x < 1 := by omega
   have h2' : ¬ 1048576 < x := by omega
   rw [HE.out]
   go_enter Try.func76, Try.ntmps76
   go_wp2
   go_ret
   exact ⟨by simp_all, rfl⟩
  ·have HE : Hid (Dt.mayMark x = false) := by show _ = _; unfold Dt.mayMark; rw [decide_eq_false h2]; simp
   have h1' : ¬ x < 1 := by omega
   have h2' : 1048576 < x := by omega
   rw [HE.out]
   go_enter Try.func76, Try.ntmps76
   go_wp2
   go_ret
   exact ⟨by simp_all, rfl⟩
 ·have HE : Hid (Dt.mayMark x = false) := by show _ = _; unfold Dt.mayMark; rw [decide_eq_false h1]; rfl
  have h1' : x < 1 := by omega
  rw [HE.out]
  go_enter Try.func76, Try.ntmps76
  go_wp2
  go_ret
  exact ⟨by simp_all, rfl⟩
namespace Dt
end Dt
set_option maxRecDepth 100000 in
set_option maxHeartbeats 2000000 in
theorem dIndexFunc_any {F : Nat → Prop} (a : Option Addr) (c : Nat) (m : List Int) (w : World) (hm : Dt.IRow F w (.slice a m.length c) m) (hl : m.length ≤ 140737488355328) :
  Calls Try.prog 98 #[.slice a m.length c, .func (.func 76) #[] #[]] w fun e w' => (∃ x : Int, e = .returned (.int .i64 x) ∧ decide (0 ≤ x) = !m.all Dt.mayMark) ∧ w = w' := by
 obtain ⟨_, _, he, _, hc⟩ := hm
 cases he
 obtain ⟨R, hR⟩ : ∃ R, R = !m.all Dt.mayMark := ⟨_, rfl⟩
 rw [← hR]
 have H0 : Hid (R = !(m.drop 0).all Dt.mayMark) := by show _ = _; rw [List.drop_zero]; exact hR
 have HC := Lib.hid hc
 clear hc hR
 go_enter Try.func98, Try.ntmps98
 go_wp2_with fail
 go_loop [8] (fun v => ∃ k : Nat, v = .int .i64 k ∧ k ≤ m.length ∧ Hid (R = !(m.drop k).all Dt.mayMark)) (fun v => m.length - (intOf v).toNat)
 case atStart => exact ⟨0, rfl, by omega, H0⟩
 case round =>
  obtain ⟨k, rfl, hk, HR⟩ := hrel
  by_cases hlt : k < m.length
  case neg =>
   have hge : (m.length : Int) ≤ (k : Int) := by omega
   have HE : Hid (R = false) := by show _ = _; rw [HR.out, List.drop_eq_nil_of_le (by omega)]; rfl
   go_wp2
   go_ret
   exact ⟨⟨-1, rfl, by rw [HE.out]; rfl⟩, rfl⟩
  have hlti : (k : Int) < (m.length : Int) := by omega
  have hr := HR.out
  rw [List.drop_eq_getElem_cons hlt, List.all_cons] at hr
  obtain ⟨b, o, rfl, _, hb, hcell⟩ := HC.out (by intro h0; rw [h0] at hlt; simp at hlt)
  have hk0 := hcell k hlt
  obtain ⟨x, hx⟩ : ∃ x, m[k] = x := ⟨_, rfl⟩
  rw [hx] at hk0 hr
  have hwr := fun w => wrong_any x w
  cases hmx : Dt.mayMark x
  ·rw [hmx] at hr hwr
   have HN : Hid (R = true) := by show _ = _; rw [hr]; rfl
   clear hr hcell hx hmx
   go_wp2_with (go_at_call 76; refine (hwr _).mono ?_; rintro e w1 ⟨rfl, rfl⟩)
   go_ret
   exact ⟨⟨k, rfl, by rw [HN.out]; simp⟩, rfl⟩
  ·rw [hmx, Bool.true_and] at hr
   rw [hmx] at hwr
   have HN := Lib.hid hr
   clear hr hcell hx hmx
   go_wp2_with (go_at_call 76; refine (hwr _).mono ?_; rintro e w1 ⟨rfl, rfl⟩)
   go_round
   case rel => exact ⟨k + 1, by simp, by omega, HN⟩
   case measure => simp [intOf]; omega
set_option maxRecDepth 100000 in
set_option maxHeartbeats 1000000 in
theorem dContainsFunc_any {F : Nat → Prop} (a : Option Addr) (c : Nat) (m : List Int) (w : World) (hm : Dt.IRow F w (.slice a m.length c) m) (hl : m.length ≤ 140737488355328) :
  Calls Try.prog 78 #[.slice a m.length c, .func (.func 76) #[] #[]] w fun e w' => e = .returned (.bool (!m.all Dt.mayMark)) ∧ w = w' := by
 have hi := dIndexFunc_any a c m w hm hl
 obtain ⟨R, hR⟩ : ∃ R, R = !m.all Dt.mayMark := ⟨_, rfl⟩
 rw [← hR] at hi ⊢
 clear hR
 go_enter Try.func78, Try.ntmps78
 go_wp2_with fail
 refine hi.mono ?_
 rintro e w1 ⟨⟨x, rfl, hx⟩, rfl⟩
 go_wp2
 go_ret
 exact ⟨by rw [← hx]; rfl, rfl⟩
end Go.Proofs.Ytcopdfihaheplaa
namespace Go.Proofs.Ytcopdfihaheplaa
open Go.RowKit
namespace Dt
theorem bel2 (w : World) (a b : Obj) : Below w.heap.size w ((w.alloc a).alloc b) := ((Below.refl _ _).alloc (Nat.le_refl _) a).alloc (by rw [World.size_alloc]; omega) b
end Dt
set_option maxRecDepth 100000 in
set_option maxHeartbeats 4000000 in
theorem dSingle1_any {F : Nat → Prop} (n : Int) (s : ByteArray) (m : List Int) (l t : List Dt.D) (vm vl vt : Value) (w : World) (hW : Dt.Wf (.mk 1 n s m l t)) (h : Dt.Rep F w (.mk 1 n s m l t) vm vl vt) :
  Calls Try.prog 50 #[.agg #[.int .i64 1, .int .i64 n, .string s, vm, vl, vt]] w fun e w' => e = .returned (.bool (Dt.single (.mk 1 n s m l t))) ∧ Below w.heap.size w w' := by
 rw [Dt.Wf] at hW
 rw [Dt.Rep] at h
 obtain ⟨hn, hsz, hlm, hll, hlt, _, _⟩ := hW
 obtain ⟨hm, ⟨al, cl, rfl, hcl, hl⟩, ⟨at_, ct, rfl, hct, ht⟩⟩ := h
 have hm0 := hm
 obtain ⟨am, cm, rfl, hcm, _⟩ := hm
 have hem := fun w => dEmpty_any 1 0 s am al at_ m.length cm l.length cl t.length ct w hlm hll hlt
 have heq := Dt.emptyB_eq 0 s m l t
 simp only at heq
 obtain ⟨E, hE⟩ : ∃ E, Dt.emptyB 0 s m.length l.length t.length = E := ⟨_, rfl⟩
 rw [hE] at hem
 have hE2 := hE.symm.trans heq
 obtain ⟨R, hR⟩ : ∃ R, R = Dt.single (.mk 1 n s m l t) := ⟨_, rfl⟩
 rw [← hR]
 have HR : Hid (R = (Dt.isFix n && E)) := by
  show _ = _
  rw [hR, hE2]
  unfold Dt.single
  simp [Bool.and_assoc]
 clear hE heq
 have hi := fun w => fixIn_any n w
 obtain ⟨I, hI⟩ : ∃ I, I = Dt.isFix n := ⟨_, rfl⟩
 rw [← hI] at HR hi
 clear hI hE2 hR hm0 hl ht
 go_enter Try.func50, Try.ntmps50
 go_wp2_with (first
  | (go_at_call 73; refine (hi _).mono ?_; rintro e w1 ⟨rfl, rfl⟩)
  | (go_at_call 74; refine (hem _).mono ?_; rintro e w2 ⟨rfl, hb2⟩))
 ·go_ret
  exact ⟨by rw [HR.out]; simp_all, (Dt.bel2 _ _ _).trans (hb2.mono (by rw [World.size_alloc, World.size_alloc]; omega))⟩
 ·go_ret
  exact ⟨by rw [HR.out]; simp_all, Dt.bel2 _ _ _⟩
set_option maxRecDepth 100000 in
set_option maxHeartbeats 4000000 in
theorem dSingle2_any {F : Nat → Prop} (n : Int) (s : ByteArray) (m : List Int) (l t : List Dt.D) (vm vl vt : Value) (w : World) (hW : Dt.Wf (.mk 2 n s m l t)) (h : Dt.Rep F w (.mk 2 n s m l t) vm vl vt) :
  Calls Try.prog 50 #[.agg #[.int .i64 2, .int .i64 n, .string s, vm, vl, vt]] w fun e w' => e = .returned (.bool (Dt.single (.mk 2 n s m l t))) ∧ Below w.heap.size w w' := by
 rw [Dt.Wf] at hW
 rw [Dt.Rep] at h
 obtain ⟨hn, hsz, hlm, hll, hlt, _, _⟩ := hW
 obtain ⟨hm, ⟨al, cl, rfl, hcl, hl⟩, ⟨at_, ct, rfl, hct, ht⟩⟩ := h
 have hm0 := hm
 obtain ⟨am, cm, rfl, hcm, _⟩ := hm
 have hem := fun w => dEmpty_any 2 0 s am al at_ m.length cm l.length cl t.length ct w hlm hll hlt
 have heq := Dt.emptyB_eq 0 s m l t
 simp only at heq
 obtain ⟨E, hE⟩ : ∃ E, Dt.emptyB 0 s m.length l.length t.length = E := ⟨_, rfl⟩
 rw [hE] at hem
 have hE2 := hE.symm.trans heq
 obtain ⟨R, hR⟩ : ∃ R, R = Dt.single (.mk 2 n s m l t) := ⟨_, rfl⟩
 rw [← hR]
 have HR : Hid (R = (decide (0 ≤ n ∧ n < 2) && E)) := by
  show _ = _
  rw [hR, hE2]
  unfold Dt.single
  simp [Bool.and_assoc]
 clear hE heq
 have hA := Lib.hid (Dt.andNot_zero n 1 1 (by omega) (by decide) hn)
 clear hE2 hR hm0 hl ht
 go_enter Try.func50, Try.ntmps50
 go_wp2_with (go_at_call 74; refine (hem _).mono ?_; rintro e w2 ⟨rfl, hb2⟩)
 ·rename_i hz
  have hz := hA.out.1 hz
  go_ret
  refine ⟨?_, (Dt.bel2 _ _ _).trans (hb2.mono (by rw [World.size_alloc, World.size_alloc]; omega))⟩
  rw [HR.out, decide_eq_true (show 0 ≤ n ∧ n < 2 by omega)]
  simp
 ·rename_i hz
  have hz' : ¬ (0 ≤ n ∧ n < 2) := fun h => hz (hA.out.2 h)
  go_ret
  refine ⟨?_, Dt.bel2 _ _ _⟩
  rw [HR.out, decide_eq_false hz']
  simp_all
set_option maxRecDepth 100000 in
set_option maxHeartbeats 4000000 in
theorem dSingle3_any {F : Nat → Prop} (n : Int) (s : ByteArray) (m : List Int) (l t : List Dt.D) (vm vl vt : Value) (w : World) (hW : Dt.Wf (.mk 3 n s m l t)) (h : Dt.Rep F w (.mk 3 n s m l t) vm vl vt) :
  Calls Try.prog 50 #[.agg #[.int .i64 3, .int .i64 n, .string s, vm, vl, vt]] w fun e w' => e = .returned (.bool (Dt.single (.mk 3 n s m l t))) ∧ Below w.heap.size w w' := by
 rw [Dt.Wf] at hW
 rw [Dt.Rep] at h
 obtain ⟨hn, hsz, hlm, hll, hlt, _, _⟩ := hW
 obtain ⟨hm, ⟨al, cl, rfl, hcl, hl⟩, ⟨at_, ct, rfl, hct, ht⟩⟩ := h
 have hm0 := hm
 obtain ⟨am, cm, rfl, hcm, _⟩ := hm
 have hem := fun w => dEmpty_any 3 0 s am al at_ m.length cm l.length cl t.length ct w hlm hll hlt
 have heq := Dt.emptyB_eq 0 s m l t
 simp only at heq
 obtain ⟨E, hE⟩ : ∃ E, Dt.emptyB 0 s m.length l.length t.length = E := ⟨_, rfl⟩
 rw [hE] at hem
 have hE2 := hE.symm.trans heq
 obtain ⟨R, hR⟩ : ∃ R, R = Dt.single (.mk 3 n s m l t) := ⟨_, rfl⟩
 rw [← hR]
 have HR : Hid (R = (decide (0 ≤ n ∧ n < 128) && E)) := by
  show _ = _
  rw [hR, hE2]
  unfold Dt.single
  simp [Bool.and_assoc]
 clear hE heq
 have hA := Lib.hid (Dt.andNot_zero n 127 7 (by omega) (by decide) hn)
 clear hE2 hR hm0 hl ht
 go_enter Try.func50, Try.ntmps50
 go_wp2_with (go_at_call 74; refine (hem _).mono ?_; rintro e w2 ⟨rfl, hb2⟩)
 ·rename_i hz
  have hz := hA.out.1 hz
  go_ret
  refine ⟨?_, (Dt.bel2 _ _ _).trans (hb2.mono (by rw [World.size_alloc, World.size_alloc]; omega))⟩
  rw [HR.out, decide_eq_true (show 0 ≤ n ∧ n < 128 by omega)]
  simp
 ·rename_i hz
  have hz' : ¬ (0 ≤ n ∧ n < 128) := fun h => hz (hA.out.2 h)
  go_ret
  refine ⟨?_, Dt.bel2 _ _ _⟩
  rw [HR.out, decide_eq_false hz']
  simp_all
set_option maxRecDepth 100000 in
set_option maxHeartbeats 4000000 in
theorem dSingle4_any {F : Nat → Prop} (n : Int) (s : ByteArray) (m : List Int) (l t : List Dt.D) (vm vl vt : Value) (w : World) (hW : Dt.Wf (.mk 4 n s m l t)) (h : Dt.Rep F w (.mk 4 n s m l t) vm vl vt) :
  Calls Try.prog 50 #[.agg #[.int .i64 4, .int .i64 n, .string s, vm, vl, vt]] w fun e w' => e = .returned (.bool (Dt.single (.mk 4 n s m l t))) ∧ Below w.heap.size w w' := by
 rw [Dt.Wf] at hW
 rw [Dt.Rep] at h
 obtain ⟨hn, hsz, hlm, hll, hlt, _, _⟩ := hW
 obtain ⟨hm, ⟨al, cl, rfl, hcl, hl⟩, ⟨at_, ct, rfl, hct, ht⟩⟩ := h
 have hm0 := hm
 obtain ⟨am, cm, rfl, hcm, _⟩ := hm
 have hem := fun w => dEmpty_any 4 n ⟨#[]⟩ am al at_ m.length cm l.length cl t.length ct w hlm hll hlt
 have heq := Dt.emptyB_eq n ⟨#[]⟩ m l t
 simp only at heq
 obtain ⟨E, hE⟩ : ∃ E, Dt.emptyB n ⟨#[]⟩ m.length l.length t.length = E := ⟨_, rfl⟩
 rw [hE] at hem
 have hE2 := hE.symm.trans heq
 obtain ⟨R, hR⟩ : ∃ R, R = Dt.single (.mk 4 n s m l t) := ⟨_, rfl⟩
 rw [← hR]
 have HR : Hid (R = (Dt.ascii s && E)) := by
  show _ = _
  rw [hR, hE2]
  unfold Dt.single
  simp [Bool.and_assoc]
 clear hE heq
 have hi := fun w => dAscii_any s w hsz
 obtain ⟨I, hI⟩ : ∃ I, I = Dt.ascii s := ⟨_, rfl⟩
 have hI2 : (decide (s.data.toList.length ≤ 256) && s.data.toList.all (fun c => decide (c.toNat < 128))) = I := hI.symm
 rw [hI2] at hi
 rw [← hI] at HR
 clear hI hI2 hE2 hR hm0 hl ht
 go_enter Try.func50, Try.ntmps50
 go_wp2_with (first
  | (go_at_call 75; refine (hi _).mono ?_; rintro e w1 ⟨rfl, rfl⟩)
  | (go_at_call 74; refine (hem _).mono ?_; rintro e w2 ⟨rfl, hb2⟩))
 ·go_ret
  exact ⟨by rw [HR.out]; simp_all, (Dt.bel2 _ _ _).trans (hb2.mono (by rw [World.size_alloc, World.size_alloc]; omega))⟩
 ·go_ret
  exact ⟨by rw [HR.out]; simp_all, Dt.bel2 _ _ _⟩
set_option maxRecDepth 100000 in
set_option maxHeartbeats 4000000 in
theorem dSingle6_any {F : Nat → Prop} (n : Int) (s : ByteArray) (m : List Int) (l t : List Dt.D) (vm vl vt : Value) (w : World) (hW : Dt.Wf (.mk 6 n s m l t)) (h : Dt.Rep F w (.mk 6 n s m l t) vm vl vt) :
  Calls Try.prog 50 #[.agg #[.int .i64 6, .int .i64 n, .string s, vm, vl, vt]] w fun e w' => e = .returned (.bool (Dt.single (.mk 6 n s m l t))) ∧ Below w.heap.size w w' := by
 rw [Dt.Wf] at hW
 rw [Dt.Rep] at h
 obtain ⟨hn, hsz, hlm, hll, hlt, _, _⟩ := hW
 obtain ⟨hm, ⟨al, cl, rfl, hcl, hl⟩, ⟨at_, ct, rfl, hct, ht⟩⟩ := h
 have hm0 := hm
 obtain ⟨am, cm, rfl, hcm, _⟩ := hm
 have hem := fun w => dEmpty_any 6 n s am none at_ m.length cm 0 0 t.length ct w hlm (Nat.zero_le _) hlt
 have heq := Dt.emptyB_eq n s m [] t
 simp only [List.length_nil] at heq
 obtain ⟨E, hE⟩ : ∃ E, Dt.emptyB n s m.length 0 t.length = E := ⟨_, rfl⟩
 rw [hE] at hem
 have hE2 := hE.symm.trans heq
 obtain ⟨R, hR⟩ : ∃ R, R = Dt.single (.mk 6 n s m l t) := ⟨_, rfl⟩
 rw [← hR]
 have HR : Hid (R = (E)) := by
  show _ = _
  rw [hR, hE2]
  unfold Dt.single
  simp [Bool.and_assoc]
 clear hE heq
 clear hE2 hR hm0 hl ht
 go_enter Try.func50, Try.ntmps50
 go_wp2_with (go_at_call 74; refine (hem _).mono ?_; rintro e w2 ⟨rfl, hb2⟩)
 go_ret
 exact ⟨by rw [HR.out]; simp_all, (Dt.bel2 _ _ _).trans (hb2.mono (by rw [World.size_alloc, World.size_alloc]; omega))⟩
set_option maxRecDepth 100000 in
set_option maxHeartbeats 4000000 in
theorem dSingle8_any {F : Nat → Prop} (n : Int) (s : ByteArray) (m : List Int) (l t : List Dt.D) (vm vl vt : Value) (w : World) (hW : Dt.Wf (.mk 8 n s m l t)) (h : Dt.Rep F w (.mk 8 n s m l t) vm vl vt) :
  Calls Try.prog 50 #[.agg #[.int .i64 8, .int .i64 n, .string s, vm, vl, vt]] w fun e w' => e = .returned (.bool (Dt.single (.mk 8 n s m l t))) ∧ Below w.heap.size w w' := by
 rw [Dt.Wf] at hW
 rw [Dt.Rep] at h
 obtain ⟨hn, hsz, hlm, hll, hlt, _, _⟩ := hW
 obtain ⟨hm, ⟨al, cl, rfl, hcl, hl⟩, ⟨at_, ct, rfl, hct, ht⟩⟩ := h
 have hm0 := hm
 obtain ⟨am, cm, rfl, hcm, _⟩ := hm
 have hem := fun w => dEmpty_any 8 n s am none at_ m.length cm 0 0 t.length ct w hlm (Nat.zero_le _) hlt
 have heq := Dt.emptyB_eq n s m [] t
 simp only [List.length_nil] at heq
 obtain ⟨E, hE⟩ : ∃ E, Dt.emptyB n s m.length 0 t.length = E := ⟨_, rfl⟩
 rw [hE] at hem
 have hE2 := hE.symm.trans heq
 obtain ⟨R, hR⟩ : ∃ R, R = Dt.single (.mk 8 n s m l t) := ⟨_, rfl⟩
 rw [← hR]
 have HR : Hid (R = (E)) := by
  show _ = _
  rw [hR, hE2]
  unfold Dt.single
  simp [Bool.and_assoc]
 clear hE heq
 clear hE2 hR hm0 hl ht
 go_enter Try.func50, Try.ntmps50
 go_wp2_with (go_at_call 74; refine (hem _).mono ?_; rintro e w2 ⟨rfl, hb2⟩)
 go_ret
 exact ⟨by rw [HR.out]; simp_all, (Dt.bel2 _ _ _).trans (hb2.mono (by rw [World.size_alloc, World.size_alloc]; omega))⟩
set_option maxRecDepth 100000 in
set_option maxHeartbeats 4000000 in
theorem dSingle5_any {F : Nat → Prop} (n : Int) (s : ByteArray) (m : List Int) (l t : List Dt.D) (vm vl vt : Value) (w : World) (hW : Dt.Wf (.mk 5 n s m l t)) (h : Dt.Rep F w (.mk 5 n s m l t) vm vl vt) :
  Calls Try.prog 50 #[.agg #[.int .i64 5, .int .i64 n, .string s, vm, vl, vt]] w fun e w' => e = .returned (.bool (Dt.single (.mk 5 n s m l t))) ∧ Below w.heap.size w w' := by
 rw [Dt.Wf] at hW
 rw [Dt.Rep] at h
 obtain ⟨hn, hsz, hlm, hll, hlt, _, _⟩ := hW
 obtain ⟨hm, ⟨al, cl, rfl, hcl, hl⟩, ⟨at_, ct, rfl, hct, ht⟩⟩ := h
 have hm0 := hm
 obtain ⟨am, cm, rfl, hcm, _⟩ := hm
 have hem := fun w => dEmpty_any 5 n ⟨#[]⟩ none al at_ 0 0 l.length cl t.length ct w (Nat.zero_le _) hll hlt
 have heq := Dt.emptyB_eq n ⟨#[]⟩ [] l t
 simp only [List.length_nil] at heq
 obtain ⟨E, hE⟩ : ∃ E, Dt.emptyB n ⟨#[]⟩ 0 l.length t.length = E := ⟨_, rfl⟩
 rw [hE] at hem
 have hE2 := hE.symm.trans heq
 obtain ⟨R, hR⟩ : ∃ R, R = Dt.single (.mk 5 n s m l t) := ⟨_, rfl⟩
 rw [← hR]
 have HR : Hid (R = (Lx.symbol s.data.toList && decide (m.length ≤ 16) && m.all Dt.mayMark && E)) := by
  show _ = _
  rw [hR, hE2]
  unfold Dt.single
  simp [Bool.and_assoc]
 clear hE heq
 have hi := fun w => dSymbol_any s w hsz
 have hc := fun w h => dContainsFunc_any (F := F) am cm m w h hlm
 have HM := Lib.hid hm0
 obtain ⟨I, hI⟩ : ∃ I, I = Lx.symbol s.data.toList := ⟨_, rfl⟩
 obtain ⟨J, hJ⟩ : ∃ J, J = m.all Dt.mayMark := ⟨_, rfl⟩
 rw [← hI] at HR hi
 rw [← hJ] at HR hc
 have h16 : decide ((m.length : Int) ≤ 16) = decide (m.length ≤ 16) := decide_eq_decide.2 (by omega)
 obtain ⟨G, hG⟩ : ∃ G, G = decide (m.length ≤ 16) := ⟨_, rfl⟩
 rw [← hG] at HR h16
 clear hI hJ hG hE2 hR hm0 hl ht
 go_enter Try.func50, Try.ntmps50
 go_wp2_with (first
  | (go_at_call 77; refine (hi _).mono ?_; rintro e w1 ⟨rfl, rfl⟩)
  | (go_at_call 78; refine (hc _ (HM.out.below (Dt.bel2 _ _ _))).mono ?_; rintro e w1 ⟨rfl, rfl⟩)
  | (go_at_call 74; refine (hem _).mono ?_; rintro e w2 ⟨rfl, hb2⟩))
 all_goals
  go_ret
  first
   | exact ⟨by rw [HR.out]; simp_all, (Dt.bel2 _ _ _).trans (hb2.mono (by rw [World.size_alloc, World.size_alloc]; omega))⟩
   | exact ⟨by rw [HR.out]; simp_all, Dt.bel2 _ _ _⟩
set_option maxRecDepth 100000 in
set_option maxHeartbeats 4000000 in
theorem dSingle7o_any {F : Nat → Prop} (n : Int) (s : ByteArray) (m : List Int) (l : List Dt.D) (t : List Dt.D) (ht1 : t.length ≠ 1) (vm vl vt : Value) (w : World) (hW : Dt.Wf (.mk 7 n s m l t)) (h : Dt.Rep F w (.mk 7 n s m l t) vm vl vt) :
  Calls Try.prog 50 #[.agg #[.int .i64 7, .int .i64 n, .string s, vm, vl, vt]] w fun e w' => e = .returned (.bool (Dt.single (.mk 7 n s m l t))) ∧ Below w.heap.size w w' := by
 rw [Dt.Wf] at hW
 rw [Dt.Rep] at h
 obtain ⟨hn, hsz, hlm, hll, hlt, _, _⟩ := hW
 obtain ⟨hm, ⟨al, cl, rfl, hcl, hl⟩, ⟨at_, ct, rfl, hct, ht⟩⟩ := h
 have hm0 := hm
 obtain ⟨am, cm, rfl, hcm, _⟩ := hm
 have hem := fun w => dEmpty_any 7 n s am none none m.length cm 0 0 0 0 w hlm (Nat.zero_le _) (Nat.zero_le _)
 have heq := Dt.emptyB_eq n s m [] []
 simp only [List.length_nil] at heq
 obtain ⟨E, hE⟩ : ∃ E, Dt.emptyB n s m.length 0 0 = E := ⟨_, rfl⟩
 rw [hE] at hem
 have hE2 := hE.symm.trans heq
 obtain ⟨R, hR⟩ : ∃ R, R = Dt.single (.mk 7 n s m l t) := ⟨_, rfl⟩
 rw [← hR]
 have HR : Hid (R = false) := by
  show _ = _
  rw [hR]
  unfold Dt.single
  cases t with
  | nil => simp
  | cons x r => cases r with
   | nil => simp at ht1
   | cons y r => simp
 clear hE heq
 have hle : decide ((0 : Int) < (l.length : Int)) = !l.isEmpty := by cases l <;> simp <;> omega
 obtain ⟨I, hI⟩ : ∃ I, I = !l.isEmpty := ⟨_, rfl⟩
 rw [← hI] at hle
 have h1 : ((t.length : Int) == 1) = false := by simp; omega
 clear hE2 hR hm0 hl ht hI
 go_enter Try.func50, Try.ntmps50
 go_wp2_with fail
 all_goals
  go_ret
  first
   | exact ⟨by rw [HR.out]; simp_all, (Dt.bel2 _ _ _).trans (hb2.mono (by rw [World.size_alloc, World.size_alloc]; omega))⟩
   | exact ⟨by rw [HR.out]; simp_all, Dt.bel2 _ _ _⟩
set_option maxRecDepth 100000 in
set_option maxHeartbeats 4000000 in
theorem dSingle7i_any {F : Nat → Prop} (n : Int) (s : ByteArray) (m : List Int) (l : List Dt.D) (x : Dt.D) (vm vl vt : Value) (w : World) (hW : Dt.Wf (.mk 7 n s m l [x])) (h : Dt.Rep F w (.mk 7 n s m l [x]) vm vl vt) :
  Calls Try.prog 50 #[.agg #[.int .i64 7, .int .i64 n, .string s, vm, vl, vt]] w fun e w' => e = .returned (.bool (Dt.single (.mk 7 n s m l [x]))) ∧ Below w.heap.size w w' := by
 rw [Dt.Wf] at hW
 rw [Dt.Rep] at h
 obtain ⟨hn, hsz, hlm, hll, hlt, _, _⟩ := hW
 obtain ⟨hm, ⟨al, cl, rfl, hcl, hl⟩, ⟨at_, ct, rfl, hct, ht⟩⟩ := h
 have hm0 := hm
 obtain ⟨am, cm, rfl, hcm, _⟩ := hm
 have hem := fun w => dEmpty_any 7 n s am none none m.length cm 0 0 0 0 w hlm (Nat.zero_le _) (Nat.zero_le _)
 have heq := Dt.emptyB_eq n s m [] []
 simp only [List.length_nil] at heq
 obtain ⟨E, hE⟩ : ∃ E, Dt.emptyB n s m.length 0 0 = E := ⟨_, rfl⟩
 rw [hE] at hem
 have hE2 := hE.symm.trans heq
 obtain ⟨R, hR⟩ : ∃ R, R = Dt.single (.mk 7 n s m l [x]) := ⟨_, rfl⟩
 rw [← hR]
 have HR : Hid (R = (!l.isEmpty && (decide (x.k ≠ 6) && decide (x.k ≠ 7)) && E)) := by
  show _ = _
  rw [hR, hE2]
  unfold Dt.single
  simp [Bool.and_assoc, Bool.and_left_comm, Bool.and_comm]
 clear hE heq
 have hle : decide ((0 : Int) < (l.length : Int)) = !l.isEmpty := by cases l <;> simp <;> omega
 obtain ⟨I, hI⟩ : ∃ I, I = !l.isEmpty := ⟨_, rfl⟩
 rw [← hI] at HR hle
 obtain ⟨bt, ot, rfl, _, hbt, hrt⟩ := ht (by simp)
 rw [Dt.Reps] at hrt
 obtain ⟨⟨_, _, _, hs0, _⟩, _⟩ := hrt
 have c0 := hs0.c0
 obtain ⟨xk, hxk⟩ : ∃ xk, xk = x.k := ⟨_, rfl⟩
 rw [← hxk] at HR c0
 clear hE2 hR hm0 hl ht hs0 hI hxk
 go_enter Try.func50, Try.ntmps50
 go_wp2_with (go_at_call 74; refine (hem _).mono ?_; rintro e w2 ⟨rfl, hb2⟩)
 all_goals
  go_ret
  first
   | exact ⟨by rw [HR.out]; simp_all, (Dt.bel2 _ _ _).trans (hb2.mono (by rw [World.size_alloc, World.size_alloc]; omega))⟩
   | exact ⟨by rw [HR.out]; simp_all, Dt.bel2 _ _ _⟩
set_option maxRecDepth 100000 in
set_option maxHeartbeats 4000000 in
theorem dSingleX_any {F : Nat → Prop} (k n : Int) (s : ByteArray) (m : List Int) (l t : List Dt.D) (vm vl vt : Value) (w : World) (h : Dt.Rep F w (.mk k n s m l t) vm vl vt) (hk : k ≠ 1 ∧ k ≠ 2 ∧ k ≠ 3 ∧ k ≠ 4 ∧ k ≠ 5 ∧ k ≠ 6 ∧ k ≠ 7 ∧ k ≠ 8) :
  Calls Try.prog 50 #[.agg #[.int .i64 k, .int .i64 n, .string s, vm, vl, vt]] w fun e w' => e = .returned (.bool (Dt.single (.mk k n s m l t))) ∧ Below w.heap.size w w' := by
 rw [Dt.Rep] at h
 obtain ⟨⟨am, cm, rfl, hcm, _⟩, ⟨al, cl, rfl, hcl, hl⟩, ⟨at_, ct, rfl, hct, ht⟩⟩ := h
 obtain ⟨k1, k2, k3, k4, k5, k6, k7, k8⟩ := hk
 have HR : Hid (Dt.single (.mk k n s m l t) = false) := by
  show _ = _
  unfold Dt.single
  simp [k1, k2, k3, k4, k5, k6, k7, k8]
 have b1 : (k == 1) = false := by simpa using k1
 have b2 : (k == 2) = false := by simpa using k2
 have b3 : (k == 3) = false := by simpa using k3
 have b4 : (k == 4) = false := by simpa using k4
 have b5 : (k == 5) = false := by simpa using k5
 have b6 : (k == 6) = false := by simpa using k6
 have b7 : (k == 7) = false := by simpa using k7
 have b8 : (k == 8) = false := by simpa using k8
 rw [HR.out]
 clear k1 k2 k3 k4 k5 k6 k7 k8 hl ht
 go_enter Try.func50, Try.ntmps50
 go_wp2
 go_ret
 exact ⟨rfl, Dt.bel2 _ _ _⟩
theorem dSingle_any {F : Nat → Prop} (d : Dt.D) (vm vl vt : Value) (w : World) (hW : Dt.Wf d) (h : Dt.Rep F w d vm vl vt) :
  Calls Try.prog 50 #[.agg #[.int .i64 d.k, .int .i64 d.n, .string d.s, vm, vl, vt]] w fun e w' => e = .returned (.bool (Dt.single d)) ∧ Below w.heap.size w w' := by
 cases d with
 | mk k n s m l t =>
  simp only [Dt.D.k, Dt.D.n, Dt.D.s]
  by_cases k1 : k = 1
  ·subst k1; exact dSingle1_any n s m l t vm vl vt w hW h
  by_cases k2 : k = 2
  ·subst k2; exact dSingle2_any n s m l t vm vl vt w hW h
  by_cases k3 : k = 3
  ·subst k3; exact dSingle3_any n s m l t vm vl vt w hW h
  by_cases k4 : k = 4
  ·subst k4; exact dSingle4_any n s m l t vm vl vt w hW h
  by_cases k5 : k = 5
  ·subst k5; exact dSingle5_any n s m l t vm vl vt w hW h
  by_cases k6 : k = 6
  ·subst k6; exact dSingle6_any n s m l t vm vl vt w hW h
  by_cases k8 : k = 8
  ·subst k8; exact dSingle8_any n s m l t vm vl vt w hW h
  by_cases k7 : k = 7
  ·subst k7
   by_cases ht : t.length = 1
   ·obtain ⟨x, rfl⟩ := List.length_eq_one_iff.1 ht
    exact dSingle7i_any n s m l x vm vl vt w hW h
   ·exact dSingle7o_any n s m l t ht vm vl vt w hW h
  exact dSingleX_any k n s m l t vm vl vt w h ⟨k1, k2, k3, k4, k5, k6, k7, k8⟩
end Go.Proofs.Ytcopdfihaheplaa
namespace Go.Proofs.Ytcopdfihaheplaa
open Go.RowKit
namespace Dt
mutual
theorem chk_le : ∀ (d : D) (deep p : Nat), p ≤ 4096 → (chk d deep p).2 ≤ 4096
 | .mk k n s m l t, deep, p, h => by
  rw [chk]
  split
  ·exact h
  ·split
   ·exact h
   ·split
    ·have h1 := chks_le l (deep + 1) (p + 1) (by omega)
     split
     ·exact chks_le t (deep + 1) _ h1
     ·exact h1
    ·exact h
theorem chks_le : ∀ (l : List D) (deep p : Nat), p ≤ 4096 → (chks l deep p).2 ≤ 4096
 | [], _, p, h => by rw [chks]; exact h
 | d :: r, deep, p, h => by
  rw [chks]
  have h1 := chk_le d deep p h
  split
  ·exact chks_le r deep _ h1
  ·exact h1
end
theorem eqlIn_see (d : Nat) (w : World) : (Op.equalIn (d + 1) 27 .nilFunc .nilFunc).run Try.prog w = .ok true w := by
 simp [Op.equalIn, run_underlying Try.underlying27]
theorem neq_see (w : World) : (binOp .neq 27 .nilFunc .nilFunc).run Try.prog w = .ok (.bool false) w := by
 have h := eqlIn_see 9999 w
 have h2 : (Op.equal 27 .nilFunc .nilFunc).run Try.prog w = .ok true w := h
 show ((do pure (.bool (!(← Op.equal 27 .nilFunc .nilFunc))) : Sem Value)).run _ _ = _
 rw [Sem.run_bind, h2]
 rfl
abbrev downF (p d s t u : Nat) : Value := .func (.func 49) #[] #[.pointer (some ⟨p, 0, none⟩), .pointer (some ⟨d, 0, none⟩), .pointer (some ⟨s, 0, none⟩), .pointer (some ⟨t, 0, none⟩), .pointer (some ⟨u, 0, none⟩)]
structure Env (w : World) (p d s t u : Nat) (a : Nat) (b : Int) : Prop where
 cp : w.cell? ⟨p, 0, none⟩ = some (.int .i64 (a : Int))
 cd : w.cell? ⟨d, 0, none⟩ = some (.int .i64 b)
 cs : w.cell? ⟨s, 0, none⟩ = some .nilFunc
 ct : w.cell? ⟨t, 0, none⟩ = some (.bool false)
 cu : w.cell? ⟨u, 0, none⟩ = some (downF p d s t u)
 fp : w.frozen? ⟨p, 0, none⟩ = false
 fd : w.frozen? ⟨d, 0, none⟩ = false
theorem Env.below {w w' : World} {p d s t u a : Nat} {b : Int} (h : Env w p d s t u a b) (hb : Below w.heap.size w w') : Env w' p d s t u a b :=
 ⟨(hb.cell (p := ⟨p, 0, none⟩) (block_lt_of_cell h.cp)).trans h.cp, (hb.cell (p := ⟨d, 0, none⟩) (block_lt_of_cell h.cd)).trans h.cd, (hb.cell (p := ⟨s, 0, none⟩) (block_lt_of_cell h.cs)).trans h.cs, (hb.cell (p := ⟨t, 0, none⟩) (block_lt_of_cell h.ct)).trans h.ct, (hb.cell (p := ⟨u, 0, none⟩) (block_lt_of_cell h.cu)).trans h.cu, (hb.frozen (p := ⟨p, 0, none⟩) (block_lt_of_cell h.cp)).trans h.fp, (hb.frozen (p := ⟨d, 0, none⟩) (block_lt_of_cell h.cd)).trans h.fd⟩
structure Five (p d s t u : Nat) : Prop where
 pd : p ≠ d
 ps : p ≠ s
 pt : p ≠ t
 pu : p ≠ u
 ds : d ≠ s
 dt : d ≠ t
 du : d ≠ u
theorem Env.count {w : World} {p d s t u a : Nat} {b : Int} (h : Env w p d s t u a b) (g : Five p d s t u) (a' : Nat) (v b' : Int) (hv : v = (a' : Int)) : Env ((w.setCell ⟨p, 0, none⟩ (.int .i64 v)).setCell ⟨d, 0, none⟩ (.int .i64 b')) p d s t u a' b' := by
 subst hv
 have n : ∀ {x y : Nat}, x ≠ y → (⟨x, 0, none⟩ : Addr) ≠ ⟨y, 0, none⟩ := fun hxy e => by cases e; exact hxy rfl
 refine ⟨?_, ?_, ?_, ?_, ?_, ?_, ?_⟩
 ·exact (World.cell?_setCell_other _ _ _ _ (n (Ne.symm g.pd))).trans (World.cell?_setCell_same' _ _ _ (by rw [h.cp]; rfl))
 ·exact World.cell?_setCell_same' _ _ _ (by rw [World.cell?_setCell_other _ _ _ _ (n g.pd), h.cd]; rfl)
 ·exact (World.cell?_setCell_other _ _ _ _ (n g.ds)).trans ((World.cell?_setCell_other _ _ _ _ (n g.ps)).trans h.cs)
 ·exact (World.cell?_setCell_other _ _ _ _ (n g.dt)).trans ((World.cell?_setCell_other _ _ _ _ (n g.pt)).trans h.ct)
 ·exact (World.cell?_setCell_other _ _ _ _ (n g.du)).trans ((World.cell?_setCell_other _ _ _ _ (n g.pu)).trans h.cu)
 ·rw [World.frozen?_setCell, World.frozen?_setCell]; exact h.fp
 ·rw [World.frozen?_setCell, World.frozen?_setCell]; exact h.fd
def PD (p d k : Nat) : Prop := k = p ∨ k = d
def Down (x : D) : Prop := ∀ (F : Nat → Prop) (deep a : Nat) (b : Int) (vm vl vt : Value) (w : World) (p d s t u : Nat), Wf x → Rep F w x vm vl vt → (∀ k, F k → ¬ PD p d k) → Env w p d s t u a b → Five p d s t u → deep ≤ 65 → a ≤ 4096 →
 Calls Try.prog 49 #[.agg #[.int .i64 x.k, .int .i64 x.n, .string x.s, vm, vl, vt], .int .i64 (deep : Int), .pointer (some ⟨p, 0, none⟩), .pointer (some ⟨d, 0, none⟩), .pointer (some ⟨s, 0, none⟩), .pointer (some ⟨t, 0, none⟩), .pointer (some ⟨u, 0, none⟩)] w
  fun e w' => e = .returned (.int .i64 (chk x deep a).1) ∧ (∃ b', Env w' p d s t u (chk x deep a).2 b') ∧ Keep (PD p d) w w'
theorem gen {P : Program} {c : Code} {Q : Exit → Act → World → Prop} {act : Act} {w2 : World} {p d s t u a : Nat} {b v b' : Int} {x y : Value} {T : TypeId} (h : Env w2 p d s t u a b) (g : Five p d s t u) (hv : v = ((a + 1 : Nat) : Int))
  (k : ∀ w3, (∃ b', Env w3 p d s t u (a + 1) b') → Keep (PD p d) w2 w3 → w3.cell? ⟨w2.heap.size, 0, none⟩ = some x → w3.cell? ⟨w2.heap.size, 1, none⟩ = some y → w2.heap.size < w3.heap.size → Code.wp P c Q act w3) :
  Code.wp P c Q act (((w2.setCell ⟨p, 0, none⟩ (.int .i64 v)).setCell ⟨d, 0, none⟩ (.int .i64 b')).alloc (.cells #[x, y] T)) := by
 have hz : ((w2.setCell ⟨p, 0, none⟩ (.int .i64 v)).setCell ⟨d, 0, none⟩ (.int .i64 b')).heap.size = w2.heap.size := by simp [World.setCell]
 have hE := (h.count g (a + 1) v b' hv).below ((Below.refl _ _).alloc (Nat.le_refl _) (.cells #[x, y] T))
 have hh := heap_alloc_new ((w2.setCell ⟨p, 0, none⟩ (.int .i64 v)).setCell ⟨d, 0, none⟩ (.int .i64 b')) (.cells #[x, y] T)
 rw [hz] at hh
 refine k _ ⟨b', hE⟩ ((((Keep.refl _ w2).setCell (B := p) (.inl rfl) 0 _).setCell (B := d) (.inr rfl) 0 _).alloc _) ?_ ?_ (by rw [World.size_alloc, hz]; omega)
 ·unfold World.cell?; rw [hh]; rfl
 ·unfold World.cell?; rw [hh]; rfl
def At (x : D) (deep a : Nat) (M : Int × Nat) (i q : Nat) : Prop := (i = 0 ∧ q = a + 1) ∨ (i = 1 ∧ chks x.l (deep + 1) (a + 1) = (0, q)) ∨ (i = 2 ∧ M = (0, q))
theorem Rep.forms {F : Nat → Prop} {w : World} {d : D} {vm vl vt : Value} (h : Rep F w d vm vl vt) : ∃ a1 n1 c1 a2 n2 c2 a3 n3 c3, vm = .slice a1 n1 c1 ∧ vl = .slice a2 n2 c2 ∧ vt = .slice a3 n3 c3 := by
 obtain ⟨⟨a1, c1, h1, _⟩, ⟨a2, c2, h2, _⟩, ⟨a3, c3, h3, _⟩⟩ := (rep_iff F w d vm vl vt).1 h
 exact ⟨a1, _, c1, a2, _, c2, a3, _, c3, h1, h2, h3⟩
theorem wf_l {d : D} (h : Wf d) : Wfs d.l := by cases d; rw [Wf] at h; exact h.2.2.2.2.2.1
theorem wf_len {d : D} (h : Wf d) : d.l.length ≤ 140737488355328 ∧ d.t.length ≤ 140737488355328 := by cases d; rw [Wf] at h; exact ⟨h.2.2.2.1, h.2.2.2.2.1⟩
theorem wf_t {d : D} (h : Wf d) : Wfs d.t := by cases d; rw [Wf] at h; exact h.2.2.2.2.2.2
theorem six_new (w : World) (x y : Int) (s : ByteArray) (vm vl vt : Value) (t : TypeId) : ∀ j, j < 6 → (w.alloc (.cells #[.int .i64 x, .int .i64 y, .string s, vm, vl, vt] t)).cell? ⟨w.heap.size, j, none⟩ = #[Value.int .i64 x, .int .i64 y, .string s, vm, vl, vt][j]? := fun j _ => by
 unfold World.cell?; rw [heap_alloc_new]; rfl
theorem chk_deep {d : D} {deep p : Nat} (h : 64 < deep) : chk d deep p = (4, p) := by cases d; rw [chk, if_pos h]
theorem chk_long {d : D} {deep p : Nat} (h : ¬ 64 < deep) (h' : 4096 ≤ p) : chk d deep p = (3, p) := by cases d; rw [chk, if_neg h, if_pos h']
theorem chk_bad {d : D} {deep p : Nat} (h : ¬ 64 < deep) (h' : ¬ 4096 ≤ p) (hs : single d = false) : chk d deep p = (20, p) := by cases d; rw [chk, if_neg h, if_neg h', hs]; rfl
theorem chk_good {d : D} {deep p : Nat} (h : ¬ 64 < deep) (h' : ¬ 4096 ≤ p) (hs : single d = true) : chk d deep p = if (chks d.l (deep + 1) (p + 1)).1 = 0 then chks d.t (deep + 1) (chks d.l (deep + 1) (p + 1)).2 else chks d.l (deep + 1) (p + 1) := by
 cases d
 rw [chk, if_neg h, if_neg h', hs, if_pos rfl]
 rfl
theorem chks_drop {L : List D} {deep q : Nat} {j : Nat} (hj : j < L.length) : chks (L.drop j) deep q = if (chk L[j] deep q).1 = 0 then chks (L.drop (j + 1)) deep (chk L[j] deep q).2 else chk L[j] deep q := by
 rw [List.drop_eq_getElem_cons hj, chks]
end Dt
set_option maxRecDepth 100000 in
set_option maxHeartbeats 8000000 in
theorem down_step (x : Dt.D) (hl : ∀ y ∈ x.l, Dt.Down y) (ht : ∀ y ∈ x.t, Dt.Down y) : Dt.Down x := by
 intro F deep a b vm vl vt w p d s t u hW hR hF hE h5 hd ha
 have hsg := fun w h => dSingle_any (F := F) x vm vl vt w hW h
 obtain ⟨w1, hw1⟩ : ∃ w1, w.alloc (.cells #[.int .i64 x.k, .int .i64 x.n, .string x.s, vm, vl, vt] 25) = w1 := ⟨_, rfl⟩
 have hb1 : Below w.heap.size w w1 := by rw [← hw1]; exact (Below.refl _ _).alloc (Nat.le_refl _) _
 have hE1 := hE.below hb1
 have hR1 := hR.below hb1
 have hz1 : w.heap.size < w1.heap.size := by rw [← hw1]; simp
 have hsix := Dt.six_new w x.k x.n x.s vm vl vt 25
 rw [hw1] at hsix
 have d0 : w1.cell? ⟨w.heap.size, 0, none⟩ = some (.int .i64 x.k) := hsix 0 (by omega)
 have d1 : w1.cell? ⟨w.heap.size, 1, none⟩ = some (.int .i64 x.n) := hsix 1 (by omega)
 have d2 : w1.cell? ⟨w.heap.size, 2, none⟩ = some (.string x.s) := hsix 2 (by omega)
 have d3 : w1.cell? ⟨w.heap.size, 3, none⟩ = some vm := hsix 3 (by omega)
 have d4 : w1.cell? ⟨w.heap.size, 4, none⟩ = some vl := hsix 4 (by omega)
 have d5 : w1.cell? ⟨w.heap.size, 5, none⟩ = some vt := hsix 5 (by omega)
 have HE1 := Lib.hid hE1
 have HB1 := Lib.hid hb1
 have HR1 := Lib.hid hR1
 obtain ⟨hLb, hTb⟩ := Dt.wf_len hW
 have HWL := Lib.hid (Dt.wf_l hW)
 have HWT := Lib.hid (Dt.wf_t hW)
 have HF := Lib.hid hF
 have H5 := Lib.hid h5
 have HL := Lib.hid hl
 have HT := Lib.hid ht
 obtain ⟨D0, hD0⟩ : ∃ D0, w.heap.size = D0 := ⟨_, rfl⟩
 rw [hD0] at d0 d1 d2 d3 d4 d5 hz1
 have HE0 : Hid (Dt.Env w p d s t u a b) := hE
 have HD0 := Lib.hid hD0
 clear hsix hE hR hE1 hR1 hb1 hW hF h5 hl ht
 by_cases c1 : 64 < deep
 ·have HC := Lib.hid (Dt.chk_deep (d := x) (p := a) c1)
  have c1i : (64 : Int) < (deep : Int) := by omega
  rw [HC.out]
  clear c1 hsg
  go_enter Try.func49, Try.ntmps49
  go_wp2
  go_ret
  exact ⟨rfl, ⟨b, HE1.out⟩, (Keep.refl _ w).below HB1.out⟩
 have c1i : ¬ (64 : Int) < (deep : Int) := by omega
 have cp := HE1.out.cp
 by_cases c2 : 4096 ≤ a
 ·have HC := Lib.hid (Dt.chk_long (d := x) c1 c2)
  have c2i : (4096 : Int) ≤ (a : Int) := by omega
  rw [HC.out]
  clear c1 c2 hsg
  go_enter Try.func49, Try.ntmps49
  go_wp2
  go_ret
  exact ⟨rfl, ⟨b, HE1.out⟩, (Keep.refl _ w).below HB1.out⟩
 have c2i : ¬ (4096 : Int) ≤ (a : Int) := by omega
 obtain ⟨S, hS⟩ : ∃ S, S = Dt.single x := ⟨_, rfl⟩
 rw [← hS] at hsg
 cases S with
 | false =>
  have HC := Lib.hid (Dt.chk_bad (d := x) c1 c2 hS.symm)
  rw [HC.out]
  clear c1 c2 hS
  go_enter Try.func49, Try.ntmps49
  go_wp2_with fail
  refine (hsg _ HR1.out).mono ?_
  rintro e w2 ⟨rfl, hb2⟩
  clear hsg hw1 hD0
  have HE2 := Lib.hid (HE1.out.below hb2)
  have HK2 := Lib.hid (((Keep.refl (Dt.PD p d) w).below HB1.out).below hb2)
  clear hb2
  go_wp2
  go_ret
  exact ⟨rfl, ⟨b, HE2.out⟩, HK2.out⟩
 | true =>
  have HC := Lib.hid (Dt.chk_good (d := x) c1 c2 hS.symm)
  clear hS
  obtain ⟨M, hM⟩ : ∃ M, M = Dt.chk x deep a := ⟨_, rfl⟩
  rw [← hM] at HC ⊢
  clear hM
  go_enter Try.func49, Try.ntmps49
  go_wp2_with fail
  refine (hsg _ HR1.out).mono ?_
  rintro e w2 ⟨rfl, hb2⟩
  clear hsg hw1 hD0 cp
  have hE2 := HE1.out.below hb2
  have HK2 := Lib.hid (((Keep.refl (Dt.PD p d) w).below HB1.out).below hb2)
  have e4 := (hb2.cell (p := ⟨D0, 4, none⟩) hz1).trans d4
  have e5 := (hb2.cell (p := ⟨D0, 5, none⟩) hz1).trans d5
  have hz2 := Nat.lt_of_lt_of_le hz1 hb2.size
  have HR2 := Lib.hid ((Dt.rep_iff F w2 x vm vl vt).1 (HR1.out.below hb2))
  have HE2 := Lib.hid hE2
  obtain ⟨cp2, cd2, cs2, ct2, cu2, fp2, fd2⟩ := hE2
  have hns := Dt.neq_see
  obtain ⟨_, ⟨al, cl, rfl, hcl, hL0⟩, ⟨at_, ct, rfl, hct, hT0⟩⟩ := HR2.out
  have HL0 := Lib.hid hL0
  have HT0 := Lib.hid hT0
  clear hL0 hT0
  obtain ⟨g1, g2, g3, g4, g5, g6, g7⟩ := H5.out
  have hpD : p ≠ D0 := by have := block_lt_of_cell HE0.out.cp; simp only at this; have := HD0.out; omega
  have hdD : d ≠ D0 := by have := block_lt_of_cell HE0.out.cd; simp only at this; have := HD0.out; omega
  clear HE1 HB1 HR1 d0 d1 d2 d3 d4 d5 hz1 c1 c2
  go_wp2_with fail
  all_goals
   refine Dt.gen HE2.out H5.out (by simp) ?_
   intro w3 hE3 hK3 z0 z1 hz3
   have HE3 := Lib.hid hE3
   have HK3 := Lib.hid hK3
   have HKW := Lib.hid (HK2.out.trans hK3)
   obtain ⟨G, hG⟩ : ∃ G, w2.heap.size = G := ⟨_, rfl⟩
   have hpG : p ≠ G := by have := block_lt_of_cell HE2.out.cp; simp only at this; omega
   have hdG : d ≠ G := by have := block_lt_of_cell HE2.out.cd; simp only at this; omega
   rw [hG] at z0 z1 hz3 ⊢
   clear hE3 hK3 hG cp2 cd2 cs2 ct2 cu2 fp2 fd2 e4 e5 hns hz2
   go_loopw [46] (fun v wr => ∃ (i q : Nat), v = .int .i64 i ∧ q ≤ 4096 ∧ Hid (∃ b', Dt.Env wr p d s t u q b') ∧ Hid (Keep (Dt.PD p d) w3 wr) ∧ Hid (Dt.At x deep a M i q)) (fun v _ => 2 - (intOf v).toNat)
   case atStart => exact ⟨0, a + 1, rfl, by omega, HE3.out, Keep.refl _ _, .inl ⟨rfl, rfl⟩⟩
   case round =>
    obtain ⟨i, q0, rfl, hq0, HEQ, HKQ, HA⟩ := hrel
    clear HE3
    have z0r := (HKQ.out.cell 0 hz3 (fun h => h.elim (Ne.symm hpG) (Ne.symm hdG))).trans z0
    have z1r := (HKQ.out.cell 1 hz3 (fun h => h.elim (Ne.symm hpG) (Ne.symm hdG))).trans z1
    rcases HA.out with ⟨rfl, h0⟩ | ⟨rfl, h0⟩ | ⟨rfl, h0⟩
    ·have HB0 := Lib.hid h0
     clear h0 HA
     go_wp2_with fail
     obtain ⟨wo, hwo⟩ : ∃ wo, wo = wr := ⟨_, rfl⟩
     rw [← hwo] at HEQ HKQ z0r z1r ⊢
     clear hwo
     go_loopw [52] (fun v wr => ∃ (j q : Nat), v = .int .i64 j ∧ j ≤ x.l.length ∧ q ≤ 4096 ∧ Hid (∃ b', Dt.Env wr p d s t u q b') ∧ Hid (Keep (Dt.PD p d) w3 wr) ∧ Hid (Dt.chks x.l (deep + 1) q0 = Dt.chks (x.l.drop j) (deep + 1) q)) (fun v _ => x.l.length - (intOf v).toNat)
     case atStart => exact ⟨0, q0, rfl, by omega, hq0, HEQ, HKQ, rfl⟩
     case round =>
      obtain ⟨j, q, rfl, hj, hq, HEJ, HKJ, HD⟩ := hrel
      clear HEQ HKQ z0r z1r
      by_cases hlt : j < x.l.length
      case neg =>
       have hge : (x.l.length : Int) ≤ (j : Int) := by omega
       have HX : Hid (Dt.chks x.l (deep + 1) q0 = (0, q)) := by
        show _ = _
        rw [HD.out, List.drop_eq_nil_of_le (by omega), Dt.chks]
       go_wp2
       go_roundw
       case rel => exact ⟨0 + 1, q, rfl, hq, HEJ, HKJ, .inr (.inl ⟨rfl, by rw [← HX.out, HB0.out]⟩)⟩
       case measure => simp [intOf]
      have hlti : (j : Int) < (x.l.length : Int) := by omega
      have hdr := Dt.chks_drop (deep := deep + 1) (q := q) hlt
      rw [← HD.out] at hdr
      obtain ⟨g, o, hao, hFg, hgl, hreps⟩ := HL0.out (by intro hc; rw [hc] at hlt; simp at hlt)
      have hreps' := Dt.Reps.keep (HK3.out.trans HKJ.out) (fun k hk _ => HF.out k hk) _ hFg hgl hreps
      obtain ⟨vmj, vlj, vtj, hsx, hrp⟩ := hreps'.at j hlt
      obtain ⟨a1, n1, c1, a2, n2, c2, a3, n3, c3, rfl, rfl, rfl⟩ := hrp.forms
      have hy := HL.out x.l[j] (List.getElem_mem hlt)
      have hwf := HWL.out.at j hlt
      obtain ⟨y, hyy⟩ : ∃ y, x.l[j] = y := ⟨_, rfl⟩
      rw [hyy] at hdr hsx hrp hy hwf
      subst hao
      obtain ⟨y0, y1, y2, y3, y4, y5⟩ := hsx
      obtain ⟨bj, hEj⟩ := HEJ.out
      obtain ⟨wc, hwc⟩ : ∃ wc, wr.alloc (.cells #[.int .i64 y.k, .int .i64 y.n, .string y.s, (.slice a1 n1 c1), (.slice a2 n2 c2), (.slice a3 n3 c3)] 25) = wc := ⟨_, rfl⟩
      have hbc : Below wr.heap.size wr wc := by rw [← hwc]; exact (Below.refl _ _).alloc (Nat.le_refl _) _
      have hcall := hy F (deep + 1) q bj (.slice a1 n1 c1) (.slice a2 n2 c2) (.slice a3 n3 c3) wc p d s t u hwf (hrp.below hbc) HF.out (hEj.below hbc) H5.out (by omega) hq
      rw [show (((deep + 1 : Nat) : Int)) = (deep : Int) + 1 by omega] at hcall
      obtain ⟨⟨e', q'⟩, hr⟩ : ∃ r, r = Dt.chk y (deep + 1) q := ⟨_, rfl⟩
      have hq' : q' ≤ 4096 := by have := Dt.chk_le y (deep + 1) q hq; rw [← hr] at this; exact this
      rw [← hr] at hcall hdr
      have HCALL := Lib.hid hcall
      have HKC := Lib.hid (HKJ.out.below hbc)
      have HDR := Lib.hid hdr
      have ct1 := hEj.ct
      have hEc := hEj.below hbc
      have ct2 := hEc.ct
      have cu2 := hEc.cu
      have hsw := Dt.six_new wr y.k y.n y.s (.slice a1 n1 c1) (.slice a2 n2 c2) (.slice a3 n3 c3) 25
      rw [hwc] at hsw
      obtain ⟨YB, hYB⟩ : ∃ YB, wr.heap.size = YB := ⟨_, rfl⟩
      rw [hYB] at hsw
      have s0 : wc.cell? ⟨YB, 0, none⟩ = some (.int .i64 y.k) := hsw 0 (by omega)
      have s1 : wc.cell? ⟨YB, 1, none⟩ = some (.int .i64 y.n) := hsw 1 (by omega)
      have s2 : wc.cell? ⟨YB, 2, none⟩ = some (.string y.s) := hsw 2 (by omega)
      have s3 : wc.cell? ⟨YB, 3, none⟩ = some (.slice a1 n1 c1) := hsw 3 (by omega)
      have s4 : wc.cell? ⟨YB, 4, none⟩ = some (.slice a2 n2 c2) := hsw 4 (by omega)
      have s5 : wc.cell? ⟨YB, 5, none⟩ = some (.slice a3 n3 c3) := hsw 5 (by omega)
      clear hreps hreps' hy hwf hyy hcall hdr hEj hEc hr hbc hsw hrp hgl hFg hlt
      go_wp2_with fail
      clear hwc
      refine HCALL.out.mono ?_
      rintro e w7 ⟨rfl, hE7, hk7⟩
      have HE7 := Lib.hid hE7
      have HK7 := Lib.hid (HKC.out.trans hk7)
      clear hE7 hk7 HCALL HKC ct1 ct2 cu2 s0 s1 s2 s3 s4 s5 y0 y1 y2 y3 y4 y5 hYB HKJ HEJ HD
      by_cases he : e' = 0
      ·subst he
       have HDN : Hid (Dt.chks x.l (deep + 1) q0 = Dt.chks (x.l.drop (j + 1)) (deep + 1) q') := by show _ = _; rw [HDR.out]; rfl
       clear HDR
       go_wp2
       go_roundw
       case rel => first | exact ⟨j + 1, q', by simp, by omega, hq', HE7, HK7, HDN⟩ | exact ⟨_, _, _, _, _, _, _, _, _, _, _, _, _, _, _, _, _, ⟨j + 1, q', by simp, by omega, hq', HE7, HK7, HDN⟩, rfl⟩
       case measure => simp [intOf]; omega
      ·have he' : (e' == 0) = false := by simpa using he
       have HDN : Hid (Dt.chks x.l (deep + 1) q0 = (e', q')) := by show _ = _; rw [HDR.out, if_neg he]
       have HMN : Hid (M = (e', q')) := by
        show _ = _
        have hd1 := HDN.out; rw [HB0.out] at hd1; rw [HC.out, hd1, if_neg he]
       clear HDR
       go_wp2
       go_ret
       exact ⟨by rw [HMN.out]; rfl, by rw [HMN.out]; exact HE7.out, HKW.out.trans HK7.out⟩
    ·have HB0 := Lib.hid h0
     clear h0 HA
     go_wp2_with fail
     obtain ⟨wo, hwo⟩ : ∃ wo, wo = wr := ⟨_, rfl⟩
     rw [← hwo] at HEQ HKQ z0r z1r ⊢
     clear hwo
     go_loopw [52] (fun v wr => ∃ (j q : Nat), v = .int .i64 j ∧ j ≤ x.t.length ∧ q ≤ 4096 ∧ Hid (∃ b', Dt.Env wr p d s t u q b') ∧ Hid (Keep (Dt.PD p d) w3 wr) ∧ Hid (Dt.chks x.t (deep + 1) q0 = Dt.chks (x.t.drop j) (deep + 1) q)) (fun v _ => x.t.length - (intOf v).toNat)
     case atStart => exact ⟨0, q0, rfl, by omega, hq0, HEQ, HKQ, rfl⟩
     case round =>
      obtain ⟨j, q, rfl, hj, hq, HEJ, HKJ, HD⟩ := hrel
      clear HEQ HKQ z0r z1r
      by_cases hlt : j < x.t.length
      case neg =>
       have hge : (x.t.length : Int) ≤ (j : Int) := by omega
       have HX : Hid (Dt.chks x.t (deep + 1) q0 = (0, q)) := by
        show _ = _
        rw [HD.out, List.drop_eq_nil_of_le (by omega), Dt.chks]
       go_wp2
       go_roundw
       case rel => exact ⟨1 + 1, q, rfl, hq, HEJ, HKJ, .inr (.inr ⟨rfl, by rw [HC.out, HB0.out, if_pos rfl, HX.out]⟩)⟩
       case measure => simp [intOf]
      have hlti : (j : Int) < (x.t.length : Int) := by omega
      have hdr := Dt.chks_drop (deep := deep + 1) (q := q) hlt
      rw [← HD.out] at hdr
      obtain ⟨g, o, hao, hFg, hgl, hreps⟩ := HT0.out (by intro hc; rw [hc] at hlt; simp at hlt)
      have hreps' := Dt.Reps.keep (HK3.out.trans HKJ.out) (fun k hk _ => HF.out k hk) _ hFg hgl hreps
      obtain ⟨vmj, vlj, vtj, hsx, hrp⟩ := hreps'.at j hlt
      obtain ⟨a1, n1, c1, a2, n2, c2, a3, n3, c3, rfl, rfl, rfl⟩ := hrp.forms
      have hy := HT.out x.t[j] (List.getElem_mem hlt)
      have hwf := HWT.out.at j hlt
      obtain ⟨y, hyy⟩ : ∃ y, x.t[j] = y := ⟨_, rfl⟩
      rw [hyy] at hdr hsx hrp hy hwf
      subst hao
      obtain ⟨y0, y1, y2, y3, y4, y5⟩ := hsx
      obtain ⟨bj, hEj⟩ := HEJ.out
      obtain ⟨wc, hwc⟩ : ∃ wc, wr.alloc (.cells #[.int .i64 y.k, .int .i64 y.n, .string y.s, (.slice a1 n1 c1), (.slice a2 n2 c2), (.slice a3 n3 c3)] 25) = wc := ⟨_, rfl⟩
      have hbc : Below wr.heap.size wr wc := by rw [← hwc]; exact (Below.refl _ _).alloc (Nat.le_refl _) _
      have hcall := hy F (deep + 1) q bj (.slice a1 n1 c1) (.slice a2 n2 c2) (.slice a3 n3 c3) wc p d s t u hwf (hrp.below hbc) HF.out (hEj.below hbc) H5.out (by omega) hq
      rw [show (((deep + 1 : Nat) : Int)) = (deep : Int) + 1 by omega] at hcall
      obtain ⟨⟨e', q'⟩, hr⟩ : ∃ r, r = Dt.chk y (deep + 1) q := ⟨_, rfl⟩
      have hq' : q' ≤ 4096 := by have := Dt.chk_le y (deep + 1) q hq; rw [← hr] at this; exact this
      rw [← hr] at hcall hdr
      have HCALL := Lib.hid hcall
      have HKC := Lib.hid (HKJ.out.below hbc)
      have HDR := Lib.hid hdr
      have ct1 := hEj.ct
      have hEc := hEj.below hbc
      have ct2 := hEc.ct
      have cu2 := hEc.cu
      have hsw := Dt.six_new wr y.k y.n y.s (.slice a1 n1 c1) (.slice a2 n2 c2) (.slice a3 n3 c3) 25
      rw [hwc] at hsw
      obtain ⟨YB, hYB⟩ : ∃ YB, wr.heap.size = YB := ⟨_, rfl⟩
      rw [hYB] at hsw
      have s0 : wc.cell? ⟨YB, 0, none⟩ = some (.int .i64 y.k) := hsw 0 (by omega)
      have s1 : wc.cell? ⟨YB, 1, none⟩ = some (.int .i64 y.n) := hsw 1 (by omega)
      have s2 : wc.cell? ⟨YB, 2, none⟩ = some (.string y.s) := hsw 2 (by omega)
      have s3 : wc.cell? ⟨YB, 3, none⟩ = some (.slice a1 n1 c1) := hsw 3 (by omega)
      have s4 : wc.cell? ⟨YB, 4, none⟩ = some (.slice a2 n2 c2) := hsw 4 (by omega)
      have s5 : wc.cell? ⟨YB, 5, none⟩ = some (.slice a3 n3 c3) := hsw 5 (by omega)
      clear hreps hreps' hy hwf hyy hcall hdr hEj hEc hr hbc hsw hrp hgl hFg hlt
      go_wp2_with fail
      clear hwc
      refine HCALL.out.mono ?_
      rintro e w7 ⟨rfl, hE7, hk7⟩
      have HE7 := Lib.hid hE7
      have HK7 := Lib.hid (HKC.out.trans hk7)
      clear hE7 hk7 HCALL HKC ct1 ct2 cu2 s0 s1 s2 s3 s4 s5 y0 y1 y2 y3 y4 y5 hYB HKJ HEJ HD
      by_cases he : e' = 0
      ·subst he
       have HDN : Hid (Dt.chks x.t (deep + 1) q0 = Dt.chks (x.t.drop (j + 1)) (deep + 1) q') := by show _ = _; rw [HDR.out]; rfl
       clear HDR
       go_wp2
       go_roundw
       case rel => first | exact ⟨j + 1, q', by simp, by omega, hq', HE7, HK7, HDN⟩ | exact ⟨_, _, _, _, _, _, _, _, _, _, _, _, _, _, _, _, _, ⟨j + 1, q', by simp, by omega, hq', HE7, HK7, HDN⟩, rfl⟩
       case measure => simp [intOf]; omega
      ·have he' : (e' == 0) = false := by simpa using he
       have HDN : Hid (Dt.chks x.t (deep + 1) q0 = (e', q')) := by show _ = _; rw [HDR.out, if_neg he]
       have HMN : Hid (M = (e', q')) := by
        show _ = _
        rw [HC.out, HB0.out, if_pos rfl, HDN.out]
       clear HDR
       go_wp2
       go_ret
       exact ⟨by rw [HMN.out]; rfl, by rw [HMN.out]; exact HE7.out, HKW.out.trans HK7.out⟩
    ·have HB0 := Lib.hid h0
     clear h0 HA
     go_wp2
     go_ret
     exact ⟨by rw [HB0.out]; rfl, by rw [HB0.out]; exact HEQ.out, HKW.out.trans HKQ.out⟩
end Go.Proofs.Ytcopdfihaheplaa
namespace Go.Proofs.Ytcopdfihaheplaa
open Go.RowKit
mutual
theorem Dt.down_any : ∀ x : Dt.D, Dt.Down x
 | .mk k n s m l t => down_step (.mk k n s m l t) (Dt.downs_any l) (Dt.downs_any t)
theorem Dt.downs_any : ∀ (l : List Dt.D) (y : Dt.D), y ∈ l → Dt.Down y
 | [], _, h => absurd h (by simp)
 | x :: r, y, h => (List.mem_cons.1 h).elim (fun e => by rw [e]; exact Dt.down_any x) (fun h' => Dt.downs_any r y h')
end
theorem Dt.frz_new (w : World) (C : Array Value) (T : TypeId) (j : Nat) : (w.alloc (.cells C T)).frozen? ⟨w.heap.size, j, none⟩ = false := by
 unfold World.frozen?; rw [heap_alloc_new]; simp
theorem Dt.one_new (w : World) (v : Value) (T : TypeId) : (w.alloc (.cells #[v] T)).cell? ⟨w.heap.size, 0, none⟩ = some v := by
 unfold World.cell?; rw [heap_alloc_new]; rfl
set_option maxRecDepth 100000 in
set_option maxHeartbeats 8000000 in
theorem walkD_nil {F : Nat → Prop} (x : Dt.D) (vm vl vt : Value) (w : World) (hW : Dt.Wf x) (hR : Dt.Rep F w x vm vl vt) :
  Calls Try.prog 31 #[.agg #[.int .i64 x.k, .int .i64 x.n, .string x.s, vm, vl, vt], .nilFunc] w fun e w' => (∃ a b : Int, e = .returned (.tuple #[.int .i64 a, .int .i64 b, .int .i64 (Dt.check x)])) ∧ Below w.heap.size w w' := by
 obtain ⟨a1, n1, c1, a2, n2, c2, a3, n3, c3, rfl, rfl, rfl⟩ := hR.forms
 obtain ⟨X0, h0⟩ : ∃ X, w.alloc (.cells #[.int .i64 x.k, .int .i64 x.n, .string x.s, .slice a1 n1 c1, .slice a2 n2 c2, .slice a3 n3 c3] 25) = X := ⟨_, rfl⟩
 obtain ⟨X1, h1⟩ : ∃ X, X0.alloc (.cells #[.nilFunc] 27) = X := ⟨_, rfl⟩
 obtain ⟨X2, h2⟩ : ∃ X, X1.alloc (.cells #[.int .i64 0] 3) = X := ⟨_, rfl⟩
 obtain ⟨X3, h3⟩ : ∃ X, X2.alloc (.cells #[.int .i64 0] 3) = X := ⟨_, rfl⟩
 obtain ⟨X4, h4⟩ : ∃ X, X3.alloc (.cells #[.bool false] 4) = X := ⟨_, rfl⟩
 obtain ⟨X5, h5⟩ : ∃ X, X4.alloc (.cells #[.nilFunc] 89) = X := ⟨_, rfl⟩
 have z0 : X0.heap.size = w.heap.size + 1 := by rw [← h0, World.size_alloc]
 have z1 : X1.heap.size = w.heap.size + 1 + 1 := by rw [← h1, World.size_alloc, z0]
 have z2 : X2.heap.size = w.heap.size + 1 + 1 + 1 := by rw [← h2, World.size_alloc, z1]
 have z3 : X3.heap.size = w.heap.size + 1 + 1 + 1 + 1 := by rw [← h3, World.size_alloc, z2]
 have z4 : X4.heap.size = w.heap.size + 1 + 1 + 1 + 1 + 1 := by rw [← h4, World.size_alloc, z3]
 have z5 : X5.heap.size = w.heap.size + 1 + 1 + 1 + 1 + 1 + 1 := by rw [← h5, World.size_alloc, z4]
 have b0 : Below w.heap.size w X0 := by rw [← h0]; exact (Below.refl _ _).alloc (Nat.le_refl _) _
 have b1 : Below X0.heap.size X0 X1 := by rw [← h1]; exact (Below.refl _ _).alloc (Nat.le_refl _) _
 have b2 : Below X1.heap.size X1 X2 := by rw [← h2]; exact (Below.refl _ _).alloc (Nat.le_refl _) _
 have b3 : Below X2.heap.size X2 X3 := by rw [← h3]; exact (Below.refl _ _).alloc (Nat.le_refl _) _
 have b4 : Below X3.heap.size X3 X4 := by rw [← h4]; exact (Below.refl _ _).alloc (Nat.le_refl _) _
 have b5 : Below X4.heap.size X4 X5 := by rw [← h5]; exact (Below.refl _ _).alloc (Nat.le_refl _) _
 have n1' : X1.cell? ⟨w.heap.size + 1, 0, none⟩ = some .nilFunc := by rw [← h1, ← z0]; exact Dt.one_new _ _ _
 have n2' : X2.cell? ⟨w.heap.size + 1 + 1, 0, none⟩ = some (.int .i64 0) := by rw [← h2, ← z1]; exact Dt.one_new _ _ _
 have n3' : X3.cell? ⟨w.heap.size + 1 + 1 + 1, 0, none⟩ = some (.int .i64 0) := by rw [← h3, ← z2]; exact Dt.one_new _ _ _
 have n4' : X4.cell? ⟨w.heap.size + 1 + 1 + 1 + 1, 0, none⟩ = some (.bool false) := by rw [← h4, ← z3]; exact Dt.one_new _ _ _
 have n5' : X5.cell? ⟨w.heap.size + 1 + 1 + 1 + 1 + 1, 0, none⟩ = some .nilFunc := by rw [← h5, ← z4]; exact Dt.one_new _ _ _
 have m2 : X2.frozen? ⟨w.heap.size + 1 + 1, 0, none⟩ = false := by rw [← h2, ← z1]; exact Dt.frz_new _ _ _ _
 have m3 : X3.frozen? ⟨w.heap.size + 1 + 1 + 1, 0, none⟩ = false := by rw [← h3, ← z2]; exact Dt.frz_new _ _ _ _
 have m5 : X5.frozen? ⟨w.heap.size + 1 + 1 + 1 + 1 + 1, 0, none⟩ = false := by rw [← h5, ← z4]; exact Dt.frz_new _ _ _ _
 have b25 := (b3.trans (b4.mono (by omega))).trans (b5.mono (by omega))
 have b35 := b4.trans (b5.mono (by omega))
 have b15 := b2.trans (b25.mono (by omega))
 have hB5 : Below w.heap.size w X5 := ((b0.trans (b1.mono (by omega))).trans (b2.mono (by omega))).trans (b25.mono (by omega))
 have b05 : Below X0.heap.size X0 X5 := (b1.trans (b15.mono (by omega)))
 have p1 := (b15.cell (p := ⟨w.heap.size + 1, 0, none⟩) (by simp; omega)).trans n1'
 have p2 := (b25.cell (p := ⟨w.heap.size + 1 + 1, 0, none⟩) (by simp; omega)).trans n2'
 have p3 := (b35.cell (p := ⟨w.heap.size + 1 + 1 + 1, 0, none⟩) (by simp; omega)).trans n3'
 have p4 := (b5.cell (p := ⟨w.heap.size + 1 + 1 + 1 + 1, 0, none⟩) (by simp; omega)).trans n4'
 have q2 := (b25.frozen (p := ⟨w.heap.size + 1 + 1, 0, none⟩) (by simp; omega)).trans m2
 have q3 := (b35.frozen (p := ⟨w.heap.size + 1 + 1 + 1, 0, none⟩) (by simp; omega)).trans m3
 have hsix := Dt.six_new w x.k x.n x.s (.slice a1 n1 c1) (.slice a2 n2 c2) (.slice a3 n3 c3) 25
 rw [h0] at hsix
 have hlt0 : w.heap.size < X0.heap.size := by omega
 have d0 : X5.cell? ⟨w.heap.size, 0, none⟩ = some (.int .i64 x.k) := (b05.cell (p := ⟨w.heap.size, 0, none⟩) hlt0).trans (hsix 0 (by omega))
 have d1 : X5.cell? ⟨w.heap.size, 1, none⟩ = some (.int .i64 x.n) := (b05.cell (p := ⟨w.heap.size, 1, none⟩) hlt0).trans (hsix 1 (by omega))
 have d2 : X5.cell? ⟨w.heap.size, 2, none⟩ = some (.string x.s) := (b05.cell (p := ⟨w.heap.size, 2, none⟩) hlt0).trans (hsix 2 (by omega))
 have d3 : X5.cell? ⟨w.heap.size, 3, none⟩ = some (.slice a1 n1 c1) := (b05.cell (p := ⟨w.heap.size, 3, none⟩) hlt0).trans (hsix 3 (by omega))
 have d4 : X5.cell? ⟨w.heap.size, 4, none⟩ = some (.slice a2 n2 c2) := (b05.cell (p := ⟨w.heap.size, 4, none⟩) hlt0).trans (hsix 4 (by omega))
 have d5 : X5.cell? ⟨w.heap.size, 5, none⟩ = some (.slice a3 n3 c3) := (b05.cell (p := ⟨w.heap.size, 5, none⟩) hlt0).trans (hsix 5 (by omega))
 have hall : (((((w.alloc (.cells #[.int .i64 x.k, .int .i64 x.n, .string x.s, .slice a1 n1 c1, .slice a2 n2 c2, .slice a3 n3 c3] 25)).alloc (.cells #[.nilFunc] 27)).alloc (.cells #[.int .i64 0] 3)).alloc (.cells #[.int .i64 0] 3)).alloc (.cells #[.bool false] 4)).alloc (.cells #[.nilFunc] 89) = X5 := by rw [h0, h1, h2, h3, h4, h5]
 obtain ⟨X6, h6⟩ : ∃ X6, X5.setCell ⟨w.heap.size + 1 + 1 + 1 + 1 + 1, 0, none⟩ (Dt.downF (w.heap.size + 1 + 1) (w.heap.size + 1 + 1 + 1) (w.heap.size + 1) (w.heap.size + 1 + 1 + 1 + 1) (w.heap.size + 1 + 1 + 1 + 1 + 1)) = X6 := ⟨_, rfl⟩
 have hne : ∀ {y}, y ≠ w.heap.size + 1 + 1 + 1 + 1 + 1 → ∀ j, X6.cell? ⟨y, j, none⟩ = X5.cell? ⟨y, j, none⟩ := fun hy j => by
  rw [← h6]; exact World.cell?_setCell_other _ _ _ _ (by intro e; cases e; exact hy rfl)
 have hE : Dt.Env X6 (w.heap.size + 1 + 1) (w.heap.size + 1 + 1 + 1) (w.heap.size + 1) (w.heap.size + 1 + 1 + 1 + 1) (w.heap.size + 1 + 1 + 1 + 1 + 1) 0 0 :=
  ⟨(hne (by omega) 0).trans p2, (hne (by omega) 0).trans p3, (hne (by omega) 0).trans p1, (hne (by omega) 0).trans p4, by rw [← h6]; exact World.cell?_setCell_same' _ _ _ (by rw [n5']; rfl), by rw [← h6, World.frozen?_setCell]; exact q2, by rw [← h6, World.frozen?_setCell]; exact q3⟩
 have hB6 : Below w.heap.size w X6 := by rw [← h6]; exact hB5.setCell (p := ⟨w.heap.size + 1 + 1 + 1 + 1 + 1, 0, none⟩) (by simp; omega) _
 have hs6 : X6.heap.size = w.heap.size + 1 + 1 + 1 + 1 + 1 + 1 := by rw [← h6]; simpa [World.setCell] using z5
 have hdn := Dt.down_any x (fun k => k < w.heap.size) 1 0 0 _ _ _ X6 _ _ _ _ _ hW ((Dt.Rep.mono (fun _ _ h => h) x hR).below hB6) (fun k hk h => by rcases h with h | h <;> omega) hE ⟨by omega, by omega, by omega, by omega, by omega, by omega, by omega⟩ (by omega) (by omega)
 rw [show (((1 : Nat)) : Int) = 1 from rfl] at hdn
 have eu := hE.cu
 have HDN := Lib.hid hdn
 have HB := Lib.hid hB6
 have HS := Lib.hid hs6
 have e0 := (hne (y := w.heap.size) (by omega) 0).trans d0
 have e1 := (hne (y := w.heap.size) (by omega) 1).trans d1
 have e2 := (hne (y := w.heap.size) (by omega) 2).trans d2
 have e3 := (hne (y := w.heap.size) (by omega) 3).trans d3
 have e4 := (hne (y := w.heap.size) (by omega) 4).trans d4
 have e5 := (hne (y := w.heap.size) (by omega) 5).trans d5
 clear n1' n2' n3' n4' m2 m3 b0 b1 b2 b3 b4 b5 b25 b35 b15 b05 h0 h1 h2 h3 h4 h5 z0 z1 z2 z3 z4 z5 hsix hE hB6 hB5 hs6 hdn hne p1 p2 p3 p4 q2 q3 d0 d1 d2 d3 d4 d5 hlt0 hR hW
 obtain ⟨R, hRR⟩ : ∃ R, R = Dt.chk x 1 0 := ⟨_, rfl⟩
 have HRR : Hid (Dt.check x = R.1) := by show _ = _; rw [hRR]; rfl
 rw [← hRR] at HDN
 rw [HRR.out]
 clear hRR
 go_enter Try.func31, Try.ntmps31
 go_wp2_with fail
 refine HDN.out.mono ?_
 rintro e w7 ⟨rfl, ⟨b', hE7⟩, hK⟩
 have HK := Lib.hid (HB.out.trans (hK.to_below (n := w.heap.size) (fun k hk => by rcases hk with h | h <;> omega) (by have := HS.out; omega)))
 have ca := hE7.cp
 have cb := hE7.cd
 clear hK hE7 HDN eu e0 e1 e2 e3 e4 e5 n5' m5 hall h6
 go_wp2
 go_quiet (fail)
 go_wp2
 refine bodyPost_ret (v := .tuple #[.int .i64 (R.2 : Int), .int .i64 b', .int .i64 R.1]) (by simp [results, Try.results31, go_sem]) rfl ?_
 exact ⟨⟨_, _, rfl⟩, ⟨HK.out.os, HK.out.tape, HK.out.output, HK.out.size, HK.out.block⟩⟩
set_option maxRecDepth 100000 in
set_option maxHeartbeats 4000000 in
theorem dCheck_any {F : Nat → Prop} (x : Dt.D) (vm vl vt : Value) (w : World) (hW : Dt.Wf x) (hR : Dt.Rep F w x vm vl vt) :
  Calls Try.prog 19 #[.agg #[.int .i64 x.k, .int .i64 x.n, .string x.s, vm, vl, vt]] w fun e w' => e = .returned (.int .i64 (Dt.check x)) ∧ Below w.heap.size w w' := by
 have hb0 : Below w.heap.size w (w.alloc (.cells #[.int .i64 x.k, .int .i64 x.n, .string x.s, vm, vl, vt] 25)) := (Below.refl _ _).alloc (Nat.le_refl _) _
 have hw := walkD_nil x vm vl vt _ hW (hR.below hb0)
 obtain ⟨R, hRR⟩ : ∃ R, Dt.check x = R := ⟨_, rfl⟩
 rw [hRR] at hw ⊢
 clear hRR hR hW
 go_enter Try.func19, Try.ntmps19
 go_wp2_with fail
 refine hw.mono ?_
 rintro e w1 ⟨⟨a, b, rfl⟩, hb1⟩
 clear hw
 go_wp2
 go_ret
 exact ⟨rfl, hb0.trans (hb1.mono hb0.size)⟩
end Go.Proofs.Ytcopdfihaheplaa

namespace Go.Proofs.Ytcopdfihaheplaa
open Go.RowKit
set_option maxRecDepth 100000 in
theorem rFixIn_any (n : Int) (w : World) : Calls Try.prog 93 #[.int .i64 n] w fun e w' => e = .returned (.bool (Dt.isFix n)) ∧ w = w' := by
 by_cases h1 : -1152921504606846976 ≤ n
 ·by_cases h2 : n ≤ 1152921504606846975
  ·have HE : Hid (Dt.isFix n = true) := by show _ = _; unfold Dt.isFix; rw [decide_eq_true h1, decide_eq_true h2]; rfl
   rw [HE.out]
   go_enter Try.func93, Try.ntmps93
   go_wp2
   go_ret
   exact ⟨by simp_all, rfl⟩
  ·have HE : Hid (Dt.isFix n = false) := by show _ = _; unfold Dt.isFix; rw [decide_eq_false h2]; simp
   rw [HE.out]
   go_enter Try.func93, Try.ntmps93
   go_wp2
   go_ret
   exact ⟨by simp_all, rfl⟩
 ·have HE : Hid (Dt.isFix n = false) := by show _ = _; unfold Dt.isFix; rw [decide_eq_false h1]; rfl
  rw [HE.out]
  go_enter Try.func93, Try.ntmps93
  go_wp2
  go_ret
  exact ⟨by simp_all, rfl⟩
namespace Dt
theorem len0 {α : Type} (l : List α) : ((l.length : Int) == 0) = l.isEmpty := by cases l <;> simp <;> omega
end Dt
set_option maxRecDepth 100000 in
set_option maxHeartbeats 8000000 in
theorem alone1_x {F : Nat → Prop} (n : Int) (s : ByteArray) (m : List Int) (l t : List Dt.D) (vm vl vt : Value) (w : World) (hW : Dt.Wf (.mk 1 n s m l t)) (h : Dt.Rep F w (.mk 1 n s m l t) vm vl vt) :
  Calls Try.prog 70 #[.agg #[.int .i64 1, .int .i64 n, .string s, vm, vl, vt]] w fun e w' => e = .returned (.bool (Dt.single (.mk 1 n s m l t))) ∧ Below w.heap.size w w' := by
 rw [Dt.Wf] at hW
 rw [Dt.Rep] at h
 obtain ⟨hn, hsz, hlm, hll, hlt, _, _⟩ := hW
 obtain ⟨hm, ⟨al, cl, rfl, hcl, hl⟩, ⟨at_, ct, rfl, hct, ht⟩⟩ := h
 have hm0 := hm
 obtain ⟨am, cm, rfl, hcm, hmc⟩ := hm
 have e1 : s.toList.isEmpty = s.data.toList.isEmpty := by rw [ByteArray.toList_eq]
 have e2 := Dt.len0 m
 have e3 := Dt.len0 l
 have e4 := Dt.len0 t
 obtain ⟨R, hR⟩ : ∃ R, R = Dt.single (.mk 1 n s m l t) := ⟨_, rfl⟩
 rw [← hR]
 have hi := fun w => rFixIn_any n w
 obtain ⟨I, hI⟩ : ∃ I, I = Dt.isFix n := ⟨_, rfl⟩
 rw [← hI] at hi
 obtain ⟨E1, h1⟩ : ∃ E, E = s.data.toList.isEmpty := ⟨_, rfl⟩
 obtain ⟨E2, h2⟩ : ∃ E, E = m.isEmpty := ⟨_, rfl⟩
 obtain ⟨E3, h3⟩ : ∃ E, E = l.isEmpty := ⟨_, rfl⟩
 obtain ⟨E4, h4⟩ : ∃ E, E = t.isEmpty := ⟨_, rfl⟩
 rw [← h1] at e1
 rw [← h2] at e2
 rw [← h3] at e3
 rw [← h4] at e4
 have hR' : R = (Dt.isFix n && s.data.toList.isEmpty && m.isEmpty && l.isEmpty && t.isEmpty) := hR
 rw [← h1, ← h2, ← h3, ← h4, ← hI] at hR'
 have HR := Lib.hid hR'
 clear hR'
 clear hR hI h1 h2 h3 h4 hl ht hm0 hmc
 go_enter Try.func70, Try.ntmps70
 go_wp2_with (go_at_call 93; refine (hi _).mono ?_; rintro e w1 ⟨rfl, rfl⟩)
 all_goals
  go_ret
  exact ⟨by rw [HR.out]; first | (simp_all; done) | (simp_all; intros; omega), (Below.refl _ _).alloc (Nat.le_refl _) _⟩
set_option maxRecDepth 100000 in
set_option maxHeartbeats 8000000 in
theorem alone2_x {F : Nat → Prop} (n : Int) (s : ByteArray) (m : List Int) (l t : List Dt.D) (vm vl vt : Value) (w : World) (hW : Dt.Wf (.mk 2 n s m l t)) (h : Dt.Rep F w (.mk 2 n s m l t) vm vl vt) :
  Calls Try.prog 70 #[.agg #[.int .i64 2, .int .i64 n, .string s, vm, vl, vt]] w fun e w' => e = .returned (.bool (Dt.single (.mk 2 n s m l t))) ∧ Below w.heap.size w w' := by
 rw [Dt.Wf] at hW
 rw [Dt.Rep] at h
 obtain ⟨hn, hsz, hlm, hll, hlt, _, _⟩ := hW
 obtain ⟨hm, ⟨al, cl, rfl, hcl, hl⟩, ⟨at_, ct, rfl, hct, ht⟩⟩ := h
 have hm0 := hm
 obtain ⟨am, cm, rfl, hcm, hmc⟩ := hm
 have e1 : s.toList.isEmpty = s.data.toList.isEmpty := by rw [ByteArray.toList_eq]
 have e2 := Dt.len0 m
 have e3 := Dt.len0 l
 have e4 := Dt.len0 t
 obtain ⟨R, hR⟩ : ∃ R, R = Dt.single (.mk 2 n s m l t) := ⟨_, rfl⟩
 rw [← hR]
 obtain ⟨E1, h1⟩ : ∃ E, E = s.data.toList.isEmpty := ⟨_, rfl⟩
 obtain ⟨E2, h2⟩ : ∃ E, E = m.isEmpty := ⟨_, rfl⟩
 obtain ⟨E3, h3⟩ : ∃ E, E = l.isEmpty := ⟨_, rfl⟩
 obtain ⟨E4, h4⟩ : ∃ E, E = t.isEmpty := ⟨_, rfl⟩
 rw [← h1] at e1
 rw [← h2] at e2
 rw [← h3] at e3
 rw [← h4] at e4
 have hR' : R = (decide (0 ≤ n ∧ n < 2) && s.data.toList.isEmpty && m.isEmpty && l.isEmpty && t.isEmpty) := hR
 rw [← h1, ← h2, ← h3, ← h4] at hR'
 have HR := Lib.hid hR'
 clear hR'
 clear hR h1 h2 h3 h4 hl ht hm0 hmc
 go_enter Try.func70, Try.ntmps70
 go_wp2
 all_goals
  go_ret
  exact ⟨by rw [HR.out]; first | (simp_all; done) | (simp_all; intros; omega), (Below.refl _ _).alloc (Nat.le_refl _) _⟩
set_option maxRecDepth 100000 in
set_option maxHeartbeats 8000000 in
theorem alone3_x {F : Nat → Prop} (n : Int) (s : ByteArray) (m : List Int) (l t : List Dt.D) (vm vl vt : Value) (w : World) (hW : Dt.Wf (.mk 3 n s m l t)) (h : Dt.Rep F w (.mk 3 n s m l t) vm vl vt) :
  Calls Try.prog 70 #[.agg #[.int .i64 3, .int .i64 n, .string s, vm, vl, vt]] w fun e w' => e = .returned (.bool (Dt.single (.mk 3 n s m l t))) ∧ Below w.heap.size w w' := by
 rw [Dt.Wf] at hW
 rw [Dt.Rep] at h
 obtain ⟨hn, hsz, hlm, hll, hlt, _, _⟩ := hW
 obtain ⟨hm, ⟨al, cl, rfl, hcl, hl⟩, ⟨at_, ct, rfl, hct, ht⟩⟩ := h
 have hm0 := hm
 obtain ⟨am, cm, rfl, hcm, hmc⟩ := hm
 have e1 : s.toList.isEmpty = s.data.toList.isEmpty := by rw [ByteArray.toList_eq]
 have e2 := Dt.len0 m
 have e3 := Dt.len0 l
 have e4 := Dt.len0 t
 obtain ⟨R, hR⟩ : ∃ R, R = Dt.single (.mk 3 n s m l t) := ⟨_, rfl⟩
 rw [← hR]
 obtain ⟨E1, h1⟩ : ∃ E, E = s.data.toList.isEmpty := ⟨_, rfl⟩
 obtain ⟨E2, h2⟩ : ∃ E, E = m.isEmpty := ⟨_, rfl⟩
 obtain ⟨E3, h3⟩ : ∃ E, E = l.isEmpty := ⟨_, rfl⟩
 obtain ⟨E4, h4⟩ : ∃ E, E = t.isEmpty := ⟨_, rfl⟩
 rw [← h1] at e1
 rw [← h2] at e2
 rw [← h3] at e3
 rw [← h4] at e4
 have hR' : R = (decide (0 ≤ n ∧ n < 128) && s.data.toList.isEmpty && m.isEmpty && l.isEmpty && t.isEmpty) := hR
 rw [← h1, ← h2, ← h3, ← h4] at hR'
 have HR := Lib.hid hR'
 clear hR'
 clear hR h1 h2 h3 h4 hl ht hm0 hmc
 go_enter Try.func70, Try.ntmps70
 go_wp2
 all_goals
  go_ret
  exact ⟨by rw [HR.out]; first | (simp_all; done) | (simp_all; intros; omega), (Below.refl _ _).alloc (Nat.le_refl _) _⟩
set_option maxRecDepth 100000 in
set_option maxHeartbeats 8000000 in
theorem alone6_x {F : Nat → Prop} (n : Int) (s : ByteArray) (m : List Int) (l t : List Dt.D) (vm vl vt : Value) (w : World) (hW : Dt.Wf (.mk 6 n s m l t)) (h : Dt.Rep F w (.mk 6 n s m l t) vm vl vt) :
  Calls Try.prog 70 #[.agg #[.int .i64 6, .int .i64 n, .string s, vm, vl, vt]] w fun e w' => e = .returned (.bool (Dt.single (.mk 6 n s m l t))) ∧ Below w.heap.size w w' := by
 rw [Dt.Wf] at hW
 rw [Dt.Rep] at h
 obtain ⟨hn, hsz, hlm, hll, hlt, _, _⟩ := hW
 obtain ⟨hm, ⟨al, cl, rfl, hcl, hl⟩, ⟨at_, ct, rfl, hct, ht⟩⟩ := h
 have hm0 := hm
 obtain ⟨am, cm, rfl, hcm, hmc⟩ := hm
 have e1 : s.toList.isEmpty = s.data.toList.isEmpty := by rw [ByteArray.toList_eq]
 have e2 := Dt.len0 m
 have e3 := Dt.len0 l
 have e4 := Dt.len0 t
 obtain ⟨R, hR⟩ : ∃ R, R = Dt.single (.mk 6 n s m l t) := ⟨_, rfl⟩
 rw [← hR]
 obtain ⟨E1, h1⟩ : ∃ E, E = s.data.toList.isEmpty := ⟨_, rfl⟩
 obtain ⟨E2, h2⟩ : ∃ E, E = m.isEmpty := ⟨_, rfl⟩
 obtain ⟨E3, h3⟩ : ∃ E, E = l.isEmpty := ⟨_, rfl⟩
 obtain ⟨E4, h4⟩ : ∃ E, E = t.isEmpty := ⟨_, rfl⟩
 rw [← h1] at e1
 rw [← h2] at e2
 rw [← h3] at e3
 rw [← h4] at e4
 have e0 : (n == 0) = decide (n = 0) := Bool.beq_eq_decide_eq _ _
 obtain ⟨N, hN⟩ : ∃ N, N = decide (n = 0) := ⟨_, rfl⟩
 rw [← hN] at e0
 have hR' : R = (decide (n = 0) && s.data.toList.isEmpty && m.isEmpty && t.isEmpty) := hR
 rw [← h1, ← h2, ← h4, ← hN] at hR'
 have HR := Lib.hid hR'
 clear hR' hR h1 h2 h3 h4 hN hl ht hm0 hmc
 go_enter Try.func70, Try.ntmps70
 go_wp2
 all_goals
  go_ret
  exact ⟨by rw [HR.out]; first | (simp_all; done) | (simp_all; intros; omega), (Below.refl _ _).alloc (Nat.le_refl _) _⟩
set_option maxRecDepth 100000 in
set_option maxHeartbeats 8000000 in
theorem alone8_x {F : Nat → Prop} (n : Int) (s : ByteArray) (m : List Int) (l t : List Dt.D) (vm vl vt : Value) (w : World) (hW : Dt.Wf (.mk 8 n s m l t)) (h : Dt.Rep F w (.mk 8 n s m l t) vm vl vt) :
  Calls Try.prog 70 #[.agg #[.int .i64 8, .int .i64 n, .string s, vm, vl, vt]] w fun e w' => e = .returned (.bool (Dt.single (.mk 8 n s m l t))) ∧ Below w.heap.size w w' := by
 rw [Dt.Wf] at hW
 rw [Dt.Rep] at h
 obtain ⟨hn, hsz, hlm, hll, hlt, _, _⟩ := hW
 obtain ⟨hm, ⟨al, cl, rfl, hcl, hl⟩, ⟨at_, ct, rfl, hct, ht⟩⟩ := h
 have hm0 := hm
 obtain ⟨am, cm, rfl, hcm, hmc⟩ := hm
 have e1 : s.toList.isEmpty = s.data.toList.isEmpty := by rw [ByteArray.toList_eq]
 have e2 := Dt.len0 m
 have e3 := Dt.len0 l
 have e4 := Dt.len0 t
 obtain ⟨R, hR⟩ : ∃ R, R = Dt.single (.mk 8 n s m l t) := ⟨_, rfl⟩
 rw [← hR]
 obtain ⟨E1, h1⟩ : ∃ E, E = s.data.toList.isEmpty := ⟨_, rfl⟩
 obtain ⟨E2, h2⟩ : ∃ E, E = m.isEmpty := ⟨_, rfl⟩
 obtain ⟨E3, h3⟩ : ∃ E, E = l.isEmpty := ⟨_, rfl⟩
 obtain ⟨E4, h4⟩ : ∃ E, E = t.isEmpty := ⟨_, rfl⟩
 rw [← h1] at e1
 rw [← h2] at e2
 rw [← h3] at e3
 rw [← h4] at e4
 have e0 : (n == 0) = decide (n = 0) := Bool.beq_eq_decide_eq _ _
 obtain ⟨N, hN⟩ : ∃ N, N = decide (n = 0) := ⟨_, rfl⟩
 rw [← hN] at e0
 have hR' : R = (decide (n = 0) && s.data.toList.isEmpty && m.isEmpty && t.isEmpty) := hR
 rw [← h1, ← h2, ← h4, ← hN] at hR'
 have HR := Lib.hid hR'
 clear hR' hR h1 h2 h3 h4 hN hl ht hm0 hmc
 go_enter Try.func70, Try.ntmps70
 go_wp2
 all_goals
  go_ret
  exact ⟨by rw [HR.out]; first | (simp_all; done) | (simp_all; intros; omega), (Below.refl _ _).alloc (Nat.le_refl _) _⟩
set_option maxRecDepth 100000 in
theorem rSymbol_any (s : ByteArray) (w : World) (hs : s.size ≤ 140737488355328) :
  Calls Try.prog 59 #[.string s] w fun e w' => e = .returned (.bool (Lx.symbol s.data.toList)) ∧ w = w' := by
 by_cases h : s.size ≤ 1000000
 ·exact SymbolR_any s w h
 have hsz := Fx.size_toList s
 have hne : ∀ t : List UInt8, t.length ≤ 3 → (s.toList == t) = false := fun t ht => by
  rw [ByteArray.toList_eq, beq_eq_false_iff_ne]
  intro e
  rw [e] at hsz
  omega
 have hF : Hid (Lx.symbol s.data.toList = false) := by
  show _ = _
  unfold Lx.symbol
  have e1 := hne [43] (by simp)
  have e2 := hne [45] (by simp)
  have e3 := hne [46, 46, 46] (by simp)
  rw [ByteArray.toList_eq] at e1 e2 e3
  rw [e1, e2, e3, decide_eq_false (by omega)]
  simp
 rw [hF.out]
 have e1 := hne [43] (by simp)
 have e2 := hne [45] (by simp)
 have e3 := hne [46, 46, 46] (by simp)
 have e0 := hne [] (by simp)
 have e00 : s.toList.isEmpty = false := by
  rw [ByteArray.toList_eq]
  cases hh : s.data.toList with
  | nil => rw [hh] at hsz; simp at hsz; omega
  | cons a b => rfl
 have h32 : (32 : Int) < (s.size : Int) := by omega
 clear hF hne hsz
 go_enter Try.func59, Try.ntmps59
 go_wp2
 go_ret
 exact ⟨by simp_all, rfl⟩
set_option maxRecDepth 100000 in
set_option maxHeartbeats 8000000 in
theorem alone4_x {F : Nat → Prop} (n : Int) (s : ByteArray) (m : List Int) (l t : List Dt.D) (vm vl vt : Value) (w : World) (hW : Dt.Wf (.mk 4 n s m l t)) (h : Dt.Rep F w (.mk 4 n s m l t) vm vl vt) :
  Calls Try.prog 70 #[.agg #[.int .i64 4, .int .i64 n, .string s, vm, vl, vt]] w fun e w' => e = .returned (.bool (Dt.single (.mk 4 n s m l t))) ∧ Below w.heap.size w w' := by
 rw [Dt.Wf] at hW
 rw [Dt.Rep] at h
 obtain ⟨hn, hsz, hlm, hll, hlt, _, _⟩ := hW
 obtain ⟨hm, ⟨al, cl, rfl, hcl, hl⟩, ⟨at_, ct, rfl, hct, ht⟩⟩ := h
 have hm0 := hm
 obtain ⟨am, cm, rfl, hcm, hmc⟩ := hm
 have e1 : s.toList.isEmpty = s.data.toList.isEmpty := by rw [ByteArray.toList_eq]
 have e2 := Dt.len0 m
 have e3 := Dt.len0 l
 have e4 := Dt.len0 t
 obtain ⟨R, hR⟩ : ∃ R, R = Dt.single (.mk 4 n s m l t) := ⟨_, rfl⟩
 rw [← hR]
 obtain ⟨E1, h1⟩ : ∃ E, E = s.data.toList.isEmpty := ⟨_, rfl⟩
 obtain ⟨E2, h2⟩ : ∃ E, E = m.isEmpty := ⟨_, rfl⟩
 obtain ⟨E3, h3⟩ : ∃ E, E = l.isEmpty := ⟨_, rfl⟩
 obtain ⟨E4, h4⟩ : ∃ E, E = t.isEmpty := ⟨_, rfl⟩
 rw [← h1] at e1
 rw [← h2] at e2
 rw [← h3] at e3
 rw [← h4] at e4
 have e0 : (n == 0) = decide (n = 0) := Bool.beq_eq_decide_eq _ _
 obtain ⟨N, hN⟩ : ∃ N, N = decide (n = 0) := ⟨_, rfl⟩
 rw [← hN] at e0
 have hR' : R = (Dt.ascii s && decide (n = 0) && m.isEmpty && l.isEmpty && t.isEmpty) := hR
 rw [← h2, ← h3, ← h4, ← hN] at hR'
 obtain ⟨A, hA⟩ : ∃ A, A = Dt.ascii s := ⟨_, rfl⟩
 rw [← hA] at hR'
 have HR := Lib.hid hR'
 have H0 : Hid (A = (decide (s.size ≤ 256) && (Lx.tl s 0).all (fun c => decide (c.toNat < 128)))) := by
  show _ = _
  rw [hA]
  unfold Dt.ascii Lx.tl
  rw [Fx.size_toList, List.drop_zero]
 clear hR' hR h1 h2 h3 h4 hN hA hl ht hm0 hmc
 go_enter Try.func70, Try.ntmps70
 go_wp2_with fail
 go_loop [8] (fun v => ∃ k : Nat, v = .int .i64 k ∧ k ≤ s.size ∧ k ≤ 256 ∧ Hid (A = (decide (s.size ≤ 256) && (Lx.tl s k).all (fun c => decide (c.toNat < 128))))) (fun v => s.size - (intOf v).toNat)
 case atStart => exact ⟨0, rfl, by omega, by omega, H0⟩
 case round =>
  obtain ⟨k, rfl, hk, hk2, HB⟩ := hrel
  by_cases hlt : k < s.size
  case neg =>
   have hge : (s.size : Int) ≤ (k : Int) := by omega
   have HT : Hid (A = true) := by show _ = _; rw [HB.out, Lx.tl_nil s k (by omega), decide_eq_true (by omega)]; rfl
   go_wp2
   all_goals
    go_ret
    exact ⟨by rw [HR.out, HT.out]; first | (simp_all; done) | (simp_all; intros; omega), (Below.refl _ _).alloc (Nat.le_refl _) _⟩
  have hlti : (k : Int) < (s.size : Int) := by omega
  have hr := HB.out
  by_cases h256 : k = 256
  ·rw [decide_eq_false (by omega), Bool.false_and] at hr
   have HT := Lib.hid hr
   have h2 : 256 ≤ (k : Int) := by omega
   clear hr h256
   go_wp2
   all_goals
    go_ret
    exact ⟨by rw [HR.out, HT.out]; first | (simp_all; done) | (simp_all; intros; omega), (Below.refl _ _).alloc (Nat.le_refl _) _⟩
  have h2 : ¬ (256 ≤ (k : Int)) := by omega
  rw [Lx.tl_cons s k hlt, List.all_cons] at hr
  by_cases hc : s[k].toNat < 128
  ·rw [decide_eq_true hc, Bool.true_and] at hr
   have HN := Lib.hid hr
   have hci : ¬ (127 < (s[k].toNat : Int)) := by omega
   clear hr hc
   go_wp2
   go_round
   case rel => exact ⟨k + 1, by simp, by omega, by omega, HN⟩
   case measure => simp [intOf]; omega
  ·rw [decide_eq_false hc, Bool.false_and, Bool.and_false] at hr
   have HT := Lib.hid hr
   have hci : 127 < (s[k].toNat : Int) := by omega
   clear hr hc
   go_wp2
   all_goals
    go_ret
    exact ⟨by rw [HR.out, HT.out]; first | (simp_all; done) | (simp_all; intros; omega), (Below.refl _ _).alloc (Nat.le_refl _) _⟩
set_option maxRecDepth 100000 in
set_option maxHeartbeats 8000000 in
theorem alone5_x {F : Nat → Prop} (n : Int) (s : ByteArray) (m : List Int) (l t : List Dt.D) (vm vl vt : Value) (w : World) (hW : Dt.Wf (.mk 5 n s m l t)) (h : Dt.Rep F w (.mk 5 n s m l t) vm vl vt) :
  Calls Try.prog 70 #[.agg #[.int .i64 5, .int .i64 n, .string s, vm, vl, vt]] w fun e w' => e = .returned (.bool (Dt.single (.mk 5 n s m l t))) ∧ Below w.heap.size w w' := by
 rw [Dt.Wf] at hW
 rw [Dt.Rep] at h
 obtain ⟨hn, hsz, hlm, hll, hlt, _, _⟩ := hW
 obtain ⟨hm, ⟨al, cl, rfl, hcl, hl⟩, ⟨at_, ct, rfl, hct, ht⟩⟩ := h
 have hm0 := hm
 obtain ⟨am, cm, rfl, hcm, hmc⟩ := hm
 have e1 : s.toList.isEmpty = s.data.toList.isEmpty := by rw [ByteArray.toList_eq]
 have e2 := Dt.len0 m
 have e3 := Dt.len0 l
 have e4 := Dt.len0 t
 obtain ⟨R, hR⟩ : ∃ R, R = Dt.single (.mk 5 n s m l t) := ⟨_, rfl⟩
 rw [← hR]
 obtain ⟨E1, h1⟩ : ∃ E, E = s.data.toList.isEmpty := ⟨_, rfl⟩
 obtain ⟨E2, h2⟩ : ∃ E, E = m.isEmpty := ⟨_, rfl⟩
 obtain ⟨E3, h3⟩ : ∃ E, E = l.isEmpty := ⟨_, rfl⟩
 obtain ⟨E4, h4⟩ : ∃ E, E = t.isEmpty := ⟨_, rfl⟩
 rw [← h1] at e1
 rw [← h2] at e2
 rw [← h3] at e3
 rw [← h4] at e4
 have e0 : (n == 0) = decide (n = 0) := Bool.beq_eq_decide_eq _ _
 obtain ⟨N, hN⟩ : ∃ N, N = decide (n = 0) := ⟨_, rfl⟩
 rw [← hN] at e0
 have hR' : R = (Lx.symbol s.data.toList && decide (m.length ≤ 16) && m.all Dt.mayMark && decide (n = 0) && l.isEmpty && t.isEmpty) := hR
 rw [← h3, ← h4, ← hN] at hR'
 have hi := fun w => rSymbol_any s w hsz
 obtain ⟨I, hI⟩ : ∃ I, I = Lx.symbol s.data.toList := ⟨_, rfl⟩
 rw [← hI] at hR' hi
 obtain ⟨A, hA⟩ : ∃ A, A = (decide (m.length ≤ 16) && m.all Dt.mayMark) := ⟨_, rfl⟩
 have HR : Hid (R = (I && A && N && E3 && E4)) := by show _ = _; rw [hR', hA]; simp [Bool.and_assoc]
 have H0 : Hid (A = (decide (m.length ≤ 16) && (m.drop 0).all Dt.mayMark)) := by show _ = _; rw [hA, List.drop_zero]
 have HC := Lib.hid hmc
 clear hR' hR h1 h2 h3 h4 hN hA hl ht hm0 hmc hI
 go_enter Try.func70, Try.ntmps70
 go_wp2_with fail
 go_loop [9] (fun v => ∃ k : Nat, v = .int .i64 k ∧ k ≤ m.length ∧ k ≤ 16 ∧ Hid (A = (decide (m.length ≤ 16) && (m.drop k).all Dt.mayMark))) (fun v => m.length - (intOf v).toNat)
 case atStart => exact ⟨0, rfl, by omega, by omega, H0⟩
 case round =>
  obtain ⟨k, rfl, hk, hk2, HB⟩ := hrel
  by_cases hlt : k < m.length
  case neg =>
   have hge : (m.length : Int) ≤ (k : Int) := by omega
   have HT : Hid (A = true) := by show _ = _; rw [HB.out, List.drop_eq_nil_of_le (by omega), decide_eq_true (by omega)]; rfl
   go_wp2_with (go_at_call 59; refine (hi _).mono ?_; rintro e w1 ⟨rfl, rfl⟩)
   all_goals
    go_ret
    exact ⟨by rw [HR.out, HT.out]; first | (simp_all; done) | (simp_all; intros; omega), (Below.refl _ _).alloc (Nat.le_refl _) _⟩
  have hlti : (k : Int) < (m.length : Int) := by omega
  have hr := HB.out
  by_cases h16 : k = 16
  ·rw [decide_eq_false (by omega), Bool.false_and] at hr
   have HT := Lib.hid hr
   have h2 : 16 ≤ (k : Int) := by omega
   clear hr h16
   go_wp2
   all_goals
    go_ret
    exact ⟨by rw [HR.out, HT.out]; first | (simp_all; done) | (simp_all; intros; omega), (Below.refl _ _).alloc (Nat.le_refl _) _⟩
  have h2 : ¬ (16 ≤ (k : Int)) := by omega
  rw [List.drop_eq_getElem_cons hlt, List.all_cons] at hr
  obtain ⟨b, o, rfl, _, hb, hcell⟩ := HC.out (by intro h0; rw [h0] at hlt; simp at hlt)
  have hk0 := hcell k hlt
  obtain ⟨y, hy⟩ : ∃ y, m[k] = y := ⟨_, rfl⟩
  rw [hy] at hk0 hr
  have hbw : Below w.heap.size w (w.alloc (.cells #[.int .i64 5, .int .i64 n, .string s, .slice (some ⟨b, o, none⟩) m.length cm, .slice al l.length cl, .slice at_ t.length ct] 25)) := (Below.refl _ _).alloc (Nat.le_refl _) _
  clear hcell hy
  by_cases y1 : 1 ≤ y
  ·by_cases y2 : y ≤ 1048576
   ·have y1' : ¬ y < 1 := by omega
    have y2' : ¬ 1048576 < y := by omega
    have hmy : Dt.mayMark y = true := by unfold Dt.mayMark; rw [decide_eq_true y1, decide_eq_true y2]; rfl
    rw [hmy, Bool.true_and] at hr
    have HN := Lib.hid hr
    clear hr hmy
    go_wp2
    go_round
    case rel => exact ⟨k + 1, by simp, by omega, by omega, HN⟩
    case measure => simp [intOf]; omega
   ·have y1' : ¬ y < 1 := by omega
    have y2' : 1048576 < y := by omega
    have hmy : Dt.mayMark y = false := by unfold Dt.mayMark; rw [decide_eq_false y2]; simp
    rw [hmy, Bool.false_and, Bool.and_false] at hr
    have HT := Lib.hid hr
    clear hr hmy
    go_wp2
    all_goals
     go_ret
     exact ⟨by rw [HR.out, HT.out]; first | (simp_all; done) | (simp_all; intros; omega), (Below.refl _ _).alloc (Nat.le_refl _) _⟩
  ·have y1' : y < 1 := by omega
   have hmy : Dt.mayMark y = false := by unfold Dt.mayMark; rw [decide_eq_false y1]; rfl
   rw [hmy, Bool.false_and, Bool.and_false] at hr
   have HT := Lib.hid hr
   clear hr hmy
   go_wp2
   all_goals
    go_ret
    exact ⟨by rw [HR.out, HT.out]; first | (simp_all; done) | (simp_all; intros; omega), (Below.refl _ _).alloc (Nat.le_refl _) _⟩
set_option maxRecDepth 100000 in
set_option maxHeartbeats 8000000 in
theorem alone7o_x {F : Nat → Prop} (n : Int) (s : ByteArray) (m : List Int) (l t : List Dt.D) (ht1 : t.length ≠ 1) (vm vl vt : Value) (w : World) (hW : Dt.Wf (.mk 7 n s m l t)) (h : Dt.Rep F w (.mk 7 n s m l t) vm vl vt) :
  Calls Try.prog 70 #[.agg #[.int .i64 7, .int .i64 n, .string s, vm, vl, vt]] w fun e w' => e = .returned (.bool (Dt.single (.mk 7 n s m l t))) ∧ Below w.heap.size w w' := by
 rw [Dt.Wf] at hW
 rw [Dt.Rep] at h
 obtain ⟨hn, hsz, hlm, hll, hlt, _, _⟩ := hW
 obtain ⟨hm, ⟨al, cl, rfl, hcl, hl⟩, ⟨at_, ct, rfl, hct, ht⟩⟩ := h
 have hm0 := hm
 obtain ⟨am, cm, rfl, hcm, hmc⟩ := hm
 have e1 : s.toList.isEmpty = s.data.toList.isEmpty := by rw [ByteArray.toList_eq]
 have e2 := Dt.len0 m
 have e3 := Dt.len0 l
 have e4 := Dt.len0 t
 obtain ⟨R, hR⟩ : ∃ R, R = Dt.single (.mk 7 n s m l t) := ⟨_, rfl⟩
 rw [← hR]
 obtain ⟨E1, h1⟩ : ∃ E, E = s.data.toList.isEmpty := ⟨_, rfl⟩
 obtain ⟨E2, h2⟩ : ∃ E, E = m.isEmpty := ⟨_, rfl⟩
 obtain ⟨E3, h3⟩ : ∃ E, E = l.isEmpty := ⟨_, rfl⟩
 obtain ⟨E4, h4⟩ : ∃ E, E = t.isEmpty := ⟨_, rfl⟩
 rw [← h1] at e1
 rw [← h2] at e2
 rw [← h3] at e3
 rw [← h4] at e4
 have e0 : (n == 0) = decide (n = 0) := Bool.beq_eq_decide_eq _ _
 obtain ⟨N, hN⟩ : ∃ N, N = decide (n = 0) := ⟨_, rfl⟩
 rw [← hN] at e0
 have HR : Hid (R = false) := by
  show _ = _
  rw [hR]
  unfold Dt.single
  cases t with
  | nil => simp
  | cons x r => cases r with
   | nil => simp at ht1
   | cons y r => simp
 have hl1 : ((t.length : Int) == 1) = false := by simp; omega
 clear hR h1 h2 h3 h4 hN hl ht hm0 hmc
 go_enter Try.func70, Try.ntmps70
 go_wp2
 all_goals
  go_ret
  exact ⟨by rw [HR.out]; first | (simp_all; done) | (simp_all; intros; omega), (Below.refl _ _).alloc (Nat.le_refl _) _⟩
set_option maxRecDepth 100000 in
set_option maxHeartbeats 8000000 in
theorem alone7i_x {F : Nat → Prop} (n : Int) (s : ByteArray) (m : List Int) (l : List Dt.D) (x : Dt.D) (vm vl vt : Value) (w : World) (hW : Dt.Wf (.mk 7 n s m l [x])) (h : Dt.Rep F w (.mk 7 n s m l [x]) vm vl vt) :
  Calls Try.prog 70 #[.agg #[.int .i64 7, .int .i64 n, .string s, vm, vl, vt]] w fun e w' => e = .returned (.bool (Dt.single (.mk 7 n s m l [x]))) ∧ Below w.heap.size w w' := by
 rw [Dt.Wf] at hW
 rw [Dt.Rep] at h
 obtain ⟨hn, hsz, hlm, hll, hlt, _, _⟩ := hW
 obtain ⟨hm, ⟨al, cl, rfl, hcl, hl⟩, ⟨at_, ct, rfl, hct, ht⟩⟩ := h
 have hm0 := hm
 obtain ⟨am, cm, rfl, hcm, hmc⟩ := hm
 have e1 : s.toList.isEmpty = s.data.toList.isEmpty := by rw [ByteArray.toList_eq]
 have e2 := Dt.len0 m
 have e3 := Dt.len0 l
 have e4 := Dt.len0 [x]
 obtain ⟨R, hR⟩ : ∃ R, R = Dt.single (.mk 7 n s m l [x]) := ⟨_, rfl⟩
 rw [← hR]
 obtain ⟨E1, h1⟩ : ∃ E, E = s.data.toList.isEmpty := ⟨_, rfl⟩
 obtain ⟨E2, h2⟩ : ∃ E, E = m.isEmpty := ⟨_, rfl⟩
 obtain ⟨E3, h3⟩ : ∃ E, E = l.isEmpty := ⟨_, rfl⟩
 obtain ⟨E4, h4⟩ : ∃ E, E = ([x] : List Dt.D).isEmpty := ⟨_, rfl⟩
 rw [← h1] at e1
 rw [← h2] at e2
 rw [← h3] at e3
 rw [← h4] at e4
 have e0 : (n == 0) = decide (n = 0) := Bool.beq_eq_decide_eq _ _
 obtain ⟨N, hN⟩ : ∃ N, N = decide (n = 0) := ⟨_, rfl⟩
 rw [← hN] at e0
 have hR' : R = (decide (n = 0) && s.data.toList.isEmpty && m.isEmpty && !l.isEmpty && decide (x.k ≠ 6 ∧ x.k ≠ 7)) := hR
 rw [← h1, ← h2, ← h3, ← hN] at hR'
 obtain ⟨bt, ot, rfl, _, hbt, hrt⟩ := ht (by simp)
 rw [Dt.Reps] at hrt
 obtain ⟨⟨_, _, _, hs0, _⟩, _⟩ := hrt
 have c0 := hs0.c0
 obtain ⟨xk, hxk⟩ : ∃ xk, xk = x.k := ⟨_, rfl⟩
 rw [← hxk] at hR' c0
 have HR := Lib.hid hR'
 clear hR' hR h1 h2 h3 h4 hN hl ht hm0 hmc hs0 hxk
 go_enter Try.func70, Try.ntmps70
 go_wp2
 all_goals
  go_ret
  exact ⟨by rw [HR.out]; first | (simp_all; done) | (simp_all; intros; omega) | (simp_all; by_cases hx7 : xk = 7 <;> simp_all), (Below.refl _ _).alloc (Nat.le_refl _) _⟩
set_option maxRecDepth 100000 in
set_option maxHeartbeats 4000000 in
theorem aloneX_x {F : Nat → Prop} (k n : Int) (s : ByteArray) (m : List Int) (l t : List Dt.D) (vm vl vt : Value) (w : World) (h : Dt.Rep F w (.mk k n s m l t) vm vl vt) (hk : k ≠ 1 ∧ k ≠ 2 ∧ k ≠ 3 ∧ k ≠ 4 ∧ k ≠ 5 ∧ k ≠ 6 ∧ k ≠ 7 ∧ k ≠ 8) :
  Calls Try.prog 70 #[.agg #[.int .i64 k, .int .i64 n, .string s, vm, vl, vt]] w fun e w' => e = .returned (.bool (Dt.single (.mk k n s m l t))) ∧ Below w.heap.size w w' := by
 rw [Dt.Rep] at h
 obtain ⟨⟨am, cm, rfl, hcm, _⟩, ⟨al, cl, rfl, hcl, hl⟩, ⟨at_, ct, rfl, hct, ht⟩⟩ := h
 obtain ⟨k1, k2, k3, k4, k5, k6, k7, k8⟩ := hk
 have HR : Hid (Dt.single (.mk k n s m l t) = false) := by
  show _ = _
  unfold Dt.single
  simp [k1, k2, k3, k4, k5, k6, k7, k8]
 have b1 : (k == 1) = false := by simpa using k1
 have b2 : (k == 2) = false := by simpa using k2
 have b3 : (k == 3) = false := by simpa using k3
 have b4 : (k == 4) = false := by simpa using k4
 have b5 : (k == 5) = false := by simpa using k5
 have b6 : (k == 6) = false := by simpa using k6
 have b7 : (k == 7) = false := by simpa using k7
 have b8 : (k == 8) = false := by simpa using k8
 rw [HR.out]
 clear k1 k2 k3 k4 k5 k6 k7 k8 hl ht
 go_enter Try.func70, Try.ntmps70
 go_wp2
 go_ret
 exact ⟨rfl, (Below.refl _ _).alloc (Nat.le_refl _) _⟩
theorem alone_x {F : Nat → Prop} (d : Dt.D) (vm vl vt : Value) (w : World) (hW : Dt.Wf d) (h : Dt.Rep F w d vm vl vt) :
  Calls Try.prog 70 #[.agg #[.int .i64 d.k, .int .i64 d.n, .string d.s, vm, vl, vt]] w fun e w' => e = .returned (.bool (Dt.single d)) ∧ Below w.heap.size w w' := by
 cases d with
 | mk k n s m l t =>
  simp only [Dt.D.k, Dt.D.n, Dt.D.s]
  by_cases k1 : k = 1
  ·subst k1; exact alone1_x n s m l t vm vl vt w hW h
  by_cases k2 : k = 2
  ·subst k2; exact alone2_x n s m l t vm vl vt w hW h
  by_cases k3 : k = 3
  ·subst k3; exact alone3_x n s m l t vm vl vt w hW h
  by_cases k4 : k = 4
  ·subst k4; exact alone4_x n s m l t vm vl vt w hW h
  by_cases k5 : k = 5
  ·subst k5; exact alone5_x n s m l t vm vl vt w hW h
  by_cases k6 : k = 6
  ·subst k6; exact alone6_x n s m l t vm vl vt w hW h
  by_cases k8 : k = 8
  ·subst k8; exact alone8_x n s m l t vm vl vt w hW h
  by_cases k7 : k = 7
  ·subst k7
   by_cases ht : t.length = 1
   ·obtain ⟨x, rfl⟩ := List.length_eq_one_iff.1 ht
    exact alone7i_x n s m l x vm vl vt w hW h
   ·exact alone7o_x n s m l t ht vm vl vt w hW h
  exact aloneX_x k n s m l t vm vl vt w h ⟨k1, k2, k3, k4, k5, k6, k7, k8⟩
end Go.Proofs.Ytcopdfihaheplaa
namespace Go.Proofs.Ytcopdfihaheplaa
open Go.RowKit
namespace Ap
def Src (w : World) (src : Value) (m : Nat) (news : List Value) : Prop := (src = .slice none 0 0 ∧ m = 0 ∧ news = []) ∨ ∃ ad c, src = .slice (some ad) m c ∧ ∀ j u, news[j]? = some u → w.cell? (ad.add j) = some u
section
variable {P : Program} {w : World}
theorem run (t ty : TypeId) (base : Nat) (e : TypeId) (i : TypeInfo) (z : Value) (size bytes : Nat) (ht : P.underlying t = some (.slice e)) (hi : P.info? e = some i) (hz : i.zero = some z)
  (hsize : i.size = size) (hby : i.bytes = bytes) (hzs : z.cells.size = size) (hsz : 0 < size)
  (v : Value) (n : Nat) (xs : List Value) (hown : w.ownsRow base e size v n xs)
  (src : Value) (m : Nat) (news : List Value) (hs : Src w src m news) (hl : news.length = m * size) (h1 : ∀ u ∈ news, u.oneCell' = true)
  (h63 : n + m ≤ maxLen) (hbytes : (n + m) * bytes ≤ 140737488355328) (hbase : base ≤ w.heap.size) :
  ∃ v' w', (Builtin.append_ #[t, t] ty #[v, src]).run P w = .ok v' w' ∧ w'.ownsRow base e size v' (n + m) (xs ++ news) ∧ w.grownBy w' v.ownBlock ∧ (v'.ownBlock = v.ownBlock ∨ v'.ownBlock = some w.heap.size) := by
 rcases hs with ⟨rfl, rfl, rfl⟩ | ⟨ad, c, rfl, hnews⟩
 ·refine ⟨v, w, run_append_owned_none w base t ty e i size ht hi v n xs hown, by simpa using hown, ⟨rfl, rfl, rfl, Nat.le_refl _, fun _ _ _ => rfl⟩, .inl rfl⟩
 ·obtain ⟨v', w', hr, h2, h3, _, h5⟩ := run_append_own_at (P := P) w base t ty e i z size bytes ht hi hz hsize hby hzs hsz v n xs hown ad m c news hl hnews h1 h63 hbytes hbase
  exact ⟨v', w', hr, h2, h3, h5⟩
theorem wp {o : Oper} {a : Act} {K : Act → World → Prop} {Q : Exit → Act → World → Prop} (s x : Operand) (t : TypeId)
  (ho : o.op = .call { callee := .builtin .append, args := #[s, x], argTypes := #[t, t] })
  (base : Nat) (e : TypeId) (i : TypeInfo) (z : Value) (size bytes : Nat) (ht : P.underlying t = some (.slice e)) (hi : P.info? e = some i) (hz : i.zero = some z)
  (hsize : i.size = size) (hby : i.bytes = bytes) (hzs : z.cells.size = size) (hsz : 0 < size)
  (v : Value) (n : Nat) (xs : List Value) (hs : a.eval s = v) (hown : w.ownsRow base e size v n xs)
  (src : Value) (m : Nat) (news : List Value) (hx : a.eval x = src) (hsrc : Src w src m news) (hl : news.length = m * size) (h1 : ∀ u ∈ news, u.oneCell' = true)
  (h63 : n + m ≤ maxLen) (hbytes : (n + m) * bytes ≤ 140737488355328) (hbase : base ≤ w.heap.size)
  (h : ∀ v' w', w'.ownsRow base e size v' (n + m) (xs ++ news) → w.grownBy w' v.ownBlock → (v'.ownBlock = v.ownBlock ∨ v'.ownBlock = some w.heap.size) → K (a.put o.dst v') w') : o.wp P a w K Q := by
 obtain ⟨v', w', hr, h2, h3, h4⟩ := run (P := P) t o.type base e i z size bytes ht hi hz hsize hby hzs hsz v n xs hown src m news hsrc hl h1 h63 hbytes hbase
 unfold Oper.wp execOp
 simp only [ho, resolve, invoke, builtin, Sem.run_bind, Sem.run_pure, Result.andThen_ok, List.map_toArray, List.map_cons, List.map_nil, hs, hx, hr]
 exact h v' w' h2 h3 h4
theorem list {ops : Array Oper} {rest : List Oper} {o : Oper} {a : Act} {Q : Exit → Act → World → Prop} (hgd : o.guard = none) (s x : Operand) (t : TypeId)
  (ho : o.op = .call { callee := .builtin .append, args := #[s, x], argTypes := #[t, t] })
  (base : Nat) (e : TypeId) (i : TypeInfo) (z : Value) (size bytes : Nat) (ht : P.underlying t = some (.slice e)) (hi : P.info? e = some i) (hz : i.zero = some z)
  (hsize : i.size = size) (hby : i.bytes = bytes) (hzs : z.cells.size = size) (hsz : 0 < size)
  (v : Value) (n : Nat) (xs : List Value) (hs : a.eval s = v) (hown : w.ownsRow base e size v n xs)
  (src : Value) (m : Nat) (news : List Value) (hx : a.eval x = src) (hsrc : Src w src m news) (hl : news.length = m * size) (h1 : ∀ u ∈ news, u.oneCell' = true)
  (h63 : n + m ≤ maxLen) (hbytes : (n + m) * bytes ≤ 140737488355328) (hbase : base ≤ w.heap.size)
  (h : ∀ v' w', w'.ownsRow base e size v' (n + m) (xs ++ news) → w.grownBy w' v.ownBlock → (v'.ownBlock = v.ownBlock ∨ v'.ownBlock = some w.heap.size) → wpList P ops Q rest (a.put o.dst v') w') : wpList P ops Q (o :: rest) a w :=
 wpList_plain hgd fun _ hK => wp s x t ho base e i z size bytes ht hi hz hsize hby hzs hsz v n xs hs hown src m news hx hsrc hl h1 h63 hbytes hbase fun v' w' h2 h3 h4 => hK _ _ (h v' w' h2 h3 h4)
theorem step {ops : Array Oper} {o : Oper} {a : Act} {K : Act → World → Prop} {Q : Exit → Act → World → Prop} {E : Prop} (hgd : o.guard = none) (s x : Operand) (t : TypeId)
  (ho : o.op = .call { callee := .builtin .append, args := #[s, x], argTypes := #[t, t] })
  (base : Nat) (e : TypeId) (i : TypeInfo) (z : Value) (size bytes : Nat) (ht : P.underlying t = some (.slice e)) (hi : P.info? e = some i) (hz : i.zero = some z)
  (hsize : i.size = size) (hby : i.bytes = bytes) (hzs : z.cells.size = size) (hsz : 0 < size)
  (v : Value) (n : Nat) (xs : List Value) (hs : a.eval s = v) (hown : w.ownsRow base e size v n xs)
  (src : Value) (m : Nat) (news : List Value) (hx : a.eval x = src) (hsrc : Src w src m news) (hl : news.length = m * size) (h1 : ∀ u ∈ news, u.oneCell' = true)
  (h63 : n + m ≤ maxLen) (hbytes : (n + m) * bytes ≤ 140737488355328) (hbase : base ≤ w.heap.size)
  (h : ∀ v' w', w'.ownsRow base e size v' (n + m) (xs ++ news) → w.grownBy w' v.ownBlock → (v'.ownBlock = v.ownBlock ∨ v'.ownBlock = some w.heap.size) → K (a.put o.dst v') w') :
  if Region.wanted o (yielded ops a.tmps) = true then Oper.wp P o a w K Q else E := by
 have hw : Region.wanted o (yielded ops a.tmps) = true := by simp [Region.wanted, hgd]
 rw [if_pos hw]
 exact wp s x t ho base e i z size bytes ht hi hz hsize hby hzs hsz v n xs hs hown src m news hx hsrc hl h1 h63 hbytes hbase h
end
end Ap
end Go.Proofs.Ytcopdfihaheplaa
namespace Go.Proofs.Ytcopdfihaheplaa
open Go.RowKit
namespace Pt
theorem heap_setCell (w : World) (b o k : Nat) (v : Value) : (w.setCell ⟨b, o, none⟩ v).heap[k]? = if b = k then w.heap[k]?.map (fun x => match x with | .cells c e f => .cells (c.setIfInBounds o v) e f | x => x) else w.heap[k]? := by
 simp [World.setCell, Array.getElem?_modify]
 split <;> rfl
theorem world_ext {a b : World} (h0 : a.tape = b.tape) (h1 : a.drawn = b.drawn) (h2 : a.os = b.os) (h3 : a.output = b.output) (h4 : ∀ k : Nat, a.heap[k]? = b.heap[k]?) : a = b := by
 obtain ⟨x1, x2, x3, x4, x5⟩ := a
 obtain ⟨y1, y2, y3, y4, y5⟩ := b
 simp only at h0 h1 h2 h3 h4
 subst h0 h1 h2 h3
 congr 1
 exact Array.ext_getElem? fun i => h4 i
theorem setCell_comm (w : World) (b o g p : Nat) (u v : Value) (h : b ≠ g) : (w.setCell ⟨b, o, none⟩ u).setCell ⟨g, p, none⟩ v = (w.setCell ⟨g, p, none⟩ v).setCell ⟨b, o, none⟩ u := by
 refine world_ext rfl rfl rfl rfl fun k => ?_
 rw [heap_setCell, heap_setCell, heap_setCell, heap_setCell]
 by_cases h1 : g = k
 ·by_cases h2 : b = k
  ·exact absurd (h2.trans h1.symm) h
  ·simp [h1, h2]
 ·by_cases h2 : b = k
  ·simp [h1, h2]
  ·simp [h1, h2]
theorem setCells_comm (b o g : Nat) (u : Value) (h : b ≠ g) : ∀ (vs : List Value) (p : Nat) (w : World), (w.setCell ⟨b, o, none⟩ u).setCells g p vs = (w.setCells g p vs).setCell ⟨b, o, none⟩ u
 | [], _, _ => rfl
 | v :: r, p, w => by
  rw [World.setCells, World.setCells, setCell_comm w b o g p u v h]
  exact setCells_comm b o g u h r (p + 1) _
theorem keep_setCells {S : Nat → Prop} {g : Nat} (hg : S g) : ∀ (vs : List Value) (p : Nat) {a w : World}, Keep S a w → Keep S a (w.setCells g p vs)
 | [], _, _, _, h => h
 | v :: r, p, a, w, h => by
  rw [World.setCells]
  exact keep_setCells hg r (p + 1) (h.setCell hg p v)
theorem own_set {w : World} {base size n g cap : Nat} {e : TypeId} {ys zs : List Value} {z v : Value} (h : w.ownsRow base e size (.slice (some ⟨g, 0, none⟩) n cap) n (ys ++ z :: zs)) :
  (w.setCell ⟨g, ys.length, none⟩ v).ownsRow base e size (.slice (some ⟨g, 0, none⟩) n cap) n (ys ++ v :: zs) := by
 obtain ⟨h0, h1⟩ := h
 refine ⟨by rw [← h0]; simp, ?_⟩
 rcases h1 with ⟨h1, _⟩ | ⟨g', cap', cur, e1, e2, e3, e4, e5, e6, e7⟩
 ·cases h1
 ·have eg : g = g' := by cases e1; rfl
  have ec : cap = cap' := by cases e1; rfl
  subst eg ec
  refine .inr ⟨g, cap, cur.setIfInBounds ys.length v, rfl, e2, ?_, e4, e5, by simpa using e6, ?_⟩
  ·rw [heap_setCell, if_pos rfl, e3]; rfl
  ·have hl : ys.length < n * size := by rw [← h0]; simp
   rw [Array.toList_setIfInBounds, List.take_set, e7]
   simp
theorem own_puts : ∀ (vs : List Value) {w : World} {base size n g cap o : Nat} {e : TypeId} {ys zs ts : List Value}, zs.length = vs.length → ys.length = o → w.ownsRow base e size (.slice (some ⟨g, 0, none⟩) n cap) n (ys ++ zs ++ ts) →
  (w.setCells g o vs).ownsRow base e size (.slice (some ⟨g, 0, none⟩) n cap) n (ys ++ vs ++ ts)
 | [], w, base, size, n, g, cap, o, e, ys, zs, ts, hz, _, h => by
  obtain rfl : zs = [] := List.length_eq_zero_iff.1 hz
  exact h
 | v :: r, w, base, size, n, g, cap, o, e, ys, zs, ts, hz, ho, h => by
  match zs, hz with
  | z :: q, hz =>
   subst ho
   rw [World.setCells]
   have h1 : w.ownsRow base e size (.slice (some ⟨g, 0, none⟩) n cap) n (ys ++ z :: (q ++ ts)) := by simpa using h
   have h2 := own_set (v := v) h1
   have h3 : (w.setCell ⟨g, ys.length, none⟩ v).ownsRow base e size (.slice (some ⟨g, 0, none⟩) n cap) n ((ys ++ [v]) ++ q ++ ts) := by simpa using h2
   have := own_puts r (o := ys.length + 1) (by simpa using hz) (by simp) h3
   simpa using this
theorem own_put {w : World} {base size n g cap o : Nat} {e : TypeId} {xs zs : List Value} (vs : List Value) (h : w.ownsRow base e size (.slice (some ⟨g, 0, none⟩) (n + 1) cap) (n + 1) (xs ++ zs)) (hz : zs.length = vs.length) (ho : xs.length = o) :
  (w.setCells g o vs).ownsRow base e size (.slice (some ⟨g, 0, none⟩) (n + 1) cap) (n + 1) (xs ++ vs) := by
 have := own_puts vs (ts := []) hz ho (by simpa using h)
 simpa using this
theorem own_there {w : World} {base size n g cap o m : Nat} {e : TypeId} {xs : List Value} (h : w.ownsRow base e size (.slice (some ⟨g, 0, none⟩) n cap) n xs) (ho : o + m ≤ xs.length) : w.there g o m := by
 intro j hj
 obtain ⟨h0, h1⟩ := h
 rcases h1 with ⟨h1, _⟩ | ⟨g', cap', cur, e1, e2, e3, e4, e5, e6, e7⟩
 ·cases h1
 ·have eg : g = g' := by cases e1; rfl
  subst eg
  have hl : o + j < cur.size := by
   have : xs.length ≤ cur.size := by rw [← e7, List.length_take]; simp only [Array.length_toList]; omega
   omega
  constructor
  ·unfold World.cell?
   simp only [e3]
   simp [hl]
  ·unfold World.frozen?
   simp only [e3]
   simp
theorem own_block {w : World} {base size n g cap : Nat} {e : TypeId} {xs : List Value} (h : w.ownsRow base e size (.slice (some ⟨g, 0, none⟩) n cap) n xs) : base ≤ g ∧ g < w.heap.size := h.lt g rfl
theorem there_setCell {w : World} {b o n : Nat} (h : w.there b o n) (B j : Nat) (v : Value) : (w.setCell ⟨B, j, none⟩ v).there b o n := World.there_setCells h B j [v]
section
variable {P : Program} {w : World}
theorem run_append_none (base : Nat) (t ty e : TypeId) (i : TypeInfo) (size c : Nat) (ht : P.underlying t = some (.slice e)) (hi : P.info? e = some i) (v : Value) (n : Nat) (xs : List Value) (hown : w.ownsRow base e size v n xs) :
  (Builtin.append_ #[t, t] ty #[v, .slice none 0 c]).run P w = .ok v w := by
 rcases hown.2 with ⟨rfl, rfl⟩ | ⟨g, cap, cur, rfl, _, _, hnc, _⟩
 ·simp [Builtin.append_, run_underlying ht, sizeOf, typeInfo, hi, Builtin.lenOf, Builtin.firstCells]
 ·simp [Builtin.append_, run_underlying ht, sizeOf, typeInfo, hi, Builtin.lenOf, Builtin.firstCells, hnc, storeCells]
theorem list_none {ops : Array Oper} {rest : List Oper} {o : Oper} {a : Act} {Q : Exit → Act → World → Prop} (hgd : o.guard = none) (s x : Operand) (t : TypeId)
  (ho : o.op = .call { callee := .builtin .append, args := #[s, x], argTypes := #[t, t] })
  (base : Nat) (e : TypeId) (i : TypeInfo) (size c : Nat) (ht : P.underlying t = some (.slice e)) (hi : P.info? e = some i)
  (v : Value) (n : Nat) (xs : List Value) (hs : a.eval s = v) (hown : w.ownsRow base e size v n xs) (hx : a.eval x = .slice none 0 c)
  (h : wpList P ops Q rest (a.put o.dst v) w) : wpList P ops Q (o :: rest) a w :=
 wpList_plain hgd fun _ hK => by
  have hr := run_append_none (P := P) (w := w) base t o.type e i size c ht hi v n xs hown
  unfold Oper.wp execOp
  simp only [ho, resolve, invoke, builtin, Sem.run_bind, Sem.run_pure, Result.andThen_ok, List.map_toArray, List.map_cons, List.map_nil, hs, hx, hr]
  exact hK _ _ h
end
end Pt
end Go.Proofs.Ytcopdfihaheplaa
namespace Go.Proofs.Ytcopdfihaheplaa
open Go.RowKit
namespace Dt
mutual
def pre : D → List D
 | .mk k n s m l t => .mk k n s m l t :: (pres l ++ pres t)
def pres : List D → List D
 | [] => []
 | d :: r => pre d ++ pres r
end
structure P where
 d : D
 vm : Value
 vl : Value
 vt : Value
def P.cells (p : P) : List Value := [.int .i64 p.d.k, .int .i64 p.d.n, .string p.d.s, p.vm, p.vl, p.vt]
def flatP (ls : List P) : List Value := ls.flatMap P.cells
theorem flatP_app (ls : List P) (p : P) : flatP (ls ++ [p]) = flatP ls ++ p.cells := by unfold flatP; simp
theorem flatP_length (ls : List P) : (flatP ls).length = ls.length * 6 := by
 induction ls with
 | nil => rfl
 | cons a l ih =>
  have e : flatP (a :: l) = a.cells ++ flatP l := rfl
  rw [e, List.length_append, ih]
  have : a.cells.length = 6 := rfl
  simp; omega
structure Wk (w : World) (base B : Nat) (e : Int) (vp vd : Value) (ls : List P) (ds : List Int) : Prop where
 c0 : w.cell? ⟨B, 0, none⟩ = some vp
 c1 : w.cell? ⟨B, 1, none⟩ = some vd
 c2 : w.cell? ⟨B, 2, none⟩ = some (.int .i64 e)
 fz : ∀ j, w.frozen? ⟨B, j, none⟩ = false
 rp : w.ownsRow base 25 6 vp ls.length (flatP ls)
 rd : w.ownsRow base 3 1 vd ds.length (ds.map (Value.int .i64))
 np : vp.ownBlock ≠ some B
 nd : vd.ownBlock ≠ some B
 pd : ∀ k, vp.ownBlock = some k → vd.ownBlock ≠ some k
 rep : ∀ p ∈ ls, Rep (fun k => k < base) w p.d p.vm p.vl p.vt
 len : ls.length ≤ 4096
 eq : ds.length ≤ ls.length
 le : base ≤ B
def WS (B : Nat) (vp vd : Value) (k : Nat) : Prop := k = B ∨ vp.ownBlock = some k ∨ vd.ownBlock = some k
def RV (w : World) (v v' : Value) : Prop := ∀ k, v'.ownBlock = some k → v.ownBlock = some k ∨ w.heap.size ≤ k
theorem own_keep {S : Nat → Prop} {w w' : World} {b size n : Nat} {e : TypeId} {v : Value} {xs : List Value} (h : w.ownsRow b e size v n xs) (hc : Keep S w w') (hS : ∀ k, v.ownBlock = some k → ¬ S k) : w'.ownsRow b e size v n xs := by
 obtain ⟨h0, h1⟩ := h
 refine ⟨h0, ?_⟩
 rcases h1 with h1 | ⟨g, cap, cur, e1, e2, e3, e4⟩
 ·exact .inl h1
 ·refine .inr ⟨g, cap, cur, e1, e2, ?_, e4⟩
  rw [hc.block g (Array.getElem?_eq_some_iff.1 e3).1 (hS g (by rw [e1]; rfl))]
  exact e3
theorem row_form {w : World} {base size n : Nat} {e : TypeId} {v : Value} {xs : List Value} (h : w.ownsRow base e size v n xs) : ∃ a c, v = .slice a n c := by
 rcases h.2 with ⟨rfl, rfl⟩ | ⟨g, cap, cur, rfl, _⟩
 ·exact ⟨none, 0, rfl⟩
 ·exact ⟨_, _, rfl⟩
theorem own_lt {w : World} {base size n : Nat} {e : TypeId} {v : Value} {xs : List Value} (h : w.ownsRow base e size v n xs) : ∀ k, v.ownBlock = some k → base ≤ k ∧ k < w.heap.size := by
 intro k hk
 rcases h.2 with ⟨rfl, _⟩ | ⟨g, cap, cur, rfl, e2, e3, _⟩
 ·cases hk
 ·have : g = k := by cases hk; rfl
  subst this
  exact ⟨e2, (Array.getElem?_eq_some_iff.1 e3).1⟩
theorem Wk.below {w w' : World} {base B : Nat} {e : Int} {vp vd : Value} {ls : List P} {ds : List Int} (h : Wk w base B e vp vd ls ds) (hb : Below w.heap.size w w') : Wk w' base B e vp vd ls ds := by
 have hk := (Keep.refl (fun _ => False) w).below hb
 have hl : B < w.heap.size := block_lt_of_cell h.c0
 exact ⟨(hk.cell 0 hl (fun h => h)).trans h.c0, (hk.cell 1 hl (fun h => h)).trans h.c1, (hk.cell 2 hl (fun h => h)).trans h.c2, fun j => (hk.frozen j hl (fun h => h)).trans (h.fz j), own_keep h.rp hk (fun _ _ h => h), own_keep h.rd hk (fun _ _ h => h), h.np, h.nd, h.pd, fun p hp => (h.rep p hp).below hb, h.len, h.eq, h.le⟩
theorem Wk.fail {w : World} {base B : Nat} {e : Int} {vp vd : Value} {ls : List P} {ds : List Int} (h : Wk w base B e vp vd ls ds) (e' : Int) : Wk (w.setCell ⟨B, 2, none⟩ (.int .i64 e')) base B e' vp vd ls ds := by
 have hk : Keep (fun k => k = B) w (w.setCell ⟨B, 2, none⟩ (.int .i64 e')) := (Keep.refl (fun k => k = B) w).setCell rfl 2 _
 have n : ∀ j, j ≠ 2 → (⟨B, 2, none⟩ : Addr) ≠ ⟨B, j, none⟩ := fun j hj e => by cases e; exact hj rfl
 refine ⟨(World.cell?_setCell_other _ _ _ _ (n 0 (by omega))).trans h.c0, (World.cell?_setCell_other _ _ _ _ (n 1 (by omega))).trans h.c1, World.cell?_setCell_same' _ _ _ (by rw [h.c2]; rfl), fun j => (World.frozen?_setCell _ _ _ _).trans (h.fz j), own_keep h.rp hk (fun k hk e => h.np (by rw [hk, e])), own_keep h.rd hk (fun k hk e => h.nd (by rw [hk, e])), h.np, h.nd, h.pd, fun p hp => Rep.keep hk (fun b hb _ e => ?_) p.d (h.rep p hp), h.len, h.eq, h.le⟩
 have := h.le
 omega
def chkE (x : D) (deep : Nat) (r : Int × Nat) : Int × Nat := if r.1 = 0 then chk x deep r.2 else r
def chksE (l : List D) (deep : Nat) (r : Int × Nat) : Int × Nat := if r.1 = 0 then chks l deep r.2 else r
theorem chksE_cons (d : D) (l : List D) (deep : Nat) (r : Int × Nat) : chksE (d :: l) deep r = chksE l deep (chkE d deep r) := by
 unfold chksE chkE
 by_cases h : r.1 = 0
 ·rw [if_pos h, if_pos h, chks]
 ·rw [if_neg h, if_neg h, if_neg h]
theorem chksE_nil (deep : Nat) (r : Int × Nat) : chksE [] deep r = r := by
 unfold chksE
 obtain ⟨a, b⟩ := r
 by_cases h : a = 0
 ·subst h; rw [if_pos rfl, chks]
 ·rw [if_neg h]
theorem chksE_drop {L : List D} {deep j : Nat} {r : Int × Nat} (hj : j < L.length) : chksE (L.drop j) deep r = chksE (L.drop (j + 1)) deep (chkE L[j] deep r) := by
 rw [List.drop_eq_getElem_cons hj, chksE_cons]
theorem chk_goodE {d : D} {deep p : Nat} (h : ¬ 64 < deep) (h' : ¬ 4096 ≤ p) (hs : single d = true) : chk d deep p = chksE d.t (deep + 1) (chksE d.l (deep + 1) (0, p + 1)) := by
 rw [chk_good h h' hs]
 unfold chksE
 rw [if_pos rfl]
theorem pres_snoc : ∀ (l : List D) (j : Nat) (h : j < l.length), pres (l.take (j + 1)) = pres (l.take j) ++ pre l[j]
 | [], j, h => absurd h (by simp)
 | d :: r, 0, h => by simp [pres]
 | d :: r, j + 1, h => by
  have := pres_snoc r j (by simpa using h)
  simp only [List.take_succ_cons, pres, List.getElem_cons_succ, this, List.append_assoc]
theorem pre_eq (d : D) : pre d = d :: (pres d.l ++ pres d.t) := by cases d; rw [pre]; rfl
theorem grown_below {n : Nat} {w wA w' : World} {row : Option Nat} (hb : Below n w wA) (hg : wA.grownBy w' row) (hn : n ≤ w.heap.size) (hrow : ∀ k, row = some k → n ≤ k) : Below n w w' :=
 ⟨hg.os.trans hb.os, hg.tape.trans hb.tape, hg.output.trans hb.output, Nat.le_trans hb.size hg.size, fun k hk => (hg.block k (by have := hb.size; omega) (fun e => by have := hrow k e.symm; omega)).trans (hb.block k hk)⟩
theorem Rep.keep2 {F : Nat → Prop} {w w' : World} {d : D} {vm vl vt : Value} (h : Rep F w d vm vl vt) (hb : Below w.heap.size w w') : Rep F w' d vm vl vt := h.below hb
theorem grown_keep {w wA w' : World} {row : Option Nat} {B : Nat} (hb : Below w.heap.size w wA) (hg : wA.grownBy w' row) : Keep (fun k => k = B ∨ row = some k) w w' :=
 ⟨hg.os.trans hb.os, hg.tape.trans hb.tape, hg.output.trans hb.output, Nat.le_trans hb.size hg.size, fun k hk hn => (hg.block k (by have := hb.size; omega) (fun e => hn (.inr e.symm))).trans (hb.block k hk)⟩
theorem Wk.push {w wA w5 : World} {base B g cap : Nat} {vp vd : Value} {ls : List P} {ds : List Int} (h : Wk w base B 0 vp vd ls ds) (hl : ls.length < 4096) (p : P) (hp : Rep (fun k => k < base) w p.d p.vm p.vl p.vt) (hA : Below w.heap.size w wA)
  {zs : List Value} (hz : zs.length = 6) (hown : w5.ownsRow base 25 6 (.slice (some ⟨g, 0, none⟩) (ls.length + 1) cap) (ls.length + 1) (flatP ls ++ zs)) (hg : wA.grownBy w5 vp.ownBlock) (hat : vp.ownBlock = some g ∨ w.heap.size ≤ g) :
  Wk ((w5.setCells g (ls.length * 6) p.cells).setCell ⟨B, 0, none⟩ (.slice (some ⟨g, 0, none⟩) (ls.length + 1) cap)) base B 0 (.slice (some ⟨g, 0, none⟩) (ls.length + 1) cap) vd (ls ++ [p]) ds ∧
  Keep (WS B vp vd) w ((w5.setCells g (ls.length * 6) p.cells).setCell ⟨B, 0, none⟩ (.slice (some ⟨g, 0, none⟩) (ls.length + 1) cap)) ∧ RV w vp (.slice (some ⟨g, 0, none⟩) (ls.length + 1) cap) := by
 have hB : B < w.heap.size := block_lt_of_cell h.c0
 have hgB : g ≠ B := by
  rcases hat with e | e
  ·intro e'; exact h.np (by rw [e, e'])
  ·omega
 have hK5 : Keep (fun k => vp.ownBlock = some k) w w5 := ⟨hg.os.trans hA.os, hg.tape.trans hA.tape, hg.output.trans hA.output, Nat.le_trans hA.size hg.size, fun k hk hn => (hg.block k (by have := hA.size; omega) (fun e => hn e.symm)).trans (hA.block k hk)⟩
 have hKS : Keep (WS B vp vd) w w5 := hK5.mono (fun k _ e => .inr (.inl e))
 have hrow := Pt.own_put p.cells hown (by rw [hz]; rfl) (flatP_length ls)
 have hbase := h.le
 have hgb := (Pt.own_block hown).1
 -- the parts behind the two stores
 have hKg : Keep (fun k => k = g ∨ vp.ownBlock = some k) w (w5.setCells g (ls.length * 6) p.cells) := Pt.keep_setCells (.inl rfl) _ _ (hK5.mono (fun k _ e => .inr e))
 have hKf : Keep (fun k => k = B ∨ k = g ∨ vp.ownBlock = some k) w ((w5.setCells g (ls.length * 6) p.cells).setCell ⟨B, 0, none⟩ (.slice (some ⟨g, 0, none⟩) (ls.length + 1) cap)) := (hKg.mono (fun k _ e => .inr e)).setCell (.inl rfl) 0 _
 have hSvd : ∀ k, vd.ownBlock = some k → ¬ (k = g ∨ vp.ownBlock = some k) := by
  intro k hk e
  rcases e with e | e
  ·subst e
   rcases hat with e' | e'
   ·exact h.pd k e' hk
   ·have := (own_lt h.rd k hk).2; omega
  ·exact h.pd k e hk
 have hSB : ¬ (B = g ∨ vp.ownBlock = some B) := by
  intro e
  rcases e with e | e
  ·exact hgB e.symm
  ·exact h.np e
 have c0 : ((w5.setCells g (ls.length * 6) p.cells).cell? ⟨B, 0, none⟩).isSome = true := by rw [hKg.cell 0 hB hSB, h.c0]; rfl
 have ne : ∀ j, j ≠ 0 → (⟨B, 0, none⟩ : Addr) ≠ ⟨B, j, none⟩ := fun j hj e => by cases e; exact hj rfl
 refine ⟨⟨World.cell?_setCell_same' _ _ _ c0, ?_, ?_, fun j => ?_, ?_, ?_, ?_, h.nd, ?_, ?_, ?_, ?_, hbase⟩, ?_, ?_⟩
 ·rw [World.cell?_setCell_other _ _ _ _ (ne 1 (by omega)), hKg.cell 1 hB hSB]; exact h.c1
 ·rw [World.cell?_setCell_other _ _ _ _ (ne 2 (by omega)), hKg.cell 2 hB hSB]; exact h.c2
 ·rw [World.frozen?_setCell, hKg.frozen j hB hSB]; exact h.fz j
 ·rw [List.length_append, flatP_app]
  exact own_keep (S := fun k => k = B) hrow ((Keep.refl (fun k => k = B) _).setCell rfl 0 _) (fun k hk e => by cases hk; exact hgB e)
 ·exact own_keep h.rd hKf (fun k hk e => by
   rcases e with e | e
   ·exact h.nd (by rw [hk, e])
   ·exact hSvd k hk e)
 ·intro e; cases e; exact hgB rfl
 ·intro k hk hk'
  cases hk
  exact hSvd _ hk' (.inl rfl)
 ·intro q hq
  have hqr : Rep (fun k => k < base) w q.d q.vm q.vl q.vt := by
   rcases List.mem_append.1 hq with hq | hq
   ·exact h.rep q hq
   ·obtain rfl : q = p := by simpa using hq
    exact hp
  refine Rep.keep hKf (fun b hb hb' e => ?_) q.d hqr
  rcases e with e | e | e
  ·omega
  ·omega
  ·have := (own_lt h.rp b e).1; omega
 ·rw [List.length_append]; show ls.length + 1 ≤ 4096; omega
 ·rw [List.length_append]; have := h.eq; show ds.length ≤ ls.length + 1; omega
 ·refine hKf.mono (fun k hk e => ?_)
  rcases e with e | e | e
  ·exact .inl e
  ·subst e
   rcases hat with e' | e'
   ·exact .inr (.inl e')
   ·omega
  ·exact .inr (.inl e)
 ·intro k hk
  cases hk
  exact hat
theorem Wk.pushD {w wA w5 : World} {base B : Nat} {vp vd vd' : Value} {ls : List P} {ds : List Int} (h : Wk w base B 0 vp vd ls ds) (hl : ds.length + 1 ≤ ls.length) (x : Int) (hA : Below w.heap.size w wA)
  (hown : w5.ownsRow base 3 1 vd' (ds.length + 1) (ds.map (Value.int .i64) ++ [.int .i64 x])) (hg : wA.grownBy w5 vd.ownBlock) (hat : vd'.ownBlock = vd.ownBlock ∨ vd'.ownBlock = some wA.heap.size) :
  Wk (w5.setCell ⟨B, 1, none⟩ vd') base B 0 vp vd' ls (ds ++ [x]) ∧ Keep (WS B vp vd) w (w5.setCell ⟨B, 1, none⟩ vd') ∧ RV w vd vd' := by
 have hB : B < w.heap.size := block_lt_of_cell h.c0
 have hK5 : Keep (fun k => vd.ownBlock = some k) w w5 := ⟨hg.os.trans hA.os, hg.tape.trans hA.tape, hg.output.trans hA.output, Nat.le_trans hA.size hg.size, fun k hk hn => (hg.block k (by have := hA.size; omega) (fun e => hn e.symm)).trans (hA.block k hk)⟩
 have hKf : Keep (fun k => k = B ∨ vd.ownBlock = some k) w (w5.setCell ⟨B, 1, none⟩ vd') := (hK5.mono (fun k _ e => .inr e)).setCell (.inl rfl) 1 _
 have hSB : ¬ (vd.ownBlock = some B) := h.nd
 have hnB : vd'.ownBlock ≠ some B := by
  rcases hat with e | e
  ·rw [e]; exact h.nd
  ·rw [e]; intro e'; cases e'; have := hA.size; omega
 have c1 : (w5.cell? ⟨B, 1, none⟩).isSome = true := by rw [hK5.cell 1 hB hSB, h.c1]; rfl
 have ne : ∀ j, j ≠ 1 → (⟨B, 1, none⟩ : Addr) ≠ ⟨B, j, none⟩ := fun j hj e => by cases e; exact hj rfl
 have hbase := h.le
 have hrv : RV w vd vd' := by
  intro k hk
  rcases hat with e | e
  ·rw [e] at hk; exact .inl hk
  ·rw [e] at hk; cases hk; have := hA.size; exact .inr this
 refine ⟨⟨?_, World.cell?_setCell_same' _ _ _ c1, ?_, fun j => ?_, ?_, ?_, h.np, hnB, ?_, ?_, h.len, by simpa using hl, hbase⟩, ?_, hrv⟩
 ·rw [World.cell?_setCell_other _ _ _ _ (ne 0 (by omega)), hK5.cell 0 hB hSB]; exact h.c0
 ·rw [World.cell?_setCell_other _ _ _ _ (ne 2 (by omega)), hK5.cell 2 hB hSB]; exact h.c2
 ·rw [World.frozen?_setCell, hK5.frozen j hB hSB]; exact h.fz j
 ·exact own_keep h.rp hKf (fun k hk e => by
   rcases e with e | e
   ·exact h.np (by rw [hk, e])
   ·exact h.pd k hk e)
 ·rw [List.length_append, List.map_append]
  exact own_keep (S := fun k => k = B) hown ((Keep.refl (fun k => k = B) _).setCell rfl 1 _) (fun k hk e => hnB (by rw [hk, e]))
 ·intro k hk hk'
  rcases hrv k hk' with e | e
  ·exact h.pd k hk e
  ·have := (own_lt h.rp k hk).2; omega
 ·intro q hq
  refine Rep.keep hKf (fun b hb hb' e => ?_) q.d (h.rep q hq)
  rcases e with e | e
  ·omega
  ·have := (own_lt h.rd b e).1; omega
 ·refine hKf.mono (fun k hk e => ?_)
  rcases e with e | e
  ·exact .inl e
  ·exact .inr (.inr e)
def GoPost (w : World) (base B : Nat) (vp vd : Value) (r : Int × Nat) (L : List D) (w' : World) : Prop :=
 ∃ vp' vd' ls' ds', Wk w' base B r.1 vp' vd' ls' ds' ∧ ls'.length = r.2 ∧ (r.1 = 0 → ls'.map P.d = L) ∧ Keep (WS B vp vd) w w' ∧ RV w vp vp' ∧ RV w vd vd'
theorem WS.step {w w1 w2 : World} {B : Nat} {vp vd vp1 vd1 vp2 vd2 : Value} (h1 : Keep (WS B vp vd) w w1) (r1 : RV w vp vp1) (s1 : RV w vd vd1) (h2 : Keep (WS B vp1 vd1) w1 w2) (r2 : RV w1 vp1 vp2) (s2 : RV w1 vd1 vd2) : Keep (WS B vp vd) w w2 ∧ RV w vp vp2 ∧ RV w vd vd2 := by
 refine ⟨?_, ?_, ?_⟩
 ·have h2' : Keep (fun k => WS B vp vd k ∨ w.heap.size ≤ k) w1 w2 := h2.mono (fun k _ e => by
   rcases e with e | e | e
   ·exact .inl (.inl e)
   ·rcases r1 k e with e | e
    ·exact .inl (.inr (.inl e))
    ·exact .inr e
   ·rcases s1 k e with e | e
    ·exact .inl (.inr (.inr e))
    ·exact .inr e)
  refine ((h1.mono (T := fun k => WS B vp vd k ∨ w.heap.size ≤ k) (fun k _ e => .inl e)).trans h2').mono (fun k hk e => ?_)
  rcases e with e | e
  ·exact e
  ·omega
 ·intro k hk
  rcases r2 k hk with e | e
  ·exact r1 k e
  ·have := h1.size; exact .inr (by omega)
 ·intro k hk
  rcases s2 k hk with e | e
  ·exact s1 k e
  ·have := h1.size; exact .inr (by omega)
end Dt
set_option maxRecDepth 100000 in
theorem goes_done {w : World} {base B : Nat} {e : Int} {vp vd : Value} {ls : List Dt.P} {ds : List Int} (h : Dt.Wk w base B e vp vd ls ds) (he : e ≠ 0) (x : Dt.D) (vm vl vt : Value) (deep : Int) :
  Calls Try.prog 46 #[.pointer (some ⟨B, 0, none⟩), .agg #[.int .i64 x.k, .int .i64 x.n, .string x.s, vm, vl, vt], .int .i64 deep] w fun r w' => r = .returned (.tuple #[]) ∧ Below w.heap.size w w' := by
 have hb : Below w.heap.size w (w.alloc (.cells #[.int .i64 x.k, .int .i64 x.n, .string x.s, vm, vl, vt] 25)) := (Below.refl _ _).alloc (Nat.le_refl _) _
 have c2 := (h.below hb).c2
 have he0 : (e == 0) = false := by simpa using he
 go_enter Try.func46, Try.ntmps46
 go_wp2
 refine bodyPost_ret (v := .tuple #[]) (by simp [results, Try.results46, go_sem]) rfl ?_
 exact ⟨rfl, hb⟩
end Go.Proofs.Ytcopdfihaheplaa
namespace Go.Proofs.Ytcopdfihaheplaa
open Go.RowKit
namespace Dt
def Goes (x : D) : Prop := ∀ (deep base B : Nat) (vp vd vm vl vt : Value) (ls : List P) (ds : List Int) (w : World), Wf x → Rep (fun k => k < base) w x vm vl vt → Wk w base B 0 vp vd ls ds → deep ≤ 65 →
 Calls Try.prog 46 #[.pointer (some ⟨B, 0, none⟩), .agg #[.int .i64 x.k, .int .i64 x.n, .string x.s, vm, vl, vt], .int .i64 (deep : Int)] w
  fun r w' => r = .returned (.tuple #[]) ∧ GoPost w base B vp vd (chk x deep ls.length) (ls.map P.d ++ pre x) w'
theorem infoD : (Try.prog.info? 25).map (fun i => (i.zero, i.size, i.bytes)) = some (some (.agg #[.int .i64 0, .int .i64 0, .string ⟨#[]⟩, .slice none 0 0, .slice none 0 0, .slice none 0 0]), 6, 104) := by kernel_rfl
theorem infoI : (Try.prog.info? 3).map (fun i => (i.zero, i.size, i.bytes)) = some (some (.int .i64 0), 1, 8) := by kernel_rfl
def Box (w : World) (X : Nat) (d : D) (vm vl vt : Value) : Prop := w.cell? ⟨X, 0, none⟩ = some (.int .i64 d.k) ∧ w.cell? ⟨X, 1, none⟩ = some (.int .i64 d.n) ∧ w.cell? ⟨X, 2, none⟩ = some (.string d.s) ∧ w.cell? ⟨X, 3, none⟩ = some vm ∧ w.cell? ⟨X, 4, none⟩ = some vl ∧ w.cell? ⟨X, 5, none⟩ = some vt
def Pushed (w : World) (base B : Nat) (vp vd : Value) (ls : List P) (ds : List Int) (p : P) (w' : World) : Prop :=
 ∃ vp', Wk w' base B 0 vp' vd (ls ++ [p]) ds ∧ Keep (WS B vp vd) w w' ∧ RV w vp vp'
theorem GoPost.fail {w w1 : World} {base B : Nat} {vp vd : Value} {ls : List P} {ds : List Int} {L : List D} (h : Wk w base B 0 vp vd ls ds) (hb : Below w.heap.size w w1) (e : Int) (he : e ≠ 0) : GoPost w base B vp vd (e, ls.length) L (w1.setCell ⟨B, 2, none⟩ (.int .i64 e)) :=
 ⟨vp, vd, ls, ds, (h.below hb).fail e, rfl, fun h => absurd h he, ((Keep.refl _ w).below hb).setCell (.inl rfl) 2 _, fun _ h => .inl h, fun _ h => .inl h⟩
end Dt
set_option maxRecDepth 100000 in
set_option maxHeartbeats 8000000 in
theorem goes_bad (x : Dt.D) (deep base B : Nat) (vp vd vm vl vt : Value) (ls : List Dt.P) (ds : List Int) (w : World) (hW : Dt.Wf x) (hR : Dt.Rep (fun k => k < base) w x vm vl vt) (hK : Dt.Wk w base B 0 vp vd ls ds) (hd : deep ≤ 65)
  (hbad : 64 < deep ∨ 4096 ≤ ls.length ∨ Dt.single x = false) :
  Calls Try.prog 46 #[.pointer (some ⟨B, 0, none⟩), .agg #[.int .i64 x.k, .int .i64 x.n, .string x.s, vm, vl, vt], .int .i64 (deep : Int)] w
   fun r w' => r = .returned (.tuple #[]) ∧ Dt.GoPost w base B vp vd (Dt.chk x deep ls.length) (ls.map Dt.P.d ++ Dt.pre x) w' := by
 obtain ⟨a1, n1, q1, a2, n2, q2, a3, n3, q3, rfl, rfl, rfl⟩ := hR.forms
 obtain ⟨w1, hw1⟩ : ∃ w1, w.alloc (.cells #[.int .i64 x.k, .int .i64 x.n, .string x.s, .slice a1 n1 q1, .slice a2 n2 q2, .slice a3 n3 q3] 25) = w1 := ⟨_, rfl⟩
 have hb1 : Below w.heap.size w w1 := by rw [← hw1]; exact (Below.refl _ _).alloc (Nat.le_refl _) _
 have hK1 := hK.below hb1
 have hsix := Dt.six_new w x.k x.n x.s (.slice a1 n1 q1) (.slice a2 n2 q2) (.slice a3 n3 q3) 25
 rw [hw1] at hsix
 have d0 : w1.cell? ⟨w.heap.size, 0, none⟩ = some (.int .i64 x.k) := hsix 0 (by omega)
 have d1 : w1.cell? ⟨w.heap.size, 1, none⟩ = some (.int .i64 x.n) := hsix 1 (by omega)
 have d2 : w1.cell? ⟨w.heap.size, 2, none⟩ = some (.string x.s) := hsix 2 (by omega)
 have d3 : w1.cell? ⟨w.heap.size, 3, none⟩ = some (.slice a1 n1 q1) := hsix 3 (by omega)
 have d4 : w1.cell? ⟨w.heap.size, 4, none⟩ = some (.slice a2 n2 q2) := hsix 4 (by omega)
 have d5 : w1.cell? ⟨w.heap.size, 5, none⟩ = some (.slice a3 n3 q3) := hsix 5 (by omega)
 obtain ⟨ap, cp, rfl⟩ := Dt.row_form hK.rp
 have c0 := hK1.c0
 have c2 := hK1.c2
 have f2 := hK1.fz 2
 have hll := hK.len
 have hlen : (ls.length : Int) ≤ 4096 := by omega
 have hal := alone_x x (.slice a1 n1 q1) (.slice a2 n2 q2) (.slice a3 n3 q3) w1 hW (hR.below hb1)
 obtain ⟨M, hM⟩ : ∃ M, M = Dt.chk x deep ls.length := ⟨_, rfl⟩
 rw [← hM]
 have HK := Lib.hid hK
 have HB := Lib.hid hb1
 have hbl : B < w1.heap.size := block_lt_of_cell c0
 clear hsix hR hW hK1 hK
 by_cases h1 : 64 < deep
 ·have hdi : (64 : Int) < (deep : Int) := by omega
  have HM : Hid (M = (4, ls.length)) := by show _ = _; rw [hM, Dt.chk_deep h1]
  clear hM hbad hal
  go_enter Try.func46, Try.ntmps46
  go_wp2
  refine bodyPost_ret (v := .tuple #[]) (by simp [results, Try.results46, go_sem]) rfl ?_
  rw [HM.out]
  exact ⟨rfl, Dt.GoPost.fail HK.out HB.out 4 (by omega)⟩
 have hdi : (deep : Int) ≤ 64 := by omega
 by_cases h2 : 4096 ≤ ls.length
 ·have hli : (4096 : Int) ≤ (ls.length : Int) := by omega
  have HM : Hid (M = (3, ls.length)) := by show _ = _; rw [hM, Dt.chk_long h1 h2]
  clear hM hbad hal h2
  go_enter Try.func46, Try.ntmps46
  go_wp2
  refine bodyPost_ret (v := .tuple #[]) (by simp [results, Try.results46, go_sem]) rfl ?_
  rw [HM.out]
  exact ⟨rfl, Dt.GoPost.fail HK.out HB.out 3 (by omega)⟩
 have hli : (ls.length : Int) < 4096 := by omega
 have hs : Dt.single x = false := by
  rcases hbad with h | h | h
  ·exact absurd h h1
  ·exact absurd h h2
  ·exact h
 have HM : Hid (M = (20, ls.length)) := by show _ = _; rw [hM, Dt.chk_bad h1 h2 hs]
 rw [hs] at hal
 clear hM hbad hs h2
 go_enter Try.func46, Try.ntmps46
 go_wp2_with fail
 refine hal.mono ?_
 rintro e w2 ⟨rfl, hb2⟩
 have c0' := (hb2.cell (p := ⟨B, 0, none⟩) hbl).trans c0
 have c2' := (hb2.cell (p := ⟨B, 2, none⟩) hbl).trans c2
 have f2' := (hb2.frozen (p := ⟨B, 2, none⟩) hbl).trans f2
 have HB2 := Lib.hid (HB.out.trans (hb2.mono HB.out.size))
 clear hal c0 c2 f2 d0 d1 d2 d3 d4 d5 hb2
 go_wp2
 refine bodyPost_ret (v := .tuple #[]) (by simp [results, Try.results46, go_sem]) rfl ?_
 rw [HM.out]
 exact ⟨rfl, Dt.GoPost.fail HK.out HB2.out 20 (by omega)⟩
namespace Dt
def Inv (w2 : World) (base B : Nat) (vp vd : Value) (L : List D) (l0 : List D) (deep : Nat) (r0 : Int × Nat) (j : Nat) (wr : World) : Prop :=
 ∃ e vpj vdj lsj dsj, Wk wr base B e vpj vdj lsj dsj ∧ chksE L deep r0 = chksE (L.drop j) deep (e, lsj.length) ∧ (e = 0 → lsj.map P.d = l0 ++ pres (L.take j)) ∧ Keep (WS B vp vd) w2 wr ∧ RV w2 vp vpj ∧ RV w2 vd vdj
theorem Inv.keep {w2 : World} {base B : Nat} {vp vd : Value} {L l0 : List D} {deep : Nat} {r0 : Int × Nat} {j : Nat} {wr : World} (h : Inv w2 base B vp vd L l0 deep r0 j wr) : Keep (WS B vp vd) w2 wr := by
 obtain ⟨_, _, _, _, _, _, _, _, h, _⟩ := h
 exact h
theorem inv_step {w w2 wr : World} {base B c : Nat} {a : Option Addr} {vp vd : Value} {L l0 : List D} {deep : Nat} {r0 : Int × Nat} {j : Nat} (hRow : Row (fun k => k < base) w (.slice a L.length c) L) (hW : Wfs L) (hB : Below w.heap.size w w2) (hvp : ∀ k, vp.ownBlock = some k → base ≤ k) (hvd : ∀ k, vd.ownBlock = some k → base ≤ k) (hG : ∀ y ∈ L, Goes y)
  (hI : Inv w2 base B vp vd L l0 deep r0 j wr) (hd : deep ≤ 65) (hlt : j < L.length) :
  ∃ (y : D) (g o : Nat) (vm vl vt : Value), a = some ⟨g, o, none⟩ ∧ Six wr g (o + j * 6) y vm vl vt ∧ Hid (Calls Try.prog 46 #[.pointer (some ⟨B, 0, none⟩), .agg #[.int .i64 y.k, .int .i64 y.n, .string y.s, vm, vl, vt], .int .i64 (deep : Int)] wr
   fun r w' => r = .returned (.tuple #[]) ∧ Inv w2 base B vp vd L l0 deep r0 (j + 1) w') := by
 obtain ⟨a', c', h1, h2, h3⟩ := hRow
 obtain ⟨g, o, h4, h5, h6, h7⟩ := h3 (by intro e; rw [e] at hlt; simp at hlt)
 have ea : a = a' := by cases h1; rfl
 obtain ⟨e, vpj, vdj, lsj, dsj, k1, k2, k3, k4, k5, k6⟩ := hI
 have hbase := k1.le
 have hk : Keep (WS B vp vd) w wr := ((Keep.refl _ w).below hB).trans k4
 have hr := Reps.keep (F := fun k => k < base) hk (fun b hb _ hs => by
  rcases hs with hs | hs | hs
  ·omega
  ·have := hvp b hs; omega
  ·have := hvd b hs; omega) L h5 h6 h7
 obtain ⟨vm, vl, vt, hs, hp⟩ := hr.at j hlt
 refine ⟨L[j], g, o, vm, vl, vt, ea.trans h4, hs, ?_⟩
 have hy := hG L[j] (List.getElem_mem hlt)
 by_cases he : e = 0
 ·subst he
  refine Calls.mono (hy deep base B vpj vdj vm vl vt lsj dsj wr (hW.at j hlt) hp k1 hd) ?_
  rintro r w' ⟨hr1, vp', vd', ls', ds', m1, m2, m3, m4, m5, m6⟩
  obtain ⟨q1, q2, q3⟩ := WS.step k4 k5 k6 m4 m5 m6
  refine ⟨hr1, _, vp', vd', ls', ds', m1, ?_, fun h0 => ?_, q1, q2, q3⟩
  ·rw [k2, chksE_drop hlt, m2]
   unfold chkE
   rw [if_pos rfl]
  ·rw [m3 h0, k3 rfl, pres_snoc L j hlt, List.append_assoc]
 ·refine Calls.mono (goes_done k1 he L[j] vm vl vt deep) ?_
  rintro r w' ⟨hr1, hb⟩
  refine ⟨hr1, e, vpj, vdj, lsj, dsj, k1.below hb, ?_, fun h0 => absurd h0 he, k4.below hb, k5, k6⟩
  rw [k2, chksE_drop hlt]
  unfold chkE
  rw [if_neg he]
end Dt
set_option maxRecDepth 100000 in
set_option maxHeartbeats 8000000 in
theorem goes_good (x : Dt.D) (hl : ∀ y ∈ x.l, Dt.Goes y) (ht : ∀ y ∈ x.t, Dt.Goes y) (deep base B : Nat) (vp vd vm vl vt : Value) (ls : List Dt.P) (ds : List Int) (w : World) (hW : Dt.Wf x) (hR : Dt.Rep (fun k => k < base) w x vm vl vt) (hK : Dt.Wk w base B 0 vp vd ls ds) (hd : deep ≤ 65)
  (h1 : ¬ 64 < deep) (h2 : ¬ 4096 ≤ ls.length) (hs : Dt.single x = true) :
  Calls Try.prog 46 #[.pointer (some ⟨B, 0, none⟩), .agg #[.int .i64 x.k, .int .i64 x.n, .string x.s, vm, vl, vt], .int .i64 (deep : Int)] w
   fun r w' => r = .returned (.tuple #[]) ∧ Dt.GoPost w base B vp vd (Dt.chk x deep ls.length) (ls.map Dt.P.d ++ Dt.pre x) w' := by
 obtain ⟨⟨a1, q1, rfl, _⟩, ⟨a2, q2, rfl, _⟩, ⟨a3, q3, rfl, _⟩⟩ := (Dt.rep_iff _ _ _ _ _ _).1 hR
 obtain ⟨w1, hw1⟩ : ∃ w1, w.alloc (.cells #[.int .i64 x.k, .int .i64 x.n, .string x.s, .slice a1 x.m.length q1, .slice a2 x.l.length q2, .slice a3 x.t.length q3] 25) = w1 := ⟨_, rfl⟩
 have hb1 : Below w.heap.size w w1 := by rw [← hw1]; exact (Below.refl _ _).alloc (Nat.le_refl _) _
 have hK1 := hK.below hb1
 have hsix := Dt.six_new w x.k x.n x.s (.slice a1 x.m.length q1) (.slice a2 x.l.length q2) (.slice a3 x.t.length q3) 25
 rw [hw1] at hsix
 have d0 : w1.cell? ⟨w.heap.size, 0, none⟩ = some (.int .i64 x.k) := hsix 0 (by omega)
 have d1 : w1.cell? ⟨w.heap.size, 1, none⟩ = some (.int .i64 x.n) := hsix 1 (by omega)
 have d2 : w1.cell? ⟨w.heap.size, 2, none⟩ = some (.string x.s) := hsix 2 (by omega)
 have d3 : w1.cell? ⟨w.heap.size, 3, none⟩ = some (.slice a1 x.m.length q1) := hsix 3 (by omega)
 have d4 : w1.cell? ⟨w.heap.size, 4, none⟩ = some (.slice a2 x.l.length q2) := hsix 4 (by omega)
 have d5 : w1.cell? ⟨w.heap.size, 5, none⟩ = some (.slice a3 x.t.length q3) := hsix 5 (by omega)
 obtain ⟨ap, cp, rfl⟩ := Dt.row_form hK.rp
 obtain ⟨ad, cd, rfl⟩ := Dt.row_form hK.rd
 have c0 := hK1.c0
 have c2 := hK1.c2
 have hll := hK.len
 have hlen : (ls.length : Int) < 4096 := by omega
 have hal := alone_x x (.slice a1 x.m.length q1) (.slice a2 x.l.length q2) (.slice a3 x.t.length q3) w1 hW (hR.below hb1)
 rw [hs] at hal
 have hdi : (deep : Int) ≤ 64 := by omega
 have hX1 : w.heap.size < w1.heap.size := by rw [← hw1]; simp
 have HDP : Hid (Dt.chk x deep ls.length = Dt.chksE x.t (deep + 1) (Dt.chksE x.l (deep + 1) (0, ls.length + 1))) := Dt.chk_goodE h1 h2 hs
 have HPR : Hid (Dt.pre x = x :: (Dt.pres x.l ++ Dt.pres x.t)) := Dt.pre_eq x
 have HW := Lib.hid hW
 have HR := Lib.hid hR
 have HK := Lib.hid hK
 have HB := Lib.hid hb1
 have HL := Lib.hid hl
 have HT := Lib.hid ht
 have h2' : ls.length < 4096 := by omega
 have hbl : B < w1.heap.size := block_lt_of_cell c0
 have hbw : B < w.heap.size := block_lt_of_cell hK.c0
 have hl64 := (Dt.wf_len hW).1
 have ht64 := (Dt.wf_len hW).2
 have HXW : Hid (w.heap.size = w.heap.size) := rfl
 obtain ⟨X, hX⟩ : ∃ X, w.heap.size = X := ⟨_, rfl⟩
 rw [hX] at d0 d1 d2 d3 d4 d5 hX1
 clear hsix hR hW hK1 hK hs hl ht h2 HXW
 obtain ⟨i0, hi, hz0, hz1, hz2⟩ := info_parts Dt.infoD
 go_enter Try.func46, Try.ntmps46
 go_wp2_with fail
 refine hal.mono ?_
 rintro e w2 ⟨rfl, hb2⟩
 clear hal hw1
 have HX := Lib.hid hX
 clear hX
 have e0 := (hb2.cell (p := ⟨X, 0, none⟩) hX1).trans d0
 have e1 := (hb2.cell (p := ⟨X, 1, none⟩) hX1).trans d1
 have e2 := (hb2.cell (p := ⟨X, 2, none⟩) hX1).trans d2
 have e3 := (hb2.cell (p := ⟨X, 3, none⟩) hX1).trans d3
 have e4 := (hb2.cell (p := ⟨X, 4, none⟩) hX1).trans d4
 have e5 := (hb2.cell (p := ⟨X, 5, none⟩) hX1).trans d5
 have hB2 := HB.out.trans (hb2.mono HB.out.size)
 have HK2 := Lib.hid (HK.out.below hB2)
 have HB2 := Lib.hid hB2
 have z0 := HK2.out.c0
 have hX2 : X < w2.heap.size := Nat.lt_of_lt_of_le hX1 hb2.size
 have HS6 : Hid (∀ w', Keep (fun k => k = B ∨ (Value.slice ap ls.length cp).ownBlock = some k) w2 w' → Dt.Box w' X x (.slice a1 x.m.length q1) (.slice a2 x.l.length q2) (.slice a3 x.t.length q3)) := by
  intro w' hk
  have hn : ¬ (X = B ∨ (Value.slice ap ls.length cp).ownBlock = some X) := by
   intro e
   rcases e with e | e
   ·have := HX.out; omega
   ·have := (Dt.own_lt HK.out.rp X e).2; have := HX.out; omega
  exact ⟨(hk.cell 0 hX2 hn).trans e0, (hk.cell 1 hX2 hn).trans e1, (hk.cell 2 hX2 hn).trans e2, (hk.cell 3 hX2 hn).trans e3, (hk.cell 4 hX2 hn).trans e4, (hk.cell 5 hX2 hn).trans e5⟩
 have hB2l : B < w2.heap.size := block_lt_of_cell z0
 clear hb2 hB2 c0 c2 d0 d1 d2 d3 d4 d5 HB hX1 hbl
 go_upto_region 8 with fail
 go_cut [] (fun wx => Dt.Pushed w2 base B (.slice ap ls.length cp) (.slice ad ds.length cd) ls ds ⟨x, .slice a1 x.m.length q1, .slice a2 x.l.length q2, .slice a3 x.t.length q3⟩ wx)
 case first =>
  have hmx : ls.length + 1 ≤ maxLen := by unfold maxLen; omega
  have hby : (ls.length + 1) * 104 ≤ 140737488355328 := by omega
  obtain ⟨wA, hwA⟩ : ∃ wA, w2.drew.alloc (.cells #[.int .i64 0, .int .i64 0, .string ⟨#[]⟩, .slice none 0 0, .slice none 0 0, .slice none 0 0] 25) = wA := ⟨_, rfl⟩
  have hbA : Below w2.heap.size w2 wA := by rw [← hwA]; exact (Below.refl _ w2).drew.alloc (Nat.le_refl _) _
  have z0A : wA.cell? ⟨B, 0, none⟩ = some (.slice ap ls.length cp) := (hbA.cell (p := ⟨B, 0, none⟩) hB2l).trans z0
  have HWA := Lib.hid hbA
  have HOW : Hid (wA.ownsRow base 25 6 (.slice ap ls.length cp) ls.length (Dt.flatP ls)) := Dt.own_keep (S := fun _ => False) HK2.out.rp ((Keep.refl _ w2).below hbA) (fun _ _ h => h)
  have HNEW := Lib.hid (World.news_of_block (w := wA) (B := w2.heap.size) (cs := #[.int .i64 0, .int .i64 0, .string ⟨#[]⟩, .slice none 0 0, .slice none 0 0, .slice none 0 0]) (t := 25) (fr := (0, 0)) (by rw [← hwA]; exact heap_alloc_new w2.drew _))
  have HONE : Hid (∀ u ∈ [Value.int .i64 0, .int .i64 0, .string ⟨#[]⟩, .slice none 0 0, .slice none 0 0, .slice none 0 0], u.oneCell' = true) := by show ∀ u ∈ _, _; simp [Value.oneCell']
  have HBS : Hid (base ≤ wA.heap.size) := by show _ ≤ _; have := HK2.out.le; have := hbA.size; omega
  have hsA : wA.heap.size = w2.heap.size + 1 := by rw [← hwA]; simp
  have HinfoS : Hid ((Try.prog.info? 25).map (·.size) = some 6) := by show _ = _; rw [hi]; simp [hz1]
  have hx : Dt.Box w2.drew X x (.slice a1 x.m.length q1) (.slice a2 x.l.length q2) (.slice a3 x.t.length q3) := ⟨e0, e1, e2, e3, e4, e5⟩
  have hxA : Dt.Box wA X x (.slice a1 x.m.length q1) (.slice a2 x.l.length q2) (.slice a3 x.t.length q3) := HS6.out _ ((Keep.refl _ w2).below hbA)
  have hli0 : (0 : Int) ≤ (ls.length : Int) := by omega
  have hli1 : (ls.length : Int) < (ls.length : Int) + 1 := by omega
  have HPU : Hid (∀ g cap w5, w5.ownsRow base 25 6 (.slice (some ⟨g, 0, none⟩) (ls.length + 1) cap) (ls.length + 1) (Dt.flatP ls ++ [.int .i64 0, .int .i64 0, .string ⟨#[]⟩, .slice none 0 0, .slice none 0 0, .slice none 0 0]) → wA.grownBy w5 (Value.slice ap ls.length cp).ownBlock → ((Value.slice ap ls.length cp).ownBlock = some g ∨ g = wA.heap.size) →
    Dt.Pushed w2 base B (.slice ap ls.length cp) (.slice ad ds.length cd) ls ds ⟨x, .slice a1 x.m.length q1, .slice a2 x.l.length q2, .slice a3 x.t.length q3⟩ ((w5.setCells g (ls.length * 6) [.int .i64 x.k, .int .i64 x.n, .string x.s, .slice a1 x.m.length q1, .slice a2 x.l.length q2, .slice a3 x.t.length q3]).setCell ⟨B, 0, none⟩ (.slice (some ⟨g, 0, none⟩) (ls.length + 1) cap))) := by
   intro g cap w5 hown hgrow hat
   obtain ⟨k1, k2, k3⟩ := HK2.out.push h2' ⟨x, .slice a1 x.m.length q1, .slice a2 x.l.length q2, .slice a3 x.t.length q3⟩ (HR.out.keep2 HB2.out) HWA.out rfl hown hgrow (hat.imp id (fun e => by rw [e]; exact HWA.out.size))
   exact ⟨_, k1, k2, k3⟩
  have HTA : Hid (∀ g cap w5, w5.ownsRow base 25 6 (.slice (some ⟨g, 0, none⟩) (ls.length + 1) cap) (ls.length + 1) (Dt.flatP ls ++ [.int .i64 0, .int .i64 0, .string ⟨#[]⟩, .slice none 0 0, .slice none 0 0, .slice none 0 0]) → wA.grownBy w5 (Value.slice ap ls.length cp).ownBlock → ((Value.slice ap ls.length cp).ownBlock = some g ∨ g = wA.heap.size) →
    w5.there g (ls.length * 6) 6 ∧ Hid (B ≠ g) ∧ Hid (∀ w', Keep (fun k => k = g ∨ k = B) w5 w' → Dt.Box w' X x (.slice a1 x.m.length q1) (.slice a2 x.l.length q2) (.slice a3 x.t.length q3)) ∧ (∀ vv, ((w5.setCells g (ls.length * 6) vv).cell? ⟨B, 0, none⟩ = some (.slice ap ls.length cp) ∧ (w5.setCells g (ls.length * 6) vv).frozen? ⟨B, 0, none⟩ = false)) ∧ w5.frozen? ⟨B, 0, none⟩ = false ∧ w5.cell? ⟨B, 0, none⟩ = some (.slice ap ls.length cp)) := by
   intro g cap w5 hown hgrow hat
   have hkg : Keep (fun k => k = B ∨ (Value.slice ap ls.length cp).ownBlock = some k) w2 w5 := Dt.grown_keep HWA.out hgrow
   have hgB : B ≠ g := by
    rcases hat with e | e
    ·intro e'; exact HK2.out.np (by rw [e, e'])
    ·omega
   have hnB : ¬ (Value.slice ap ls.length cp).ownBlock = some B := HK2.out.np
   have hk5 : Keep (fun k => (Value.slice ap ls.length cp).ownBlock = some k) w2 w5 := ⟨hkg.os, hkg.tape, hkg.output, hkg.size, fun k hk hn => (hgrow.block k (by omega) (fun e => hn e.symm)).trans (HWA.out.block k hk)⟩
   refine ⟨Pt.own_there hown (by rw [List.length_append, Dt.flatP_length]; exact Nat.le_refl _), Lib.hid hgB, Lib.hid (fun w' hk => HS6.out w' (((hkg.mono (T := fun k => (k = B ∨ (Value.slice ap ls.length cp).ownBlock = some k) ∨ k = g) (fun k _ e => .inl e)).trans (hk.mono (fun k _ e => e.elim .inr (fun e => .inl (.inl e))))).mono (fun k hk e => ?_))), fun vv => ⟨?_, ?_⟩, (hk5.frozen 0 hB2l hnB).trans (HK2.out.fz 0), (hk5.cell 0 hB2l hnB).trans z0⟩
   ·rcases e with e | e
    ·exact e
    ·subst e
     rcases hat with e' | e'
     ·exact .inr e'
     ·omega
   ·rw [World.cell?_setCells_out g vv _ w5 ⟨B, 0, none⟩ (fun h => absurd h hgB)]
    exact (hk5.cell 0 hB2l hnB).trans z0
   ·rw [World.frozen?_setCells]
    exact (hk5.frozen 0 hB2l hnB).trans (HK2.out.fz 0)
  clear e0 e1 e2 e3 e4 e5 hbA
  refine wp_region_noPanic ?_
  refine wp_region_held_drew (S := fun w' => Dt.Box w' X x (.slice a1 x.m.length q1) (.slice a2 x.l.length q2) (.slice a3 x.t.length q3)) (by kernel_rfl) hx (fun hHeld => ?_)
  refine wpAnyH_take (i := 0) (oi := ⟨_, _, _, _, _, _⟩) (v := ?_) rfl (by kernel_rfl) (by kernel_rfl) (by kernel_rfl) (fun _ _ _ h => h) (Or.inl ⟨by rfl, ?_⟩) (by assumption) ?_
  rotate_left
  ·intro w hSw
   try dsimp only at hSw
   go_simp
   try with_reducible rfl
  simp only [Act.put, List.setIfInBounds_toArray, List.set_cons_zero, List.set_cons_succ]
  refine wpAnyH_take (i := 1) (oi := ⟨_, _, _, _, _, _⟩) (v := ?_) rfl (by kernel_rfl) (by kernel_rfl) (by kernel_rfl) (fun _ _ _ h => h) (Or.inl ⟨by rfl, ?_⟩) (by assumption) ?_
  rotate_left
  ·intro w hSw
   try dsimp only at hSw
   go_simp
   try with_reducible rfl
  simp only [Act.put, List.setIfInBounds_toArray, List.set_cons_zero, List.set_cons_succ]
  refine wpAnyH_take (i := 2) (oi := ⟨_, _, _, _, _, _⟩) (v := ?_) rfl (by kernel_rfl) (by kernel_rfl) (by kernel_rfl) (fun _ _ _ h => h) (Or.inl ⟨by rfl, ?_⟩) (by assumption) ?_
  rotate_left
  ·intro w hSw
   try dsimp only at hSw
   go_simp
   try with_reducible rfl
  simp only [Act.put, List.setIfInBounds_toArray, List.set_cons_zero, List.set_cons_succ]
  refine wpAnyH_take (i := 4) (oi := ⟨_, _, _, _, _, _⟩) (v := ?_) rfl (by kernel_rfl) (by kernel_rfl) (by kernel_rfl) (fun _ _ _ h => h) (Or.inl ⟨by rfl, ?_⟩) (by assumption) ?_
  rotate_left
  ·intro w hSw
   obtain ⟨g0, g1, g2, g3, g4, g5⟩ := hSw
   go_simp
   try with_reducible rfl
  simp only [Act.put, List.setIfInBounds_toArray, List.set_cons_zero, List.set_cons_succ]
  refine wpAnyH_ready (rs := [3, 6]) (by kernel_rfl) (by simp) ?_
  refine AllReadyH.cons (o := ⟨_, _, _, _, _, _⟩) rfl (fun K hK => ?_) ?_
  ·go_simp
   refine hK.out _ _ ?_ (fun hHeld => ?_)
   ·exact hx
   clear hK K
   try simp only [Act.put, List.setIfInBounds_toArray, List.set_cons_zero, List.set_cons_succ]
   refine wpAnyH_take (i := 5) (oi := ⟨_, _, _, _, _, _⟩) (v := ?_) rfl (by kernel_rfl) (by kernel_rfl) (by kernel_rfl) (fun _ _ _ h => h) (Or.inl ⟨by rfl, ?_⟩) (by assumption) ?_
   rotate_left
   ·intro w hSw
    try dsimp only at hSw
    go_simp
    try with_reducible rfl
   simp only [Act.put, List.setIfInBounds_toArray, List.set_cons_zero, List.set_cons_succ]
   refine wpAnyH_ready (rs := [6]) (by kernel_rfl) (by simp) ?_
   refine AllReadyH.cons (o := ⟨_, _, _, _, _, _⟩) rfl (fun K hK => ?_) AllReadyH.nil
   go_simp
   refine hK.out _ _ ?_ (fun hHeld => ?_)
   ·exact hxA
   clear hK K
   try simp only [Act.put, List.setIfInBounds_toArray, List.set_cons_zero, List.set_cons_succ]
   refine wpAnyH_ready (rs := [7]) (by kernel_rfl) (by simp) ?_
   refine AllReadyH.cons (o := ⟨_, _, _, _, _, _⟩) rfl (fun K hK => ?_) AllReadyH.nil
   refine step_append_lies _ (by rfl) _ _ 23 (by rfl) base 25 i0 (.agg #[.int .i64 0, .int .i64 0, .string ⟨#[]⟩, .slice none 0 0, .slice none 0 0, .slice none 0 0]) 6 104 Try.underlying23 hi hz0 hz1 hz2 rfl (by decide) (.slice ap ls.length cp) ls.length (Dt.flatP ls) (by rfl) HOW.out ⟨w2.heap.size, 0, none⟩ 1 1 [.int .i64 0, .int .i64 0, .string ⟨#[]⟩, .slice none 0 0, .slice none 0 0, .slice none 0 0] (by rfl) rfl HNEW.out HONE.out (by omega) hmx hby HBS.out _ rfl ?_
   intro g cap w5 hown hgrow hat hlt
   refine hK.out _ _ ?_ (fun hHeld => ?_)
   ·exact HS6.out _ (Dt.grown_keep HWA.out hgrow)
   clear hK K
   try simp only [Act.put, List.setIfInBounds_toArray, List.set_cons_zero, List.set_cons_succ]
   obtain ⟨hthere, HgB, HBX2, hbc⟩ := HTA.out g cap w5 hown hgrow hat
   have hsb := hbc.1
   have hfb := hbc.2
   refine wpAnyH_take (i := 10) (oi := ⟨_, _, _, _, _, _⟩) (v := ?_) rfl (by kernel_rfl) (by kernel_rfl) (by kernel_rfl) (fun _ _ _ h => h) (Or.inl ⟨by rfl, ?_⟩) (by assumption) ?_
   rotate_left
   ·intro w hSw
    try dsimp only at hSw
    go_simp
    try with_reducible rfl
   simp only [Act.put, List.setIfInBounds_toArray, List.set_cons_zero, List.set_cons_succ]
   refine wpAnyH_take (i := 11) (oi := ⟨_, _, _, _, _, _⟩) (v := ?_) rfl (by kernel_rfl) (by kernel_rfl) (by kernel_rfl) (fun _ _ _ h => h) (Or.inl ⟨by rfl, ?_⟩) (by assumption) ?_
   rotate_left
   ·intro w hSw
    try dsimp only at hSw
    go_simp
    try with_reducible rfl
   simp only [Act.put, List.setIfInBounds_toArray, List.set_cons_zero, List.set_cons_succ]
   refine wpAnyH_take (i := 8) (oi := ⟨_, _, _, _, _, _⟩) (v := ?_) rfl (by kernel_rfl) (by kernel_rfl) (by kernel_rfl) (fun _ _ _ h => h) (Or.inl ⟨by rfl, ?_⟩) (by assumption) ?_
   rotate_left
   ·intro w hSw
    try dsimp only at hSw
    go_simp
    try with_reducible rfl
   simp only [Act.put, List.setIfInBounds_toArray, List.set_cons_zero, List.set_cons_succ]
   refine wpAnyH_ready (rs := [9, 12]) (by kernel_rfl) (by simp) ?_
   refine AllReadyH.cons (o := ⟨_, _, _, _, _, _⟩) rfl (fun K hK => ?_) ?_
   ·rw [if_pos (by rfl)]
    refine wp_store_mid _ _ _ rfl g (ls.length * 6) #[.int .i64 x.k, .int .i64 x.n, .string x.s, .slice a1 x.m.length q1, .slice a2 x.l.length q2, .slice a3 x.t.length q3] rfl rfl hthere HinfoS.out (by simp [Value.oneCell']) ?_
    refine hK.out _ _ ?_ (fun hHeld => ?_)
    ·exact HBX2.out _ (Pt.keep_setCells (.inl rfl) _ _ (Keep.refl _ _))
    clear hK K
    try simp only [Act.put]
    refine wpAnyH_ready (rs := [12]) (by kernel_rfl) (by simp) ?_
    refine AllReadyH.cons (o := ⟨_, _, _, _, _, _⟩) rfl (fun K hK => ?_) AllReadyH.nil
    go_simp
    refine hK.out _ _ ?_ (fun hHeld => ?_)
    ·exact HBX2.out _ ((Pt.keep_setCells (.inl rfl) _ _ (Keep.refl _ _)).setCell (.inr rfl) _ _)
    clear hK K
    try simp only [Act.put, List.setIfInBounds_toArray, List.set_cons_zero, List.set_cons_succ]
    refine wpAnyH_done (by kernel_rfl) ?_ _
    refine NoPanic.normal ?_
    go_wp2_with fail
    go_meet
    exact HPU.out _ _ _ hown hgrow hat
   refine AllReadyH.cons (o := ⟨_, _, _, _, _, _⟩) rfl (fun K hK => ?_) AllReadyH.nil
   go_simp
   refine hK.out _ _ ?_ (fun hHeld => ?_)
   ·exact HBX2.out _ ((Keep.refl _ _).setCell (.inr rfl) _ _)
   clear hK K
   try simp only [Act.put, List.setIfInBounds_toArray, List.set_cons_zero, List.set_cons_succ]
   refine wpAnyH_ready (rs := [9]) (by kernel_rfl) (by simp) ?_
   refine AllReadyH.cons (o := ⟨_, _, _, _, _, _⟩) rfl (fun K hK => ?_) AllReadyH.nil
   rw [if_pos (by rfl)]
   refine wp_store_mid _ _ _ rfl g (ls.length * 6) #[.int .i64 x.k, .int .i64 x.n, .string x.s, .slice a1 x.m.length q1, .slice a2 x.l.length q2, .slice a3 x.t.length q3] rfl rfl (Pt.there_setCell hthere _ _ _) HinfoS.out (by simp [Value.oneCell']) ?_
   refine hK.out _ _ ?_ (fun hHeld => ?_)
   ·exact HBX2.out _ (Pt.keep_setCells (.inl rfl) _ _ ((Keep.refl _ _).setCell (.inr rfl) _ _))
   clear hK K
   try simp only [Act.put]
   refine wpAnyH_done (by kernel_rfl) ?_ _
   refine NoPanic.normal ?_
   rw [Pt.setCells_comm _ _ _ _ HgB.out]
   go_wp2_with fail
   go_meet
   exact HPU.out _ _ _ hown hgrow hat
  refine AllReadyH.cons (o := ⟨_, _, _, _, _, _⟩) rfl (fun K hK => ?_) AllReadyH.nil
  go_simp
  refine hK.out _ _ ?_ (fun hHeld => ?_)
  ·exact hxA
  clear hK K
  try simp only [Act.put, List.setIfInBounds_toArray, List.set_cons_zero, List.set_cons_succ]
  refine wpAnyH_ready (rs := [3]) (by kernel_rfl) (by simp) ?_
  refine AllReadyH.cons (o := ⟨_, _, _, _, _, _⟩) rfl (fun K hK => ?_) AllReadyH.nil
  go_simp
  refine hK.out _ _ ?_ (fun hHeld => ?_)
  ·exact hxA
  clear hK K
  try simp only [Act.put, List.setIfInBounds_toArray, List.set_cons_zero, List.set_cons_succ]
  refine wpAnyH_take (i := 5) (oi := ⟨_, _, _, _, _, _⟩) (v := ?_) rfl (by kernel_rfl) (by kernel_rfl) (by kernel_rfl) (fun _ _ _ h => h) (Or.inl ⟨by rfl, ?_⟩) (by assumption) ?_
  rotate_left
  ·intro w hSw
   try dsimp only at hSw
   go_simp
   try with_reducible rfl
  simp only [Act.put, List.setIfInBounds_toArray, List.set_cons_zero, List.set_cons_succ]
  refine wpAnyH_ready (rs := [7]) (by kernel_rfl) (by simp) ?_
  refine AllReadyH.cons (o := ⟨_, _, _, _, _, _⟩) rfl (fun K hK => ?_) AllReadyH.nil
  refine step_append_lies _ (by rfl) _ _ 23 (by rfl) base 25 i0 (.agg #[.int .i64 0, .int .i64 0, .string ⟨#[]⟩, .slice none 0 0, .slice none 0 0, .slice none 0 0]) 6 104 Try.underlying23 hi hz0 hz1 hz2 rfl (by decide) (.slice ap ls.length cp) ls.length (Dt.flatP ls) (by rfl) HOW.out ⟨w2.heap.size, 0, none⟩ 1 1 [.int .i64 0, .int .i64 0, .string ⟨#[]⟩, .slice none 0 0, .slice none 0 0, .slice none 0 0] (by rfl) rfl HNEW.out HONE.out (by omega) hmx hby HBS.out _ rfl ?_
  intro g cap w5 hown hgrow hat hlt
  refine hK.out _ _ ?_ (fun hHeld => ?_)
  ·exact HS6.out _ (Dt.grown_keep HWA.out hgrow)
  clear hK K
  try simp only [Act.put, List.setIfInBounds_toArray, List.set_cons_zero, List.set_cons_succ]
  obtain ⟨hthere, HgB, HBX2, hbc⟩ := HTA.out g cap w5 hown hgrow hat
  have hsb := hbc.1
  have hfb := hbc.2
  refine wpAnyH_take (i := 10) (oi := ⟨_, _, _, _, _, _⟩) (v := ?_) rfl (by kernel_rfl) (by kernel_rfl) (by kernel_rfl) (fun _ _ _ h => h) (Or.inl ⟨by rfl, ?_⟩) (by assumption) ?_
  rotate_left
  ·intro w hSw
   try dsimp only at hSw
   go_simp
   try with_reducible rfl
  simp only [Act.put, List.setIfInBounds_toArray, List.set_cons_zero, List.set_cons_succ]
  refine wpAnyH_take (i := 11) (oi := ⟨_, _, _, _, _, _⟩) (v := ?_) rfl (by kernel_rfl) (by kernel_rfl) (by kernel_rfl) (fun _ _ _ h => h) (Or.inl ⟨by rfl, ?_⟩) (by assumption) ?_
  rotate_left
  ·intro w hSw
   try dsimp only at hSw
   go_simp
   try with_reducible rfl
  simp only [Act.put, List.setIfInBounds_toArray, List.set_cons_zero, List.set_cons_succ]
  refine wpAnyH_take (i := 8) (oi := ⟨_, _, _, _, _, _⟩) (v := ?_) rfl (by kernel_rfl) (by kernel_rfl) (by kernel_rfl) (fun _ _ _ h => h) (Or.inl ⟨by rfl, ?_⟩) (by assumption) ?_
  rotate_left
  ·intro w hSw
   try dsimp only at hSw
   go_simp
   try with_reducible rfl
  simp only [Act.put, List.setIfInBounds_toArray, List.set_cons_zero, List.set_cons_succ]
  refine wpAnyH_ready (rs := [9, 12]) (by kernel_rfl) (by simp) ?_
  refine AllReadyH.cons (o := ⟨_, _, _, _, _, _⟩) rfl (fun K hK => ?_) ?_
  ·rw [if_pos (by rfl)]
   refine wp_store_mid _ _ _ rfl g (ls.length * 6) #[.int .i64 x.k, .int .i64 x.n, .string x.s, .slice a1 x.m.length q1, .slice a2 x.l.length q2, .slice a3 x.t.length q3] rfl rfl hthere HinfoS.out (by simp [Value.oneCell']) ?_
   refine hK.out _ _ ?_ (fun hHeld => ?_)
   ·exact HBX2.out _ (Pt.keep_setCells (.inl rfl) _ _ (Keep.refl _ _))
   clear hK K
   try simp only [Act.put]
   refine wpAnyH_ready (rs := [12]) (by kernel_rfl) (by simp) ?_
   refine AllReadyH.cons (o := ⟨_, _, _, _, _, _⟩) rfl (fun K hK => ?_) AllReadyH.nil
   go_simp
   refine hK.out _ _ ?_ (fun hHeld => ?_)
   ·exact HBX2.out _ ((Pt.keep_setCells (.inl rfl) _ _ (Keep.refl _ _)).setCell (.inr rfl) _ _)
   clear hK K
   try simp only [Act.put, List.setIfInBounds_toArray, List.set_cons_zero, List.set_cons_succ]
   refine wpAnyH_done (by kernel_rfl) ?_ _
   refine NoPanic.normal ?_
   go_wp2_with fail
   go_meet
   exact HPU.out _ _ _ hown hgrow hat
  refine AllReadyH.cons (o := ⟨_, _, _, _, _, _⟩) rfl (fun K hK => ?_) AllReadyH.nil
  go_simp
  refine hK.out _ _ ?_ (fun hHeld => ?_)
  ·exact HBX2.out _ ((Keep.refl _ _).setCell (.inr rfl) _ _)
  clear hK K
  try simp only [Act.put, List.setIfInBounds_toArray, List.set_cons_zero, List.set_cons_succ]
  refine wpAnyH_ready (rs := [9]) (by kernel_rfl) (by simp) ?_
  refine AllReadyH.cons (o := ⟨_, _, _, _, _, _⟩) rfl (fun K hK => ?_) AllReadyH.nil
  rw [if_pos (by rfl)]
  refine wp_store_mid _ _ _ rfl g (ls.length * 6) #[.int .i64 x.k, .int .i64 x.n, .string x.s, .slice a1 x.m.length q1, .slice a2 x.l.length q2, .slice a3 x.t.length q3] rfl rfl (Pt.there_setCell hthere _ _ _) HinfoS.out (by simp [Value.oneCell']) ?_
  refine hK.out _ _ ?_ (fun hHeld => ?_)
  ·exact HBX2.out _ (Pt.keep_setCells (.inl rfl) _ _ ((Keep.refl _ _).setCell (.inr rfl) _ _))
  clear hK K
  try simp only [Act.put]
  refine wpAnyH_done (by kernel_rfl) ?_ _
  refine NoPanic.normal ?_
  rw [Pt.setCells_comm _ _ _ _ HgB.out]
  go_wp2_with fail
  go_meet
  exact HPU.out _ _ _ hown hgrow hat
 case rest =>
  obtain ⟨vp', hK3, hk3, hr3⟩ := hcut
  have z1 := hK3.c1
  have f1 := hK3.fz 1
  have hds := HK.out.eq
  obtain ⟨i1, hi1, hy0, hy1, hy2⟩ := info_parts Dt.infoI
  have hm1 : ds.length + 1 ≤ maxLen := by unfold maxLen; omega
  have hm2 : (ds.length + 1) * 8 ≤ 140737488355328 := by omega
  have hBc : B < wc.heap.size := block_lt_of_cell z1
  have HOD := Lib.hid hK3.rd
  have hm3 : base ≤ wc.heap.size + 1 := by have := hK3.le; omega
  have HPD : Hid (∀ v' w5, w5.ownsRow base 3 1 v' (ds.length + 1) (ds.map (Value.int .i64) ++ [.int .i64 (deep : Int)]) → (wc.alloc (.cells #[.int .i64 (deep : Int)] 3)).grownBy w5 (Value.slice ad ds.length cd).ownBlock → (v'.ownBlock = (Value.slice ad ds.length cd).ownBlock ∨ v'.ownBlock = some (wc.heap.size + 1)) →
    Hid (Dt.Inv w2 base B (.slice ap ls.length cp) (.slice ad ds.length cd) x.l (ls.map Dt.P.d ++ [x]) (deep + 1) (0, ls.length + 1) 0 (w5.setCell ⟨B, 1, none⟩ v')) ∧ w5.cell? ⟨B, 1, none⟩ = some (.slice ad ds.length cd) ∧ w5.frozen? ⟨B, 1, none⟩ = false) := by
   intro v' w5 hown hg hat
   have hA : Below wc.heap.size wc (wc.alloc (.cells #[.int .i64 (deep : Int)] 3)) := (Below.refl _ _).alloc (Nat.le_refl _) _
   obtain ⟨k1, k2, k3⟩ := hK3.pushD (by rw [List.length_append]; show ds.length + 1 ≤ ls.length + 1; omega) (deep : Int) hA hown hg (by rw [World.size_alloc]; exact hat)
   obtain ⟨q1, q2, q3⟩ := Dt.WS.step hk3 hr3 (fun _ h => .inl h) k2 (fun _ h => .inl h) k3
   have hk5 : Keep (fun k => (Value.slice ad ds.length cd).ownBlock = some k) wc w5 := ⟨hg.os.trans hA.os, hg.tape.trans hA.tape, hg.output.trans hA.output, Nat.le_trans hA.size hg.size, fun k hk hn => (hg.block k (by have := hA.size; omega) (fun e => hn e.symm)).trans (hA.block k hk)⟩
   refine ⟨⟨0, vp', v', _, _, k1, ?_, fun _ => by simp [Dt.pres], q1, q2, q3⟩, (hk5.cell 1 hBc hK3.nd).trans z1, (hk5.frozen 1 hBc hK3.nd).trans f1⟩
   rw [List.drop_zero, List.length_append]
   rfl
  have HBX : Hid (∀ w', Keep (Dt.WS B (.slice ap ls.length cp) (.slice ad ds.length cd)) w2 w' → Dt.Box w' X x (.slice a1 x.m.length q1) (.slice a2 x.l.length q2) (.slice a3 x.t.length q3)) := by
   have hb0 := HS6.out w2 (Keep.refl _ _)
   intro w' hk
   have hn : ¬ Dt.WS B (.slice ap ls.length cp) (.slice ad ds.length cd) X := by
    intro e
    have hx := HX.out
    rcases e with e | e | e
    ·omega
    ·have := (Dt.own_lt HK.out.rp X e).2; omega
    ·have := (Dt.own_lt HK.out.rd X e).2; omega
   obtain ⟨g0, g1, g2, g3, g4, g5⟩ := hb0
   exact ⟨(hk.cell 0 hX2 hn).trans g0, (hk.cell 1 hX2 hn).trans g1, (hk.cell 2 hX2 hn).trans g2, (hk.cell 3 hX2 hn).trans g3, (hk.cell 4 hX2 hn).trans g4, (hk.cell 5 hX2 hn).trans g5⟩
  have HVP := Lib.hid (fun k h => (Dt.own_lt HK.out.rp k h).1)
  have HVD := Lib.hid (fun k h => (Dt.own_lt HK.out.rd k h).1)
  have HRL := Lib.hid ((Dt.rep_iff _ _ _ _ _ _).1 HR.out).2.1
  have HRT := Lib.hid ((Dt.rep_iff _ _ _ _ _ _).1 HR.out).2.2
  clear hK3 hk3 hr3 hds
  go_wp2_with (at_builtin; refine Ap.list rfl _ _ 22 rfl base 3 i1 (.int .i64 0) 1 8 Try.underlying22 hi1 hy0 hy1 hy2 rfl (by decide) (.slice ad ds.length cd) ds.length (ds.map (Value.int .i64)) rfl (HOD.out.alloc _) (.slice (some ⟨wc.heap.size, 0, none⟩) 1 1) 1 [.int .i64 (deep : Int)] rfl (.inr ⟨_, _, rfl, World.news_of_block (cs := #[.int .i64 (deep : Int)]) (t := 3) (fr := (0, 0)) (heap_alloc_new wc _)⟩) rfl (by simp [Value.oneCell']) hm1 hm2 (by simpa using hm3) ?_; intro v' w5 hown hg hat; obtain ⟨a5, c5, rfl⟩ := Dt.row_form hown; obtain ⟨HI0, g1, g2⟩ := HPD.out _ w5 hown hg (by simpa using hat); clear hown hg hat)
  obtain ⟨w6, hw6⟩ : ∃ w6, w5.setCell ⟨B, 1, none⟩ (.slice a5 (ds.length + 1) c5) = w6 := ⟨_, rfl⟩
  rw [hw6] at HI0 ⊢
  clear hw6 g1 g2 z1 f1 z0 HPD HOD
  go_loopw [6] (fun v wr => ∃ j : Nat, v = .int .i64 j ∧ j ≤ x.l.length ∧ Hid (Dt.Inv w2 base B (.slice ap ls.length cp) (.slice ad ds.length cd) x.l (ls.map Dt.P.d ++ [x]) (deep + 1) (0, ls.length + 1) j wr)) (fun v _ => x.l.length - (intOf v).toNat)
  case atStart => exact ⟨0, rfl, Nat.zero_le _, HI0⟩
  case round =>
   obtain ⟨j, rfl, hj, HI⟩ := hrel
   obtain ⟨b0, b1, b2, b3, b4, b5⟩ := HBX.out wr HI.out.keep
   by_cases hlt : j < x.l.length
   ·have hlti : (j : Int) < (x.l.length : Int) := by omega
    obtain ⟨y, g, o, vmj, vlj, vtj, hag, hsx, HC⟩ := Dt.inv_step HRL.out (Dt.wf_l HW.out) HB2.out HVP.out HVD.out HL.out HI.out (by omega) hlt
    have HAG := Lib.hid hag
    obtain ⟨y0, y1, y2, y3, y4, y5⟩ := hsx
    rw [show (((deep + 1 : Nat) : Int)) = (deep : Int) + 1 by omega] at HC
    subst hag
    clear HI
    go_wp2_with fail
    refine HC.out.mono ?_
    rintro e w7 ⟨rfl, hI7⟩
    have HI7 := Lib.hid hI7
    clear hI7 HC b0 b1 b2 b3 b4 b5 y0 y1 y2 y3 y4 y5
    go_wp2
    go_roundw
    case rel => first | exact ⟨j + 1, by simp, by omega, HI7⟩ | exact ⟨_, _, _, _, _, _, _, _, _, _, _, _, ⟨j + 1, by simp, by omega, HI7⟩, rfl⟩
    case measure => simp [intOf]; omega
   ·obtain rfl : j = x.l.length := by omega
    have hgei : (x.l.length : Int) ≤ (x.l.length : Int) := by omega
    have HI0' : Hid (Dt.Inv w2 base B (.slice ap ls.length cp) (.slice ad ds.length cd) x.t (ls.map Dt.P.d ++ [x] ++ Dt.pres x.l) (deep + 1) (Dt.chksE x.l (deep + 1) (0, ls.length + 1)) 0 wr) := by
     obtain ⟨e, vpj, vdj, lsj, dsj, k1, k2, k3, k4, k5, k6⟩ := HI.out
     refine ⟨e, vpj, vdj, lsj, dsj, k1, ?_, fun h0 => ?_, k4, k5, k6⟩
     ·rw [k2, List.drop_length, Dt.chksE_nil, List.drop_zero]
     ·rw [k3 h0, List.take_length, List.take_zero]; simp [Dt.pres]
    clear HI
    go_wp2
    obtain ⟨wo, hwo⟩ : ∃ wo, wo = wr := ⟨_, rfl⟩
    rw [← hwo] at HI0' b0 b1 b2 b3 b4 b5 ⊢
    clear hwo
    go_loopw [7] (fun v wr => ∃ j : Nat, v = .int .i64 j ∧ j ≤ x.t.length ∧ Hid (Dt.Inv w2 base B (.slice ap ls.length cp) (.slice ad ds.length cd) x.t (ls.map Dt.P.d ++ [x] ++ Dt.pres x.l) (deep + 1) (Dt.chksE x.l (deep + 1) (0, ls.length + 1)) j wr)) (fun v _ => x.t.length - (intOf v).toNat)
    case atStart => exact ⟨0, rfl, Nat.zero_le _, HI0'⟩
    case round =>
     obtain ⟨j, rfl, hj, HI⟩ := hrel
     obtain ⟨b0, b1, b2, b3, b4, b5⟩ := HBX.out wr HI.out.keep
     by_cases hlt : j < x.t.length
     ·have hlti : (j : Int) < (x.t.length : Int) := by omega
      obtain ⟨y, g, o, vmj, vlj, vtj, hag, hsx, HC⟩ := Dt.inv_step HRT.out (Dt.wf_t HW.out) HB2.out HVP.out HVD.out HT.out HI.out (by omega) hlt
      have HAG := Lib.hid hag
      obtain ⟨y0, y1, y2, y3, y4, y5⟩ := hsx
      rw [show (((deep + 1 : Nat) : Int)) = (deep : Int) + 1 by omega] at HC
      subst hag
      clear HI
      go_wp2_with fail
      refine HC.out.mono ?_
      rintro e w7 ⟨rfl, hI7⟩
      have HI7 := Lib.hid hI7
      clear hI7 HC b0 b1 b2 b3 b4 b5 y0 y1 y2 y3 y4 y5
      go_wp2
      go_roundw
      case rel => first | exact ⟨j + 1, by simp, by omega, HI7⟩ | exact ⟨_, _, _, _, _, _, _, _, _, _, _, _, ⟨j + 1, by simp, by omega, HI7⟩, rfl⟩
      case measure => simp [intOf]; omega
     ·obtain rfl : j = x.t.length := by omega
      have hgei : (x.t.length : Int) ≤ (x.t.length : Int) := by omega
      go_wp2
      go_end0
      refine ⟨rfl, ?_⟩
      obtain ⟨e, vpj, vdj, lsj, dsj, k1, k2, k3, k4, k5, k6⟩ := HI.out
      rw [List.drop_length, Dt.chksE_nil] at k2
      have hb2 := HB2.out
      refine ⟨vpj, vdj, lsj, dsj, by rw [HDP.out, k2]; exact k1, by rw [HDP.out, k2], fun h0 => ?_, ((Keep.refl _ w).below hb2).trans k4, fun k hk => ?_, fun k hk => ?_⟩
      ·rw [HDP.out, k2] at h0
       rw [k3 h0, List.take_length, HPR.out]
       simp
      ·rcases k5 k hk with h | h
       ·exact .inl h
       ·have := hb2.size; exact .inr (by omega)
      ·rcases k6 k hk with h | h
       ·exact .inl h
       ·have := hb2.size; exact .inr (by omega)
mutual
theorem Dt.goes_any : ∀ x : Dt.D, Dt.Goes x
 | .mk k n s m l t => by
  intro deep base B vp vd vm vl vt ls ds w hW hR hK hd
  by_cases h1 : 64 < deep
  ·exact goes_bad (.mk k n s m l t) deep base B vp vd vm vl vt ls ds w hW hR hK hd (.inl h1)
  by_cases h2 : 4096 ≤ ls.length
  ·exact goes_bad (.mk k n s m l t) deep base B vp vd vm vl vt ls ds w hW hR hK hd (.inr (.inl h2))
  by_cases hs : Dt.single (.mk k n s m l t) = true
  ·exact goes_good (.mk k n s m l t) (Dt.goess_any l) (Dt.goess_any t) deep base B vp vd vm vl vt ls ds w hW hR hK hd h1 h2 hs
  ·exact goes_bad (.mk k n s m l t) deep base B vp vd vm vl vt ls ds w hW hR hK hd (.inr (.inr (by simpa using hs)))
theorem Dt.goess_any : ∀ (l : List Dt.D) (y : Dt.D), y ∈ l → Dt.Goes y
 | [], _, h => absurd h (by simp)
 | x :: r, y, h => (List.mem_cons.1 h).elim (fun e => by rw [e]; exact Dt.goes_any x) (fun h' => Dt.goess_any r y h')
end
end Go.Proofs.Ytcopdfihaheplaa
