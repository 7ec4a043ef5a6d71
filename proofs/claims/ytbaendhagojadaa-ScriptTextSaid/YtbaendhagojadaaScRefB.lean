/-
  The walks of the reference's words, Numbers and may.
-/
import Derived.Test.YtbaendhagojadaaScRefA
namespace Go.Proofs.Ytbaendhagojadaa
open Go.RowKit Go.Sort
namespace Sc
theorem infoStr : (Try.prog.info? 9).map (fun i => (i.zero, i.size, i.bytes)) = some (some (.string ⟨#[]⟩), 1, 16) := by kernel_rfl
def strV (l : List UInt8) : Value := .string ⟨l.toArray⟩
/-- what the reference's words come to -/
def WordsPost (p s : List UInt8) (w : World) (e : Ending) (w' : World) : Prop :=
  Below w.heap.size w w' ∧ match strip p s with
  | none => e = .returned (.slice none 0 0)
  | some ws => ∃ v, e = .returned v ∧ w'.ownsRow w.heap.size 9 1 v (cuts ws).length ((cuts ws).map strV)
theorem WordsPost.no {p s : List UInt8} {w w' : World} (h : strip p s = none) (hb : Below w.heap.size w w') : WordsPost p s w (.returned (.slice none 0 0)) w' := by
  refine ⟨hb, ?_⟩
  simp only [h]
theorem WordsPost.yes {p s ws : List UInt8} {w w' : World} {v : Value} (h : strip p s = some ws) (hb : Below w.heap.size w w') (ho : w'.ownsRow w.heap.size 9 1 v (cuts ws).length ((cuts ws).map strV)) : WordsPost p s w (.returned v) w' := by
  refine ⟨hb, ?_⟩
  simp only [h]
  exact ⟨v, rfl, ho⟩
/-- how far the words are cut -/
def WInv (s : ByteArray) (f0 q fr : Nat) (D : List (List UInt8)) : Prop :=
  D.length ≤ q - f0 ∧ ((q ≤ s.size ∧ fr ≤ q ∧ f0 ≤ fr ∧ cuts ((s.data.toList.drop f0).take (q - f0)) = D ++ [(s.data.toList.drop fr).take (q - fr)]) ∨ (q = s.size + 1 ∧ D = cuts (s.data.toList.drop f0)))
theorem WInv.start (s : ByteArray) (f0 : Nat) (h : f0 ≤ s.size) : WInv s f0 f0 f0 [] := by
  refine ⟨by simp, .inl ⟨h, Nat.le_refl _, Nat.le_refl _, ?_⟩⟩
  rw [Nat.sub_self, List.take_zero]
  rfl
theorem take_at (s : ByteArray) (f q : Nat) (hf : f ≤ q) (hq : q < s.size) : (s.data.toList.drop f).take (q + 1 - f) = (s.data.toList.drop f).take (q - f) ++ [s[q]] := by
  rw [show q + 1 - f = (q - f) + 1 by omega, List.take_succ_eq_append_getElem (by rw [List.length_drop, Fx.size_toList]; omega), List.getElem_drop]
  congr 2
  simp only [show f + (q - f) = q by omega]
  rfl
theorem WInv.last (s : ByteArray) (f0 fr : Nat) (D : List (List UInt8)) (h : WInv s f0 s.size fr D) (hf : f0 ≤ s.size) : WInv s f0 (s.size + 1) (s.size + 1) (D ++ [(s.data.toList.drop fr).take (s.size - fr)]) := by
  obtain ⟨h0, h1⟩ := h
  refine ⟨by rw [List.length_append, List.length_singleton]; omega, .inr ⟨rfl, ?_⟩⟩
  rcases h1 with ⟨_, _, _, h4⟩ | ⟨h4, _⟩
  · rw [← h4]
    congr 1
    exact List.take_of_length_le (by rw [List.length_drop, Fx.size_toList]; exact Nat.le_refl _)
  · omega
theorem WInv.blank (s : ByteArray) (f0 q fr : Nat) (D : List (List UInt8)) (h : WInv s f0 q fr D) (hq : q < s.size) (hc : s[q] = 32) (hf0 : f0 ≤ q) : WInv s f0 (q + 1) (q + 1) (D ++ [(s.data.toList.drop fr).take (q - fr)]) := by
  obtain ⟨h0, h1⟩ := h
  refine ⟨by rw [List.length_append, List.length_singleton]; omega, .inl ⟨by omega, Nat.le_refl _, by omega, ?_⟩⟩
  rcases h1 with ⟨_, _, h3, h4⟩ | ⟨h4, _⟩
  · rw [take_at s f0 q (by omega) hq, hc, cuts_snoc, if_pos rfl, h4, Nat.sub_self, List.take_zero]
  · omega
theorem WInv.other (s : ByteArray) (f0 q fr : Nat) (D : List (List UInt8)) (h : WInv s f0 q fr D) (hq : q < s.size) (hc : s[q] ≠ 32) : WInv s f0 (q + 1) fr D := by
  obtain ⟨h0, h1⟩ := h
  refine ⟨by omega, .inl ?_⟩
  rcases h1 with ⟨_, h2, h3, h4⟩ | ⟨h4, _⟩
  · refine ⟨by omega, by omega, h3, ?_⟩
    rw [take_at s f0 q (by omega) hq, cuts_snoc, if_neg hc, h4, take_at s fr q h2 hq]
    simp
  · omega
theorem WInv.done (s : ByteArray) (f0 q fr : Nat) (D : List (List UInt8)) (h : WInv s f0 q fr D) (hq : s.size < q) : D = cuts (s.data.toList.drop f0) := by
  rcases h.2 with ⟨h4, _⟩ | ⟨_, h4⟩
  · omega
  · exact h4
end Sc
set_option maxRecDepth 100000 in
set_option maxHeartbeats 2000000 in
theorem words25_any (s nmv : ByteArray) (w : World) (hs : s.size ≤ 1000000) (hn : nmv.size ≤ 10) :
    Calls Try.prog 23 #[.string s, .string nmv] w (Sc.WordsPost (nmv.data.toList ++ [32]) s.data.toList w) := by
  obtain ⟨i0, hi, hz0, hz1, hz2⟩ := info_parts Sc.infoStr
  by_cases hl : s.size ≤ nmv.size
  · have HS : Hid (Sc.strip (nmv.data.toList ++ [32]) s.data.toList = none) := by
      show _ = _
      unfold Sc.strip
      rw [if_neg]
      rw [Sc.prefix_take, beq_iff_eq]
      intro h
      have := congrArg List.length h
      rw [List.length_take, List.length_append, Fx.size_toList, Fx.size_toList, List.length_singleton] at this
      omega
    have hli : (s.size : Int) ≤ (nmv.size : Int) := by omega
    go_enter Try.func23, Try.ntmps23
    go_wp2
    go_ret
    exact .no HS.out (Below.refl _ _)
  have hli : ¬ (s.size : Int) ≤ (nmv.size : Int) := by omega
  have hb1 : (nmv.size : Int) + 1 ≤ (s.size : Int) := by omega
  have hb2 : ¬ 9223372036854775807 < nmv.size + 1 := by omega
  obtain ⟨d, hd⟩ : ∃ d, s.extract 0 (nmv.size + 1) = d := ⟨_, rfl⟩
  obtain ⟨P, hP⟩ : ∃ P : ByteArray, nmv ++ ⟨#[32]⟩ = P := ⟨_, rfl⟩
  have hPl : P.data.toList = nmv.data.toList ++ [32] := by rw [← hP]; simp
  have heq : (d.toList == P.toList) = (nmv.data.toList ++ [32]).isPrefixOf s.data.toList := by
    rw [ByteArray.toList_eq, ByteArray.toList_eq, ← hd, Sc.ext_take, hPl, Sc.prefix_take, List.length_append, Fx.size_toList]; rfl
  rw [← hPl] at heq ⊢
  cases hpf : P.data.toList.isPrefixOf s.data.toList
  · have f1 : (d.toList == P.toList) = false := by rw [heq, hpf]
    have f2 : (d.toList != P.toList) = true := by rw [bne, f1]; rfl
    have HS : Hid (Sc.strip P.data.toList s.data.toList = none) := by show _ = _; unfold Sc.strip; rw [hpf]; rfl
    clear hPl heq hpf
    go_enter Try.func23, Try.ntmps23
    go_wp2
    go_ret
    exact .no HS.out (Below.refl _ _)
  have f1 : (d.toList == P.toList) = true := by rw [heq, hpf]
  have f2 : (d.toList != P.toList) = false := by rw [bne, f1]; rfl
  obtain ⟨f0, hf0⟩ : ∃ f0, nmv.size + 1 = f0 := ⟨_, rfl⟩
  rw [hf0] at hd
  have hPs : P.data.toList.length = f0 := by rw [hPl, List.length_append, Fx.size_toList]; exact hf0
  have HS : Hid (Sc.strip P.data.toList s.data.toList = some (s.data.toList.drop f0)) := by show _ = _; unfold Sc.strip; rw [hpf, hPs]; rfl
  have hfs : f0 ≤ s.size := by omega
  have hfi : (nmv.size : Int) + 1 = (f0 : Int) := by omega
  clear hPl heq hpf hPs
  go_enter Try.func23, Try.ntmps23
  go_wp2_with fail
  clear hd hP hf0 f1 f2 hli hb1 hb2
  go_loopw [5, 6, 7] (fun vo vf vi wr => ∃ (q fr : Nat) (D : List (List UInt8)) (ov : Value), vo = ov ∧ vf = .int .i64 fr ∧ vi = .int .i64 q ∧ f0 ≤ q ∧ q ≤ s.size + 1 ∧ Hid (Sc.WInv s f0 q fr D) ∧ Hid (wr.ownsRow w.heap.size 9 1 ov D.length (D.map Sc.strV)) ∧ Below w.heap.size w wr) (fun _ _ vi _ => s.size + 1 - (intOf vi).toNat)
  case atStart => exact ⟨f0, f0, [], _, rfl, by first | rfl | exact congrArg _ hfi, by first | rfl | exact congrArg _ hfi, Nat.le_refl _, by omega, Sc.WInv.start s f0 hfs, World.ownsRow_nil _ _ _ _, Below.refl _ _⟩
  case round =>
    obtain ⟨q, fr, D, ov, rfl, rfl, rfl, hq0, hq1, HI, HO, hbl⟩ := hrel
    clear hfi
    by_cases hq : q ≤ s.size
    case neg =>
      have hqi : ¬ (q : Int) ≤ (s.size : Int) := by omega
      have hD := Sc.WInv.done s f0 q fr D HI.out (by omega)
      subst hD
      go_wp2
      go_ret
      exact .yes HS.out hbl HO.out
    have hqi : (q : Int) ≤ (s.size : Int) := by omega
    have hfr : fr ≤ q := by
      rcases HI.out.2 with ⟨_, h, _⟩ | ⟨h, _⟩ <;> omega
    have hDl : D.length ≤ 1000000 := by have := HI.out.1; omega
    obtain ⟨x, hx⟩ : ∃ x, s.extract fr q = x := ⟨_, rfl⟩
    have hxl : x.data.toList = (s.data.toList.drop fr).take (q - fr) := by rw [← hx, Lib.extract_data]
    have hxv : Sc.strV ((s.data.toList.drop fr).take (q - fr)) = .string x := by rw [← hxl]; unfold Sc.strV; rw [Sc.mk_list]
    have HXV := Lib.hid hxv
    have hfri : (fr : Int) ≤ (q : Int) := by omega
    have hO := HO.out
    have hsz0 := hbl.size
    clear hxl hxv
    by_cases hqe : q = s.size
    · subst hqe
      have HI2 := Lib.hid (Sc.WInv.last s f0 fr D HI.out hfs)
      go_wp2_with (at_builtin; refine wpList_append_own _ rfl _ _ 54 rfl w.heap.size 9 i0 (.string ⟨#[]⟩) 1 16 Try.underlying54 hi hz0 hz1 hz2 rfl (by decide) _ _ _ rfl (hO.alloc _) ⟨wr.heap.size,0,none⟩ 1 1 [.string x] rfl rfl (cell_one_new _ _ _) (fun x hx => by simp at hx; subst hx; rfl) (by unfold maxLen; omega) (by omega) (by simp; omega) ?_; intro v' w3 hown' hgrow3 hnil3)
      go_roundw
      case rel => exact ⟨s.size + 1, s.size + 1, _, _, rfl, by go_num, by go_num, by omega, by omega, HI2, Lib.hid (by rw [List.length_append, List.map_append, List.map_singleton, HXV.out]; exact hown'), Below.grown (hbl.alloc (by omega) _) hgrow3 (by simp; omega) (fun j hj => by have := (hO.lt _ hj).1; omega)⟩
      case measure => simp [intOf]; try omega
    have hlt : q < s.size := by omega
    have hqne : ((q : Int) == (s.size : Int)) = false := by rw [beq_eq_false_iff_ne]; omega
    by_cases hc : s[q] = 32
    · have HI2 := Lib.hid (Sc.WInv.blank s f0 q fr D HI.out hlt hc hq0)
      have hci : ((s[q].toNat : Int) == 32) = true := by rw [hc]; rfl
      have hltI : (q : Int) < (s.size : Int) := by omega
      clear hc
      go_wp2_with (at_builtin; refine wpList_append_own _ rfl _ _ 54 rfl w.heap.size 9 i0 (.string ⟨#[]⟩) 1 16 Try.underlying54 hi hz0 hz1 hz2 rfl (by decide) _ _ _ rfl (hO.alloc _) ⟨wr.heap.size,0,none⟩ 1 1 [.string x] rfl rfl (cell_one_new _ _ _) (fun x hx => by simp at hx; subst hx; rfl) (by unfold maxLen; omega) (by omega) (by simp; omega) ?_; intro v' w3 hown' hgrow3 hnil3)
      go_roundw
      case rel => exact ⟨q + 1, q + 1, _, _, rfl, by go_num, by go_num, by omega, by omega, HI2, Lib.hid (by rw [List.length_append, List.map_append, List.map_singleton, HXV.out]; exact hown'), Below.grown (hbl.alloc (by omega) _) hgrow3 (by simp; omega) (fun j hj => by have := (hO.lt _ hj).1; omega)⟩
      case measure => simp [intOf]; omega
    · have HI2 := Lib.hid (Sc.WInv.other s f0 q fr D HI.out hlt hc)
      have hltI : (q : Int) < (s.size : Int) := by omega
      have hci : ((s[q].toNat : Int) == 32) = false := by
        rw [beq_eq_false_iff_ne]
        exact fun h => hc (UInt8.toNat_inj.1 (by show s[q].toNat = 32; omega))
      clear hc
      go_wp2
      go_roundw
      case rel => exact ⟨q + 1, fr, D, _, rfl, rfl, by go_num, by omega, by omega, HI2, HO, hbl⟩
      case measure => simp [intOf]; omega
namespace Sc
/-- the reference's numbers of a script, in block B -/
def NumsR (w : World) (B : Nat) (v : List Int) : Prop :=
  ∀ k, k < 5 → w.cell? ⟨B, k * 4, none⟩ = some (.string (nmB k)) ∧ w.cell? ⟨B, k * 4 + 1, none⟩ = some (.int .i64 (v.getD k 0)) ∧ w.cell? ⟨B, k * 4 + 2, none⟩ = some (.int .i64 (low k)) ∧ w.cell? ⟨B, k * 4 + 3, none⟩ = some (.int .i64 (top k))
def numsRO (a b c d e : Int) : Obj := .cells #[.string (nmB 0), .int .i64 a, .int .i64 1, .int .i64 65536, .string (nmB 1), .int .i64 b, .int .i64 1, .int .i64 16, .string (nmB 2), .int .i64 c, .int .i64 1, .int .i64 16, .string (nmB 3), .int .i64 d, .int .i64 1, .int .i64 1024, .string (nmB 4), .int .i64 e, .int .i64 0, .int .i64 65536] 51
theorem numsR_new (w : World) (a b c d e : Int) : NumsR (w.alloc (numsRO a b c d e)) w.heap.size [a, b, c, d, e] := by
  have hh : (w.alloc (numsRO a b c d e)).heap[w.heap.size]? = some (numsRO a b c d e) := by
    show (w.heap.push _)[w.heap.size]? = _
    simp
  intro k hk
  unfold World.cell?
  rw [hh]
  match k, hk with
  | 0, _ => exact ⟨rfl, rfl, rfl, rfl⟩
  | 1, _ => exact ⟨rfl, rfl, rfl, rfl⟩
  | 2, _ => exact ⟨rfl, rfl, rfl, rfl⟩
  | 3, _ => exact ⟨rfl, rfl, rfl, rfl⟩
  | 4, _ => exact ⟨rfl, rfl, rfl, rfl⟩
end Sc
set_option maxRecDepth 100000 in
set_option maxHeartbeats 1000000 in
theorem Numbers25_any (a b c d e : Int) (p : Option Addr) (n cp : Nat) (x : ByteArray) (w : World) :
    Calls Try.prog 22 #[.agg #[.int .i64 a, .int .i64 b, .int .i64 c, .int .i64 d, .int .i64 e, .slice p n cp, .string x]] w fun e' w' => e' = .returned (.slice (some ⟨w.heap.size + 1, 0, none⟩) 5 5) ∧ w' = (w.alloc (.cells #[.int .i64 a, .int .i64 b, .int .i64 c, .int .i64 d, .int .i64 e, .slice p n cp, .string x] 25)).alloc (Sc.numsRO a b c d e) := by
  go_enter Try.func22, Try.ntmps22
  go_wp2
  go_ret
  exact ⟨rfl, rfl⟩
set_option maxRecDepth 100000 in
theorem may25_any (x : ByteArray) (m n lo hi : Int) (w : World) :
    Calls Try.prog 24 #[.agg #[.string x, .int .i64 m, .int .i64 lo, .int .i64 hi], .int .i64 n] w fun e w' => e = .returned (.bool (decide (lo ≤ n) && decide (n ≤ hi))) ∧ Below w.heap.size w w' := by
  by_cases h1 : lo ≤ n
  · have e1 : decide (lo ≤ n) = true := decide_eq_true h1
    rw [e1, Bool.true_and]
    go_enter Try.func24, Try.ntmps24
    go_wp2
    go_ret
    exact ⟨rfl, (Below.refl _ _).alloc (Nat.le_refl _) _⟩
  · have e1 : decide (lo ≤ n) = false := decide_eq_false h1
    rw [e1, Bool.false_and]
    go_enter Try.func24, Try.ntmps24
    go_wp2
    go_ret
    exact ⟨rfl, (Below.refl _ _).alloc (Nat.le_refl _) _⟩
end Go.Proofs.Ytbaendhagojadaa
