/-
  shuttlelaw03.LexBack: for every input the call returns true and leaves its arguments as they were. No condition.
-/
import Derived.Test.YtihfflinkmceaabTxO
import Derived.Test.YtihfflinkmceaabLexBare
import Derived.Test.YtihfflinkmceaabBackP
import Derived.Test.YtihfflinkmceaabLexApartW
import Derived.Test.YtihfflinkmceaabTxS
import Derived.Test.YtihfflinkmceaabTxOpen
import Derived.Test.YtihfflinkmceaabPost
namespace Go.Proofs.Ytihfflinkmceaab
open Go.RowKit Go.Sort
namespace Tx
def cellsW (p : W) : List Value := [.int .i64 p.k, .int .i64 p.a, .int .i64 p.z, .int .i64 p.n, .string p.s]
def flatW (l : List W) : List Value := l.flatMap cellsW
theorem flatW_len (l : List W) : (flatW l).length = l.length * 5 := by
  induction l with
  | nil => rfl
  | cons a l ih => unfold flatW at *; simp [cellsW, ih]; omega
theorem flatW_at : ∀ (l : List W) (k : Nat) (h : k < l.length) (i : Nat), i < 5 → (flatW l)[k * 5 + i]? = (cellsW l[k])[i]? := by
  intro l
  induction l with
  | nil => intro k h; exact absurd h (by simp)
  | cons a l ih =>
    intro k h i hi
    have e : flatW (a :: l) = cellsW a ++ flatW l := rfl
    rw [e]
    have h5 : (cellsW a).length = 5 := rfl
    cases k with
    | zero => rw [List.getElem?_append_left (by omega)]; simp
    | succ k =>
      rw [List.getElem?_append_right (by omega), h5, show (k + 1) * 5 + i - 5 = k * 5 + i by omega]
      simpa using ih k (by simpa using h) i hi
def bareW (p : W) : W := ⟨p.k, 0, 0, p.n, p.s⟩
def mixW (l : List W) (k : Nat) : List W := (l.take k).map bareW ++ l.drop k
theorem mixW_all (l : List W) : mixW l l.length = l.map bareW := by simp [mixW]
theorem mixW_len (l : List W) (k : Nat) : (mixW l k).length = l.length := by simp [mixW]; omega
theorem oneW_flat (l : List W) : ∀ u ∈ flatW l, u.oneCell' = true := by
  intro u hu
  unfold flatW at hu
  rw [List.mem_flatMap] at hu
  obtain ⟨p, _, hp⟩ := hu
  simp [cellsW] at hp
  rcases hp with rfl | rfl | rfl | rfl | rfl <;> rfl
theorem mixW_step (l : List W) (k : Nat) (h : k < l.length) : flatW (mixW l (k + 1)) = ((flatW (mixW l k)).set (k * 5 + 1) (.int .i64 0)).set (k * 5 + 2) (.int .i64 0) := by
  have e1 : mixW l k = (l.take k).map bareW ++ l[k] :: l.drop (k + 1) := by unfold mixW; rw [List.drop_eq_getElem_cons h]
  have e2 : mixW l (k + 1) = (l.take k).map bareW ++ bareW l[k] :: l.drop (k + 1) := by
    unfold mixW; rw [List.take_succ_eq_append_getElem h, List.map_append, List.append_assoc]; rfl
  have hl : (flatW ((l.take k).map bareW)).length = k * 5 := by rw [flatW_len]; simp; omega
  have f : ∀ (p : W) (r : List W) (a : List W), flatW (a ++ p :: r) = flatW a ++ (cellsW p ++ flatW r) := fun p r a => by unfold flatW; simp
  rw [e1, e2, f, f, List.set_append_right _ _ (by omega), List.set_append_right _ _ (by omega), hl, show k * 5 + 1 - k * 5 = 1 by omega, show k * 5 + 2 - k * 5 = 2 by omega]
  rfl
/-- the bare words as the cut ones are told -/
theorem bare_flat (l : List W) : flatW (l.map bareW) = Lx.flatT (l.map fun t => ⟨0, 0, Lx.tokOf t⟩) := by
  unfold flatW Lx.flatT
  rw [List.flatMap_map, List.flatMap_map]
  rfl
theorem news_of {w : World} {b o : Nat} {l : List W} (h : ∀ j, (h : j < l.length) →
    w.cell? ⟨b, o + j * 5, none⟩ = some (.int .i64 l[j].k) ∧ w.cell? ⟨b, o + j * 5 + 1, none⟩ = some (.int .i64 l[j].a) ∧ w.cell? ⟨b, o + j * 5 + 2, none⟩ = some (.int .i64 l[j].z) ∧ w.cell? ⟨b, o + j * 5 + 3, none⟩ = some (.int .i64 l[j].n) ∧ w.cell? ⟨b, o + j * 5 + 4, none⟩ = some (.string l[j].s)) :
    ∀ (j : Nat) (u : Value), (flatW l)[j]? = some u → w.cell? ((⟨b, o, none⟩ : Addr).add j) = some u := by
  intro j u hj
  have hjl : j < l.length * 5 := by have := (List.getElem?_eq_some_iff.1 hj).1; rw [flatW_len] at this; exact this
  obtain ⟨c0, c1, c2, c3, c4⟩ := h (j / 5) (by omega)
  have e : ((⟨b, o, none⟩ : Addr).add j) = ⟨b, o + j, none⟩ := by unfold Addr.add; split <;> simp_all
  rw [e]
  have hd := flatW_at l (j / 5) (by omega) (j % 5) (by omega)
  rw [show j / 5 * 5 + j % 5 = j by omega, hj] at hd
  have h5 : j % 5 = 0 ∨ j % 5 = 1 ∨ j % 5 = 2 ∨ j % 5 = 3 ∨ j % 5 = 4 := by omega
  rcases h5 with h5 | h5 | h5 | h5 | h5
  · rw [h5] at hd; rw [show o + j = o + j / 5 * 5 by omega, c0]; exact hd.symm
  · rw [h5] at hd; rw [show o + j = o + j / 5 * 5 + 1 by omega, c1]; exact hd.symm
  · rw [h5] at hd; rw [show o + j = o + j / 5 * 5 + 2 by omega, c2]; exact hd.symm
  · rw [h5] at hd; rw [show o + j = o + j / 5 * 5 + 3 by omega, c3]; exact hd.symm
  · rw [h5] at hd; rw [show o + j = o + j / 5 * 5 + 4 by omega, c4]; exact hd.symm
end Tx
set_option maxRecDepth 100000 in
set_option maxHeartbeats 4000000 in
theorem bareW_any (w : World) (v : Value) (l : List Tx.W) (hv : Tx.Row w v l) (hl : l.length ≤ 1000000) :
    Calls Try.prog 17 #[v] w fun e w' => ∃ v, e = .returned v ∧ Lx.Row w' v (l.map fun t => ⟨0, 0, Lx.tokOf t⟩) ∧ Below w.heap.size w w' := by
  obtain ⟨i0, hi, hz0, hz1, hz2⟩ := info_parts Lx.infoTok
  obtain ⟨a, cap, rfl, hcap, hcells⟩ := hv
  by_cases hl0 : l = []
  · subst hl0
    clear hcells
    cases a with
    | none =>
      go_enter Try.func17, Try.ntmps17
      go_wp2_with fail
      go_loopw [9] (fun v wr => v = .int .i64 0 ∧ wr = w) (fun _ _ => 0)
      case atStart => exact ⟨rfl, rfl⟩
      case round =>
        obtain ⟨rfl, rfl⟩ := hrel
        go_wp2
        go_ret
        exact ⟨_, rfl, .inl ⟨rfl, rfl⟩, Below.refl _ _⟩
    | some x =>
      have hnil := World.ownsRow_nil w w.heap.size 35 5
      have e0 : (([] : List Tx.W).length) = 0 := rfl
      rw [e0]
      go_enter Try.func17, Try.ntmps17
      go_wp2_with (at_builtin; refine wpList_append_own _ rfl _ _ 23 rfl w.heap.size 35 i0 (.agg #[.int .i64 0, .int .i64 0, .int .i64 0, .int .i64 0, .string ⟨#[]⟩]) 5 48 Try.underlying23 hi hz0 hz1 hz2 rfl (by decide) _ _ _ rfl hnil x 0 cap [] rfl rfl (by intro j u hj; exact absurd hj (by simp)) (by intro u hu; exact absurd hu (by simp)) (by unfold maxLen; omega) (by omega) (Nat.le_refl _) ?_; intro v' w3 hown' hgrow3 hnil3; rcases Joins.ownsRow_forms hown' with ⟨rfl, hz⟩ | ⟨g', cap', rfl, _⟩)
      · go_loopw [9] (fun v wr => v = .int .i64 0 ∧ wr = w3) (fun _ _ => 0)
        case atStart => exact ⟨rfl, rfl⟩
        case round =>
          obtain ⟨rfl, rfl⟩ := hrel
          go_wp2
          go_ret
          exact ⟨_, rfl, .inl ⟨rfl, rfl⟩, Below.grown (Below.refl _ _) hgrow3 (Nat.le_refl _) (fun j hj => (hnil.lt _ hj).1)⟩
      · go_loopw [9] (fun v wr => v = .int .i64 0 ∧ wr = w3) (fun _ _ => 0)
        case atStart => exact ⟨rfl, rfl⟩
        case round =>
          obtain ⟨rfl, rfl⟩ := hrel
          go_wp2
          go_ret
          exact ⟨_, rfl, .inr ⟨g', cap', rfl, fun j u hj => absurd hj (by simp [Lx.flatT])⟩, Below.grown (Below.refl _ _) hgrow3 (Nat.le_refl _) (fun j hj => (hnil.lt _ hj).1)⟩
  · obtain ⟨b, o, rfl, _, hca⟩ := hcells hl0
    have hnil := World.ownsRow_nil w w.heap.size 35 5
    have hnews := Tx.news_of hca
    have hfl := Tx.flatW_len l
    have hon := Tx.oneW_flat l
    clear hca
    go_enter Try.func17, Try.ntmps17
    go_wp2_with (at_builtin; refine wpList_append_own _ rfl _ _ 23 rfl w.heap.size 35 i0 (.agg #[.int .i64 0, .int .i64 0, .int .i64 0, .int .i64 0, .string ⟨#[]⟩]) 5 48 Try.underlying23 hi hz0 hz1 hz2 rfl (by decide) _ _ _ rfl hnil ⟨b, o, none⟩ l.length cap (Tx.flatW l) rfl hfl hnews hon (by unfold maxLen; omega) (by omega) (Nat.le_refl _) ?_; intro v' w3 hown' hgrow3 hnil3; rcases Joins.ownsRow_forms hown' with ⟨rfl, hz⟩ | ⟨g', cap', rfl, _⟩)
    · have hz' : l = [] := List.eq_nil_of_length_eq_zero (by omega)
      subst hz'
      go_loopw [9] (fun v wr => v = .int .i64 0 ∧ wr = w3) (fun _ _ => 0)
      case atStart => exact ⟨rfl, rfl⟩
      case round =>
        obtain ⟨rfl, rfl⟩ := hrel
        go_wp2
        go_ret
        exact ⟨_, rfl, .inl ⟨rfl, rfl⟩, Below.grown (Below.refl _ _) hgrow3 (Nat.le_refl _) (fun j hj => (hnil.lt _ hj).1)⟩
    · have hO0 : w3.ownsRow w.heap.size 35 5 (.slice (some ⟨g', 0, none⟩) l.length cap') l.length (Tx.flatW (Tx.mixW l 0)) := by
        have e : Tx.mixW l 0 = l := by simp [Tx.mixW]
        rw [e]
        simpa using hown'
      have hb3 : Below w.heap.size w w3 := Below.grown (Below.refl _ _) hgrow3 (Nat.le_refl _) (fun j hj => (hnil.lt _ hj).1)
      have e0 : 0 + l.length = l.length := Nat.zero_add _
      clear hnews hfl hon hown' hgrow3 hnil3 hnil
      go_loopw [9] (fun v wr => ∃ k : Nat, v = .int .i64 k ∧ k ≤ l.length ∧ Hid (wr.ownsRow w.heap.size 35 5 (.slice (some ⟨g', 0, none⟩) l.length cap') l.length (Tx.flatW (Tx.mixW l k))) ∧ Below w.heap.size w wr) (fun v _ => l.length - (intOf v).toNat)
      case atStart => exact ⟨0, rfl, by omega, hO0, hb3⟩
      case round =>
        obtain ⟨k, rfl, hk, HO, hbl⟩ := hrel
        by_cases hlt : k < l.length
        · have hlti : (k : Int) < (l.length : Int) := by omega
          have hml : k < (Tx.mixW l k).length := by rw [Tx.mixW_len]; exact hlt
          have k1 : wr.cell? ⟨g', k * 5 + 1, none⟩ = _ := (HO.out.cellAt (k * 5 + 1) (by omega)).trans (Tx.flatW_at (Tx.mixW l k) k hml 1 (by omega))
          have k2 : wr.cell? ⟨g', k * 5 + 2, none⟩ = _ := (HO.out.cellAt (k * 5 + 2) (by omega)).trans (Tx.flatW_at (Tx.mixW l k) k hml 2 (by omega))
          have f1 := HO.out.frozenAt
          have s1 := HO.out.stored (k * 5 + 1) (.int .i64 0)
          have s2 := s1.1.stored (k * 5 + 2) (.int .i64 0)
          have HM : Hid (((wr.setCell ⟨g', k * 5 + 1, none⟩ (.int .i64 0)).setCell ⟨g', k * 5 + 2, none⟩ (.int .i64 0)).ownsRow w.heap.size 35 5 (.slice (some ⟨g', 0, none⟩) l.length cap') l.length (Tx.flatW (Tx.mixW l (k + 1)))) := by
            show World.ownsRow _ _ _ _ _ _ _
            rw [Tx.mixW_step l k hlt]
            exact s2.1
          have hB2 := Lib.hid (Below.grown (Below.grown hbl s1.2 hbl.size (fun j hj => (HO.out.lt _ hj).1)) s2.2 (by simpa [World.setCell] using hbl.size) (fun j hj => (s1.1.lt _ hj).1))
          simp [Tx.cellsW] at k1 k2
          clear s1 s2
          go_wp2
          exact ⟨⟨k + 1, by simp, by omega, HM, hB2.out⟩, by simp [intOf]; omega⟩
        · have hkl : k = l.length := by omega
          subst hkl
          have hO := HO.out
          rw [Tx.mixW_all] at hO
          have HO2 := Lib.hid hO
          have hge : ¬ ((l.length : Int) < (l.length : Int)) := by omega
          clear hO HO
          go_wp2
          go_ret
          refine ⟨_, rfl, .inr ⟨g', cap', by simp, ?_⟩, hbl⟩
          intro j u hj
          rw [← Tx.bare_flat] at hj
          rw [HO2.out.cellAt j (by have := (List.getElem?_eq_some_iff.1 hj).1; rw [Tx.flatW_len, List.length_map] at this; exact this)]
          exact hj
end Go.Proofs.Ytihfflinkmceaab
namespace Go.Proofs.Ytihfflinkmceaab
open Go.RowKit Go.Sort
namespace Tx
/-- a cut word as one that came in -/
def wOf (p : Lx.PTok) : W := ⟨p.t.k, p.at_, p.to, p.t.n, ⟨p.t.s.toArray⟩⟩
theorem tok_wOf (p : Lx.PTok) : Lx.tokOf (wOf p) = p.t := rfl
theorem text_fits (k n : Int) (s x : List UInt8) (h : text k n s = some x) : s.length ≤ 256 ∧ -9223372036854775808 ≤ n ∧ n ≤ 9223372036854775807 := by
  unfold text at h
  split at h
  · split at h
    · rename_i hk hok
      unfold ok at hok
      split at hok
      · rw [Bool.and_eq_true, decide_eq_true_eq] at hok
        obtain ⟨h1, rfl⟩ := hok
        unfold Fx.isF at h1
        simp only [Bool.and_eq_true, decide_eq_true_eq] at h1
        refine ⟨by simp, by omega, by omega⟩
      split at hok
      · simp only [Bool.and_eq_true, Bool.or_eq_true, decide_eq_true_eq] at hok
        obtain ⟨h1, rfl⟩ := hok
        refine ⟨by simp, by omega, by omega⟩
      split at hok
      · simp only [Bool.and_eq_true, decide_eq_true_eq] at hok
        obtain ⟨h1, rfl⟩ := hok
        refine ⟨by simp, by omega, by omega⟩
      split at hok
      · rw [Bool.and_eq_true, Bool.and_eq_true, decide_eq_true_eq, decide_eq_true_eq] at hok
        refine ⟨hok.2.1, by omega, by omega⟩
      split at hok
      · rw [Bool.and_eq_true, decide_eq_true_eq] at hok
        have := sym_len s hok.2
        refine ⟨by omega, by omega, by omega⟩
      · exact absurd hok (by simp)
    · exact absurd h (by simp)
  · split at h
    · split at h
      · rename_i h0
        obtain ⟨rfl, rfl⟩ := h0
        refine ⟨by simp, by omega, by omega⟩
      · exact absurd h (by simp)
    · exact absurd h (by simp)
theorem texts_of : ∀ (l : List W), (∀ t ∈ l, ∃ x, t.txt = some x) → ∃ xs, texts l = some xs
  | [], _ => ⟨[], rfl⟩
  | t :: r, h => by
    obtain ⟨x, hx⟩ := h t (by simp)
    obtain ⟨xs, hxs⟩ := texts_of r (fun u hu => h u (by simp [hu]))
    exact ⟨x :: xs, by unfold texts; rw [hx, hxs]; rfl⟩
theorem lex_small (s : List UInt8) (l : List Lx.PTok) (h : Lx.lex s = (l, 0, 0)) : ∀ p ∈ l, ∃ x, text p.t.k p.t.n p.t.s = some x := by
  unfold Lx.lex at h
  split at h
  · injection h with _ h; injection h with _ h; exact absurd h (by decide)
  split at h
  · injection h with _ h; injection h with _ h; exact absurd h (by decide)
  · rename_i hok
    have hok2 : s.all Lx.okByte = true := by simpa using hok
    exact Lx.words_texts _ _ _ _ _ (Lx.all_imp _ _ (fun c hc => Lx.imp (Lx.ok_small c) hc) s hok2) h
theorem lex_back (s : List UInt8) (l : List Lx.PTok) (h : Lx.lex s = (l, 0, 0)) : (∃ xs, texts (l.map wOf) = some xs) ∧ ∀ t ∈ l.map wOf, t.ok := by
  have hs := lex_small s l h
  refine ⟨texts_of _ (fun t ht => ?_), fun t ht => ?_⟩
  · obtain ⟨p, hp, rfl⟩ := List.mem_map.1 ht
    exact hs p hp
  · obtain ⟨p, hp, rfl⟩ := List.mem_map.1 ht
    obtain ⟨x, hx⟩ := hs p hp
    obtain ⟨h1, h2, h3⟩ := text_fits _ _ _ _ hx
    refine ⟨?_, h2, h3⟩
    show (⟨p.t.s.toArray⟩ : ByteArray).size ≤ 1000000
    have : (⟨p.t.s.toArray⟩ : ByteArray).size = p.t.s.length := by simp [ByteArray.size]
    omega
theorem app_none (acc : List Lx.PTok) (r : List Lx.PTok × Nat × Int) (h : (Lx.app acc r).2.2 ≠ 0) : (Lx.app acc r).1 = [] := by
  unfold Lx.app at *
  split
  · rename_i h0; rw [if_pos h0] at h; exact absurd rfl h
  · rfl
theorem lex_none (t : List UInt8) (h : (Lx.lex t).2.2 ≠ 0) : (Lx.lex t).1 = [] := by
  unfold Lx.lex at *
  split
  · rfl
  · rename_i h1
    rw [if_neg h1] at h
    split
    · rfl
    · rename_i h2
      rw [if_neg h2] at h
      rw [← Lx.words_norm] at h ⊢
      exact app_none _ _ h
theorem words_at (N : Nat) : ∀ (f c : Nat) (t : List UInt8), (Lx.words N f c t).2.1 ≤ N := by
  intro f
  induction f with
  | zero => intro c t; unfold Lx.words; simp
  | succ f ih =>
    intro c t
    rw [Lx.words_step]
    split
    · show N - _ ≤ N; omega
    split
    · show 0 ≤ N; omega
    split
    · show N - _ ≤ N; omega
    · split
      · show N - _ ≤ N; omega
      · split
        · show 0 ≤ N; omega
        · exact ih _ _
theorem lex_at (s : List UInt8) : (Lx.lex s).2.1 ≤ s.length := by
  unfold Lx.lex
  split
  · show 0 ≤ _; omega
  split
  · exact (List.takeWhile_sublist (l := s) Lx.okByte).length_le
  · exact words_at _ _ _ _
theorem JV_cases (l : List W) : (∃ S E, JV l = .tuple #[.string S, .int .i64 E] ∧ (E == 0) = false) ∨
    ∃ xs, texts l = some xs ∧ l.length ≤ 4096 ∧ (Lib.join xs [32]).length ≤ 16384 ∧ JV l = .tuple #[.string ⟨(Lib.join xs [32]).toArray⟩, .int .i64 0] := by
  by_cases h4 : 4096 < l.length
  · exact .inl ⟨_, _, JV_long l h4, by decide⟩
  · cases ht : texts l with
    | none => exact .inl ⟨_, _, JV_none l (by omega) ht, by decide⟩
    | some xs =>
      have hj := JV_some l (by omega) xs ht
      by_cases h16 : 16384 < (Lib.join xs [32]).length
      · rw [if_pos h16] at hj
        exact .inl ⟨_, _, hj, by decide⟩
      · rw [if_neg h16] at hj
        exact .inr ⟨xs, rfl, by omega, by omega, hj⟩
theorem JV_cases2 (l : List W) (xs : List (List UInt8)) (ht : texts l = some xs) (h4 : l.length ≤ 4096) : (JV l = .tuple #[.string ⟨#[]⟩, .int .i64 3]) ∨
    ((Lib.join xs [32]).length ≤ 16384 ∧ JV l = .tuple #[.string ⟨(Lib.join xs [32]).toArray⟩, .int .i64 0]) := by
  have hj := JV_some l h4 xs ht
  by_cases h16 : 16384 < (Lib.join xs [32]).length
  · rw [if_pos h16] at hj
    exact .inl hj
  · rw [if_neg h16] at hj
    exact .inr ⟨by omega, hj⟩
/-- a row of cut words of the call's own as words that came in -/
theorem row_of {w : World} {b : Nat} {v : Value} {L : List Lx.PTok} (h : w.ownsRow b 35 5 v L.length (Lx.flatT L)) : Row w v (L.map wOf) := by
  have h0 := h
  rcases h.2 with ⟨rfl, hz⟩ | ⟨g, cap, cur, rfl, _, hg, hnc, _, _, _⟩
  · have : L = [] := List.eq_nil_of_length_eq_zero hz
    subst this
    exact ⟨none, 0, rfl, by simp, fun hn => absurd rfl hn⟩
  · have hgl : g < w.heap.size := by
      apply Classical.byContradiction
      intro hh
      rw [Array.getElem?_eq_none (by omega)] at hg
      exact absurd hg (by simp)
    refine ⟨_, cap, by rw [List.length_map], by rw [List.length_map]; exact hnc, fun _ => ⟨g, 0, rfl, hgl, fun j hj => ?_⟩⟩
    rw [List.length_map] at hj
    have hc : ∀ i u, (Lx.flatT L)[i]? = some u → w.cell? ⟨g, i, none⟩ = some u := by
      intro i u hi
      have hil : i < L.length * 5 := by have := (List.getElem?_eq_some_iff.1 hi).1; rw [Lx.flat_len] at this; exact this
      rw [h0.cellAt i hil]; exact hi
    obtain ⟨c0, c1, c2, c3, c4⟩ := Lx.Row.five hc j hj
    rw [List.getElem_map, Nat.zero_add]
    exact ⟨c0, c1, c2, c3, c4⟩
/-- the same words, without their places -/
theorem bare_same (ps : List Lx.PTok) (l : List W) (h : ps.map (·.t) = l.map Lx.tokOf) : ps.map Lx.bareT = l.map fun t => ⟨0, 0, Lx.tokOf t⟩ := by
  have e : ∀ (ps : List Lx.PTok) (l : List W), ps.map (·.t) = l.map Lx.tokOf → ps.map Lx.bareT = l.map fun t => ⟨0, 0, Lx.tokOf t⟩ := by
    intro ps
    induction ps with
    | nil =>
      intro l h
      cases l with
      | nil => rfl
      | cons t r => exact absurd h (by simp)
    | cons p ps ih =>
      intro l h
      cases l with
      | nil => exact absurd h (by simp)
      | cons t r =>
        simp only [List.map_cons, List.cons.injEq] at h
        rw [List.map_cons, List.map_cons, ih r h.2]
        congr 1
        unfold Lx.bareT
        rw [h.1]
  exact e ps l h
end Tx
end Go.Proofs.Ytihfflinkmceaab
namespace Go.Proofs.Ytihfflinkmceaab
open Go.RowKit Go.Sort
theorem Tx.back_row (ps L : List Lx.PTok) (h : ps.map (·.t) = (L.map Tx.wOf).map Lx.tokOf) : ps.map Lx.bareT = L.map Lx.bareT := by
  rw [Tx.bare_same ps (L.map Tx.wOf) h, List.map_map]
  rfl
theorem Tx.size_arr (x : List UInt8) : (⟨x.toArray⟩ : ByteArray).size = x.length := by simp [ByteArray.size]
theorem Tx.short_ok (l : List Tx.W) (hn : ∀ t ∈ l, -9223372036854775808 ≤ t.n ∧ t.n ≤ 9223372036854775807) (hR : Tx.shortL l = true) : (∀ t ∈ l, t.ok) ∧ l.length ≤ 4101 := by
  unfold Tx.shortL at hR
  rw [Bool.and_eq_true, List.all_eq_true, decide_eq_true_iff] at hR
  refine ⟨fun t ht => ?_, hR.1⟩
  have := hR.2 t ht
  rw [decide_eq_true_iff] at this
  exact ⟨by omega, hn t ht⟩
set_option maxRecDepth 100000 in
set_option maxHeartbeats 8000000 in
theorem LexBack_no (l : List Tx.W) (v : Value) (s : ByteArray) (w : World) (hv : Tx.Row w v l) (_hs : s.size ≤ 9223372036854775807) (hR : Tx.shortL l = false) :
    Calls Try.prog 5 #[v, .string s] w fun e w' => e = .returned (.bool true) ∧ Below w.heap.size w w' := by
  have hsh := fun w (h : Tx.Row w v l) => short_any l v w h
  rw [hR] at hsh
  have HV := Lib.hid hv
  clear hv hR
  go_enter Try.func5, Try.ntmps5
  go_wp2_with fail
  refine (awake_any _).mono ?_
  rintro e w1 ⟨rfl, hb1⟩
  have HB1 := Lib.hid hb1
  go_wp2_with fail
  refine (hsh _ (HV.out.below HB1.out)).mono ?_
  rintro e w2 ⟨rfl, hb2⟩
  have HB2 := Lib.hid (HB1.out.trans (hb2.mono HB1.out.size))
  go_wp2_with fail
  refine (awake_any _).mono ?_
  rintro e w3 ⟨rfl, hb3⟩
  go_wp2
  go_ret
  exact ⟨rfl, HB2.out.trans (hb3.mono HB2.out.size)⟩
set_option maxRecDepth 100000 in
set_option maxHeartbeats 8000000 in
theorem LexBack_big (l : List Tx.W) (v : Value) (s : ByteArray) (w : World) (hv : Tx.Row w v l) (_hs : s.size ≤ 9223372036854775807) (hR : Tx.shortL l = true) (h100 : (100000 : Int) < (s.size : Int)) :
    Calls Try.prog 5 #[v, .string s] w fun e w' => e = .returned (.bool true) ∧ Below w.heap.size w w' := by
  have hsh := fun w (h : Tx.Row w v l) => short_any l v w h
  rw [hR] at hsh
  have HV := Lib.hid hv
  clear hv hR
  go_enter Try.func5, Try.ntmps5
  go_wp2_with fail
  refine (awake_any _).mono ?_
  rintro e w1 ⟨rfl, hb1⟩
  have HB1 := Lib.hid hb1
  go_wp2_with fail
  refine (hsh _ (HV.out.below HB1.out)).mono ?_
  rintro e w2 ⟨rfl, hb2⟩
  have HB2 := Lib.hid (HB1.out.trans (hb2.mono HB1.out.size))
  go_wp2_with fail
  refine (awake_any _).mono ?_
  rintro e w3 ⟨rfl, hb3⟩
  go_wp2
  go_ret
  exact ⟨rfl, HB2.out.trans (hb3.mono HB2.out.size)⟩
set_option maxRecDepth 100000 in
set_option maxHeartbeats 8000000 in
theorem LexBack_ee (l : List Tx.W) (v : Value) (s : ByteArray) (w : World) (hv : Tx.Row w v l) (hs : s.size ≤ 9223372036854775807) (hn : ∀ t ∈ l, -9223372036854775808 ≤ t.n ∧ t.n ≤ 9223372036854775807) (hR : Tx.shortL l = true) (h100 : ¬ ((100000 : Int) < (s.size : Int))) (S : ByteArray) (E : Int) (hJV : Tx.JV l = .tuple #[.string S, .int .i64 E]) (hE : (E == 0) = false) (L : List Lx.PTok) (pos : Nat) (ec : Int) (hlex : Lx.lex s.data.toList = (L, pos, ec)) (hec : ec ≠ 0) :
    Calls Try.prog 5 #[v, .string s] w fun e w' => e = .returned (.bool true) ∧ Below w.heap.size w w' := by
  have hsh := fun w (h : Tx.Row w v l) => short_any l v w h
  rw [hR] at hsh
  obtain ⟨hok, hll⟩ := Tx.short_ok l hn hR
  have HOK := Lib.hid hok
  have HLL := Lib.hid hll
  have hJ := fun w (h : Tx.Row w v l) => Join_any l v w h hok
  rw [hJV] at hJ
  have HV := Lib.hid hv
  have HSH := Lib.hid hsh
  have HJ := Lib.hid hJ
  have hWs := fun w => Words_any s w hs
  rw [hlex] at hWs
  have HWs := Lib.hid hWs
  clear hv hR hn hok hJV hsh hJ hWs hll
  have hpos : (pos : Int) ≤ (s.size : Int) := by
    have := Tx.lex_at s.data.toList
    rw [hlex, Fx.size_toList] at this
    simp only at this
    omega
  have hp0 : (0 : Int) ≤ (pos : Int) := by omega
  have hecb : (ec != 0) = true := by simpa using hec
  have HEC := Lib.hid hec
  clear hec hlex
  go_enter Try.func5, Try.ntmps5
  go_wp2_with fail
  refine (awake_any _).mono ?_
  rintro e w1 ⟨rfl, hb1⟩
  have HB1 := Lib.hid hb1
  go_wp2_with fail
  refine (HSH.out _ (HV.out.below HB1.out)).mono ?_
  rintro e w2 ⟨rfl, hb2⟩
  have HB2 := Lib.hid (HB1.out.trans (hb2.mono HB1.out.size))
  clear hb1 hb2
  go_wp2_with fail
  refine (HJ.out _ (HV.out.below HB2.out)).mono ?_
  rintro e wj ⟨rfl, hbj⟩
  have HB3 := Lib.hid (HB2.out.trans (hbj.mono HB2.out.size))
  clear hbj
  go_wp2_with fail
  have HB4 := HB3
  refine (HWs.out _).mono ?_
  rintro e wb ⟨hbb, hx⟩
  rcases hx with ⟨hx0, _⟩ | ⟨_, rfl⟩
  case inl => exact absurd hx0 HEC.out
  have HB5 := Lib.hid (HB4.out.trans (hbb.mono HB4.out.size))
  clear hbb
  go_wp2
  go_ret
  exact ⟨by simp, HB5.out⟩
set_option maxRecDepth 100000 in
set_option maxHeartbeats 8000000 in
theorem LexBack_el (l : List Tx.W) (v : Value) (s : ByteArray) (w : World) (hv : Tx.Row w v l) (hs : s.size ≤ 9223372036854775807) (hn : ∀ t ∈ l, -9223372036854775808 ≤ t.n ∧ t.n ≤ 9223372036854775807) (hR : Tx.shortL l = true) (h100 : ¬ ((100000 : Int) < (s.size : Int))) (S : ByteArray) (E : Int) (hJV : Tx.JV l = .tuple #[.string S, .int .i64 E]) (hE : (E == 0) = false) (L : List Lx.PTok) (hlex : Lx.lex s.data.toList = (L, 0, 0)) (hJV5 : Tx.JV (L.map Tx.wOf) = .tuple #[.string ⟨#[]⟩, .int .i64 3]) :
    Calls Try.prog 5 #[v, .string s] w fun e w' => e = .returned (.bool true) ∧ Below w.heap.size w w' := by
  have hsh := fun w (h : Tx.Row w v l) => short_any l v w h
  rw [hR] at hsh
  obtain ⟨hok, hll⟩ := Tx.short_ok l hn hR
  have HOK := Lib.hid hok
  have HLL := Lib.hid hll
  have hJ := fun w (h : Tx.Row w v l) => Join_any l v w h hok
  rw [hJV] at hJ
  have HV := Lib.hid hv
  have HSH := Lib.hid hsh
  have HJ := Lib.hid hJ
  have hWs := fun w => Words_any s w hs
  rw [hlex] at hWs
  have HWs := Lib.hid hWs
  clear hv hR hn hok hJV hsh hJ hWs hll
  obtain ⟨⟨ys, hys⟩, hok5⟩ := Tx.lex_back _ _ hlex
  have hL4 : L.length ≤ 4096 := Lx.lex_few _ _ hlex
  have hJ5 := fun w u h => Join_any (L.map Tx.wOf) u w h hok5
  rw [hJV5] at hJ5
  have HJ5 := Lib.hid hJ5
  have HL4 := Lib.hid hL4
  clear hJ5 hok5 hJV5 hlex
  go_enter Try.func5, Try.ntmps5
  go_wp2_with fail
  refine (awake_any _).mono ?_
  rintro e w1 ⟨rfl, hb1⟩
  have HB1 := Lib.hid hb1
  go_wp2_with fail
  refine (HSH.out _ (HV.out.below HB1.out)).mono ?_
  rintro e w2 ⟨rfl, hb2⟩
  have HB2 := Lib.hid (HB1.out.trans (hb2.mono HB1.out.size))
  clear hb1 hb2
  go_wp2_with fail
  refine (HJ.out _ (HV.out.below HB2.out)).mono ?_
  rintro e wj ⟨rfl, hbj⟩
  have HB3 := Lib.hid (HB2.out.trans (hbj.mono HB2.out.size))
  clear hbj
  go_wp2_with fail
  have HB4 := HB3
  refine (HWs.out _).mono ?_
  rintro e wb ⟨hbb, hx⟩
  rcases hx with ⟨_, v5, rfl, hO5⟩ | ⟨hx0, _⟩
  case inr => exact absurd rfl hx0
  have HB5 := Lib.hid (HB4.out.trans (hbb.mono HB4.out.size))
  have HR5 := Lib.hid (Lx.row_own hO5 rfl)
  have HT5 := Lib.hid (Tx.row_of hO5)
  clear hbb hO5
  go_wp2_with fail
  refine (HJ5.out _ _ HT5.out).mono ?_
  rintro e wc ⟨rfl, hbc⟩
  have HB6 := Lib.hid (HB5.out.trans (hbc.mono HB5.out.size))
  have HR6 := Lib.hid (HR5.out.below hbc)
  clear hbc
  go_wp2
  go_ret
  exact ⟨by simp, HB6.out⟩
set_option maxRecDepth 100000 in
set_option maxHeartbeats 8000000 in
theorem LexBack_eo (l : List Tx.W) (v : Value) (s : ByteArray) (w : World) (hv : Tx.Row w v l) (hs : s.size ≤ 9223372036854775807) (hn : ∀ t ∈ l, -9223372036854775808 ≤ t.n ∧ t.n ≤ 9223372036854775807) (hR : Tx.shortL l = true) (h100 : ¬ ((100000 : Int) < (s.size : Int))) (S : ByteArray) (E : Int) (hJV : Tx.JV l = .tuple #[.string S, .int .i64 E]) (hE : (E == 0) = false) (L : List Lx.PTok) (hlex : Lx.lex s.data.toList = (L, 0, 0)) (hfin : ∃ ys, Tx.texts (L.map Tx.wOf) = some ys ∧ (L.map Tx.wOf).length ≤ 4096 ∧ (Lib.join ys [32]).length ≤ 16384 ∧ Tx.JV (L.map Tx.wOf) = .tuple #[.string ⟨(Lib.join ys [32]).toArray⟩, .int .i64 0]) :
    Calls Try.prog 5 #[v, .string s] w fun e w' => e = .returned (.bool true) ∧ Below w.heap.size w w' := by
  have hsh := fun w (h : Tx.Row w v l) => short_any l v w h
  rw [hR] at hsh
  obtain ⟨hok, hll⟩ := Tx.short_ok l hn hR
  have HOK := Lib.hid hok
  have HLL := Lib.hid hll
  have hJ := fun w (h : Tx.Row w v l) => Join_any l v w h hok
  rw [hJV] at hJ
  have HV := Lib.hid hv
  have HSH := Lib.hid hsh
  have HJ := Lib.hid hJ
  have hWs := fun w => Words_any s w hs
  rw [hlex] at hWs
  have HWs := Lib.hid hWs
  clear hv hR hn hok hJV hsh hJ hWs hll
  obtain ⟨ys2, hys2, hy4, hy16, hJV5⟩ := hfin
  have hL4b : (L.map Tx.wOf).length ≤ 4096 := hy4
  obtain ⟨qs, hqs, hqt⟩ := Lx.back_join (L.map Tx.wOf) ys2 hys2 hy4 hy16
  have hWY := fun w => Words_any ⟨(Lib.join ys2 [32]).toArray⟩ w (by rw [Tx.size_arr]; omega)
  rw [show (⟨(Lib.join ys2 [32]).toArray⟩ : ByteArray).data.toList = Lib.join ys2 [32] from rfl, hqs] at hWY
  have HQL := Lib.hid (Lx.lex_few _ _ hqs)
  have HQS := Lib.hid (Tx.back_row qs L hqt)
  obtain ⟨Y, hY⟩ : ∃ Y : ByteArray, (⟨(Lib.join ys2 [32]).toArray⟩ : ByteArray) = Y := ⟨_, rfl⟩
  rw [hY] at hWY hJV5
  have HWY := Lib.hid hWY
  clear hys2 hy4 hy16 hqs hqt hWY hY hL4b
  obtain ⟨⟨ys, hys⟩, hok5⟩ := Tx.lex_back _ _ hlex
  have hL4 : L.length ≤ 4096 := Lx.lex_few _ _ hlex
  have hJ5 := fun w u h => Join_any (L.map Tx.wOf) u w h hok5
  rw [hJV5] at hJ5
  have HJ5 := Lib.hid hJ5
  have HL4 := Lib.hid hL4
  clear hJ5 hok5 hJV5 hlex
  go_enter Try.func5, Try.ntmps5
  go_wp2_with fail
  refine (awake_any _).mono ?_
  rintro e w1 ⟨rfl, hb1⟩
  have HB1 := Lib.hid hb1
  go_wp2_with fail
  refine (HSH.out _ (HV.out.below HB1.out)).mono ?_
  rintro e w2 ⟨rfl, hb2⟩
  have HB2 := Lib.hid (HB1.out.trans (hb2.mono HB1.out.size))
  clear hb1 hb2
  go_wp2_with fail
  refine (HJ.out _ (HV.out.below HB2.out)).mono ?_
  rintro e wj ⟨rfl, hbj⟩
  have HB3 := Lib.hid (HB2.out.trans (hbj.mono HB2.out.size))
  clear hbj
  go_wp2_with fail
  have HB4 := HB3
  refine (HWs.out _).mono ?_
  rintro e wb ⟨hbb, hx⟩
  rcases hx with ⟨_, v5, rfl, hO5⟩ | ⟨hx0, _⟩
  case inr => exact absurd rfl hx0
  have HB5 := Lib.hid (HB4.out.trans (hbb.mono HB4.out.size))
  have HR5 := Lib.hid (Lx.row_own hO5 rfl)
  have HT5 := Lib.hid (Tx.row_of hO5)
  clear hbb hO5
  go_wp2_with fail
  refine (HJ5.out _ _ HT5.out).mono ?_
  rintro e wc ⟨rfl, hbc⟩
  have HB6 := Lib.hid (HB5.out.trans (hbc.mono HB5.out.size))
  have HR6 := Lib.hid (HR5.out.below hbc)
  clear hbc
  go_wp2_with fail
  refine (HWY.out _).mono ?_
  rintro e wd ⟨hbd, hx⟩
  rcases hx with ⟨_, v7, rfl, hO7⟩ | ⟨hx0, _⟩
  case inr => exact absurd rfl hx0
  have HB7 := Lib.hid (HB6.out.trans (hbd.mono HB6.out.size))
  have HR7 := Lib.hid (Lx.row_own hO7 rfl)
  have HR6b := Lib.hid (HR6.out.below hbd)
  clear hbd hO7
  go_wp2_with fail
  refine (bare_any _ v7 qs HR7.out (by have := HQL.out; omega)).mono ?_
  rintro e we ⟨v8, rfl, hr8, hbe⟩
  have HR8 := Lib.hid hr8
  have HR6c := Lib.hid (HR6b.out.below hbe)
  have HB8 := Lib.hid (HB7.out.trans (hbe.mono HB7.out.size))
  clear hr8 hbe
  go_wp2_with fail
  refine (bare_any _ v5 L HR6c.out (by have := HL4.out; omega)).mono ?_
  rintro e wf ⟨v9, rfl, hr9, hbf⟩
  have HR9 := Lib.hid hr9
  have HR8b := Lib.hid (show Lx.Row wf v8 (L.map Lx.bareT) by
    have := HR8.out.below hbf
    rw [HQS.out] at this
    exact this)
  have HB9 := Lib.hid (HB8.out.trans (hbf.mono HB8.out.size))
  clear hr9 hbf
  go_wp2_with fail
  refine (Same_any _ v8 v9 _ HR8b.out HR9.out (by rw [List.length_map]; have := HL4.out; omega)).mono ?_
  rintro e wg ⟨rfl, hbg⟩
  have HB10 := Lib.hid (HB9.out.trans (hbg.mono HB9.out.size))
  clear hbg
  go_wp2
  go_ret
  exact ⟨rfl, HB10.out⟩
set_option maxRecDepth 100000 in
set_option maxHeartbeats 8000000 in
theorem LexBack_oe (l : List Tx.W) (v : Value) (s : ByteArray) (w : World) (hv : Tx.Row w v l) (hs : s.size ≤ 9223372036854775807) (hn : ∀ t ∈ l, -9223372036854775808 ≤ t.n ∧ t.n ≤ 9223372036854775807) (hR : Tx.shortL l = true) (h100 : ¬ ((100000 : Int) < (s.size : Int))) (xs : List (List UInt8)) (hxs : Tx.texts l = some xs) (h4 : l.length ≤ 4096) (h16 : (Lib.join xs [32]).length ≤ 16384) (hJV : Tx.JV l = .tuple #[.string ⟨(Lib.join xs [32]).toArray⟩, .int .i64 0]) (L : List Lx.PTok) (pos : Nat) (ec : Int) (hlex : Lx.lex s.data.toList = (L, pos, ec)) (hec : ec ≠ 0) :
    Calls Try.prog 5 #[v, .string s] w fun e w' => e = .returned (.bool true) ∧ Below w.heap.size w w' := by
  have hsh := fun w (h : Tx.Row w v l) => short_any l v w h
  rw [hR] at hsh
  obtain ⟨hok, hll⟩ := Tx.short_ok l hn hR
  have HOK := Lib.hid hok
  have HLL := Lib.hid hll
  have hJ := fun w (h : Tx.Row w v l) => Join_any l v w h hok
  rw [hJV] at hJ
  have HV := Lib.hid hv
  have HSH := Lib.hid hsh
  have HJ := Lib.hid hJ
  have hWs := fun w => Words_any s w hs
  rw [hlex] at hWs
  have HWs := Lib.hid hWs
  clear hv hR hn hok hJV hsh hJ hWs hll
  obtain ⟨ps, hps, hpt⟩ := Lx.back_join l xs hxs h4 h16
  have hWX := fun w => Words_any ⟨(Lib.join xs [32]).toArray⟩ w (by rw [Tx.size_arr]; omega)
  rw [show (⟨(Lib.join xs [32]).toArray⟩ : ByteArray).data.toList = Lib.join xs [32] from rfl, hps] at hWX
  have hpl : ps.length ≤ 4096 := Lx.lex_few _ _ hps
  have hbs := Tx.bare_same ps l hpt
  obtain ⟨X, hX⟩ : ∃ X : ByteArray, (⟨(Lib.join xs [32]).toArray⟩ : ByteArray) = X := ⟨_, rfl⟩
  rw [hX] at hWX HJ
  have HWX := Lib.hid hWX
  have HBS := Lib.hid hbs
  have HPL := Lib.hid hpl
  clear hxs h16 hps hpt hWX hbs hpl hX h4
  have hpos : (pos : Int) ≤ (s.size : Int) := by
    have := Tx.lex_at s.data.toList
    rw [hlex, Fx.size_toList] at this
    simp only at this
    omega
  have hp0 : (0 : Int) ≤ (pos : Int) := by omega
  have hecb : (ec != 0) = true := by simpa using hec
  have HEC := Lib.hid hec
  clear hec hlex
  go_enter Try.func5, Try.ntmps5
  go_wp2_with fail
  refine (awake_any _).mono ?_
  rintro e w1 ⟨rfl, hb1⟩
  have HB1 := Lib.hid hb1
  go_wp2_with fail
  refine (HSH.out _ (HV.out.below HB1.out)).mono ?_
  rintro e w2 ⟨rfl, hb2⟩
  have HB2 := Lib.hid (HB1.out.trans (hb2.mono HB1.out.size))
  clear hb1 hb2
  go_wp2_with fail
  refine (HJ.out _ (HV.out.below HB2.out)).mono ?_
  rintro e wj ⟨rfl, hbj⟩
  have HB3 := Lib.hid (HB2.out.trans (hbj.mono HB2.out.size))
  clear hbj
  go_wp2_with fail
  refine (HWX.out _).mono ?_
  rintro e wx ⟨hbx, hx⟩
  rcases hx with ⟨_, v2, rfl, hO2⟩ | ⟨hx0, _⟩
  case inr => exact absurd rfl hx0
  have HBX := Lib.hid (HB3.out.trans (hbx.mono HB3.out.size))
  have HR2 := Lib.hid (Lx.row_own hO2 rfl)
  clear hbx hO2
  go_wp2_with fail
  refine (bare_any _ v2 ps HR2.out (by have := HPL.out; omega)).mono ?_
  rintro e wy ⟨v3, rfl, hr3, hby⟩
  have HR3 := Lib.hid hr3
  have HBY := Lib.hid (HBX.out.trans (hby.mono HBX.out.size))
  clear hr3 hby
  go_wp2_with fail
  refine (bareW_any _ v l (HV.out.below HBY.out) (by have := HLL.out; omega)).mono ?_
  rintro e wz ⟨v4, rfl, hr4, hbz⟩
  have HR4 := Lib.hid hr4
  have HR3b := Lib.hid (show Lx.Row wz v3 (l.map fun t => ⟨0, 0, Lx.tokOf t⟩) by
    have := HR3.out.below hbz
    rw [HBS.out] at this
    exact this)
  have HBZ := Lib.hid (HBY.out.trans (hbz.mono HBY.out.size))
  clear hr4 hbz
  go_wp2_with fail
  refine (Same_any _ v3 v4 _ HR3b.out HR4.out (by rw [List.length_map]; have := HLL.out; omega)).mono ?_
  rintro e wk ⟨rfl, hbk⟩
  have HB4 := Lib.hid (HBZ.out.trans (hbk.mono HBZ.out.size))
  clear hbk
  go_wp2_with fail
  refine (HWs.out _).mono ?_
  rintro e wb ⟨hbb, hx⟩
  rcases hx with ⟨hx0, _⟩ | ⟨_, rfl⟩
  case inl => exact absurd hx0 HEC.out
  have HB5 := Lib.hid (HB4.out.trans (hbb.mono HB4.out.size))
  clear hbb
  go_wp2
  go_ret
  exact ⟨by simp, HB5.out⟩
set_option maxRecDepth 100000 in
set_option maxHeartbeats 8000000 in
theorem LexBack_ol (l : List Tx.W) (v : Value) (s : ByteArray) (w : World) (hv : Tx.Row w v l) (hs : s.size ≤ 9223372036854775807) (hn : ∀ t ∈ l, -9223372036854775808 ≤ t.n ∧ t.n ≤ 9223372036854775807) (hR : Tx.shortL l = true) (h100 : ¬ ((100000 : Int) < (s.size : Int))) (xs : List (List UInt8)) (hxs : Tx.texts l = some xs) (h4 : l.length ≤ 4096) (h16 : (Lib.join xs [32]).length ≤ 16384) (hJV : Tx.JV l = .tuple #[.string ⟨(Lib.join xs [32]).toArray⟩, .int .i64 0]) (L : List Lx.PTok) (hlex : Lx.lex s.data.toList = (L, 0, 0)) (hJV5 : Tx.JV (L.map Tx.wOf) = .tuple #[.string ⟨#[]⟩, .int .i64 3]) :
    Calls Try.prog 5 #[v, .string s] w fun e w' => e = .returned (.bool true) ∧ Below w.heap.size w w' := by
  have hsh := fun w (h : Tx.Row w v l) => short_any l v w h
  rw [hR] at hsh
  obtain ⟨hok, hll⟩ := Tx.short_ok l hn hR
  have HOK := Lib.hid hok
  have HLL := Lib.hid hll
  have hJ := fun w (h : Tx.Row w v l) => Join_any l v w h hok
  rw [hJV] at hJ
  have HV := Lib.hid hv
  have HSH := Lib.hid hsh
  have HJ := Lib.hid hJ
  have hWs := fun w => Words_any s w hs
  rw [hlex] at hWs
  have HWs := Lib.hid hWs
  clear hv hR hn hok hJV hsh hJ hWs hll
  obtain ⟨ps, hps, hpt⟩ := Lx.back_join l xs hxs h4 h16
  have hWX := fun w => Words_any ⟨(Lib.join xs [32]).toArray⟩ w (by rw [Tx.size_arr]; omega)
  rw [show (⟨(Lib.join xs [32]).toArray⟩ : ByteArray).data.toList = Lib.join xs [32] from rfl, hps] at hWX
  have hpl : ps.length ≤ 4096 := Lx.lex_few _ _ hps
  have hbs := Tx.bare_same ps l hpt
  obtain ⟨X, hX⟩ : ∃ X : ByteArray, (⟨(Lib.join xs [32]).toArray⟩ : ByteArray) = X := ⟨_, rfl⟩
  rw [hX] at hWX HJ
  have HWX := Lib.hid hWX
  have HBS := Lib.hid hbs
  have HPL := Lib.hid hpl
  clear hxs h16 hps hpt hWX hbs hpl hX h4
  obtain ⟨⟨ys, hys⟩, hok5⟩ := Tx.lex_back _ _ hlex
  have hL4 : L.length ≤ 4096 := Lx.lex_few _ _ hlex
  have hJ5 := fun w u h => Join_any (L.map Tx.wOf) u w h hok5
  rw [hJV5] at hJ5
  have HJ5 := Lib.hid hJ5
  have HL4 := Lib.hid hL4
  clear hJ5 hok5 hJV5 hlex
  go_enter Try.func5, Try.ntmps5
  go_wp2_with fail
  refine (awake_any _).mono ?_
  rintro e w1 ⟨rfl, hb1⟩
  have HB1 := Lib.hid hb1
  go_wp2_with fail
  refine (HSH.out _ (HV.out.below HB1.out)).mono ?_
  rintro e w2 ⟨rfl, hb2⟩
  have HB2 := Lib.hid (HB1.out.trans (hb2.mono HB1.out.size))
  clear hb1 hb2
  go_wp2_with fail
  refine (HJ.out _ (HV.out.below HB2.out)).mono ?_
  rintro e wj ⟨rfl, hbj⟩
  have HB3 := Lib.hid (HB2.out.trans (hbj.mono HB2.out.size))
  clear hbj
  go_wp2_with fail
  refine (HWX.out _).mono ?_
  rintro e wx ⟨hbx, hx⟩
  rcases hx with ⟨_, v2, rfl, hO2⟩ | ⟨hx0, _⟩
  case inr => exact absurd rfl hx0
  have HBX := Lib.hid (HB3.out.trans (hbx.mono HB3.out.size))
  have HR2 := Lib.hid (Lx.row_own hO2 rfl)
  clear hbx hO2
  go_wp2_with fail
  refine (bare_any _ v2 ps HR2.out (by have := HPL.out; omega)).mono ?_
  rintro e wy ⟨v3, rfl, hr3, hby⟩
  have HR3 := Lib.hid hr3
  have HBY := Lib.hid (HBX.out.trans (hby.mono HBX.out.size))
  clear hr3 hby
  go_wp2_with fail
  refine (bareW_any _ v l (HV.out.below HBY.out) (by have := HLL.out; omega)).mono ?_
  rintro e wz ⟨v4, rfl, hr4, hbz⟩
  have HR4 := Lib.hid hr4
  have HR3b := Lib.hid (show Lx.Row wz v3 (l.map fun t => ⟨0, 0, Lx.tokOf t⟩) by
    have := HR3.out.below hbz
    rw [HBS.out] at this
    exact this)
  have HBZ := Lib.hid (HBY.out.trans (hbz.mono HBY.out.size))
  clear hr4 hbz
  go_wp2_with fail
  refine (Same_any _ v3 v4 _ HR3b.out HR4.out (by rw [List.length_map]; have := HLL.out; omega)).mono ?_
  rintro e wk ⟨rfl, hbk⟩
  have HB4 := Lib.hid (HBZ.out.trans (hbk.mono HBZ.out.size))
  clear hbk
  go_wp2_with fail
  refine (HWs.out _).mono ?_
  rintro e wb ⟨hbb, hx⟩
  rcases hx with ⟨_, v5, rfl, hO5⟩ | ⟨hx0, _⟩
  case inr => exact absurd rfl hx0
  have HB5 := Lib.hid (HB4.out.trans (hbb.mono HB4.out.size))
  have HR5 := Lib.hid (Lx.row_own hO5 rfl)
  have HT5 := Lib.hid (Tx.row_of hO5)
  clear hbb hO5
  go_wp2_with fail
  refine (HJ5.out _ _ HT5.out).mono ?_
  rintro e wc ⟨rfl, hbc⟩
  have HB6 := Lib.hid (HB5.out.trans (hbc.mono HB5.out.size))
  have HR6 := Lib.hid (HR5.out.below hbc)
  clear hbc
  go_wp2
  go_ret
  exact ⟨by simp, HB6.out⟩
set_option maxRecDepth 100000 in
set_option maxHeartbeats 8000000 in
theorem LexBack_oo (l : List Tx.W) (v : Value) (s : ByteArray) (w : World) (hv : Tx.Row w v l) (hs : s.size ≤ 9223372036854775807) (hn : ∀ t ∈ l, -9223372036854775808 ≤ t.n ∧ t.n ≤ 9223372036854775807) (hR : Tx.shortL l = true) (h100 : ¬ ((100000 : Int) < (s.size : Int))) (xs : List (List UInt8)) (hxs : Tx.texts l = some xs) (h4 : l.length ≤ 4096) (h16 : (Lib.join xs [32]).length ≤ 16384) (hJV : Tx.JV l = .tuple #[.string ⟨(Lib.join xs [32]).toArray⟩, .int .i64 0]) (L : List Lx.PTok) (hlex : Lx.lex s.data.toList = (L, 0, 0)) (hfin : ∃ ys, Tx.texts (L.map Tx.wOf) = some ys ∧ (L.map Tx.wOf).length ≤ 4096 ∧ (Lib.join ys [32]).length ≤ 16384 ∧ Tx.JV (L.map Tx.wOf) = .tuple #[.string ⟨(Lib.join ys [32]).toArray⟩, .int .i64 0]) :
    Calls Try.prog 5 #[v, .string s] w fun e w' => e = .returned (.bool true) ∧ Below w.heap.size w w' := by
  have hsh := fun w (h : Tx.Row w v l) => short_any l v w h
  rw [hR] at hsh
  obtain ⟨hok, hll⟩ := Tx.short_ok l hn hR
  have HOK := Lib.hid hok
  have HLL := Lib.hid hll
  have hJ := fun w (h : Tx.Row w v l) => Join_any l v w h hok
  rw [hJV] at hJ
  have HV := Lib.hid hv
  have HSH := Lib.hid hsh
  have HJ := Lib.hid hJ
  have hWs := fun w => Words_any s w hs
  rw [hlex] at hWs
  have HWs := Lib.hid hWs
  clear hv hR hn hok hJV hsh hJ hWs hll
  obtain ⟨ps, hps, hpt⟩ := Lx.back_join l xs hxs h4 h16
  have hWX := fun w => Words_any ⟨(Lib.join xs [32]).toArray⟩ w (by rw [Tx.size_arr]; omega)
  rw [show (⟨(Lib.join xs [32]).toArray⟩ : ByteArray).data.toList = Lib.join xs [32] from rfl, hps] at hWX
  have hpl : ps.length ≤ 4096 := Lx.lex_few _ _ hps
  have hbs := Tx.bare_same ps l hpt
  obtain ⟨X, hX⟩ : ∃ X : ByteArray, (⟨(Lib.join xs [32]).toArray⟩ : ByteArray) = X := ⟨_, rfl⟩
  rw [hX] at hWX HJ
  have HWX := Lib.hid hWX
  have HBS := Lib.hid hbs
  have HPL := Lib.hid hpl
  clear hxs h16 hps hpt hWX hbs hpl hX h4
  obtain ⟨ys2, hys2, hy4, hy16, hJV5⟩ := hfin
  have hL4b : (L.map Tx.wOf).length ≤ 4096 := hy4
  obtain ⟨qs, hqs, hqt⟩ := Lx.back_join (L.map Tx.wOf) ys2 hys2 hy4 hy16
  have hWY := fun w => Words_any ⟨(Lib.join ys2 [32]).toArray⟩ w (by rw [Tx.size_arr]; omega)
  rw [show (⟨(Lib.join ys2 [32]).toArray⟩ : ByteArray).data.toList = Lib.join ys2 [32] from rfl, hqs] at hWY
  have HQL := Lib.hid (Lx.lex_few _ _ hqs)
  have HQS := Lib.hid (Tx.back_row qs L hqt)
  obtain ⟨Y, hY⟩ : ∃ Y : ByteArray, (⟨(Lib.join ys2 [32]).toArray⟩ : ByteArray) = Y := ⟨_, rfl⟩
  rw [hY] at hWY hJV5
  have HWY := Lib.hid hWY
  clear hys2 hy4 hy16 hqs hqt hWY hY hL4b
  obtain ⟨⟨ys, hys⟩, hok5⟩ := Tx.lex_back _ _ hlex
  have hL4 : L.length ≤ 4096 := Lx.lex_few _ _ hlex
  have hJ5 := fun w u h => Join_any (L.map Tx.wOf) u w h hok5
  rw [hJV5] at hJ5
  have HJ5 := Lib.hid hJ5
  have HL4 := Lib.hid hL4
  clear hJ5 hok5 hJV5 hlex
  go_enter Try.func5, Try.ntmps5
  go_wp2_with fail
  refine (awake_any _).mono ?_
  rintro e w1 ⟨rfl, hb1⟩
  have HB1 := Lib.hid hb1
  go_wp2_with fail
  refine (HSH.out _ (HV.out.below HB1.out)).mono ?_
  rintro e w2 ⟨rfl, hb2⟩
  have HB2 := Lib.hid (HB1.out.trans (hb2.mono HB1.out.size))
  clear hb1 hb2
  go_wp2_with fail
  refine (HJ.out _ (HV.out.below HB2.out)).mono ?_
  rintro e wj ⟨rfl, hbj⟩
  have HB3 := Lib.hid (HB2.out.trans (hbj.mono HB2.out.size))
  clear hbj
  go_wp2_with fail
  refine (HWX.out _).mono ?_
  rintro e wx ⟨hbx, hx⟩
  rcases hx with ⟨_, v2, rfl, hO2⟩ | ⟨hx0, _⟩
  case inr => exact absurd rfl hx0
  have HBX := Lib.hid (HB3.out.trans (hbx.mono HB3.out.size))
  have HR2 := Lib.hid (Lx.row_own hO2 rfl)
  clear hbx hO2
  go_wp2_with fail
  refine (bare_any _ v2 ps HR2.out (by have := HPL.out; omega)).mono ?_
  rintro e wy ⟨v3, rfl, hr3, hby⟩
  have HR3 := Lib.hid hr3
  have HBY := Lib.hid (HBX.out.trans (hby.mono HBX.out.size))
  clear hr3 hby
  go_wp2_with fail
  refine (bareW_any _ v l (HV.out.below HBY.out) (by have := HLL.out; omega)).mono ?_
  rintro e wz ⟨v4, rfl, hr4, hbz⟩
  have HR4 := Lib.hid hr4
  have HR3b := Lib.hid (show Lx.Row wz v3 (l.map fun t => ⟨0, 0, Lx.tokOf t⟩) by
    have := HR3.out.below hbz
    rw [HBS.out] at this
    exact this)
  have HBZ := Lib.hid (HBY.out.trans (hbz.mono HBY.out.size))
  clear hr4 hbz
  go_wp2_with fail
  refine (Same_any _ v3 v4 _ HR3b.out HR4.out (by rw [List.length_map]; have := HLL.out; omega)).mono ?_
  rintro e wk ⟨rfl, hbk⟩
  have HB4 := Lib.hid (HBZ.out.trans (hbk.mono HBZ.out.size))
  clear hbk
  go_wp2_with fail
  refine (HWs.out _).mono ?_
  rintro e wb ⟨hbb, hx⟩
  rcases hx with ⟨_, v5, rfl, hO5⟩ | ⟨hx0, _⟩
  case inr => exact absurd rfl hx0
  have HB5 := Lib.hid (HB4.out.trans (hbb.mono HB4.out.size))
  have HR5 := Lib.hid (Lx.row_own hO5 rfl)
  have HT5 := Lib.hid (Tx.row_of hO5)
  clear hbb hO5
  go_wp2_with fail
  refine (HJ5.out _ _ HT5.out).mono ?_
  rintro e wc ⟨rfl, hbc⟩
  have HB6 := Lib.hid (HB5.out.trans (hbc.mono HB5.out.size))
  have HR6 := Lib.hid (HR5.out.below hbc)
  clear hbc
  go_wp2_with fail
  refine (HWY.out _).mono ?_
  rintro e wd ⟨hbd, hx⟩
  rcases hx with ⟨_, v7, rfl, hO7⟩ | ⟨hx0, _⟩
  case inr => exact absurd rfl hx0
  have HB7 := Lib.hid (HB6.out.trans (hbd.mono HB6.out.size))
  have HR7 := Lib.hid (Lx.row_own hO7 rfl)
  have HR6b := Lib.hid (HR6.out.below hbd)
  clear hbd hO7
  go_wp2_with fail
  refine (bare_any _ v7 qs HR7.out (by have := HQL.out; omega)).mono ?_
  rintro e we ⟨v8, rfl, hr8, hbe⟩
  have HR8 := Lib.hid hr8
  have HR6c := Lib.hid (HR6b.out.below hbe)
  have HB8 := Lib.hid (HB7.out.trans (hbe.mono HB7.out.size))
  clear hr8 hbe
  go_wp2_with fail
  refine (bare_any _ v5 L HR6c.out (by have := HL4.out; omega)).mono ?_
  rintro e wf ⟨v9, rfl, hr9, hbf⟩
  have HR9 := Lib.hid hr9
  have HR8b := Lib.hid (show Lx.Row wf v8 (L.map Lx.bareT) by
    have := HR8.out.below hbf
    rw [HQS.out] at this
    exact this)
  have HB9 := Lib.hid (HB8.out.trans (hbf.mono HB8.out.size))
  clear hr9 hbf
  go_wp2_with fail
  refine (Same_any _ v8 v9 _ HR8b.out HR9.out (by rw [List.length_map]; have := HL4.out; omega)).mono ?_
  rintro e wg ⟨rfl, hbg⟩
  have HB10 := Lib.hid (HB9.out.trans (hbg.mono HB9.out.size))
  clear hbg
  go_wp2
  go_ret
  exact ⟨rfl, HB10.out⟩
theorem LexBack_walk (l : List Tx.W) (v : Value) (s : ByteArray) (w : World) (hv : Tx.Row w v l) (hn : ∀ t ∈ l, -9223372036854775808 ≤ t.n ∧ t.n ≤ 9223372036854775807) (hs : s.size ≤ maxLen) :
    Calls Try.prog 5 #[v, .string s] w fun e w' => e = .returned (.bool true) ∧ Below w.heap.size w w' := by
  have hs' : s.size ≤ 9223372036854775807 := by unfold maxLen at hs; omega
  cases hR : Tx.shortL l with
  | false => exact LexBack_no l v s w hv hs' hR
  | true =>
    by_cases h100 : (100000 : Int) < (s.size : Int)
    · exact LexBack_big l v s w hv hs' hR h100
    · obtain ⟨L, pos, ec, hlex⟩ : ∃ L pos ec, Lx.lex s.data.toList = (L, pos, ec) := ⟨_, _, _, rfl⟩
      by_cases hec : ec = 0
      · subst hec
        have hp0 : pos = 0 := by
          have := Lx.lex_zero s.data.toList (by rw [hlex])
          rw [hlex] at this
          exact this
        subst hp0
        obtain ⟨⟨ys, hys⟩, _⟩ := Tx.lex_back _ _ hlex
        have hL4 : (L.map Tx.wOf).length ≤ 4096 := by rw [List.length_map]; exact Lx.lex_few _ _ hlex
        rcases Tx.JV_cases2 _ ys hys hL4 with hb | ⟨hb16, hb⟩
        · rcases Tx.JV_cases l with ⟨S, E, hJV, hE⟩ | ⟨xs, hxs, h4, h16, hJV⟩
          · exact LexBack_el l v s w hv hs' hn hR h100 S E hJV hE L hlex hb
          · exact LexBack_ol l v s w hv hs' hn hR h100 xs hxs h4 h16 hJV L hlex hb
        · rcases Tx.JV_cases l with ⟨S, E, hJV, hE⟩ | ⟨xs, hxs, h4, h16, hJV⟩
          · exact LexBack_eo l v s w hv hs' hn hR h100 S E hJV hE L hlex ⟨ys, hys, hL4, hb16, hb⟩
          · exact LexBack_oo l v s w hv hs' hn hR h100 xs hxs h4 h16 hJV L hlex ⟨ys, hys, hL4, hb16, hb⟩
      · rcases Tx.JV_cases l with ⟨S, E, hJV, hE⟩ | ⟨xs, hxs, h4, h16, hJV⟩
        · exact LexBack_ee l v s w hv hs' hn hR h100 S E hJV hE L pos ec hlex hec
        · exact LexBack_oe l v s w hv hs' hn hR h100 xs hxs h4 h16 hJV L pos ec hlex hec
end Go.Proofs.Ytihfflinkmceaab
namespace Go.Proofs.Ytihfflinkmceaab.lexBack
open Go.ChangeShapes Go.WideShapes Go.ChangeAt Go.RowKit
open Go.ChangeMaps (open_string shut_string)

theorem own : ownKnob Try.prog.godebug = none := by kernel_rfl
theorem laidOut : laidOutB Try.prog = true := by kernel_rfl
set_option maxRecDepth 100000 in
theorem lifted (os : Os) (started : os.Started) (H : Type) (enc : TypeId × Value → H) :
    ReturnsInHanded {} Try.checked os 5 .any (Rows.lexBackSpec.pre6 enc Try.prog Try.f5 Rows.lexBackRow.domain false) (Rows.lexBackSpec.post enc Try.prog Try.f5 false true false false) := by
  refine returnsInHanded_of_change (C := Try.checked) own started (by kernel_rfl) Try.func5
    (ChangeSpec.witness6 (enc := enc) (C := Try.checked) false ⟨#[], #[.slice none 0 0, .string ⟨#[]⟩], []⟩ 8 (by kernel_rfl) (by kernel_rfl) (by kernel_rfl) (by kernel_rfl)) ?_
  intro W base args ds gs before hval0 hW hcnd _
  have hval : ∀ (j : Nat) t v, Try.f5.params[j]? = some t → args[j]? = some v → Value.okWide Try.prog W .any base t v := hval0
  have hW' := hW
  obtain ⟨p, q, hA0, hV, rfl, hfz, hnd⟩ := hW
  have hA : DataW.TrodAll enc Try.prog W 0 (fun _ => true) true Try.f5.params.toList args.toList ds p := hA0
  rw [Try.params5] at hA hval
  obtain ⟨v0, vs0, d0, ds0, p0, q0, hargs, rfl, rfl, h0, r0⟩ := trodAll_cons hA
  obtain ⟨v1, vs1, d1, ds1, p1, q1, rfl, rfl, rfl, h1, r1⟩ := trodAll_cons r0
  obtain ⟨rfl, rfl, rfl⟩ := trodAll_nil r1
  obtain rfl : args = #[v0, v1] := by cases args; simp_all
  obtain ⟨rfl, rfl⟩ := trodVars_none hV
  have k0 := h0
  have lt0 : ∀ x ∈ p0, x.block < W.heap.size := by obtain ⟨m, hm⟩ := k0; exact DataW.trod_lt m _ _ _ hm
  obtain ⟨l0, w0, n0⟩ := Tx.open_toks (hval 0 23 v0 rfl rfl) h0
  obtain ⟨a1, rfl, rfl, rfl, w1⟩ := open_string Try.underlying9 (hval 1 9 v1 rfl rfl) h1
  clear hA0 hval0
  refine (LexBack_walk l0 v0 a1 W w0 n0 w1).mono fun e W' ⟨he, bel⟩ => ?_
  subst he
  exact ⟨_, rfl, _, _, _, [], _, [], hW', trodAll_mk1 (shut_bool Try.underlying4 _), (trodAll_cons_mk (Below.trod laidOut (by kernel_rfl) (of_decide_eq_true (by kernel_rfl)) k0 bel lt0) (trodAll_cons_mk (shut_string Try.underlying9 w1) trodAll_mk0)), rfl, bel.frame _, fun h => by cases h⟩

theorem over : Rows.lexBackRow.holds Try.pinned (OpenSpec.ofChange Rows.lexBackSpec) :=
  OpenClaim.holds_of_wide 5 Try.f5 rfl rfl rfl rfl rfl rfl rfl ⟨rfl, rfl, rfl, rfl, rfl⟩ rfl rfl rfl rfl rfl (by kernel_rfl) Try.func5 (by kernel_rfl)
    (of_decide_eq_true (by kernel_rfl)) (by unfold Func.isWrapper; first | (rw [if_pos (by decide +kernel)]; kernel_rfl) | (rw [if_neg (by decide +kernel)]; exact ⟨rfl, rfl⟩))
    (fun os started H enc _ => lifted os started H enc)

theorem proved : Rows.LexBackSaid :=
  over
#print axioms proved
end Go.Proofs.Ytihfflinkmceaab.lexBack
