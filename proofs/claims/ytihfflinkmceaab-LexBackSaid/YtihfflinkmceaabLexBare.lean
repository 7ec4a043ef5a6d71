/-
  The walk of bare.
-/
import Derived.Test.YtihfflinkmceaabLexSame
namespace Go.Proofs.Ytihfflinkmceaab
open Go.RowKit Go.Sort
namespace Lx
def bareT (p : PTok) : PTok := ⟨0, 0, p.t⟩
def mix (l : List PTok) (k : Nat) : List PTok := (l.take k).map bareT ++ l.drop k
theorem mix_all (l : List PTok) : mix l l.length = l.map bareT := by simp [mix]
theorem mix_len (l : List PTok) (k : Nat) : (mix l k).length = l.length := by simp [mix]; omega
theorem one_flat (l : List PTok) : ∀ u ∈ flatT l, u.oneCell' = true := by
  intro u hu
  unfold flatT at hu
  rw [List.mem_flatMap] at hu
  obtain ⟨p, _, hp⟩ := hu
  simp [cells5] at hp
  rcases hp with rfl | rfl | rfl | rfl | rfl <;> rfl
theorem mix_step (l : List PTok) (k : Nat) (h : k < l.length) : flatT (mix l (k + 1)) = ((flatT (mix l k)).set (k * 5 + 1) (.int .i64 0)).set (k * 5 + 2) (.int .i64 0) := by
  have e1 : mix l k = (l.take k).map bareT ++ l[k] :: l.drop (k + 1) := by unfold mix; rw [List.drop_eq_getElem_cons h]
  have e2 : mix l (k + 1) = (l.take k).map bareT ++ bareT l[k] :: l.drop (k + 1) := by
    unfold mix; rw [List.take_succ_eq_append_getElem h, List.map_append, List.append_assoc]; rfl
  have hl : (flatT ((l.take k).map bareT)).length = k * 5 := by rw [flat_len]; simp; omega
  have f : ∀ (p : PTok) (r : List PTok) (a : List PTok), flatT (a ++ p :: r) = flatT a ++ (cells5 p ++ flatT r) := fun p r a => by unfold flatT; simp
  rw [e1, e2, f, f, List.set_append_right _ _ (by omega), List.set_append_right _ _ (by omega), hl, show k * 5 + 1 - k * 5 = 1 by omega, show k * 5 + 2 - k * 5 = 2 by omega]
  rfl
end Lx
set_option maxRecDepth 100000 in
set_option maxHeartbeats 2000000 in
theorem bare_any (w : World) (a : Value) (l : List Lx.PTok) (ha : Lx.Row w a l) (hl : l.length ≤ 1000000) :
    Calls Try.prog 17 #[a] w fun e w' => ∃ v, e = .returned v ∧ Lx.Row w' v (l.map Lx.bareT) ∧ Below w.heap.size w w' := by
  obtain ⟨i0, hi, hz0, hz1, hz2⟩ := info_parts Lx.infoTok
  rcases ha with ⟨rfl, rfl⟩ | ⟨g, cap, rfl, hca⟩
  · go_enter Try.func17, Try.ntmps17
    go_wp2_with fail
    go_loopw [9] (fun v wr => v = .int .i64 0 ∧ wr = w) (fun _ _ => 0)
    case atStart => exact ⟨rfl, rfl⟩
    case round =>
      obtain ⟨rfl, rfl⟩ := hrel
      go_wp2
      go_ret
      exact ⟨_, rfl, .inl ⟨rfl, rfl⟩, Below.refl _ _⟩
  · have hnil := World.ownsRow_nil w w.heap.size 35 5
    have hnews : ∀ (j : Nat) (u : Value), (Lx.flatT l)[j]? = some u → w.cell? ((⟨g, 0, none⟩ : Addr).add j) = some u := by
      intro j u hj
      have := hca j u hj
      have e : ((⟨g, 0, none⟩ : Addr).add j) = ⟨g, j, none⟩ := by simp [Addr.add]; omega
      rw [e]
      exact this
    have hfl := Lx.flat_len l
    have hon := Lx.one_flat l
    clear hca
    go_enter Try.func17, Try.ntmps17
    go_wp2_with (at_builtin; refine wpList_append_own _ rfl _ _ 23 rfl w.heap.size 35 i0 (.agg #[.int .i64 0, .int .i64 0, .int .i64 0, .int .i64 0, .string ⟨#[]⟩]) 5 48 Try.underlying23 hi hz0 hz1 hz2 rfl (by decide) _ _ _ rfl hnil ⟨g, 0, none⟩ l.length cap (Lx.flatT l) rfl hfl hnews hon (by unfold maxLen; omega) (by omega) (Nat.le_refl _) ?_; intro v' w3 hown' hgrow3 hnil3; rcases Joins.ownsRow_forms hown' with ⟨rfl, hz⟩ | ⟨g', cap', rfl, _⟩)
    · have hz' : l = [] := List.eq_nil_of_length_eq_zero (by omega)
      subst hz'
      go_loopw [9] (fun v wr => v = .int .i64 0 ∧ wr = w3) (fun _ _ => 0)
      case atStart => exact ⟨rfl, rfl⟩
      case round =>
        obtain ⟨rfl, rfl⟩ := hrel
        go_wp2
        go_ret
        exact ⟨_, rfl, .inl ⟨rfl, rfl⟩, Below.grown (Below.refl _ _) hgrow3 (Nat.le_refl _) (fun j hj => (hnil.lt _ hj).1)⟩
    · have hO0 : w3.ownsRow w.heap.size 35 5 (.slice (some ⟨g', 0, none⟩) l.length cap') l.length (Lx.flatT (Lx.mix l 0)) := by
        have e : Lx.mix l 0 = l := by simp [Lx.mix]
        rw [e]
        simpa using hown'
      have hb3 : Below w.heap.size w w3 := Below.grown (Below.refl _ _) hgrow3 (Nat.le_refl _) (fun j hj => (hnil.lt _ hj).1)
      have e0 : 0 + l.length = l.length := Nat.zero_add _
      clear hnews hfl hon hown' hgrow3 hnil3 hnil
      go_loopw [9] (fun v wr => ∃ k : Nat, v = .int .i64 k ∧ k ≤ l.length ∧ Hid (wr.ownsRow w.heap.size 35 5 (.slice (some ⟨g', 0, none⟩) l.length cap') l.length (Lx.flatT (Lx.mix l k))) ∧ Below w.heap.size w wr) (fun v _ => l.length - (intOf v).toNat)
      case atStart => exact ⟨0, rfl, by omega, hO0, hb3⟩
      case round =>
        obtain ⟨k, rfl, hk, HO, hbl⟩ := hrel
        by_cases hlt : k < l.length
        · have hlti : (k : Int) < (l.length : Int) := by omega
          have hml : k < (Lx.mix l k).length := by rw [Lx.mix_len]; exact hlt
          have k1 : wr.cell? ⟨g', k * 5 + 1, none⟩ = _ := (HO.out.cellAt (k * 5 + 1) (by omega)).trans (Lx.flat_at (Lx.mix l k) k hml 1 (by omega))
          have k2 : wr.cell? ⟨g', k * 5 + 2, none⟩ = _ := (HO.out.cellAt (k * 5 + 2) (by omega)).trans (Lx.flat_at (Lx.mix l k) k hml 2 (by omega))
          have f1 := HO.out.frozenAt
          have s1 := HO.out.stored (k * 5 + 1) (.int .i64 0)
          have s2 := s1.1.stored (k * 5 + 2) (.int .i64 0)
          have HM : Hid (((wr.setCell ⟨g', k * 5 + 1, none⟩ (.int .i64 0)).setCell ⟨g', k * 5 + 2, none⟩ (.int .i64 0)).ownsRow w.heap.size 35 5 (.slice (some ⟨g', 0, none⟩) l.length cap') l.length (Lx.flatT (Lx.mix l (k + 1)))) := by
            show World.ownsRow _ _ _ _ _ _ _
            rw [Lx.mix_step l k hlt]
            exact s2.1
          have hB2 := Lib.hid (Below.grown (Below.grown hbl s1.2 hbl.size (fun j hj => (HO.out.lt _ hj).1)) s2.2 (by simpa [World.setCell] using hbl.size) (fun j hj => (s1.1.lt _ hj).1))
          simp [Lx.cells5] at k1 k2
          clear s1 s2
          go_wp2
          exact ⟨⟨k + 1, by simp, by omega, HM, hB2.out⟩, by simp [intOf]; omega⟩
        · have hkl : k = l.length := by omega
          subst hkl
          have hO := HO.out
          rw [Lx.mix_all] at hO
          have HO2 := Lib.hid hO
          have hge : ¬ ((l.length : Int) < (l.length : Int)) := by omega
          clear hO HO
          go_wp2
          go_ret
          refine ⟨_, rfl, .inr ⟨g', cap', by simp, ?_⟩, hbl⟩
          intro j u hj
          rw [HO2.out.cellAt j (by have := (List.getElem?_eq_some_iff.1 hj).1; rw [Lx.flat_len, List.length_map] at this; exact this)]
          exact hj
end Go.Proofs.Ytihfflinkmceaab
