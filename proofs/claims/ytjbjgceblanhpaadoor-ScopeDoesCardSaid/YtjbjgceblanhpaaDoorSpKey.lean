/-
  scope.key: a name's key is its text and its marks' numerals.
-/
import Derived.Test.YtjbjgceblanhpaaDoorSpModel
import Derived.Laws.IdiomStrings
import Derived.Lib.Slices
import Derived.Laws.BytesArg
namespace Go.Proofs.YtjbjgceblanhpaaDoor
open Go.RowKit
namespace Sp
/-- the library's table lies as it does -/
def T10 (w : World) : Prop := Lib.TabIs Tryd.prog w "internal/strconv.uint64pow10" .u64 Lib.pow10Tab
/-- and does so whatever is done from block b on -/
def T10B (b : Nat) (w : World) : Prop := Lib.TabBelow Tryd.prog b w "internal/strconv.uint64pow10" .u64 Lib.pow10Tab
theorem T10B.here {b : Nat} {w : World} (h : T10B b w) : T10 w := Lib.TabBelow.here h
theorem T10B.on {b : Nat} {w w' : World} (h : T10B b w) (hb : Below b w w') : T10B b w' := Lib.TabBelow.on h hb
theorem T10.on {w w' : World} (h : T10 w) (hb : Below w.heap.size w w') : T10 w' := (Lib.tabBelow_of_tabIs h) w' hb
theorem infoByte : (Tryd.prog.info? 5).map (fun i => (i.zero, i.size, i.bytes)) = some (some (.int .u8 0), 1, 1) := by kernel_rfl
end Sp
set_option maxRecDepth 100000 in
set_option maxHeartbeats 4000000 in
theorem key_any {F : Nat → Prop} (x : Dt.D) (vm vl vt : Value) (w : World) (hR : Dt.Rep F w x vm vl vt) (hm : x.m.length ≤ 16) (hmm : ∀ y ∈ x.m, 1 ≤ y ∧ y ≤ 1048576) (hT : Sp.T10 w) :
    Calls Tryd.prog 28 #[.agg #[.int .i64 x.k, .int .i64 x.n, .string x.s, vm, vl, vt]] w fun e w' => e = .returned (.agg #[.string x.s, .string (Sp.keyS x.m)]) ∧ Below w.heap.size w w' := by
  obtain ⟨a1, n1, q1, a2, n2, q2, a3, n3, q3, rfl, rfl, rfl⟩ := hR.forms
  obtain ⟨a, c, e1, hc, hcell⟩ := ((Dt.rep_iff _ _ _ _ _ _).1 hR).1
  cases e1
  obtain ⟨w1, hw1⟩ : ∃ w1, w.alloc (.cells #[.int .i64 x.k, .int .i64 x.n, .string x.s, .slice a1 x.m.length q1, .slice a2 n2 q2, .slice a3 n3 q3] 26) = w1 := ⟨_, rfl⟩
  have hb1 : Below w.heap.size w w1 := by rw [← hw1]; exact (Below.refl _ _).alloc (Nat.le_refl _) _
  have hbuf : w1.cell? ⟨w.heap.size, 2, none⟩ = some (.string x.s) ∧ w1.cell? ⟨w.heap.size, 3, none⟩ = some (.slice a1 x.m.length q1) := by
    have h := Dt.six_new w x.k x.n x.s (.slice a1 x.m.length q1) (.slice a2 n2 q2) (.slice a3 n3 q3) 26
    rw [hw1] at h
    exact ⟨h 2 (by omega), h 3 (by omega)⟩
  obtain ⟨w2, hw2⟩ : ∃ w2, w1.alloc (.cells #[.string ⟨#[]⟩, .string ⟨#[]⟩] 80) = w2 := ⟨_, rfl⟩
  have hs1 : w1.heap.size = w.heap.size + 1 := by rw [← hw1]; simp
  have hs2 : w2.heap.size = w.heap.size + 1 + 1 := by rw [← hw2, World.size_alloc, hs1]
  have hb2 : Below w1.heap.size w1 w2 := by rw [← hw2]; exact (Below.refl _ _).alloc (Nat.le_refl _) _
  have c2 := (hb2.cell (p := ⟨w.heap.size, 2, none⟩) (by show w.heap.size < _; omega)).trans hbuf.1
  have c3 := (hb2.cell (p := ⟨w.heap.size, 3, none⟩) (by show w.heap.size < _; omega)).trans hbuf.2
  have d := Dt.two_new w1 (.string ⟨#[]⟩) (.string ⟨#[]⟩) 80
  have hfz : ∀ j, w2.frozen? ⟨w1.heap.size, j, none⟩ = false := fun j => by
    have := Dt.frz_new w1 #[.string ⟨#[]⟩, .string ⟨#[]⟩] 80 j
    rw [hw2] at this; exact this
  rw [hw2] at d
  have HD := Lib.hid d
  have HFZ := Lib.hid hfz
  have HB2 : Hid (Below w.heap.size w w2) := hb1.trans (hb2.mono hb1.size)
  have HS2 : Hid (w2.heap.size = w.heap.size + 1 + 1 ∧ w1.heap.size = w.heap.size + 1) := ⟨hs2, hs1⟩
  have HT : Hid (Sp.T10B w2.heap.size w2) := Lib.tabBelow_of_tabIs (hT.on HB2.out)
  have HC := Lib.hid hcell
  have HM := Lib.hid hmm
  have HN := Lib.hid hm
  have HC2 := Lib.hid c2
  have HC3 := Lib.hid c3
  obtain ⟨i0, hi, hz0, hz1, hz2⟩ := info_parts Sp.infoByte
  clear hR hT hcell hmm hs1 hs2 hb1 hb2 hbuf d hfz
  go_enter Tryd.func28, Tryd.ntmps28
  go_wp2
  go_loopw [3, 9] (fun vb vi wr => ∃ j : Nat, vi = .int .i64 j ∧ j ≤ x.m.length ∧ Hid (wr.ownsRow w2.heap.size 5 1 vb (Sp.keyL (x.m.take j)).length (Lib.byteCells (Sp.keyL (x.m.take j)))) ∧ Hid (Below w2.heap.size w2 wr)) (fun _ v _ => x.m.length - (intOf v).toNat)
  case atStart => exact ⟨0, rfl, Nat.zero_le _, World.ownsRow_nil _ _ _ _, Below.refl _ _⟩
  case round =>
    obtain ⟨j, rfl, hj, HO, HB⟩ := hrel
    by_cases hlt : j < x.m.length
    · have hlti : (j : Int) < (x.m.length : Int) := by omega
      obtain ⟨b, o, rfl, -, hbw, hcell⟩ := HC.out (by intro e; rw [e] at hlt; simp at hlt)
      have hbb := HB2.out.trans (HB.out.mono HB2.out.size)
      have q0 := (hbb.cell (p := ⟨b, o + j, none⟩) hbw).trans (hcell j hlt)
      have hy := HM.out x.m[j] (List.getElem_mem _)
      obtain ⟨y, hyy⟩ : ∃ y, y = x.m[j] := ⟨_, rfl⟩
      rw [← hyy] at q0 hy
      have hlen : (Sp.keyL (x.m.take j)).length ≤ 16 * 22 := by
        have := Sp.keyL_len (x.m.take j) (fun z hz => by have := HM.out z (List.mem_of_mem_take hz); omega)
        rw [List.length_take] at this
        omega
      have hi21 := Lib.itoa_length_le y (by omega) (by omega)
      have HA := Lib.hid (Tryd.strconv_AppendInt_10 w2.heap.size (Sp.keyL (x.m.take j)).length y (by omega) (by omega) u3 _ wr HO.out HB.out.size (by omega) (HT.out.on HB.out))
      have HK : Hid (Sp.keyL (x.m.take (j + 1)) = Sp.keyL (x.m.take j) ++ Lib.itoa y ++ [32]) := by show _ = _; rw [List.take_succ_eq_append_getElem hlt, Sp.keyL_snoc, hyy]
      have HL := Lib.hid hlen
      have HI := Lib.hid hi21
      clear hyy hcell hbb hlen hi21 HO hy
      obtain ⟨L, hL⟩ : ∃ L, L = Sp.keyL (x.m.take j) := ⟨_, rfl⟩
      rw [← hL] at HA HK HL
      clear hL
      go_wp2_with (go_at_call 43; refine HA.out.mono ?_; rintro e w5 ⟨v5, rfl, hown5, hb5, -⟩; refine Hid.out ?_)
      refine Lib.hid ?_
      have HO5 := Lib.hid hown5
      have HB5 := Lib.hid (HB.out.trans hb5)
      have hle : w2.heap.size ≤ w5.heap.size + 1 := by have := HB5.out.size; omega
      have hm1 : L.length + (Lib.itoa y).length + 1 ≤ maxLen := by have := HL.out; have := HI.out; unfold maxLen; omega
      have hm2 : (L.length + (Lib.itoa y).length + 1) * 1 ≤ 140737488355328 := by have := HL.out; have := HI.out; omega
      clear hown5 hb5
      obtain ⟨a5, c5, rfl⟩ := Dt.row_form HO5.out
      go_wp2_with (at_builtin; refine Ap.list rfl _ _ 96 rfl w2.heap.size 5 i0 (.int .u8 0) 1 1 Tryd.underlying96 hi hz0 hz1 hz2 rfl (by decide) (.slice a5 (L.length + (Lib.itoa y).length) c5) (L.length + (Lib.itoa y).length) (Lib.byteCells L ++ Lib.byteCells (Lib.itoa y)) rfl (HO5.out.alloc _) (.slice (some ⟨w5.heap.size, 0, none⟩) 1 1) 1 [.int .u8 32] rfl (.inr ⟨_, _, rfl, World.news_of_block (cs := #[.int .u8 32]) (t := 5) (fr := (0, 0)) (heap_alloc_new w5 _)⟩) rfl (by simp [Value.oneCell']) hm1 hm2 (by simpa using hle) ?_; intro v6 w6 hown6 hg6 hat6; refine Hid.out ?_)
      refine Lib.hid ?_
      obtain ⟨a6, c6, rfl⟩ := Dt.row_form hown6
      have hb6 : Below w2.heap.size w2 w6 := Dt.grown_below (HB5.out.trans (((Below.refl _ w5).alloc (Nat.le_refl _) _).mono HB5.out.size)) hg6 (Nat.le_refl _) (fun k hk => (HO5.out.lt k hk).1)
      have HO6 : Hid (w6.ownsRow w2.heap.size 5 1 (.slice a6 (L.length + (Lib.itoa y).length + 1) c6) (Sp.keyL (x.m.take (j + 1))).length (Lib.byteCells (Sp.keyL (x.m.take (j + 1))))) := by
        rw [HK.out]
        have e1 : Lib.byteCells (L ++ Lib.itoa y ++ [32]) = Lib.byteCells L ++ Lib.byteCells (Lib.itoa y) ++ [.int .u8 32] := by simp [Lib.byteCells]
        have e2 : (L ++ Lib.itoa y ++ [32]).length = L.length + (Lib.itoa y).length + 1 := by rw [List.length_append, List.length_append]; rfl
        rw [e1, e2]
        exact hown6
      have HB6 := Lib.hid hb6
      clear hown6 hg6 hat6 hb6
      go_wp2
      go_roundw
      case rel => exact ⟨j + 1, by simp, by omega, HO6, HB6⟩
      case measure => simp [intOf]; omega
    · obtain rfl : j = x.m.length := by omega
      have hge : (x.m.length : Int) ≤ (x.m.length : Int) := by omega
      have hO := HO.out
      rw [List.take_length] at hO
      obtain ⟨L, hL⟩ : ∃ L, L = Sp.keyL x.m := ⟨_, rfl⟩
      have HKS : Hid (Sp.keyS x.m = ⟨L.toArray⟩) := by show _ = _; rw [hL]; rfl
      rw [← hL] at hO
      have e2 := (HB.out.cell (p := ⟨w.heap.size, 2, none⟩) (by show w.heap.size < _; obtain ⟨hs2, hs1⟩ := HS2.out; omega)).trans HC2.out
      have d0 := (HB.out.cell (p := ⟨w1.heap.size, 0, none⟩) (by show w1.heap.size < _; obtain ⟨hs2, hs1⟩ := HS2.out; omega)).trans HD.out.1
      have d1 := (HB.out.cell (p := ⟨w1.heap.size, 1, none⟩) (by show w1.heap.size < _; obtain ⟨hs2, hs1⟩ := HS2.out; omega)).trans HD.out.2
      have f0 := (HB.out.frozen (p := ⟨w1.heap.size, 0, none⟩) (by show w1.heap.size < _; obtain ⟨hs2, hs1⟩ := HS2.out; omega)).trans (HFZ.out 0)
      have f1 := (HB.out.frozen (p := ⟨w1.heap.size, 1, none⟩) (by show w1.heap.size < _; obtain ⟨hs2, hs1⟩ := HS2.out; omega)).trans (HFZ.out 1)
      have HE : Hid (Below w.heap.size w ((wr.setCell ⟨w1.heap.size, 0, none⟩ (.string x.s)).setCell ⟨w1.heap.size, 1, none⟩ (.string ⟨L.toArray⟩))) := by
        have h2 := HB2.out.trans (HB.out.mono HB2.out.size)
        have hk : Keep (fun k => k = w1.heap.size) wr ((wr.setCell ⟨w1.heap.size, 0, none⟩ (.string x.s)).setCell ⟨w1.heap.size, 1, none⟩ (.string ⟨L.toArray⟩)) := ((Keep.refl (fun k => k = w1.heap.size) wr).setCell rfl _ _).setCell rfl _ _
        obtain ⟨hs2, hs1⟩ := HS2.out
        exact h2.trans (hk.to_below (fun k e => by omega) (by have := h2.size; omega))
      clear HD HFZ hL HO c2 c3
      rcases hO.2 with ⟨rfl, h0⟩ | ⟨g, cap, cur, rfl, -⟩
      · obtain rfl := List.eq_nil_of_length_eq_zero h0
        have hcv := run_convert_bytes_nil (P := Tryd.prog) (w := wr) 96 5 Tryd.underlying96 Tryd.underlying5 0 0 9 Tryd.underlying9
        clear hO
        go_wp2
        refine bodyPost_ret (v := .agg #[.string x.s, .string ⟨#[]⟩]) ?_ rfl ?_
        · simp [results, Tryd.results28, go_sem, *]
          rfl
        · exact ⟨by rw [HKS.out], HE.out⟩
      · have hcv := run_convert_bytes_back (P := Tryd.prog) wr 96 9 5 ⟨g, 0, none⟩ cap L Tryd.underlying96 Tryd.underlying5 Tryd.underlying9 (fun j hj => hO.cells (g := g) rfl j _ (by simp [Lib.byteCells, hj]))
        clear hO
        go_wp2
        refine bodyPost_ret (v := .agg #[.string x.s, .string ⟨L.toArray⟩]) ?_ rfl ?_
        · simp [results, Tryd.results28, go_sem, *]
        · exact ⟨by rw [HKS.out], HE.out⟩
end Go.Proofs.YtjbjgceblanhpaaDoor
