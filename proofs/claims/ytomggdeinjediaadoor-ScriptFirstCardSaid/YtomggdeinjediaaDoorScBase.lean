/-
  The walks of Cut and CutPrefix, of value, of a reader's next line.
-/
import Derived.Test.YtomggdeinjediaaDoorScPlain
import Derived.Test.YtomggdeinjediaaDoorKeep
import Derived.Lib.Bytealg
import Derived.Lib.Strings
import Derived.Deep.QuietTactic
import Derived.BigQuiet
import Derived.WalkSpells
import Derived.WalkLawsBesides
import Derived.Laws.Concat
namespace Go.Proofs.YtomggdeinjediaaDoor
open Go.RowKit Go.Sort
namespace Sc
theorem idx_has (l : List UInt8) (c : UInt8) : (Lib.indexByte l c = -1 ∧ l.contains c = false ∧ l.takeWhile (· != c) = l ∧ l.dropWhile (· != c) = []) ∨ (∃ i : Nat, Lib.indexByte l c = (i : Int) ∧ i < l.length ∧ l.contains c = true ∧ l.takeWhile (· != c) = l.take i ∧ (l.dropWhile (· != c)).tail = l.drop (i + 1)) := by
  induction l with
  | nil => exact .inl ⟨rfl, rfl, rfl, rfl⟩
  | cons b l ih =>
    unfold Lib.indexByte
    by_cases hb : b = c
    · subst hb
      exact .inr ⟨0, by simp, by simp, by simp, by simp, by simp⟩
    · have e1 : (b == c) = false := by simpa using hb
      have e2 : (b != c) = true := by simpa using hb
      have e4 : (c == b) = false := by simpa using fun h => hb h.symm
      rw [e1, List.takeWhile_cons_of_pos (by simpa using hb), List.dropWhile_cons_of_pos (by simpa using hb), List.contains_cons, e4, Bool.false_or]
      rcases ih with ⟨h1, h2, h3, h4⟩ | ⟨i, h1, h2, h3, h4, h5⟩
      · exact .inl ⟨by rw [h1]; rfl, h2, by rw [h3], h4⟩
      · refine .inr ⟨i + 1, ?_, by simp; omega, h3, by rw [h4]; rfl, by rw [h5]; rfl⟩
        have e3 : (Lib.indexByte l c == -1) = false := beq_eq_false_iff_ne.2 (by omega)
        rw [e3, h1]; simp
/-- what Cut comes to -/
def CutPost (c : UInt8) (t : List UInt8) (w : World) (e : Ending) (w' : World) : Prop :=
  ∃ a b : ByteArray, e = .returned (.tuple #[.string a, .string b, .bool (t.contains c)]) ∧ a.data.toList = t.takeWhile (· != c) ∧ b.data.toList = (t.dropWhile (· != c)).tail ∧ ∃ q, w' = w.drewN q
end Sc
theorem run_IndexByteString' (s : ByteArray) (c : UInt8) (w : World) :
    (callFunc 43 #[.string s, .int .u8 (c.toNat : Int)]).run Tryd.prog w = .ok (.value (.int .i64 (Lib.indexByte s.data.toList c))) w := by
  have h := Lib.run_indexByteString (P := Tryd.prog) s (c.toNat : Int) w
  rw [show ((c.toNat : Int)).toNat.toUInt8 = c by simp] at h
  rw [run_callFunc_extern Tryd.func43 (by kernel_rfl) (by kernel_rfl) (by kernel_rfl) (e := Extern.BytealgIndexByte.indexByte) (by kernel_rfl), h]
  rfl
set_option maxRecDepth 100000 in
theorem sIndexByte_any (s : ByteArray) (c : UInt8) (w : World) :
    Calls Tryd.prog 38 #[.string s, .int .u8 (c.toNat : Int)] w fun e w' => e = .returned (.int .i64 (Lib.indexByte s.data.toList c)) ∧ w = w' := by
  have h := run_IndexByteString' s c w
  go_enter Tryd.func38, Tryd.ntmps38
  go_wp2
  go_ret
  exact ⟨rfl, rfl⟩
set_option maxRecDepth 100000 in
theorem sIndex_any (s z : ByteArray) (c : UInt8) (w : World) (hz : z.data.toList = [c]) :
    Calls Tryd.prog 32 #[.string s, .string z] w fun e w' => e = .returned (.int .i64 (Lib.indexByte s.data.toList c)) ∧ w = w' := by
  have hs1 : z.size = 1 := by have := congrArg List.length hz; rw [Fx.size_toList] at this; exact this
  have h0 : 0 < z.size := by omega
  have hzi : (z.size : Int) = 1 := by omega
  have hc0 : z[0] = c := by
    have h1 : z.data.toList[0]? = some z[0] := by rw [List.getElem?_eq_getElem (by rw [Fx.size_toList]; exact h0)]; rfl
    rw [hz] at h1
    simpa using h1.symm
  have e := sIndexByte_any s z[0] w
  rw [hc0] at e
  cases hzs : (z.toList == s.toList)
  · clear hz
    go_enter Tryd.func32, Tryd.ntmps32
    go_wp2_with fail
    refine e.mono ?_
    rintro e w1 ⟨rfl, rfl⟩
    go_wp2
    go_ret
    exact ⟨rfl, rfl⟩
  · have hi : Hid (Lib.indexByte s.data.toList c = 0) := by
      show _ = _
      rw [ByteArray.toList_eq, ByteArray.toList_eq, beq_iff_eq] at hzs
      rw [← hzs, hz]
      unfold Lib.indexByte
      simp
    clear hz
    go_enter Tryd.func32, Tryd.ntmps32
    go_wp2
    go_ret
    exact ⟨by rw [hi.out]; rfl, rfl⟩
theorem Sc.ext_take (s : ByteArray) (n : Nat) : (s.extract 0 n).data.toList = s.data.toList.take n := by rw [Lib.extract_data]; simp
theorem Sc.ext_drop (s : ByteArray) (n : Nat) : (s.extract n s.size).data.toList = s.data.toList.drop n := by
  rw [Lib.extract_data]
  apply List.take_of_length_le
  rw [List.length_drop, Fx.size_toList]
  exact Nat.le_refl _
set_option maxRecDepth 100000 in
theorem sCut_any (s z : ByteArray) (c : UInt8) (w : World) (hz : z.data.toList = [c]) (hs : s.size ≤ 1000000) :
    Calls Tryd.prog 28 #[.string s, .string z] w (Sc.CutPost c s.data.toList w) := by
  have e := sIndex_any s z c w hz
  have hs1 : z.size = 1 := by have := congrArg List.length hz; rw [Fx.size_toList] at this; exact this
  have hzi : (z.size : Int) = 1 := by omega
  rcases Sc.idx_has s.data.toList c with ⟨h1, h2, h3, h4⟩ | ⟨i, h1, h2, h3, h4, h5⟩
  · rw [h1] at e
    have HP : Hid (Sc.CutPost c s.data.toList w (.returned (.tuple #[.string s, .string ⟨#[]⟩, .bool false])) w) := ⟨s, ⟨#[]⟩, by rw [h2], h3.symm, by rw [h4]; rfl, 0, rfl⟩
    clear h1 h2 h3 h4 hz
    go_enter Tryd.func28, Tryd.ntmps28
    go_wp2_with fail
    refine e.mono ?_
    rintro e w1 ⟨rfl, rfl⟩
    go_wp2
    go_ret3
    exact HP.out
  · rw [h1] at e
    rw [Fx.size_toList] at h2
    have HP : Hid (∀ q, Sc.CutPost c s.data.toList w (.returned (.tuple #[.string (s.extract 0 i), .string (s.extract (i + 1) s.size), .bool true])) (w.drewN q)) := fun q => ⟨_, _, by rw [h3], by rw [h4, Sc.ext_take], by rw [h5, Sc.ext_drop], q, rfl⟩
    have b1 : (0 : Int) ≤ (i : Int) := by omega
    have b2 : (i : Int) ≤ (s.size : Int) := by omega
    have b3 : (i : Int) + 1 ≤ (s.size : Int) := by omega
    have b4 : IntKind.i64.wrap ((i : Int) + 1) = (i : Int) + 1 := by rw [IntWalk.i64_in _ (by omega)]
    have b5 : (0 : Int) ≤ (i : Int) + 1 := by omega
    have b6 : ((i : Int) + 1).toNat = i + 1 := by omega
    clear h1 h3 h4 h5 hz
    go_enter Tryd.func28, Tryd.ntmps28
    go_wp2_with fail
    refine e.mono ?_
    rintro e w1 ⟨rfl, rfl⟩
    go_wp2_with fail
    go_quiet (fail)
    go_wp2
    go_ret3
    exact HP.out _
set_option maxRecDepth 100000 in
theorem Cut_any (s z : ByteArray) (c : UInt8) (w : World) (hz : z.data.toList = [c]) (hs : s.size ≤ 1000000) :
    Calls Tryd.prog 20 #[.string s, .string z] w (Sc.CutPost c s.data.toList w) := by
  have e := sCut_any s z c w hz hs
  clear hz
  go_enter Tryd.func20, Tryd.ntmps20
  go_wp2_with fail
  refine e.mono ?_
  rintro e w1 ⟨a, b, rfl, h1, h2, q, rfl⟩
  obtain ⟨f, hf⟩ : ∃ f, s.data.toList.contains c = f := ⟨_, rfl⟩
  have HP : Hid (Sc.CutPost c s.data.toList w (.returned (.tuple #[.string a, .string b, .bool f])) (w.drewN q)) := ⟨a, b, by rw [hf], h1, h2, q, rfl⟩
  rw [hf]
  clear h1 h2 hf e
  go_wp2
  go_ret3
  exact HP.out
theorem Sc.prefix_take (p s : List UInt8) : p.isPrefixOf s = (s.take p.length == p) := by
  rw [Bool.eq_iff_iff, List.isPrefixOf_iff_prefix, List.prefix_iff_eq_take, beq_iff_eq]
  exact ⟨fun h => h.symm, fun h => h.symm⟩
set_option maxRecDepth 100000 in
theorem sHasPrefix_any (s p : ByteArray) (w : World) (_hs : s.size ≤ 1000000) :
    Calls Tryd.prog 35 #[.string s, .string p] w fun e w' => e = .returned (.bool (p.data.toList.isPrefixOf s.data.toList)) ∧ w = w' := by
  obtain ⟨f, hf⟩ : ∃ f, p.data.toList.isPrefixOf s.data.toList = f := ⟨_, rfl⟩
  rw [hf]
  rw [Sc.prefix_take, Fx.size_toList] at hf
  by_cases hl : p.size ≤ s.size
  · have hli : (p.size : Int) ≤ (s.size : Int) := by omega
    have h0 : (0 : Int) ≤ (p.size : Int) := by omega
    obtain ⟨d, hd⟩ : ∃ d, s.extract 0 p.size = d := ⟨_, rfl⟩
    have hb : (d.toList == p.toList) = f := by rw [ByteArray.toList_eq, ByteArray.toList_eq, ← hd, Sc.ext_take]; exact hf
    clear hf
    go_enter Tryd.func35, Tryd.ntmps35
    go_wp2
    go_ret
    exact ⟨rfl, rfl⟩
  · have hli : ¬ (p.size : Int) ≤ (s.size : Int) := by omega
    have hb : f = false := by
      rw [← hf, beq_eq_false_iff_ne]
      intro h
      have := congrArg List.length h
      rw [List.length_take, Fx.size_toList, Fx.size_toList] at this
      omega
    subst hb
    clear hf
    go_enter Tryd.func35, Tryd.ntmps35
    go_wp2
    go_ret
    exact ⟨rfl, rfl⟩
/-- what is left behind a beginning -/
def Sc.restB (p s : ByteArray) : ByteArray := if p.data.toList.isPrefixOf s.data.toList = true then s.extract p.size s.size else s
theorem Sc.restB_yes (p s : ByteArray) (h : p.data.toList.isPrefixOf s.data.toList = true) : (Sc.restB p s).data.toList = s.data.toList.drop p.data.toList.length := by
  unfold Sc.restB
  rw [if_pos h, Sc.ext_drop, Fx.size_toList]
theorem Sc.restB_size (p s : ByteArray) : (Sc.restB p s).size ≤ s.size := by
  unfold Sc.restB
  split
  · simp
  · exact Nat.le_refl _
set_option maxRecDepth 100000 in
theorem sCutPrefix_any (s p : ByteArray) (w : World) (hs : s.size ≤ 1000000) :
    Calls Tryd.prog 26 #[.string s, .string p] w fun e w' => e = .returned (.tuple #[.string (Sc.restB p s), .bool (p.data.toList.isPrefixOf s.data.toList)]) ∧ w = w' := by
  have e := sHasPrefix_any s p w hs
  cases hf : p.data.toList.isPrefixOf s.data.toList
  · rw [hf] at e
    have HB : Hid (Sc.restB p s = s) := by show _ = _; unfold Sc.restB; rw [hf]; rfl
    clear hf
    go_enter Tryd.func26, Tryd.ntmps26
    go_wp2_with fail
    refine e.mono ?_
    rintro e w1 ⟨rfl, rfl⟩
    go_wp2
    go_ret2
    exact ⟨by rw [HB.out]; rfl, rfl⟩
  · rw [hf] at e
    have hl : p.size ≤ s.size := by
      rw [Sc.prefix_take, Fx.size_toList, beq_iff_eq] at hf
      have := congrArg List.length hf
      rw [List.length_take, Fx.size_toList, Fx.size_toList] at this
      omega
    have hli : (p.size : Int) ≤ (s.size : Int) := by omega
    have HB : Hid (Sc.restB p s = s.extract p.size s.size) := by show _ = _; unfold Sc.restB; rw [hf]; rfl
    clear hf
    go_enter Tryd.func26, Tryd.ntmps26
    go_wp2_with fail
    refine e.mono ?_
    rintro e w1 ⟨rfl, rfl⟩
    go_wp2
    go_ret2
    exact ⟨by rw [HB.out]; rfl, rfl⟩
set_option maxRecDepth 100000 in
theorem CutPrefix_any (s p : ByteArray) (w : World) (hs : s.size ≤ 1000000) :
    Calls Tryd.prog 17 #[.string s, .string p] w fun e w' => e = .returned (.tuple #[.string (Sc.restB p s), .bool (p.data.toList.isPrefixOf s.data.toList)]) ∧ w = w' := by
  have e := sCutPrefix_any s p w hs
  obtain ⟨f, hf⟩ : ∃ f, p.data.toList.isPrefixOf s.data.toList = f := ⟨_, rfl⟩
  rw [hf] at e ⊢
  clear hf
  go_enter Tryd.func17, Tryd.ntmps17
  go_wp2_with fail
  refine e.mono ?_
  rintro e w1 ⟨rfl, rfl⟩
  go_wp2
  go_ret2
  exact ⟨rfl, rfl⟩
set_option maxRecDepth 100000 in
theorem value_any (s : ByteArray) (w : World) (hs : s.size ≤ 1000000) :
    Calls Tryd.prog 18 #[.string s] w fun e w' => e = .returned (.tuple #[.int .i64 (Fx.parse s.data.toList).1, .bool (Sc.value s.data.toList).isSome]) ∧ w = w' := by
  have e := Parse_any s w (by omega)
  unfold Fx.R at e
  have hv : (Sc.value s.data.toList).isSome = decide ((Fx.parse s.data.toList).2 = 0 ∧ 0 ≤ (Fx.parse s.data.toList).1 ∧ (Fx.parse s.data.toList).1 ≤ 131072) := by
    unfold Sc.value
    split
    · rename_i h; simp [h]
    · rename_i h; simp only [Option.isSome_none]; exact (decide_eq_false h).symm
  rw [hv]
  obtain ⟨n, k, hp⟩ : ∃ n k, Fx.parse s.data.toList = (n, k) := ⟨_, _, rfl⟩
  rw [hp] at e ⊢
  clear hv hp
  simp only [] at e ⊢
  by_cases h0 : k = 0
  · subst h0
    by_cases h1 : 0 ≤ n
    · by_cases h2 : n ≤ 131072
      · rw [decide_eq_true (show (0 : Int) = 0 ∧ 0 ≤ n ∧ n ≤ 131072 from ⟨rfl, h1, h2⟩)]
        go_enter Tryd.func18, Tryd.ntmps18
        go_wp2_with fail
        refine e.mono ?_
        rintro e w1 ⟨rfl, rfl⟩
        go_wp2
        go_ret2
        exact ⟨rfl, rfl⟩
      · rw [decide_eq_false (show ¬ ((0 : Int) = 0 ∧ 0 ≤ n ∧ n ≤ 131072) from fun h => h2 h.2.2)]
        have hd : decide (n ≤ 131072) = false := decide_eq_false h2
        go_enter Tryd.func18, Tryd.ntmps18
        go_wp2_with fail
        refine e.mono ?_
        rintro e w1 ⟨rfl, rfl⟩
        go_wp2
        go_ret2
        exact ⟨rfl, rfl⟩
    · rw [decide_eq_false (show ¬ ((0 : Int) = 0 ∧ 0 ≤ n ∧ n ≤ 131072) from fun h => h1 h.2.1)]
      go_enter Tryd.func18, Tryd.ntmps18
      go_wp2_with fail
      refine e.mono ?_
      rintro e w1 ⟨rfl, rfl⟩
      go_wp2
      go_ret2
      exact ⟨rfl, rfl⟩
  · have hkb : (k == 0) = false := by rw [beq_eq_false_iff_ne]; exact h0
    rw [decide_eq_false (show ¬ (k = 0 ∧ 0 ≤ n ∧ n ≤ 131072) from fun h => h0 h.1)]
    go_enter Tryd.func18, Tryd.ntmps18
    go_wp2_with fail
    refine e.mono ?_
    rintro e w1 ⟨rfl, rfl⟩
    go_wp2
    go_ret2
    exact ⟨rfl, rfl⟩
namespace Sc
/-- a reader, in block R -/
structure Rd (w : World) (R : Nat) (rest : ByteArray) (n : Int) (line : ByteArray) : Prop where
  c0 : w.cell? ⟨R, 0, none⟩ = some (.string rest)
  c1 : w.cell? ⟨R, 1, none⟩ = some (.int .i64 n)
  c2 : w.cell? ⟨R, 2, none⟩ = some (.string line)
  fz : ∀ j, w.frozen? ⟨R, j, none⟩ = false
  lt : R < w.heap.size
theorem Rd.keep {S : Nat → Prop} {w w' : World} {R : Nat} {a b : ByteArray} {n : Int} (h : Rd w R a n b) (hk : Keep S w w') (hS : ¬ S R) : Rd w' R a n b :=
  ⟨(hk.cell 0 h.lt hS).trans h.c0, (hk.cell 1 h.lt hS).trans h.c1, (hk.cell 2 h.lt hS).trans h.c2, fun j => (hk.frozen j h.lt hS).trans (h.fz j), Nat.lt_of_lt_of_le h.lt hk.size⟩
theorem Rd.drew {w : World} {R : Nat} {a b : ByteArray} {n : Int} (h : Rd w R a n b) (q : Nat) : Rd (w.drewN q) R a n b := ⟨h.c0, h.c1, h.c2, h.fz, h.lt⟩
theorem Rd.set1 {w : World} {R : Nat} {a b : ByteArray} {n : Int} (h : Rd w R a n b) (m : Int) : Rd (w.setCell ⟨R, 1, none⟩ (.int .i64 m)) R a m b :=
  ⟨by rw [World.cell?_setCell_other _ _ _ _ (by simp)]; exact h.c0, World.cell?_setCell_same _ _ _ h.c1, by rw [World.cell?_setCell_other _ _ _ _ (by simp)]; exact h.c2, fun j => by rw [World.frozen?_setCell]; exact h.fz j, by simpa [World.setCell] using h.lt⟩
theorem Rd.set2 {w : World} {R : Nat} {a b : ByteArray} {n : Int} (h : Rd w R a n b) (x : ByteArray) : Rd (w.setCell ⟨R, 2, none⟩ (.string x)) R a n x :=
  ⟨by rw [World.cell?_setCell_other _ _ _ _ (by simp)]; exact h.c0, by rw [World.cell?_setCell_other _ _ _ _ (by simp)]; exact h.c1, World.cell?_setCell_same _ _ _ h.c2, fun j => by rw [World.frozen?_setCell]; exact h.fz j, by simpa [World.setCell] using h.lt⟩
theorem Rd.set0 {w : World} {R : Nat} {a b : ByteArray} {n : Int} (h : Rd w R a n b) (x : ByteArray) : Rd (w.setCell ⟨R, 0, none⟩ (.string x)) R x n b :=
  ⟨World.cell?_setCell_same _ _ _ h.c0, by rw [World.cell?_setCell_other _ _ _ _ (by simp)]; exact h.c1, by rw [World.cell?_setCell_other _ _ _ _ (by simp)]; exact h.c2, fun j => by rw [World.frozen?_setCell]; exact h.fz j, by simpa [World.setCell] using h.lt⟩
/-- what next comes to -/
def NextPost (R : Nat) (t : List UInt8) (n : Int) (w : World) (e : Ending) (w' : World) : Prop :=
  ∃ a b : ByteArray, e = .returned (.bool (t.contains 10)) ∧ a.data.toList = t.takeWhile (· != 10) ∧ b.data.toList = (t.dropWhile (· != 10)).tail ∧ Rd w' R b (n + 1) a ∧ Keep (· = R) w w'
end Sc
set_option maxRecDepth 100000 in
theorem next_any (R : Nat) (s l : ByteArray) (n : Int) (w : World) (h : Sc.Rd w R s n l) (hs : s.size ≤ 1000000) (hn : 0 ≤ n ∧ n ≤ 1000) :
    Calls Tryd.prog 11 #[.pointer (some ⟨R, 0, none⟩)] w (Sc.NextPost R s.data.toList n w) := by
  have h1 := h.set1 (n + 1)
  have hk1 : Keep (· = R) w (w.setCell ⟨R, 1, none⟩ (.int .i64 (n + 1))) := (Keep.refl (· = R) w).setCell (B := R) rfl 1 _
  have c0 := h.c0
  have c1 := h.c1
  have f0 := h.fz
  have d0 := h1.c0
  have H1 := Lib.hid h1
  have HK1 := Lib.hid hk1
  have e := fun wx => Cut_any s ⟨#[10]⟩ 10 wx rfl hs
  clear h h1 hk1
  go_enter Tryd.func11, Tryd.ntmps11
  go_wp2_with fail
  refine (e _).mono ?_
  rintro e1 w1 ⟨a, b, rfl, h1, h2, q, rfl⟩
  have e1 := (H1.out.drew q).c0
  have e2 := (H1.out.drew q).c2
  have g1 := (H1.out.drew q).fz
  have e3 := ((H1.out.drew q).set2 a).c0
  have g2 := ((H1.out.drew q).set2 a).fz
  have HE := Lib.hid (((H1.out.drew q).set2 a).set0 b)
  have HF := Lib.hid (((HK1.out.drew q).setCell (B := R) rfl 2 (.string a)).setCell (B := R) rfl 0 (.string b))
  have HP1 := Lib.hid h1
  have HP2 := Lib.hid h2
  obtain ⟨f, hf⟩ : ∃ f, s.data.toList.contains 10 = f := ⟨_, rfl⟩
  rw [hf]
  have HFF := Lib.hid hf
  clear h1 h2 e hf
  go_wp2
  go_ret
  exact ⟨a, b, by rw [HFF.out]; rfl, HP1.out, HP2.out, HE.out, HF.out⟩
end Go.Proofs.YtomggdeinjediaaDoor
