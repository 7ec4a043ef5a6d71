/-
  The walk of Parse: the script of a text.
-/
import Derived.Test.YtomggdeinjediaaDoorScPicks
namespace Go.Proofs.YtomggdeinjediaaDoor
open Go.RowKit Go.Sort
namespace Sc
def zeroA : Value := .agg #[.int .i64 0, .int .i64 0, .int .i64 0, .int .i64 0, .int .i64 0, .slice none 0 0, .string ⟨#[]⟩]
/-- what Parse comes to -/
def ParsePost (r : Res) (w : World) (e : Ending) (w' : World) : Prop :=
  Below w.heap.size w w' ∧ match r with
  | .err n k => e = .returned (.tuple #[zeroA, .int .i64 n, .int .i64 k])
  | .ok s => ∃ pv, e = .returned (.tuple #[.agg #[.int .i64 s.c, .int .i64 s.s, .int .i64 s.w, .int .i64 s.q, .int .i64 s.t, pv, .string ⟨s.x.toArray⟩], .int .i64 0, .int .i64 0]) ∧ w'.ownsRow w.heap.size 5 1 pv s.p.length (s.p.map byteV)
theorem ParsePost.no {r : Res} {n k : Int} {w w' : World} (h : r = .err n k) (hb : Below w.heap.size w w') : ParsePost r w (.returned (.tuple #[zeroA, .int .i64 n, .int .i64 k])) w' := by
  subst h
  exact ⟨hb, rfl⟩
theorem mk_list (r : ByteArray) : (⟨r.data.toList.toArray⟩ : ByteArray) = r := by
  cases r
  simp
theorem ParsePost.yes {r : Res} {w w' : World} {v0 v1 v2 v3 v4 : Int} {ps : List UInt8} {y : ByteArray} {pv : Value} (h : r = .ok ⟨v0, v1, v2, v3, v4, ps, y.data.toList⟩) (hb : Below w.heap.size w w') (ho : w'.ownsRow w.heap.size 5 1 pv ps.length (ps.map byteV)) : ParsePost r w (.returned (.tuple #[.agg #[.int .i64 v0, .int .i64 v1, .int .i64 v2, .int .i64 v3, .int .i64 v4, pv, .string y], .int .i64 0, .int .i64 0])) w' := by
  subst h
  exact ⟨hb, pv, by rw [mk_list], ho⟩
theorem last_no {n : Int} {s : Scr} {l r : List UInt8} (h : ¬ (l = program ∧ r.length ≤ 16384)) : last n s l r = .err n 250 := by unfold last; rw [if_neg h]
theorem last_yes {n : Int} {s : Scr} {l r : List UInt8} (h1 : l = program) (h2 : r.length ≤ 16384) : last n s l r = .ok { s with x := r } := by unfold last; rw [if_pos ⟨h1, h2⟩]
theorem own_base {w : World} {b b' size n : Nat} {e : TypeId} {v : Value} {xs : List Value} (h : w.ownsRow b e size v n xs) (hb : b' ≤ b) : w.ownsRow b' e size v n xs := by
  obtain ⟨h0, h1⟩ := h
  refine ⟨h0, ?_⟩
  rcases h1 with h1 | ⟨g, cap, cur, e1, e2, e3⟩
  · exact .inl h1
  · exact .inr ⟨g, cap, cur, e1, by omega, e3⟩
theorem Nums.keep {P : Nat → Prop} {w w' : World} {B S : Nat} (h : Nums w B S) (hk : Keep P w w') (hB : ¬ P B) (hl : B < w.heap.size) : Nums w' B S := fun k hk5 =>
  ⟨(hk.cell _ hl hB).trans (h k hk5).1, (hk.cell _ hl hB).trans (h k hk5).2.1, (hk.cell _ hl hB).trans (h k hk5).2.2.1, (hk.cell _ hl hB).trans (h k hk5).2.2.2⟩
theorem seven_new (w : World) (ty : TypeId) : St (w.alloc (.cells #[.int .i64 0, .int .i64 0, .int .i64 0, .int .i64 0, .int .i64 0, .slice none 0 0, .string ⟨#[]⟩] ty)) w.heap.size [0, 0, 0, 0, 0] (.slice none 0 0) ⟨#[]⟩ := by
  have hh : (w.alloc (.cells #[.int .i64 0, .int .i64 0, .int .i64 0, .int .i64 0, .int .i64 0, .slice none 0 0, .string ⟨#[]⟩] ty)).heap[w.heap.size]? = some (.cells #[.int .i64 0, .int .i64 0, .int .i64 0, .int .i64 0, .int .i64 0, .slice none 0 0, .string ⟨#[]⟩] ty) := by
    show (w.heap.push _)[w.heap.size]? = _
    simp
  refine ⟨fun k hk => ?_, ?_, ?_, fun j => ?_, by simp⟩
  · unfold World.cell?
    rw [hh]
    match k, hk with
    | 0, _ => rfl
    | 1, _ => rfl
    | 2, _ => rfl
    | 3, _ => rfl
    | 4, _ => rfl
  · unfold World.cell?; rw [hh]; rfl
  · unfold World.cell?; rw [hh]; rfl
  · unfold World.frozen?; rw [hh]; simp
theorem three_new (w : World) (s : ByteArray) (ty : TypeId) : Rd (w.alloc (.cells #[.string s, .int .i64 0, .string ⟨#[]⟩] ty)) w.heap.size s 0 ⟨#[]⟩ := by
  have hh : (w.alloc (.cells #[.string s, .int .i64 0, .string ⟨#[]⟩] ty)).heap[w.heap.size]? = some (.cells #[.string s, .int .i64 0, .string ⟨#[]⟩] ty) := by
    show (w.heap.push _)[w.heap.size]? = _
    simp
  refine ⟨?_, ?_, ?_, fun j => ?_, by simp⟩
  · unfold World.cell?; rw [hh]; rfl
  · unfold World.cell?; rw [hh]; rfl
  · unfold World.cell?; rw [hh]; rfl
  · unfold World.frozen?; rw [hh]; simp
/-- a script stored over another one -/
theorem put7 {w : World} {A : Nat} {v : List Int} {p : Value} {x : ByteArray} (h : St w A v p x) (n0 n1 n2 n3 n4 : Int) (q : Value) (y : ByteArray) :
    St (((((((w.setCell ⟨A, 0, none⟩ (.int .i64 n0)).setCell ⟨A, 1, none⟩ (.int .i64 n1)).setCell ⟨A, 2, none⟩ (.int .i64 n2)).setCell ⟨A, 3, none⟩ (.int .i64 n3)).setCell ⟨A, 4, none⟩ (.int .i64 n4)).setCell ⟨A, 5, none⟩ q).setCell ⟨A, 6, none⟩ (.string y)) A [n0, n1, n2, n3, n4] q y ∧
    Keep (· = A) w (((((((w.setCell ⟨A, 0, none⟩ (.int .i64 n0)).setCell ⟨A, 1, none⟩ (.int .i64 n1)).setCell ⟨A, 2, none⟩ (.int .i64 n2)).setCell ⟨A, 3, none⟩ (.int .i64 n3)).setCell ⟨A, 4, none⟩ (.int .i64 n4)).setCell ⟨A, 5, none⟩ q).setCell ⟨A, 6, none⟩ (.string y)) := by
  have h' : St w A [v.getD 0 0, v.getD 1 0, v.getD 2 0, v.getD 3 0, v.getD 4 0] p x := ⟨fun k hk => by
    rw [h.n k hk]
    match k, hk with
    | 0, _ => rfl
    | 1, _ => rfl
    | 2, _ => rfl
    | 3, _ => rfl
    | 4, _ => rfl, h.c5, h.c6, h.fz, h.lt⟩
  refine ⟨?_, ((((((((Keep.refl (· = A) w).setCell (B := A) rfl 0 _).setCell (B := A) rfl 1 _).setCell (B := A) rfl 2 _).setCell (B := A) rfl 3 _).setCell (B := A) rfl 4 _).setCell (B := A) rfl 5 _).setCell (B := A) rfl 6 _)⟩
  exact (((((((h'.set rfl 0 (by omega) n0).set rfl 1 (by omega) n1).set rfl 2 (by omega) n2).set rfl 3 (by omega) n3).set rfl 4 (by omega) n4).set5 q).set6 y)
theorem nums_no (f k : Nat) (v : List Int) (t : List UInt8) (h : reads k t = none) (hf : 0 < f) : nums f k v t = .err ((k : Int) + 1) 250 := by
  obtain ⟨f, rfl⟩ : ∃ g, f = g + 1 := ⟨f - 1, by omega⟩
  rw [nums, h]
theorem nums_ok (k : Nat) (v : List Int) (m : Int) (t r : List UInt8) (h : reads k t = some (m, r)) (hk : k < 5) (hv : v.length = 5) : nums (5 - k) k (v.take k) t = nums (5 - (k + 1)) (k + 1) ((v.set k m).take (k + 1)) r := by
  obtain ⟨f, hf⟩ : ∃ g, 5 - k = g + 1 := ⟨4 - k, by omega⟩
  rw [hf, nums, h]
  simp only []
  rw [show 5 - (k + 1) = f by omega]
  congr 1
  rw [List.take_set, List.take_succ_eq_append_getElem (by omega), List.set_append_right _ _ (by rw [List.length_take]; omega), List.length_take, show k - min k v.length = 0 by omega]
  rfl
theorem reads_may (k : Nat) (t r : List UInt8) (m : Int) (h : reads k t = some (m, r)) : may k m = true := by
  unfold reads at h
  split at h
  · cases h
  · split at h
    · cases h
    · split at h
      · cases h
      · split at h
        · rename_i hm
          injection h with h
          injection h with h1 h2
          rw [← h1]; exact hm
        · cases h
theorem may_set (v : List Int) (k : Nat) (m : Int) (hk : k < 5) (hv : v.length = 5) (h : ∀ j, j < k → may j (v.getD j 0) = true) (hm : may k m = true) : ∀ j, j < k + 1 → may j ((v.set k m).getD j 0) = true := by
  intro j hj
  rw [List.getD_eq_getElem?_getD]
  by_cases e : j = k
  · subst e
    rw [List.getElem?_set_self (by omega)]
    exact hm
  · rw [List.getElem?_set_ne (Ne.symm e), ← List.getD_eq_getElem?_getD]
    exact h j (by omega)
end Sc
set_option maxRecDepth 100000 in
set_option maxHeartbeats 4000000 in
theorem Parse_walk (s : ByteArray) (w : World) (hs : s.size ≤ 1000000) :
    Calls Tryd.prog 5 #[.string s] w (Sc.ParsePost (Sc.parse s.data.toList) w) := by
  by_cases hl : 20000 < s.size
  · have HR : Hid (Sc.parse s.data.toList = .err 0 3) := by show _ = _; unfold Sc.parse; rw [if_pos (by rw [Fx.size_toList]; exact hl)]
    have hli : 20000 < (s.size : Int) := by omega
    go_enter Tryd.func5, Tryd.ntmps5
    go_wp2_with fail
    refine wp_scope_jumps 0 (fun _ _ => False) (fun _ _ => 0) rfl ?_ (fun _ _ h => h.elim)
    go_wp2
    simp only [Exit.jump]
    refine bodyPost_ret (v := .tuple #[Sc.zeroA, .int .i64 0, .int .i64 3]) (by simp [results, Tryd.results5, go_sem, Sc.zeroA]) rfl (.no HR.out ((Below.refl _ _).alloc (Nat.le_refl _) _))
  have hli : ¬ 20000 < (s.size : Int) := by omega
  have HR : Hid (Sc.parse s.data.toList = Sc.nums 5 0 [] s.data.toList) := by show _ = _; unfold Sc.parse; rw [if_neg (by rw [Fx.size_toList]; exact hl)]
  obtain ⟨A, hA⟩ : ∃ A, w.heap.size = A := ⟨_, rfl⟩
  obtain ⟨w1, hw1⟩ : ∃ w1, (((w.alloc (.cells #[.int .i64 0, .int .i64 0, .int .i64 0, .int .i64 0, .int .i64 0, .slice none 0 0, .string ⟨#[]⟩] 25)).alloc (.cells #[.int .i64 0, .int .i64 0, .int .i64 0, .int .i64 0, .int .i64 0, .slice none 0 0, .string ⟨#[]⟩] 25)).alloc (.cells #[.string s, .int .i64 0, .string ⟨#[]⟩] 36)) = w1 := ⟨_, rfl⟩
  have z1 := Sc.seven_new w 25
  have z2 := Sc.seven_new (w.alloc (.cells #[.int .i64 0, .int .i64 0, .int .i64 0, .int .i64 0, .int .i64 0, .slice none 0 0, .string ⟨#[]⟩] 25)) 25
  have z3 := Sc.three_new ((w.alloc (.cells #[.int .i64 0, .int .i64 0, .int .i64 0, .int .i64 0, .int .i64 0, .slice none 0 0, .string ⟨#[]⟩] 25)).alloc (.cells #[.int .i64 0, .int .i64 0, .int .i64 0, .int .i64 0, .int .i64 0, .slice none 0 0, .string ⟨#[]⟩] 25)) s 36
  rw [hw1] at z3
  have z1' := (z1.keep ((Keep.refl (fun _ => False) _).alloc (.cells #[.int .i64 0, .int .i64 0, .int .i64 0, .int .i64 0, .int .i64 0, .slice none 0 0, .string ⟨#[]⟩] 25)) (fun h => h)).keep ((Keep.refl (fun _ => False) _).alloc (.cells #[.string s, .int .i64 0, .string ⟨#[]⟩] 36)) (fun h => h)
  have z2' := z2.keep ((Keep.refl (fun _ => False) _).alloc (.cells #[.string s, .int .i64 0, .string ⟨#[]⟩] 36)) (fun h => h)
  rw [hw1] at z1' z2'
  simp only [World.size_alloc] at z1' z2' z3
  rw [hA] at z1' z2' z3
  have hsz1 : w1.heap.size = A + 3 := by rw [← hw1]; simp; omega
  have hb1 : Below A w w1 := by rw [← hw1, ← hA]; exact (((Below.refl _ _).alloc (Nat.le_refl _) _).alloc (by simp) _).alloc (by simp; omega) _
  have hN := numbers_any (A + 1) w1
  rw [hsz1] at hN
  have zn := Sc.nums_new w1 (A + 1)
  rw [hsz1] at zn
  have k2 : Keep (fun _ => False) w1 (w1.alloc (Sc.numsO (A + 1))).drew := ((Keep.refl _ _).alloc _).below ((Below.refl _ _).drew)
  obtain ⟨w2, hw2⟩ : ∃ w2, (w1.alloc (Sc.numsO (A + 1))).drew = w2 := ⟨_, rfl⟩
  have zB : Sc.Nums w2 (A + 3) (A + 1) := by rw [← hw2]; exact zn
  rw [hw2] at k2 hN
  have hsz2 : w2.heap.size = A + 4 := by rw [← hw2]; show (w1.alloc (Sc.numsO (A + 1))).heap.size = _; simp [hsz1]
  have HB2 := Lib.hid (hb1.trans (k2.to_below (n := A) (fun _ h => h.elim) (by omega)))
  have HZ := Lib.hid (z1'.keep k2 (fun h => h))
  have HS0 := Lib.hid (z2'.keep k2 (fun h => h))
  have HR0 := Lib.hid (z3.keep k2 (fun h => h))
  have HN0 := Lib.hid zB
  have HSZ2 := Lib.hid hsz2
  have HA := Lib.hid hA
  clear z1 z2 z3 z1' z2' hsz1 hb1 zn k2 hw2 zB hsz2
  go_enter Tryd.func5, Tryd.ntmps5
  go_wp2_with fail
  refine wp_scope_jumps 0 (fun _ _ => False) (fun _ _ => 0) rfl ?_ (fun _ _ h => h.elim)
  go_wp2_with fail
  go_step3
  go_wp2_with fail
  refine hN.mono ?_
  rintro e w3 ⟨rfl, rfl⟩
  clear hw1 hN hA
  go_wp2_with fail
  go_loopw [7, 21] (fun vg vk wr => ∃ (k : Nat) (t l : ByteArray) (v : List Int), vg = .bool true ∧ vk = .int .i64 k ∧ k ≤ 5 ∧ v.length = 5 ∧ t.size ≤ 1000000 ∧ Hid (Sc.parse s.data.toList = Sc.nums (5 - k) k (v.take k) t.data.toList) ∧ Hid (Sc.Rd wr (A + 1 + 1) t k l) ∧ Hid (Sc.St wr (A + 1) v (.slice none 0 0) ⟨#[]⟩) ∧ Hid (Sc.St wr A [0, 0, 0, 0, 0] (.slice none 0 0) ⟨#[]⟩) ∧ Hid (Sc.Nums wr (A + 3) (A + 1)) ∧ Hid (A + 4 ≤ wr.heap.size) ∧ Hid (Below A w wr) ∧ Hid (∀ j, j < k → Sc.may j (v.getD j 0) = true)) (fun _ vk _ => 5 - (intOf vk).toNat)
  case atStart => exact ⟨0, s, ⟨#[]⟩, [0, 0, 0, 0, 0], rfl, rfl, by omega, rfl, hs, HR.out, HR0, HS0, HZ, HN0, Nat.le_of_eq HSZ2.out.symm, HB2, fun j hj => absurd hj (by omega)⟩
  case round =>
    obtain ⟨k, t, l, v, rfl, rfl, hk, hv, hts, HP, HR1, HS1, HZ1, HN1, HL, HB1, HM⟩ := hrel
    by_cases hlt : k < 5
    case neg =>
      obtain rfl : k = 5 := by omega
      obtain ⟨v0, v1, v2, v3, v4, rfl⟩ : ∃ v0 v1 v2 v3 v4, v = [v0, v1, v2, v3, v4] := by
        match v, hv with
        | [v0, v1, v2, v3, v4], _ => exact ⟨v0, v1, v2, v3, v4, rfl⟩
      have hge : ¬ ((5 : Nat) : Int) < 5 := by omega
      have HP1 : Hid (Sc.parse s.data.toList = Sc.tailP (Sc.mk [v0, v1, v2, v3, v4]) t.data.toList) := by
        show _ = _
        rw [HP.out, List.take_of_length_le (by omega)]; rfl
      have hnx := next_any (A + 1 + 1) t l 5 wr HR1.out hts (by omega)
      obtain ⟨f, hf⟩ : ∃ f, t.data.toList.contains 10 = f := ⟨_, rfl⟩
      clear HP
      go_wp2_with fail
      refine hnx.mono ?_
      rintro e w4 ⟨a, b, rfl, ha, hbl, hrd, hk4⟩
      rw [hf]
      have HL4 : Hid (A + 4 ≤ w4.heap.size) := Nat.le_trans HL.out hk4.size
      have HB4 : Hid (Below A w w4) := HB1.out.trans (hk4.to_below (fun j h => by rw [h]; omega) (by have := HL.out; omega))
      have HZ4 := Lib.hid (HZ1.out.keep hk4 (by omega))
      have HS4 := Lib.hid (HS1.out.keep hk4 (by omega))
      have HR4 := Lib.hid hrd
      cases f
      · have HP4 : Hid (Sc.parse s.data.toList = .err (5 + 1) 250) := by
          show _ = _; rw [HP1.out]; unfold Sc.tailP; rw [Sc.line_no _ hf]; rfl
        have hc4 := hrd.c1
        clear hnx ha hbl hrd hk4 hf
        go_wp2_with fail
        have z0 := HZ4.out.n 0 (by omega)
        have z1 := HZ4.out.n 1 (by omega)
        have z2 := HZ4.out.n 2 (by omega)
        have z3 := HZ4.out.n 3 (by omega)
        have z4 := HZ4.out.n 4 (by omega)
        have z5 := HZ4.out.c5
        have z6 := HZ4.out.c6
        have zf := HZ4.out.fz
        obtain ⟨hp7, hk7⟩ := Sc.put7 HZ4.out 0 0 0 0 0 (.slice none 0 0) ⟨#[]⟩
        have hc7 := (hk7.cell 1 (block_lt_of_cell hc4) (fun h => absurd (show A + 1 + 1 = A from h) (by omega))).trans hc4
        obtain ⟨w7, hw7⟩ : ∃ w7, (((((((w4.setCell ⟨A, 0, none⟩ (.int .i64 0)).setCell ⟨A, 1, none⟩ (.int .i64 0)).setCell ⟨A, 2, none⟩ (.int .i64 0)).setCell ⟨A, 3, none⟩ (.int .i64 0)).setCell ⟨A, 4, none⟩ (.int .i64 0)).setCell ⟨A, 5, none⟩ (.slice none 0 0)).setCell ⟨A, 6, none⟩ (.string ⟨#[]⟩)) = w7 := ⟨_, rfl⟩
        rw [hw7] at hp7 hk7 hc7
        have HP7 := Lib.hid hp7
        have HB7 : Hid (Below A w w7) := HB4.out.trans (hk7.to_below (fun j h => Nat.le_of_eq h.symm) (by have := HL4.out; omega))
        clear hp7 hk7
        go_region_held3 (fun w' => w'.cell? ⟨A + 1 + 1, 1, none⟩ = some (.int .i64 (5 + 1))) (go_keep) (fail)
        clear hw7 z0 z1 z2 z3 z4 z5 z6 zf
        go_wp2
        simp only [Exit.jump]
        have z0 := HP7.out.n 0 (by omega)
        have z1 := HP7.out.n 1 (by omega)
        have z2 := HP7.out.n 2 (by omega)
        have z3 := HP7.out.n 3 (by omega)
        have z4 := HP7.out.n 4 (by omega)
        have z5 := HP7.out.c5
        have z6 := HP7.out.c6
        simp only [List.getD_eq_getElem?_getD, List.getElem?_cons_zero, List.getElem?_cons_succ, Option.getD_some] at z0 z1 z2 z3 z4
        refine bodyPost_ret (v := .tuple #[Sc.zeroA, .int .i64 (5 + 1), .int .i64 250]) (by simp [results, Tryd.results5, go_sem, Sc.zeroA, z0, z1, z2, z3, z4, z5, z6]) rfl (.no HP4.out (by rw [HA.out]; exact (HB7.out.drew)))
      have hP2 : Sc.parse s.data.toList = (match Sc.strip Sc.picksW a.data.toList with
          | none => Sc.last 6 (Sc.mk [v0, v1, v2, v3, v4]) a.data.toList b.data.toList
          | some ws => match Sc.picks v2 0 (Sc.cuts ws) with
            | none => .err 6 250
            | some ps => match Sc.line b.data.toList with
              | none => .err 7 250
              | some (l2, r2) => Sc.last 7 { Sc.mk [v0, v1, v2, v3, v4] with p := ps } l2 r2) := by
        rw [HP1.out]; unfold Sc.tailP; rw [Sc.line_yes _ hf, ← ha, ← hbl]; rfl
      have has : a.size ≤ 1000000 := by
        have := congrArg List.length ha
        have h2 := Sc.tw_le t.data.toList
        rw [Fx.size_toList] at this h2
        omega
      have hbs : b.size ≤ 1000000 := by
        have := congrArg List.length hbl
        have h2 := Sc.tail_le t.data.toList
        rw [Fx.size_toList] at this h2
        omega
      have hwk : v2 ≤ 16 := by
        have := HM.out 2 (by omega)
        unfold Sc.may at this
        simp [Sc.top] at this
        simpa using this.2
      have hpk := picks_any (A + 1 + 1) (A + 1) b a (5 + 1) [v0, v1, v2, v3, v4] ⟨#[]⟩ w4 HR4.out HS4.out (by omega) has hwk
      have HP2 := Lib.hid hP2
      have c2 := hrd.c2
      have c0 := hrd.c0
      clear hnx ha hbl hrd hk4 hf hP2 HP1
      go_wp2_with fail
      refine hpk.mono ?_
      rintro e w5 ⟨hk5, h5⟩
      have HL5 : Hid (A + 4 ≤ w5.heap.size) := Nat.le_trans HL4.out hk5.size
      have HB5 : Hid (Below A w w5) := HB4.out.trans (hk5.to_below (fun j h => by rw [h]; omega) (by have := HL4.out; omega))
      have HZ5 := Lib.hid (HZ4.out.keep hk5 (by omega))
      have HR5 := Lib.hid (HR4.out.keep hk5 (by omega))
      clear hpk hk5 c2 c0
      have r1 := HR5.out.c1
      have r2 := HR5.out.c2
      have r0 := HR5.out.c0
      cases hsp : Sc.strip Sc.picksW a.data.toList with
      | none =>
        rw [hsp] at h5
        obtain ⟨rfl, hs5⟩ := h5
        have HPL : Hid (Sc.parse s.data.toList = Sc.last 6 (Sc.mk [v0, v1, v2, v3, v4]) a.data.toList b.data.toList) := by show _ = _; rw [HP2.out, hsp]
        have HS5 := Lib.hid hs5
        clear hs5 hsp HP2
        have hpr0 : (a.toList == [112, 114, 111, 103, 114, 97, 109]) = decide (a.data.toList = Sc.program) := by rw [ByteArray.toList_eq, Bool.eq_iff_iff, beq_iff_eq, decide_eq_true_iff]; rfl
        by_cases hpg : a.data.toList = Sc.program
        case neg =>
          have HPE : Hid (Sc.parse s.data.toList = .err (5 + 1) 250) := by show _ = _; rw [HPL.out]; exact Sc.last_no (fun h => hpg h.1)
          have hpr : (a.toList == [112, 114, 111, 103, 114, 97, 109]) = false := by rw [hpr0]; exact decide_eq_false hpg
          have hpr2 : (a.toList != [112, 114, 111, 103, 114, 97, 109]) = true := by rw [bne, hpr]; rfl
          clear hpr0 hpg
          go_wp2_with fail
          have z0 := HZ5.out.n 0 (by omega)
          have z1 := HZ5.out.n 1 (by omega)
          have z2 := HZ5.out.n 2 (by omega)
          have z3 := HZ5.out.n 3 (by omega)
          have z4 := HZ5.out.n 4 (by omega)
          have z5 := HZ5.out.c5
          have z6 := HZ5.out.c6
          have zf := HZ5.out.fz
          obtain ⟨hp7, hk7⟩ := Sc.put7 HZ5.out 0 0 0 0 0 (.slice none 0 0) ⟨#[]⟩
          have hc7 := (hk7.cell 1 (block_lt_of_cell r1) (fun h => absurd (show A + 1 + 1 = A from h) (by omega))).trans r1
          obtain ⟨w7, hw7⟩ : ∃ w7, (((((((w5.setCell ⟨A, 0, none⟩ (.int .i64 0)).setCell ⟨A, 1, none⟩ (.int .i64 0)).setCell ⟨A, 2, none⟩ (.int .i64 0)).setCell ⟨A, 3, none⟩ (.int .i64 0)).setCell ⟨A, 4, none⟩ (.int .i64 0)).setCell ⟨A, 5, none⟩ (.slice none 0 0)).setCell ⟨A, 6, none⟩ (.string ⟨#[]⟩)) = w7 := ⟨_, rfl⟩
          rw [hw7] at hp7 hk7 hc7
          have HP7 := Lib.hid hp7
          have HB7 : Hid (Below A w w7) := HB5.out.trans (hk7.to_below (fun j h => Nat.le_of_eq h.symm) (by have := HL5.out; omega))
          clear hp7 hk7
          go_region_held3 (fun w' => w'.cell? ⟨A + 1 + 1, 1, none⟩ = some (.int .i64 (5 + 1))) (go_keep) (fail)
          clear hw7 z0 z1 z2 z3 z4 z5 z6 zf
          go_wp2
          simp only [Exit.jump]
          have z0 := HP7.out.n 0 (by omega)
          have z1 := HP7.out.n 1 (by omega)
          have z2 := HP7.out.n 2 (by omega)
          have z3 := HP7.out.n 3 (by omega)
          have z4 := HP7.out.n 4 (by omega)
          have z5 := HP7.out.c5
          have z6 := HP7.out.c6
          simp only [List.getD_eq_getElem?_getD, List.getElem?_cons_zero, List.getElem?_cons_succ, Option.getD_some] at z0 z1 z2 z3 z4
          refine bodyPost_ret (v := .tuple #[Sc.zeroA, .int .i64 (5 + 1), .int .i64 250]) (by simp [results, Tryd.results5, go_sem, Sc.zeroA, z0, z1, z2, z3, z4, z5, z6]) rfl (.no HPE.out (by rw [HA.out]; exact (HB7.out.drew)))
        have hpr : (a.toList == [112, 114, 111, 103, 114, 97, 109]) = true := by rw [hpr0]; exact decide_eq_true hpg
        have hpr2 : (a.toList != [112, 114, 111, 103, 114, 97, 109]) = false := by rw [bne, hpr]; rfl
        by_cases hbig : 16384 < b.size
        case pos =>
          have HPE : Hid (Sc.parse s.data.toList = .err (5 + 1) 250) := by show _ = _; rw [HPL.out]; exact Sc.last_no (fun h => by have := h.2; rw [Fx.size_toList] at this; omega)
          have hbigi : 16384 < (b.size : Int) := by omega
          clear hpr0 hpg hbig
          go_wp2_with fail
          have z0 := HZ5.out.n 0 (by omega)
          have z1 := HZ5.out.n 1 (by omega)
          have z2 := HZ5.out.n 2 (by omega)
          have z3 := HZ5.out.n 3 (by omega)
          have z4 := HZ5.out.n 4 (by omega)
          have z5 := HZ5.out.c5
          have z6 := HZ5.out.c6
          have zf := HZ5.out.fz
          obtain ⟨hp7, hk7⟩ := Sc.put7 HZ5.out 0 0 0 0 0 (.slice none 0 0) ⟨#[]⟩
          have hc7 := (hk7.cell 1 (block_lt_of_cell r1) (fun h => absurd (show A + 1 + 1 = A from h) (by omega))).trans r1
          obtain ⟨w7, hw7⟩ : ∃ w7, (((((((w5.setCell ⟨A, 0, none⟩ (.int .i64 0)).setCell ⟨A, 1, none⟩ (.int .i64 0)).setCell ⟨A, 2, none⟩ (.int .i64 0)).setCell ⟨A, 3, none⟩ (.int .i64 0)).setCell ⟨A, 4, none⟩ (.int .i64 0)).setCell ⟨A, 5, none⟩ (.slice none 0 0)).setCell ⟨A, 6, none⟩ (.string ⟨#[]⟩)) = w7 := ⟨_, rfl⟩
          rw [hw7] at hp7 hk7 hc7
          have HP7 := Lib.hid hp7
          have HB7 : Hid (Below A w w7) := HB5.out.trans (hk7.to_below (fun j h => Nat.le_of_eq h.symm) (by have := HL5.out; omega))
          clear hp7 hk7
          go_region_held3 (fun w' => w'.cell? ⟨A + 1 + 1, 1, none⟩ = some (.int .i64 (5 + 1))) (go_keep) (fail)
          clear hw7 z0 z1 z2 z3 z4 z5 z6 zf
          go_wp2
          simp only [Exit.jump]
          have z0 := HP7.out.n 0 (by omega)
          have z1 := HP7.out.n 1 (by omega)
          have z2 := HP7.out.n 2 (by omega)
          have z3 := HP7.out.n 3 (by omega)
          have z4 := HP7.out.n 4 (by omega)
          have z5 := HP7.out.c5
          have z6 := HP7.out.c6
          simp only [List.getD_eq_getElem?_getD, List.getElem?_cons_zero, List.getElem?_cons_succ, Option.getD_some] at z0 z1 z2 z3 z4
          refine bodyPost_ret (v := .tuple #[Sc.zeroA, .int .i64 (5 + 1), .int .i64 250]) (by simp [results, Tryd.results5, go_sem, Sc.zeroA, z0, z1, z2, z3, z4, z5, z6]) rfl (.no HPE.out (by rw [HA.out]; exact (HB7.out.drew)))
        have hbigi : ¬ 16384 < (b.size : Int) := by omega
        have HPE : Hid (Sc.parse s.data.toList = .ok ⟨v0, v1, v2, v3, v4, ([] : List UInt8), b.data.toList⟩) := by show _ = _; rw [HPL.out]; exact Sc.last_yes hpg (by rw [Fx.size_toList]; omega)
        obtain ⟨w8, hw8⟩ : ∃ w8, w5.setCell ⟨A + 1, 6, none⟩ (.string b) = w8 := ⟨_, rfl⟩
        have hs8 : Sc.St w8 (A + 1) [v0, v1, v2, v3, v4] (.slice none 0 0) b := by rw [← hw8]; exact HS5.out.set6 b
        have hk8 : Keep (· = A + 1) w5 w8 := by rw [← hw8]; exact (Keep.refl (· = A + 1) w5).setCell (B := A + 1) rfl 6 _
        have hz8 := HZ5.out.keep hk8 (fun h => absurd (show A = A + 1 from h) (by omega))
        have y6 := HS5.out.c6
        have yf := HS5.out.fz
        have x0 : w8.cell? ⟨A + 1, 0, none⟩ = some (.int .i64 v0) := hs8.n 0 (by omega)
        have x1 : w8.cell? ⟨A + 1, 1, none⟩ = some (.int .i64 v1) := hs8.n 1 (by omega)
        have x2 : w8.cell? ⟨A + 1, 2, none⟩ = some (.int .i64 v2) := hs8.n 2 (by omega)
        have x3 : w8.cell? ⟨A + 1, 3, none⟩ = some (.int .i64 v3) := hs8.n 3 (by omega)
        have x4 : w8.cell? ⟨A + 1, 4, none⟩ = some (.int .i64 v4) := hs8.n 4 (by omega)
        have x5 := hs8.c5
        have x6 := hs8.c6
        have z0 := hz8.n 0 (by omega)
        have z1 := hz8.n 1 (by omega)
        have z2 := hz8.n 2 (by omega)
        have z3 := hz8.n 3 (by omega)
        have z4 := hz8.n 4 (by omega)
        have z5 := hz8.c5
        have z6 := hz8.c6
        have zf := hz8.fz
        obtain ⟨hp9, hk9⟩ := Sc.put7 hz8 v0 v1 v2 v3 v4 (.slice none 0 0) b
        obtain ⟨w9, hw9⟩ : ∃ w9, (((((((w8.setCell ⟨A, 0, none⟩ (.int .i64 v0)).setCell ⟨A, 1, none⟩ (.int .i64 v1)).setCell ⟨A, 2, none⟩ (.int .i64 v2)).setCell ⟨A, 3, none⟩ (.int .i64 v3)).setCell ⟨A, 4, none⟩ (.int .i64 v4)).setCell ⟨A, 5, none⟩ (.slice none 0 0)).setCell ⟨A, 6, none⟩ (.string b)) = w9 := ⟨_, rfl⟩
        rw [hw9] at hp9 hk9
        have HP9 := Lib.hid hp9
        have HB9 : Hid (Below A w w9) := (HB5.out.trans (hk8.to_below (fun j h => by have h : j = A + 1 := h; omega) (by have := HL5.out; omega))).trans (hk9.to_below (fun j h => Nat.le_of_eq (Eq.symm h)) (by have := HL5.out; have := hk8.size; omega))
        have HO9 : Hid (w9.ownsRow A 5 1 (.slice none 0 0) (([] : List UInt8)).length ((([] : List UInt8)).map Sc.byteV)) := Sc.own_base (Keep.own (Keep.own (World.ownsRow_nil w5 w4.heap.size 5 1) hk8 (fun j h => by have h : j = A + 1 := h; have := HL4.out; omega)) hk9 (fun j h => by have h : j = A := h; have := HL4.out; omega)) (by have := HL4.out; omega)
        clear hp9 hk9 hs8 hk8 hz8 hpr0 hpg hbig
        go_wp2
        simp only [Exit.jump]
        clear z0 z1 z2 z3 z4 z5 z6 zf
        have z0 : w9.cell? ⟨A, 0, none⟩ = some (.int .i64 v0) := HP9.out.n 0 (by omega)
        have z1 : w9.cell? ⟨A, 1, none⟩ = some (.int .i64 v1) := HP9.out.n 1 (by omega)
        have z2 : w9.cell? ⟨A, 2, none⟩ = some (.int .i64 v2) := HP9.out.n 2 (by omega)
        have z3 : w9.cell? ⟨A, 3, none⟩ = some (.int .i64 v3) := HP9.out.n 3 (by omega)
        have z4 : w9.cell? ⟨A, 4, none⟩ = some (.int .i64 v4) := HP9.out.n 4 (by omega)
        have z5 := HP9.out.c5
        have z6 := HP9.out.c6
        refine bodyPost_ret (v := .tuple #[.agg #[.int .i64 v0, .int .i64 v1, .int .i64 v2, .int .i64 v3, .int .i64 v4, .slice none 0 0, .string b], .int .i64 0, .int .i64 0]) (by simp [results, Tryd.results5, go_sem, z0, z1, z2, z3, z4, z5, z6]) rfl (.yes HPE.out (by rw [HA.out]; exact HB9.out) (by rw [HA.out]; exact HO9.out))
      | some ws =>
        rw [hsp] at h5
        simp only [] at h5
        rw [show [v0, v1, v2, v3, v4].getD 2 0 = v2 from rfl] at h5
        have hP3 := HP2.out
        rw [hsp] at hP3
        simp only [] at hP3
        cases hpi : Sc.picks v2 0 (Sc.cuts ws) with
        | none =>
          rw [hpi] at h5 hP3
          try simp only [] at h5
          try simp only [] at hP3
          subst h5
          have HP5 : Hid (Sc.parse s.data.toList = .err (5 + 1) 250) := hP3
          clear hP3 hpi hsp HP2
          go_wp2_with fail
          have z0 := HZ5.out.n 0 (by omega)
          have z1 := HZ5.out.n 1 (by omega)
          have z2 := HZ5.out.n 2 (by omega)
          have z3 := HZ5.out.n 3 (by omega)
          have z4 := HZ5.out.n 4 (by omega)
          have z5 := HZ5.out.c5
          have z6 := HZ5.out.c6
          have zf := HZ5.out.fz
          obtain ⟨hp7, hk7⟩ := Sc.put7 HZ5.out 0 0 0 0 0 (.slice none 0 0) ⟨#[]⟩
          have hc7 := (hk7.cell 1 (block_lt_of_cell r1) (fun h => absurd (show A + 1 + 1 = A from h) (by omega))).trans r1
          obtain ⟨w7, hw7⟩ : ∃ w7, (((((((w5.setCell ⟨A, 0, none⟩ (.int .i64 0)).setCell ⟨A, 1, none⟩ (.int .i64 0)).setCell ⟨A, 2, none⟩ (.int .i64 0)).setCell ⟨A, 3, none⟩ (.int .i64 0)).setCell ⟨A, 4, none⟩ (.int .i64 0)).setCell ⟨A, 5, none⟩ (.slice none 0 0)).setCell ⟨A, 6, none⟩ (.string ⟨#[]⟩)) = w7 := ⟨_, rfl⟩
          rw [hw7] at hp7 hk7 hc7
          have HP7 := Lib.hid hp7
          have HB7 : Hid (Below A w w7) := HB5.out.trans (hk7.to_below (fun j h => Nat.le_of_eq h.symm) (by have := HL5.out; omega))
          clear hp7 hk7
          go_region_held3 (fun w' => w'.cell? ⟨A + 1 + 1, 1, none⟩ = some (.int .i64 (5 + 1))) (go_keep) (fail)
          clear hw7 z0 z1 z2 z3 z4 z5 z6 zf
          go_wp2
          simp only [Exit.jump]
          have z0 := HP7.out.n 0 (by omega)
          have z1 := HP7.out.n 1 (by omega)
          have z2 := HP7.out.n 2 (by omega)
          have z3 := HP7.out.n 3 (by omega)
          have z4 := HP7.out.n 4 (by omega)
          have z5 := HP7.out.c5
          have z6 := HP7.out.c6
          simp only [List.getD_eq_getElem?_getD, List.getElem?_cons_zero, List.getElem?_cons_succ, Option.getD_some] at z0 z1 z2 z3 z4
          refine bodyPost_ret (v := .tuple #[Sc.zeroA, .int .i64 (5 + 1), .int .i64 250]) (by simp [results, Tryd.results5, go_sem, Sc.zeroA, z0, z1, z2, z3, z4, z5, z6]) rfl (.no HP5.out (by rw [HA.out]; exact (HB7.out.drew)))
        | some ps =>
          rw [hpi] at h5 hP3
          try simp only [] at h5
          try simp only [] at hP3
          obtain ⟨rfl, pv, hs5, ho5⟩ := h5
          obtain ⟨pa, pc, rfl⟩ := Sc.own_form ho5
          have HP5 := Lib.hid hP3
          have HS5 := Lib.hid hs5
          have HO5 := Lib.hid ho5
          have hnx := next_any (A + 1 + 1) b a (5 + 1) w5 HR5.out hbs (by omega)
          clear hP3 hpi hsp HP2 hs5 ho5 r0 r1 r2
          go_wp2_with fail
          refine hnx.mono ?_
          rintro e w6 ⟨a2, b2, rfl, ha2, hb2, hrd6, hk6⟩
          have HL6 : Hid (A + 4 ≤ w6.heap.size) := Nat.le_trans HL5.out hk6.size
          have HB6 : Hid (Below A w w6) := HB5.out.trans (hk6.to_below (fun j h => by rw [h]; omega) (by have := HL5.out; omega))
          have HZ6 := Lib.hid (HZ5.out.keep hk6 (by omega))
          have HS6 := Lib.hid (HS5.out.keep hk6 (by omega))
          have HO6 := Lib.hid (Keep.own HO5.out hk6 (fun j h => by have := HL4.out; omega))
          have q0 := hrd6.c0
          have q1 := hrd6.c1
          have q2 := hrd6.c2
          obtain ⟨f2, hf2⟩ : ∃ f2, b.data.toList.contains 10 = f2 := ⟨_, rfl⟩
          rw [hf2]
          cases f2
          · have HP6 : Hid (Sc.parse s.data.toList = .err (5 + 1 + 1) 250) := by
              show _ = _; rw [HP5.out, Sc.line_no _ hf2]; rfl
            clear hf2 ha2 hb2 hrd6 hk6 hnx
            go_wp2_with fail
            have z0 := HZ6.out.n 0 (by omega)
            have z1 := HZ6.out.n 1 (by omega)
            have z2 := HZ6.out.n 2 (by omega)
            have z3 := HZ6.out.n 3 (by omega)
            have z4 := HZ6.out.n 4 (by omega)
            have z5 := HZ6.out.c5
            have z6 := HZ6.out.c6
            have zf := HZ6.out.fz
            obtain ⟨hp7, hk7⟩ := Sc.put7 HZ6.out 0 0 0 0 0 (.slice none 0 0) ⟨#[]⟩
            have hc7 := (hk7.cell 1 (block_lt_of_cell q1) (fun h => absurd (show A + 1 + 1 = A from h) (by omega))).trans q1
            obtain ⟨w7, hw7⟩ : ∃ w7, (((((((w6.setCell ⟨A, 0, none⟩ (.int .i64 0)).setCell ⟨A, 1, none⟩ (.int .i64 0)).setCell ⟨A, 2, none⟩ (.int .i64 0)).setCell ⟨A, 3, none⟩ (.int .i64 0)).setCell ⟨A, 4, none⟩ (.int .i64 0)).setCell ⟨A, 5, none⟩ (.slice none 0 0)).setCell ⟨A, 6, none⟩ (.string ⟨#[]⟩)) = w7 := ⟨_, rfl⟩
            rw [hw7] at hp7 hk7 hc7
            have HP7 := Lib.hid hp7
            have HB7 : Hid (Below A w w7) := HB6.out.trans (hk7.to_below (fun j h => Nat.le_of_eq h.symm) (by have := HL6.out; omega))
            clear hp7 hk7
            go_region_held3 (fun w' => w'.cell? ⟨A + 1 + 1, 1, none⟩ = some (.int .i64 (5 + 1 + 1))) (go_keep) (fail)
            clear hw7 z0 z1 z2 z3 z4 z5 z6 zf
            go_wp2
            simp only [Exit.jump]
            have z0 := HP7.out.n 0 (by omega)
            have z1 := HP7.out.n 1 (by omega)
            have z2 := HP7.out.n 2 (by omega)
            have z3 := HP7.out.n 3 (by omega)
            have z4 := HP7.out.n 4 (by omega)
            have z5 := HP7.out.c5
            have z6 := HP7.out.c6
            simp only [List.getD_eq_getElem?_getD, List.getElem?_cons_zero, List.getElem?_cons_succ, Option.getD_some] at z0 z1 z2 z3 z4
            refine bodyPost_ret (v := .tuple #[Sc.zeroA, .int .i64 (5 + 1 + 1), .int .i64 250]) (by simp [results, Tryd.results5, go_sem, Sc.zeroA, z0, z1, z2, z3, z4, z5, z6]) rfl (.no HP6.out (by rw [HA.out]; exact (HB7.out.drew)))
          have HPL : Hid (Sc.parse s.data.toList = Sc.last 7 { Sc.mk [v0, v1, v2, v3, v4] with p := ps } a2.data.toList b2.data.toList) := by
            show _ = _; rw [HP5.out, Sc.line_yes _ hf2, ← ha2, ← hb2]
          clear hf2 ha2 hb2 hrd6 hk6 hnx
          have hpr0 : (a2.toList == [112, 114, 111, 103, 114, 97, 109]) = decide (a2.data.toList = Sc.program) := by rw [ByteArray.toList_eq, Bool.eq_iff_iff, beq_iff_eq, decide_eq_true_iff]; rfl
          by_cases hpg : a2.data.toList = Sc.program
          case neg =>
            have HPE : Hid (Sc.parse s.data.toList = .err (5 + 1 + 1) 250) := by show _ = _; rw [HPL.out]; exact Sc.last_no (fun h => hpg h.1)
            have hpr : (a2.toList == [112, 114, 111, 103, 114, 97, 109]) = false := by rw [hpr0]; exact decide_eq_false hpg
            have hpr2 : (a2.toList != [112, 114, 111, 103, 114, 97, 109]) = true := by rw [bne, hpr]; rfl
            clear hpr0 hpg
            go_wp2_with fail
            have z0 := HZ6.out.n 0 (by omega)
            have z1 := HZ6.out.n 1 (by omega)
            have z2 := HZ6.out.n 2 (by omega)
            have z3 := HZ6.out.n 3 (by omega)
            have z4 := HZ6.out.n 4 (by omega)
            have z5 := HZ6.out.c5
            have z6 := HZ6.out.c6
            have zf := HZ6.out.fz
            obtain ⟨hp7, hk7⟩ := Sc.put7 HZ6.out 0 0 0 0 0 (.slice none 0 0) ⟨#[]⟩
            have hc7 := (hk7.cell 1 (block_lt_of_cell q1) (fun h => absurd (show A + 1 + 1 = A from h) (by omega))).trans q1
            obtain ⟨w7, hw7⟩ : ∃ w7, (((((((w6.setCell ⟨A, 0, none⟩ (.int .i64 0)).setCell ⟨A, 1, none⟩ (.int .i64 0)).setCell ⟨A, 2, none⟩ (.int .i64 0)).setCell ⟨A, 3, none⟩ (.int .i64 0)).setCell ⟨A, 4, none⟩ (.int .i64 0)).setCell ⟨A, 5, none⟩ (.slice none 0 0)).setCell ⟨A, 6, none⟩ (.string ⟨#[]⟩)) = w7 := ⟨_, rfl⟩
            rw [hw7] at hp7 hk7 hc7
            have HP7 := Lib.hid hp7
            have HB7 : Hid (Below A w w7) := HB6.out.trans (hk7.to_below (fun j h => Nat.le_of_eq h.symm) (by have := HL6.out; omega))
            clear hp7 hk7
            go_region_held3 (fun w' => w'.cell? ⟨A + 1 + 1, 1, none⟩ = some (.int .i64 (5 + 1 + 1))) (go_keep) (fail)
            clear hw7 z0 z1 z2 z3 z4 z5 z6 zf
            go_wp2
            simp only [Exit.jump]
            have z0 := HP7.out.n 0 (by omega)
            have z1 := HP7.out.n 1 (by omega)
            have z2 := HP7.out.n 2 (by omega)
            have z3 := HP7.out.n 3 (by omega)
            have z4 := HP7.out.n 4 (by omega)
            have z5 := HP7.out.c5
            have z6 := HP7.out.c6
            simp only [List.getD_eq_getElem?_getD, List.getElem?_cons_zero, List.getElem?_cons_succ, Option.getD_some] at z0 z1 z2 z3 z4
            refine bodyPost_ret (v := .tuple #[Sc.zeroA, .int .i64 (5 + 1 + 1), .int .i64 250]) (by simp [results, Tryd.results5, go_sem, Sc.zeroA, z0, z1, z2, z3, z4, z5, z6]) rfl (.no HPE.out (by rw [HA.out]; exact (HB7.out.drew)))
          have hpr : (a2.toList == [112, 114, 111, 103, 114, 97, 109]) = true := by rw [hpr0]; exact decide_eq_true hpg
          have hpr2 : (a2.toList != [112, 114, 111, 103, 114, 97, 109]) = false := by rw [bne, hpr]; rfl
          by_cases hbig : 16384 < b2.size
          case pos =>
            have HPE : Hid (Sc.parse s.data.toList = .err (5 + 1 + 1) 250) := by show _ = _; rw [HPL.out]; exact Sc.last_no (fun h => by have := h.2; rw [Fx.size_toList] at this; omega)
            have hbigi : 16384 < (b2.size : Int) := by omega
            clear hpr0 hpg hbig
            go_wp2_with fail
            have z0 := HZ6.out.n 0 (by omega)
            have z1 := HZ6.out.n 1 (by omega)
            have z2 := HZ6.out.n 2 (by omega)
            have z3 := HZ6.out.n 3 (by omega)
            have z4 := HZ6.out.n 4 (by omega)
            have z5 := HZ6.out.c5
            have z6 := HZ6.out.c6
            have zf := HZ6.out.fz
            obtain ⟨hp7, hk7⟩ := Sc.put7 HZ6.out 0 0 0 0 0 (.slice none 0 0) ⟨#[]⟩
            have hc7 := (hk7.cell 1 (block_lt_of_cell q1) (fun h => absurd (show A + 1 + 1 = A from h) (by omega))).trans q1
            obtain ⟨w7, hw7⟩ : ∃ w7, (((((((w6.setCell ⟨A, 0, none⟩ (.int .i64 0)).setCell ⟨A, 1, none⟩ (.int .i64 0)).setCell ⟨A, 2, none⟩ (.int .i64 0)).setCell ⟨A, 3, none⟩ (.int .i64 0)).setCell ⟨A, 4, none⟩ (.int .i64 0)).setCell ⟨A, 5, none⟩ (.slice none 0 0)).setCell ⟨A, 6, none⟩ (.string ⟨#[]⟩)) = w7 := ⟨_, rfl⟩
            rw [hw7] at hp7 hk7 hc7
            have HP7 := Lib.hid hp7
            have HB7 : Hid (Below A w w7) := HB6.out.trans (hk7.to_below (fun j h => Nat.le_of_eq h.symm) (by have := HL6.out; omega))
            clear hp7 hk7
            go_region_held3 (fun w' => w'.cell? ⟨A + 1 + 1, 1, none⟩ = some (.int .i64 (5 + 1 + 1))) (go_keep) (fail)
            clear hw7 z0 z1 z2 z3 z4 z5 z6 zf
            go_wp2
            simp only [Exit.jump]
            have z0 := HP7.out.n 0 (by omega)
            have z1 := HP7.out.n 1 (by omega)
            have z2 := HP7.out.n 2 (by omega)
            have z3 := HP7.out.n 3 (by omega)
            have z4 := HP7.out.n 4 (by omega)
            have z5 := HP7.out.c5
            have z6 := HP7.out.c6
            simp only [List.getD_eq_getElem?_getD, List.getElem?_cons_zero, List.getElem?_cons_succ, Option.getD_some] at z0 z1 z2 z3 z4
            refine bodyPost_ret (v := .tuple #[Sc.zeroA, .int .i64 (5 + 1 + 1), .int .i64 250]) (by simp [results, Tryd.results5, go_sem, Sc.zeroA, z0, z1, z2, z3, z4, z5, z6]) rfl (.no HPE.out (by rw [HA.out]; exact (HB7.out.drew)))
          have hbigi : ¬ 16384 < (b2.size : Int) := by omega
          have HPE : Hid (Sc.parse s.data.toList = .ok ⟨v0, v1, v2, v3, v4, ps, b2.data.toList⟩) := by show _ = _; rw [HPL.out]; exact Sc.last_yes hpg (by rw [Fx.size_toList]; omega)
          obtain ⟨w8, hw8⟩ : ∃ w8, w6.setCell ⟨A + 1, 6, none⟩ (.string b2) = w8 := ⟨_, rfl⟩
          have hs8 : Sc.St w8 (A + 1) [v0, v1, v2, v3, v4] (.slice pa ps.length pc) b2 := by rw [← hw8]; exact HS6.out.set6 b2
          have hk8 : Keep (· = A + 1) w6 w8 := by rw [← hw8]; exact (Keep.refl (· = A + 1) w6).setCell (B := A + 1) rfl 6 _
          have hz8 := HZ6.out.keep hk8 (fun h => absurd (show A = A + 1 from h) (by omega))
          have y6 := HS6.out.c6
          have yf := HS6.out.fz
          have x0 : w8.cell? ⟨A + 1, 0, none⟩ = some (.int .i64 v0) := hs8.n 0 (by omega)
          have x1 : w8.cell? ⟨A + 1, 1, none⟩ = some (.int .i64 v1) := hs8.n 1 (by omega)
          have x2 : w8.cell? ⟨A + 1, 2, none⟩ = some (.int .i64 v2) := hs8.n 2 (by omega)
          have x3 : w8.cell? ⟨A + 1, 3, none⟩ = some (.int .i64 v3) := hs8.n 3 (by omega)
          have x4 : w8.cell? ⟨A + 1, 4, none⟩ = some (.int .i64 v4) := hs8.n 4 (by omega)
          have x5 := hs8.c5
          have x6 := hs8.c6
          have z0 := hz8.n 0 (by omega)
          have z1 := hz8.n 1 (by omega)
          have z2 := hz8.n 2 (by omega)
          have z3 := hz8.n 3 (by omega)
          have z4 := hz8.n 4 (by omega)
          have z5 := hz8.c5
          have z6 := hz8.c6
          have zf := hz8.fz
          obtain ⟨hp9, hk9⟩ := Sc.put7 hz8 v0 v1 v2 v3 v4 (.slice pa ps.length pc) b2
          obtain ⟨w9, hw9⟩ : ∃ w9, (((((((w8.setCell ⟨A, 0, none⟩ (.int .i64 v0)).setCell ⟨A, 1, none⟩ (.int .i64 v1)).setCell ⟨A, 2, none⟩ (.int .i64 v2)).setCell ⟨A, 3, none⟩ (.int .i64 v3)).setCell ⟨A, 4, none⟩ (.int .i64 v4)).setCell ⟨A, 5, none⟩ (.slice pa ps.length pc)).setCell ⟨A, 6, none⟩ (.string b2)) = w9 := ⟨_, rfl⟩
          rw [hw9] at hp9 hk9
          have HP9 := Lib.hid hp9
          have HB9 : Hid (Below A w w9) := (HB6.out.trans (hk8.to_below (fun j h => by have h : j = A + 1 := h; omega) (by have := HL6.out; omega))).trans (hk9.to_below (fun j h => Nat.le_of_eq (Eq.symm h)) (by have := HL6.out; have := hk8.size; omega))
          have HO9 : Hid (w9.ownsRow A 5 1 (.slice pa ps.length pc) (ps).length ((ps).map Sc.byteV)) := Sc.own_base (Keep.own (Keep.own (HO6.out) hk8 (fun j h => by have h : j = A + 1 := h; have := HL4.out; omega)) hk9 (fun j h => by have h : j = A := h; have := HL4.out; omega)) (by have := HL4.out; omega)
          clear hp9 hk9 hs8 hk8 hz8 hpr0 hpg hbig
          go_wp2
          simp only [Exit.jump]
          clear z0 z1 z2 z3 z4 z5 z6 zf
          have z0 : w9.cell? ⟨A, 0, none⟩ = some (.int .i64 v0) := HP9.out.n 0 (by omega)
          have z1 : w9.cell? ⟨A, 1, none⟩ = some (.int .i64 v1) := HP9.out.n 1 (by omega)
          have z2 : w9.cell? ⟨A, 2, none⟩ = some (.int .i64 v2) := HP9.out.n 2 (by omega)
          have z3 : w9.cell? ⟨A, 3, none⟩ = some (.int .i64 v3) := HP9.out.n 3 (by omega)
          have z4 : w9.cell? ⟨A, 4, none⟩ = some (.int .i64 v4) := HP9.out.n 4 (by omega)
          have z5 := HP9.out.c5
          have z6 := HP9.out.c6
          refine bodyPost_ret (v := .tuple #[.agg #[.int .i64 v0, .int .i64 v1, .int .i64 v2, .int .i64 v3, .int .i64 v4, .slice pa ps.length pc, .string b2], .int .i64 0, .int .i64 0]) (by simp [results, Tryd.results5, go_sem, z0, z1, z2, z3, z4, z5, z6]) rfl (.yes HPE.out (by rw [HA.out]; exact HB9.out) (by rw [HA.out]; exact HO9.out))
    have hlti : (k : Int) < 5 := by omega
    obtain ⟨m0, m1, m2, m3⟩ := HN1.out k hlt
    go_wp2_with fail
    have ka : Keep (fun _ => False) wr (wr.alloc (.cells #[.string (Sc.nmB k), .pointer (some ⟨A + 1, k, none⟩), .int .i64 (Sc.low k), .int .i64 (Sc.top k)] 42)) := (Keep.refl _ _).alloc _
    refine (reads_any (A + 1 + 1) (A + 1) k t l k v (.slice none 0 0) ⟨#[]⟩ _ (HR1.out.keep ka (fun h => h)) (HS1.out.keep ka (fun h => h)) (by omega) hv hlt hts (by omega)).mono ?_
    rintro e w5 ⟨hk5, h5⟩
    have hkk := (ka.mono (T := fun j => j = A + 1 + 1 ∨ j = A + 1) (fun _ _ h => h.elim)).trans hk5
    have HL5 : Hid (A + 4 ≤ w5.heap.size) := Nat.le_trans HL.out hkk.size
    have HB5 : Hid (Below A w w5) := HB1.out.trans (hkk.to_below (fun j h => by omega) (by have := HL.out; omega))
    have HZ5 := Lib.hid (HZ1.out.keep hkk (by omega))
    have HN5 := Lib.hid (HN1.out.keep hkk (by omega) (by have := HL.out; omega))
    clear ka hk5 hkk m0 m1 m2 m3
    rcases h5 with ⟨m, r, b, a, hre, rfl, hbr, hbs, hr5, hs5⟩ | ⟨hre, rfl, hc5⟩
    · have HP5 : Hid (Sc.parse s.data.toList = Sc.nums (5 - (k + 1)) (k + 1) ((v.set k m).take (k + 1)) b.data.toList) := by
        show _ = _; rw [HP.out, Sc.nums_ok k v m _ _ hre hlt hv, hbr]
      have HM5 : Hid (∀ j, j < k + 1 → Sc.may j ((v.set k m).getD j 0) = true) := Sc.may_set v k m hlt hv HM.out (Sc.reads_may _ _ _ _ hre)
      have HR5 := Lib.hid hr5
      have HS5 := Lib.hid hs5
      have hbz : b.size ≤ 1000000 := by rw [Fx.size_toList] at hbs; omega
      clear hre hbr hbs hr5 hs5
      go_wp2
      go_roundw
      case rel => exact ⟨k + 1, b, a, v.set k m, rfl, by go_num, by omega, by rw [List.length_set]; exact hv, hbz, HP5, HR5, HS5, HZ5, HN5, HL5, HB5, HM5⟩
      case measure => simp [intOf]; omega
    · have HP5 : Hid (Sc.parse s.data.toList = .err ((k : Int) + 1) 250) := by
        show _ = _; rw [HP.out, Sc.nums_no _ k _ _ hre (by omega)]
      clear hre
      go_wp2_with fail
      have z0 := HZ5.out.n 0 (by omega)
      have z1 := HZ5.out.n 1 (by omega)
      have z2 := HZ5.out.n 2 (by omega)
      have z3 := HZ5.out.n 3 (by omega)
      have z4 := HZ5.out.n 4 (by omega)
      have z5 := HZ5.out.c5
      have z6 := HZ5.out.c6
      have zf := HZ5.out.fz
      obtain ⟨hp7, hk7⟩ := Sc.put7 HZ5.out 0 0 0 0 0 (.slice none 0 0) ⟨#[]⟩
      have hc7 := (hk7.cell 1 (block_lt_of_cell hc5) (fun h => absurd (show A + 1 + 1 = A from h) (by omega))).trans hc5
      obtain ⟨w7, hw7⟩ : ∃ w7, (((((((w5.setCell ⟨A, 0, none⟩ (.int .i64 0)).setCell ⟨A, 1, none⟩ (.int .i64 0)).setCell ⟨A, 2, none⟩ (.int .i64 0)).setCell ⟨A, 3, none⟩ (.int .i64 0)).setCell ⟨A, 4, none⟩ (.int .i64 0)).setCell ⟨A, 5, none⟩ (.slice none 0 0)).setCell ⟨A, 6, none⟩ (.string ⟨#[]⟩)) = w7 := ⟨_, rfl⟩
      rw [hw7] at hp7 hk7 hc7
      have HP7 := Lib.hid hp7
      have HB7 : Hid (Below A w w7) := HB5.out.trans (hk7.to_below (fun j h => Nat.le_of_eq h.symm) (by have := HL5.out; omega))
      clear hp7 hk7
      go_region_held3 (fun w' => w'.cell? ⟨A + 1 + 1, 1, none⟩ = some (.int .i64 ((k : Int) + 1))) (go_keep) (fail)
      clear hw7 z0 z1 z2 z3 z4 z5 z6 zf
      go_wp2
      simp only [Exit.jump]
      have z0 := HP7.out.n 0 (by omega)
      have z1 := HP7.out.n 1 (by omega)
      have z2 := HP7.out.n 2 (by omega)
      have z3 := HP7.out.n 3 (by omega)
      have z4 := HP7.out.n 4 (by omega)
      have z5 := HP7.out.c5
      have z6 := HP7.out.c6
      simp only [List.getD_eq_getElem?_getD, List.getElem?_cons_zero, List.getElem?_cons_succ, Option.getD_some] at z0 z1 z2 z3 z4
      refine bodyPost_ret (v := .tuple #[Sc.zeroA, .int .i64 ((k : Int) + 1), .int .i64 250]) (by simp [results, Tryd.results5, go_sem, Sc.zeroA, z0, z1, z2, z3, z4, z5, z6]) rfl (.no HP5.out (by rw [HA.out]; exact (HB7.out.drew)))
end Go.Proofs.YtomggdeinjediaaDoor
