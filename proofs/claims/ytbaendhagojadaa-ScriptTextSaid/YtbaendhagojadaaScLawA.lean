/-
  The walks of awake and of ScriptReads.
-/
import Derived.Test.YtbaendhagojadaaScSame
import Derived.Test.YtbaendhagojadaaScRefParse
namespace Go.Proofs.Ytbaendhagojadaa
open Go.RowKit Go.Sort
namespace Sc
def awakeS : ByteArray := ⟨#[99, 101, 108, 108, 115, 32, 57, 10, 115, 104, 97, 114, 100, 115, 32, 49, 10, 119, 111, 114, 107, 101, 114, 115, 32, 50, 10, 113, 117, 97, 110, 116, 117, 109, 32, 51, 10, 115, 116, 101, 112, 115, 32, 52, 10, 112, 105, 99, 107, 115, 32, 48, 32, 49, 10, 112, 114, 111, 103, 114, 97, 109, 10, 53]⟩
theorem awake_parse : parse awakeS.data.toList = .ok ⟨9, 1, 2, 3, 4, [0, 1], [53]⟩ := by kernel_rfl
theorem Bytes.two (w : World) : Bytes (w.alloc (.cells #[.int .u8 0, .int .u8 1] 5)) (some ⟨w.heap.size, 0, none⟩) 2 [0, 1] := by
  have hh : (w.alloc (.cells #[.int .u8 0, .int .u8 1] 5)).heap[w.heap.size]? = some (.cells #[.int .u8 0, .int .u8 1] 5) := by
    show (w.heap.push _)[w.heap.size]? = _
    simp
  refine ⟨rfl, fun _ => ⟨w.heap.size, 0, rfl, fun j hj => ?_⟩⟩
  unfold World.cell?
  match j, hj with
  | 0, _ => simp only [Nat.zero_add]; rw [hh]; rfl
  | 1, _ => simp only [Nat.zero_add]; rw [hh]; rfl
theorem picks_few (wk : Int) : ∀ (ws : List (List UInt8)) (k : Nat) (ps : List UInt8), picks wk k ws = some ps → k ≤ 400 → k + ps.length ≤ 400 := by
  intro ws
  induction ws with
  | nil => intro k ps h hk; simp [picks] at h; rw [h]; simpa using hk
  | cons u ws ih =>
    intro k ps h hk
    unfold picks at h
    split at h
    · cases h
    · rename_i b hb
      split at h
      · cases h
      · rename_i h4
        cases hp : picks wk (k + 1) ws with
        | none => rw [hp] at h; cases h
        | some q =>
          rw [hp] at h
          simp at h
          have := ih (k + 1) q hp (by omega)
          rw [← h, List.length_cons]
          omega
theorem last_p {n : Int} {s q : Scr} {l r : List UInt8} (h : last n s l r = .ok q) : q.p = s.p := by
  unfold last at h
  split at h
  · injection h with h
    rw [← h]
  · cases h
theorem tailP_few (s : Scr) (t : List UInt8) (q : Scr) (hs : s.p = []) (h : tailP s t = .ok q) : q.p.length ≤ 400 := by
  unfold tailP at h
  split at h
  · cases h
  · split at h
    · rw [last_p h, hs]; simp
    · split at h
      · cases h
      · rename_i ps hps
        have hf := picks_few _ _ _ _ hps (by omega)
        split at h
        · cases h
        · rw [last_p h]
          show ps.length ≤ 400
          omega
theorem nums_few : ∀ (f k : Nat) (v : List Int) (t : List UInt8) (q : Scr), nums f k v t = .ok q → q.p.length ≤ 400 := by
  intro f
  induction f with
  | zero => intro k v t q h; exact tailP_few _ _ _ rfl h
  | succ f ih =>
    intro k v t q h
    unfold nums at h
    split at h
    · cases h
    · exact ih _ _ _ _ h
theorem parse_few (t : List UInt8) (q : Scr) (h : parse t = .ok q) : q.p.length ≤ 400 := by
  unfold parse at h
  split at h
  · cases h
  · exact nums_few _ _ _ _ _ h
theorem Bytes.nil (w : World) : Bytes w none 0 [] := ⟨rfl, fun h => absurd h (by omega)⟩
end Sc
set_option maxRecDepth 100000 in
set_option maxHeartbeats 1000000 in
theorem awake25_any (w : World) :
    Calls Try.prog 7 #[] w fun e w' => e = .returned (.bool true) ∧ Below w.heap.size w w' := by
  have hP := Parse_walk Sc.awakeS w (by decide)
  rw [Sc.awake_parse] at hP
  go_enter Try.func7, Try.ntmps7
  go_wp2_with fail
  refine hP.mono ?_
  rintro e w1 ⟨hb1, pv, rfl, ho⟩
  obtain ⟨pa, pc, rfl⟩ := Sc.own_form ho
  have hB1 := Lib.hid (Sc.Bytes.of_own ho)
  clear hP ho
  go_wp2_with fail
  have h2 := Sc.Bytes.two (w1.alloc (.cells #[.int .i64 9, .int .i64 1, .int .i64 2, .int .i64 3, .int .i64 4, .slice pa 2 pc, .string ⟨#[53]⟩] 25))
  rw [World.size_alloc] at h2
  have h1 : Sc.Bytes ((w1.alloc (.cells #[.int .i64 9, .int .i64 1, .int .i64 2, .int .i64 3, .int .i64 4, .slice pa 2 pc, .string ⟨#[53]⟩] 25)).alloc (.cells #[.int .u8 0, .int .u8 1] 5)) pa 2 [0, 1] := (hB1.out.keep ((Keep.refl (fun _ => False) w1).alloc (.cells #[.int .i64 9, .int .i64 1, .int .i64 2, .int .i64 3, .int .i64 4, .slice pa 2 pc, .string ⟨#[53]⟩] 25)) (fun _ _ h => h)).keep ((Keep.refl (fun _ => False) _).alloc (.cells #[.int .u8 0, .int .u8 1] 5)) (fun _ _ h => h)
  refine (Same25_any 9 1 2 3 4 pa (some ⟨w1.heap.size + 1, 0, none⟩) 2 2 pc 2 [0, 1] ⟨#[53]⟩ _ h1 h2 (by decide)).mono ?_
  rintro e w2 ⟨rfl, hb2⟩
  go_wp2
  go_ret
  exact ⟨rfl, bchain (bchain hb1 (((Below.refl _ _).alloc (Nat.le_refl _) _).alloc (by simp) _)) hb2⟩
set_option maxRecDepth 100000 in
set_option maxHeartbeats 2000000 in
theorem ScriptReads_walk (s : ByteArray) (w : World) (_hs : s.size ≤ 9223372036854775807) :
    Calls Try.prog 3 #[.string s] w fun e w' => e = .returned (.bool true) ∧ Below w.heap.size w w' := by
  by_cases hl : 40000 < s.size
  · have hli : 40000 < (s.size : Int) := by omega
    go_enter Try.func3, Try.ntmps3
    go_wp2_with fail
    refine (awake25_any _).mono ?_
    rintro e w2 ⟨rfl, hb2⟩
    go_wp2_with fail
    refine (awake25_any _).mono ?_
    rintro e w3 ⟨rfl, hb3⟩
    go_wp2
    go_ret
    exact ⟨rfl, bchain hb2 hb3⟩
  have hli : ¬ 40000 < (s.size : Int) := by omega
  have hP := fun wq => Parse_walk s wq (by omega)
  have hQ := fun wq => Parse25_walk s wq (by omega)
  cases hpr : Sc.parse s.data.toList with
  | err n k =>
    rw [hpr] at hP hQ
    have hn1 : (n == n) = true := by simp
    have hk1 : (k == k) = true := by simp
    go_enter Try.func3, Try.ntmps3
    go_wp2_with fail
    refine (awake25_any _).mono ?_
    rintro e w1 ⟨rfl, hb1⟩
    go_wp2_with fail
    refine (hP _).mono ?_
    rintro e w2 ⟨hb2, rfl⟩
    unfold Sc.zeroA
    go_wp2_with fail
    refine (hQ _).mono ?_
    rintro e w3 ⟨hb3, rfl⟩
    unfold Sc.zeroA
    clear hP hQ
    have k4 : Keep (fun _ => False) w3 (w3.alloc (.cells #[.int .i64 0, .int .i64 0, .int .i64 0, .int .i64 0, .int .i64 0, .slice none 0 0, .string ⟨#[]⟩] 25)) := (Keep.refl _ _).alloc _
    have s0 := ((Sc.seven_of w2 (0) (0) (0) (0) (0) (.slice none 0 0) ⟨#[]⟩ 25).keep ((Keep.refl (fun _ => False) _).below hb3) (fun h => h))
    have s1 := s0.keep k4 (fun h => h)
    have hlt := s0.lt
    have hne : w2.heap.size ≠ w3.heap.size := by omega
    have e0 : w3.cell? ⟨w2.heap.size, 0, none⟩ = some (.int .i64 0) := s0.n 0 (by omega)
    have e1 : w3.cell? ⟨w2.heap.size, 1, none⟩ = some (.int .i64 0) := s0.n 1 (by omega)
    have e2 : w3.cell? ⟨w2.heap.size, 2, none⟩ = some (.int .i64 0) := s0.n 2 (by omega)
    have e3 : w3.cell? ⟨w2.heap.size, 3, none⟩ = some (.int .i64 0) := s0.n 3 (by omega)
    have e4 : w3.cell? ⟨w2.heap.size, 4, none⟩ = some (.int .i64 0) := s0.n 4 (by omega)
    have e5 := s0.c5
    have e6 := s0.c6
    have f0 : (w3.alloc (.cells #[.int .i64 0, .int .i64 0, .int .i64 0, .int .i64 0, .int .i64 0, .slice none 0 0, .string ⟨#[]⟩] 25)).cell? ⟨w2.heap.size, 0, none⟩ = some (.int .i64 0) := s1.n 0 (by omega)
    have f1 : (w3.alloc (.cells #[.int .i64 0, .int .i64 0, .int .i64 0, .int .i64 0, .int .i64 0, .slice none 0 0, .string ⟨#[]⟩] 25)).cell? ⟨w2.heap.size, 1, none⟩ = some (.int .i64 0) := s1.n 1 (by omega)
    have f2 : (w3.alloc (.cells #[.int .i64 0, .int .i64 0, .int .i64 0, .int .i64 0, .int .i64 0, .slice none 0 0, .string ⟨#[]⟩] 25)).cell? ⟨w2.heap.size, 2, none⟩ = some (.int .i64 0) := s1.n 2 (by omega)
    have f3 : (w3.alloc (.cells #[.int .i64 0, .int .i64 0, .int .i64 0, .int .i64 0, .int .i64 0, .slice none 0 0, .string ⟨#[]⟩] 25)).cell? ⟨w2.heap.size, 3, none⟩ = some (.int .i64 0) := s1.n 3 (by omega)
    have f4 : (w3.alloc (.cells #[.int .i64 0, .int .i64 0, .int .i64 0, .int .i64 0, .int .i64 0, .slice none 0 0, .string ⟨#[]⟩] 25)).cell? ⟨w2.heap.size, 4, none⟩ = some (.int .i64 0) := s1.n 4 (by omega)
    have f5 := s1.c5
    have f6 := s1.c6
    clear s0 s1 k4
    go_wp2_with fail
    refine (Same25_any 0 0 0 0 0 none none 0 0 0 0 [] ⟨#[]⟩ _ (Sc.Bytes.nil _) (Sc.Bytes.nil _) (by decide)).mono ?_
    rintro e w5 ⟨rfl, hb5⟩
    go_wp2
    go_ret
    exact ⟨rfl, bchain (bchain (bchain (bchain (bchain hb1 hb2) ((Below.refl _ _).alloc (Nat.le_refl _) _)) hb3) ((Below.refl _ _).alloc (Nat.le_refl _) _)) hb5⟩
  | ok r =>
    rw [hpr] at hP hQ
    have hpl := Sc.parse_few _ _ hpr
    go_enter Try.func3, Try.ntmps3
    go_wp2_with fail
    refine (awake25_any _).mono ?_
    rintro e w1 ⟨rfl, hb1⟩
    go_wp2_with fail
    refine (hP _).mono ?_
    rintro e w2 ⟨hb2, pv, rfl, ho⟩
    obtain ⟨pa, pc, rfl⟩ := Sc.own_form ho
    have hB2 := Lib.hid (Sc.Bytes.of_own ho)
    clear ho
    go_wp2_with fail
    refine (hQ _).mono ?_
    rintro e w3 ⟨hb3, pv, rfl, ho⟩
    obtain ⟨pa', pc', rfl⟩ := Sc.own_form ho
    have hB3 := Lib.hid (Sc.Bytes.of_own ho)
    have HB23 : Hid (Sc.Bytes w3 pa r.p.length r.p) := by
      refine (hB2.out.keep ((Keep.refl (fun _ => False) w2).alloc _) (fun _ _ h => h)).keep ((Keep.refl (fun _ => False) _).below hb3) (fun _ _ h => h)
    clear ho hP hQ hpr
    obtain ⟨w4, hw4⟩ : ∃ w4, w3.alloc (.cells #[.int .i64 r.c, .int .i64 r.s, .int .i64 r.w, .int .i64 r.q, .int .i64 r.t, .slice pa' r.p.length pc', .string ⟨r.x.toArray⟩] 25) = w4 := ⟨_, rfl⟩
    have k4 : Keep (fun _ => False) w3 w4 := by rw [← hw4]; exact (Keep.refl _ _).alloc _
    have s1 := ((Sc.seven_of w2 (r.c) (r.s) (r.w) (r.q) (r.t) (.slice pa r.p.length pc) ⟨r.x.toArray⟩ 25).keep ((Keep.refl (fun _ => False) _).below hb3) (fun h => h)).keep k4 (fun h => h)
    have s2 := Sc.seven_of w3 (r.c) (r.s) (r.w) (r.q) (r.t) (.slice pa' r.p.length pc') ⟨r.x.toArray⟩ 25
    rw [hw4] at s2
    have f0 : w4.cell? ⟨w2.heap.size, 0, none⟩ = some (.int .i64 (r.c)) := s1.n 0 (by omega)
    have f1 : w4.cell? ⟨w2.heap.size, 1, none⟩ = some (.int .i64 (r.s)) := s1.n 1 (by omega)
    have f2 : w4.cell? ⟨w2.heap.size, 2, none⟩ = some (.int .i64 (r.w)) := s1.n 2 (by omega)
    have f3 : w4.cell? ⟨w2.heap.size, 3, none⟩ = some (.int .i64 (r.q)) := s1.n 3 (by omega)
    have f4 : w4.cell? ⟨w2.heap.size, 4, none⟩ = some (.int .i64 (r.t)) := s1.n 4 (by omega)
    have f5 := s1.c5
    have f6 := s1.c6
    have g0 : w4.cell? ⟨w3.heap.size, 0, none⟩ = some (.int .i64 (r.c)) := s2.n 0 (by omega)
    have g1 : w4.cell? ⟨w3.heap.size, 1, none⟩ = some (.int .i64 (r.s)) := s2.n 1 (by omega)
    have g2 : w4.cell? ⟨w3.heap.size, 2, none⟩ = some (.int .i64 (r.w)) := s2.n 2 (by omega)
    have g3 : w4.cell? ⟨w3.heap.size, 3, none⟩ = some (.int .i64 (r.q)) := s2.n 3 (by omega)
    have g4 : w4.cell? ⟨w3.heap.size, 4, none⟩ = some (.int .i64 (r.t)) := s2.n 4 (by omega)
    have g5 := s2.c5
    have g6 := s2.c6
    have HB4 : Hid (Below w3.heap.size w3 w4) := by show Below _ _ _; rw [← hw4]; exact (Below.refl _ _).alloc (Nat.le_refl _) _
    clear s1 s2
    have B1 := HB23.out.keep k4 (fun _ _ h => h)
    have B2 := hB3.out.keep k4 (fun _ _ h => h)
    go_wp2_with fail
    refine (Same25_any r.c r.s r.w r.q r.t pa pa' r.p.length r.p.length pc pc' r.p ⟨r.x.toArray⟩ _ B1 B2 (by omega)).mono ?_
    rintro e w5 ⟨rfl, hb5⟩
    go_wp2
    go_ret
    exact ⟨rfl, bchain (bchain (bchain (bchain (bchain hb1 hb2) ((Below.refl _ _).alloc (Nat.le_refl _) _)) hb3) HB4.out) hb5⟩
end Go.Proofs.Ytbaendhagojadaa
