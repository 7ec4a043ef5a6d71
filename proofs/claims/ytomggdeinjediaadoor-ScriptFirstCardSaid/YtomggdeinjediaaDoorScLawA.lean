/-
  The walks of awake and of ScriptReads.
-/
import Derived.Test.YtomggdeinjediaaDoorScSame
import Derived.Test.YtomggdeinjediaaDoorScRefParse
namespace Go.Proofs.YtomggdeinjediaaDoor
open Go.RowKit Go.Sort
namespace Sc
def awakeS : ByteArray := ⟨#[99, 101, 108, 108, 115, 32, 57, 10, 115, 104, 97, 114, 100, 115, 32, 49, 10, 119, 111, 114, 107, 101, 114, 115, 32, 50, 10, 113, 117, 97, 110, 116, 117, 109, 32, 51, 10, 115, 116, 101, 112, 115, 32, 52, 10, 112, 105, 99, 107, 115, 32, 48, 32, 49, 10, 112, 114, 111, 103, 114, 97, 109, 10, 53]⟩
theorem awake_parse : parse awakeS.data.toList = .ok ⟨9, 1, 2, 3, 4, [0, 1], [53]⟩ := by kernel_rfl
theorem Bytes.two (w : World) : Bytes (w.alloc (.cells #[.int .u8 0, .int .u8 1] 5)) (some ⟨w.heap.size, 0, none⟩) 2 [0, 1] := by
  have hh : (w.alloc (.cells #[.int .u8 0, .int .u8 1] 5)).heap[w.heap.size]? = some (.cells #[.int .u8 0, .int .u8 1] 5) := by
    show (w.heap.push _)[w.heap.size]? = _
    simp
  refine ⟨rfl, fun _ => ⟨w.heap.size, 0, rfl, fun j hj => ?_⟩⟩
  unfold World.cell?
  match j, hj with
  | 0, _ => simp only [Nat.zero_add]; rw [hh]; rfl
  | 1, _ => simp only [Nat.zero_add]; rw [hh]; rfl
theorem picks_few (wk : Int) : ∀ (ws : List (List UInt8)) (k : Nat) (ps : List UInt8), picks wk k ws = some ps → k ≤ 400 → k + ps.length ≤ 400 := by
  intro ws
  induction ws with
  | nil => intro k ps h hk; simp [picks] at h; rw [h]; simpa using hk
  | cons u ws ih =>
    intro k ps h hk
    unfold picks at h
    split at h
    · cases h
    · rename_i b hb
      split at h
      · cases h
      · rename_i h4
        cases hp : picks wk (k + 1) ws with
        | none => rw [hp] at h; cases h
        | some q =>
          rw [hp] at h
          simp at h
          have := ih (k + 1) q hp (by omega)
          rw [← h, List.length_cons]
          omega
theorem last_p {n : Int} {s q : Scr} {l r : List UInt8} (h : last n s l r = .ok q) : q.p = s.p := by
  unfold last at h
  split at h
  · injection h with h
    rw [← h]
  · cases h
theorem tailP_few (s : Scr) (t : List UInt8) (q : Scr) (hs : s.p = []) (h : tailP s t = .ok q) : q.p.length ≤ 400 := by
  unfold tailP at h
  split at h
  · cases h
  · split at h
    · rw [last_p h, hs]; simp
    · split at h
      · cases h
      · rename_i ps hps
        have hf := picks_few _ _ _ _ hps (by omega)
        split at h
        · cases h
        · rw [last_p h]
          show ps.length ≤ 400
          omega
theorem nums_few : ∀ (f k : Nat) (v : List Int) (t : List UInt8) (q : Scr), nums f k v t = .ok q → q.p.length ≤ 400 := by
  intro f
  induction f with
  | zero => intro k v t q h; exact tailP_few _ _ _ rfl h
  | succ f ih =>
    intro k v t q h
    unfold nums at h
    split at h
    · cases h
    · exact ih _ _ _ _ h
theorem parse_few (t : List UInt8) (q : Scr) (h : parse t = .ok q) : q.p.length ≤ 400 := by
  unfold parse at h
  split at h
  · cases h
  · exact nums_few _ _ _ _ _ h
theorem Bytes.nil (w : World) : Bytes w none 0 [] := ⟨rfl, fun h => absurd h (by omega)⟩
end Sc
set_option maxRecDepth 100000 in
set_option maxHeartbeats 1000000 in
theorem awake25_any (w : World) :
    Calls Tryd.prog 4 #[] w fun e w' => e = .returned (.bool true) ∧ Below w.heap.size w w' := by
  have hP := Parse_walk Sc.awakeS w (by decide)
  rw [Sc.awake_parse] at hP
  go_enter Tryd.func4, Tryd.ntmps4
  go_wp2_with fail
  refine hP.mono ?_
  rintro e w1 ⟨hb1, pv, rfl, ho⟩
  obtain ⟨pa, pc, rfl⟩ := Sc.own_form ho
  have hB1 := Lib.hid (Sc.Bytes.of_own ho)
  clear hP ho
  go_wp2_with fail
  have h2 := Sc.Bytes.two (w1.alloc (.cells #[.int .i64 9, .int .i64 1, .int .i64 2, .int .i64 3, .int .i64 4, .slice pa 2 pc, .string ⟨#[53]⟩] 25))
  rw [World.size_alloc] at h2
  have h1 : Sc.Bytes ((w1.alloc (.cells #[.int .i64 9, .int .i64 1, .int .i64 2, .int .i64 3, .int .i64 4, .slice pa 2 pc, .string ⟨#[53]⟩] 25)).alloc (.cells #[.int .u8 0, .int .u8 1] 5)) pa 2 [0, 1] := (hB1.out.keep ((Keep.refl (fun _ => False) w1).alloc (.cells #[.int .i64 9, .int .i64 1, .int .i64 2, .int .i64 3, .int .i64 4, .slice pa 2 pc, .string ⟨#[53]⟩] 25)) (fun _ _ h => h)).keep ((Keep.refl (fun _ => False) _).alloc (.cells #[.int .u8 0, .int .u8 1] 5)) (fun _ _ h => h)
  refine (Same25_any 9 1 2 3 4 pa (some ⟨w1.heap.size + 1, 0, none⟩) 2 2 pc 2 [0, 1] ⟨#[53]⟩ _ h1 h2 (by decide)).mono ?_
  rintro e w2 ⟨rfl, hb2⟩
  go_wp2
  go_ret
  exact ⟨rfl, bchain (bchain hb1 (((Below.refl _ _).alloc (Nat.le_refl _) _).alloc (by simp) _)) hb2⟩
end Go.Proofs.YtomggdeinjediaaDoor
