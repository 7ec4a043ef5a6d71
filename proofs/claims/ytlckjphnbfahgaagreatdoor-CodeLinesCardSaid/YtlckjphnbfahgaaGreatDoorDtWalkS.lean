/-
  datum.walk with a look that hands on to a loop's round; datum.All's iterator.
-/
import Derived.Test.YtlckjphnbfahgaaGreatDoorDtDownT
import Derived.Test.YtlckjphnbfahgaaGreatDoorDtCheck
namespace Go.Proofs.YtlckjphnbfahgaaGreatDoor
open Go.RowKit
mutual
theorem Dt.downS_any (n nY : Nat) (hn : 3 ≤ n) {N l : Nat} {lb : Nat → Prop} {B0 : Nat} {J Jx : List Dt.P → World → Prop} (hlb : ∀ k, lb k → k < B0) (hJ : Rb.BelFrom B0 J) (hJx : Rb.BelFrom B0 Jx)
    (hY : ∀ pre x W1, J pre W1 → Dt.VP x W1 → pre.length < N → YieldAt Fence.wide nY Tryz.prog l (Dt.encP x) W1 fun e W' =>
      (e = .returned (.bool true) ∧ J (pre ++ [x]) W' ∧ Keep lb W1 W') ∨ (e = .returned (.bool false) ∧ Jx (pre ++ [x]) W' ∧ Keep lb W1 W')) : ∀ x : Dt.D, Dt.DownS n J Jx N l lb B0 x
  | .mk k nn s m l' t => downS_step n nY hn hlb hJ hJx hY (.mk k nn s m l' t) (Dt.downsS_any n nY hn hlb hJ hJx hY l') (Dt.downsS_any n nY hn hlb hJ hJx hY t)
theorem Dt.downsS_any (n nY : Nat) (hn : 3 ≤ n) {N l : Nat} {lb : Nat → Prop} {B0 : Nat} {J Jx : List Dt.P → World → Prop} (hlb : ∀ k, lb k → k < B0) (hJ : Rb.BelFrom B0 J) (hJx : Rb.BelFrom B0 Jx)
    (hY : ∀ pre x W1, J pre W1 → Dt.VP x W1 → pre.length < N → YieldAt Fence.wide nY Tryz.prog l (Dt.encP x) W1 fun e W' =>
      (e = .returned (.bool true) ∧ J (pre ++ [x]) W' ∧ Keep lb W1 W') ∨ (e = .returned (.bool false) ∧ Jx (pre ++ [x]) W' ∧ Keep lb W1 W')) : ∀ (L : List Dt.D) (y : Dt.D), y ∈ L → Dt.DownS n J Jx N l lb B0 y
  | [], _, h => absurd h (by simp)
  | x :: r, y, h => (List.mem_cons.1 h).elim (fun e => by rw [e]; exact Dt.downS_any n nY hn hlb hJ hJx hY x) (fun h' => Dt.downsS_any n nY hn hlb hJ hJx hY r y h')
end
set_option maxRecDepth 100000 in
set_option maxHeartbeats 8000000 in
theorem walkS_any (n nY : Nat) (hn : 3 ≤ n) {N l : Nat} {lb : Nat → Prop} {yb : Nat} {J Jx : List Dt.P → World → Prop} {w : World} (hlb : ∀ k, lb k → k < w.heap.size) (hJ : Rb.BelFrom w.heap.size J) (hJx : Rb.BelFrom w.heap.size Jx)
    (hY : ∀ pre x W1, J pre W1 → Dt.VP x W1 → pre.length < N → YieldAt Fence.wide nY Tryz.prog l (Dt.encP x) W1 fun e W' =>
      (e = .returned (.bool true) ∧ J (pre ++ [x]) W' ∧ Keep lb W1 W') ∨ (e = .returned (.bool false) ∧ Jx (pre ++ [x]) W' ∧ Keep lb W1 W'))
    {F : Nat → Prop} (x : Dt.D) (vm vl vt : Value) (hW : Dt.Wf x) (hFi : Dt.Fine x) (hR : Dt.Rep F w x vm vl vt) (hF : ∀ k, F k → ¬ lb k) (hy : w.cell? ⟨yb, 0, none⟩ = some (.func (.yield l) #[] #[])) (hyl : ¬ lb yb) (hck : (Dt.chk x 1 0).1 = 0) (hJ0 : J [] w) (hN : (Dt.pre x).length ≤ N) :
    Calls Tryz.prog 62 #[.agg #[.int .i64 x.k, .int .i64 x.n, .string x.s, vm, vl, vt], Dt.seeF yb] w fun e w' => (∃ v, e = .returned v) ∧ ((∃ xs : List Dt.P, xs.map Dt.P.d = Dt.pre x ∧ J xs w') ∨ (∃ xs : List Dt.P, xs.map Dt.P.d <+: Dt.pre x ∧ Jx xs w')) := by
  have hyb : yb < w.heap.size := block_lt_of_cell hy
  have HJ := Lib.hid hJ
  have HJX := Lib.hid hJx
  obtain ⟨a1, n1, c1, a2, n2, c2, a3, n3, c3, rfl, rfl, rfl⟩ := hR.forms
  obtain ⟨X0, h0⟩ : ∃ X, w.alloc (.cells #[.int .i64 x.k, .int .i64 x.n, .string x.s, .slice a1 n1 c1, .slice a2 n2 c2, .slice a3 n3 c3] 52) = X := ⟨_, rfl⟩
  obtain ⟨X1, h1⟩ : ∃ X, X0.alloc (.cells #[Dt.seeF yb] 68) = X := ⟨_, rfl⟩
  obtain ⟨X2, h2⟩ : ∃ X, X1.alloc (.cells #[.int .i64 0] 3) = X := ⟨_, rfl⟩
  obtain ⟨X3, h3⟩ : ∃ X, X2.alloc (.cells #[.int .i64 0] 3) = X := ⟨_, rfl⟩
  obtain ⟨X4, h4⟩ : ∃ X, X3.alloc (.cells #[.bool false] 4) = X := ⟨_, rfl⟩
  obtain ⟨X5, h5⟩ : ∃ X, X4.alloc (.cells #[.nilFunc] 121) = X := ⟨_, rfl⟩
  have z0 : X0.heap.size = w.heap.size + 1 := by rw [← h0, World.size_alloc]
  have z1 : X1.heap.size = w.heap.size + 1 + 1 := by rw [← h1, World.size_alloc, z0]
  have z2 : X2.heap.size = w.heap.size + 1 + 1 + 1 := by rw [← h2, World.size_alloc, z1]
  have z3 : X3.heap.size = w.heap.size + 1 + 1 + 1 + 1 := by rw [← h3, World.size_alloc, z2]
  have z4 : X4.heap.size = w.heap.size + 1 + 1 + 1 + 1 + 1 := by rw [← h4, World.size_alloc, z3]
  have z5 : X5.heap.size = w.heap.size + 1 + 1 + 1 + 1 + 1 + 1 := by rw [← h5, World.size_alloc, z4]
  have b0 : Below w.heap.size w X0 := by rw [← h0]; exact (Below.refl _ _).alloc (Nat.le_refl _) _
  have b1 : Below X0.heap.size X0 X1 := by rw [← h1]; exact (Below.refl _ _).alloc (Nat.le_refl _) _
  have b2 : Below X1.heap.size X1 X2 := by rw [← h2]; exact (Below.refl _ _).alloc (Nat.le_refl _) _
  have b3 : Below X2.heap.size X2 X3 := by rw [← h3]; exact (Below.refl _ _).alloc (Nat.le_refl _) _
  have b4 : Below X3.heap.size X3 X4 := by rw [← h4]; exact (Below.refl _ _).alloc (Nat.le_refl _) _
  have b5 : Below X4.heap.size X4 X5 := by rw [← h5]; exact (Below.refl _ _).alloc (Nat.le_refl _) _
  have n1' : X1.cell? ⟨w.heap.size + 1, 0, none⟩ = some (Dt.seeF yb) := by rw [← h1, ← z0]; exact Dt.one_new _ _ _
  have n2' : X2.cell? ⟨w.heap.size + 1 + 1, 0, none⟩ = some (.int .i64 0) := by rw [← h2, ← z1]; exact Dt.one_new _ _ _
  have n3' : X3.cell? ⟨w.heap.size + 1 + 1 + 1, 0, none⟩ = some (.int .i64 0) := by rw [← h3, ← z2]; exact Dt.one_new _ _ _
  have n4' : X4.cell? ⟨w.heap.size + 1 + 1 + 1 + 1, 0, none⟩ = some (.bool false) := by rw [← h4, ← z3]; exact Dt.one_new _ _ _
  have n5' : X5.cell? ⟨w.heap.size + 1 + 1 + 1 + 1 + 1, 0, none⟩ = some .nilFunc := by rw [← h5, ← z4]; exact Dt.one_new _ _ _
  have m2 : X2.frozen? ⟨w.heap.size + 1 + 1, 0, none⟩ = false := by rw [← h2, ← z1]; exact Dt.frz_new _ _ _ _
  have m3 : X3.frozen? ⟨w.heap.size + 1 + 1 + 1, 0, none⟩ = false := by rw [← h3, ← z2]; exact Dt.frz_new _ _ _ _
  have m4 : X4.frozen? ⟨w.heap.size + 1 + 1 + 1 + 1, 0, none⟩ = false := by rw [← h4, ← z3]; exact Dt.frz_new _ _ _ _
  have m5 : X5.frozen? ⟨w.heap.size + 1 + 1 + 1 + 1 + 1, 0, none⟩ = false := by rw [← h5, ← z4]; exact Dt.frz_new _ _ _ _
  have b25 := (b3.trans (b4.mono (by omega))).trans (b5.mono (by omega))
  have b35 := b4.trans (b5.mono (by omega))
  have b15 := b2.trans (b25.mono (by omega))
  have hB5 : Below w.heap.size w X5 := ((b0.trans (b1.mono (by omega))).trans (b2.mono (by omega))).trans (b25.mono (by omega))
  have b05 : Below X0.heap.size X0 X5 := (b1.trans (b15.mono (by omega)))
  have p1 := (b15.cell (p := ⟨w.heap.size + 1, 0, none⟩) (by simp; omega)).trans n1'
  have p2 := (b25.cell (p := ⟨w.heap.size + 1 + 1, 0, none⟩) (by simp; omega)).trans n2'
  have p3 := (b35.cell (p := ⟨w.heap.size + 1 + 1 + 1, 0, none⟩) (by simp; omega)).trans n3'
  have p4 := (b5.cell (p := ⟨w.heap.size + 1 + 1 + 1 + 1, 0, none⟩) (by simp; omega)).trans n4'
  have q2 := (b25.frozen (p := ⟨w.heap.size + 1 + 1, 0, none⟩) (by simp; omega)).trans m2
  have q4 := (b5.frozen (p := ⟨w.heap.size + 1 + 1 + 1 + 1, 0, none⟩) (by simp; omega)).trans m4
  have q3 := (b35.frozen (p := ⟨w.heap.size + 1 + 1 + 1, 0, none⟩) (by simp; omega)).trans m3
  have hsix := Dt.six_new w x.k x.n x.s (.slice a1 n1 c1) (.slice a2 n2 c2) (.slice a3 n3 c3) 52
  rw [h0] at hsix
  have hlt0 : w.heap.size < X0.heap.size := by omega
  have d0 : X5.cell? ⟨w.heap.size, 0, none⟩ = some (.int .i64 x.k) := (b05.cell (p := ⟨w.heap.size, 0, none⟩) hlt0).trans (hsix 0 (by omega))
  have d1 : X5.cell? ⟨w.heap.size, 1, none⟩ = some (.int .i64 x.n) := (b05.cell (p := ⟨w.heap.size, 1, none⟩) hlt0).trans (hsix 1 (by omega))
  have d2 : X5.cell? ⟨w.heap.size, 2, none⟩ = some (.string x.s) := (b05.cell (p := ⟨w.heap.size, 2, none⟩) hlt0).trans (hsix 2 (by omega))
  have d3 : X5.cell? ⟨w.heap.size, 3, none⟩ = some (.slice a1 n1 c1) := (b05.cell (p := ⟨w.heap.size, 3, none⟩) hlt0).trans (hsix 3 (by omega))
  have d4 : X5.cell? ⟨w.heap.size, 4, none⟩ = some (.slice a2 n2 c2) := (b05.cell (p := ⟨w.heap.size, 4, none⟩) hlt0).trans (hsix 4 (by omega))
  have d5 : X5.cell? ⟨w.heap.size, 5, none⟩ = some (.slice a3 n3 c3) := (b05.cell (p := ⟨w.heap.size, 5, none⟩) hlt0).trans (hsix 5 (by omega))
  have hall : (((((w.alloc (.cells #[.int .i64 x.k, .int .i64 x.n, .string x.s, .slice a1 n1 c1, .slice a2 n2 c2, .slice a3 n3 c3] 52)).alloc (.cells #[Dt.seeF yb] 68)).alloc (.cells #[.int .i64 0] 3)).alloc (.cells #[.int .i64 0] 3)).alloc (.cells #[.bool false] 4)).alloc (.cells #[.nilFunc] 121) = X5 := by rw [h0, h1, h2, h3, h4, h5]
  obtain ⟨X6, h6⟩ : ∃ X6, X5.setCell ⟨w.heap.size + 1 + 1 + 1 + 1 + 1, 0, none⟩ (Dt.downF (w.heap.size + 1 + 1) (w.heap.size + 1 + 1 + 1) (w.heap.size + 1) (w.heap.size + 1 + 1 + 1 + 1) (w.heap.size + 1 + 1 + 1 + 1 + 1)) = X6 := ⟨_, rfl⟩
  have hne : ∀ {y}, y ≠ w.heap.size + 1 + 1 + 1 + 1 + 1 → ∀ j, X6.cell? ⟨y, j, none⟩ = X5.cell? ⟨y, j, none⟩ := fun hy j => by
    rw [← h6]; exact World.cell?_setCell_other _ _ _ _ (by intro e; cases e; exact hy rfl)
  have hB6 : Below w.heap.size w X6 := by rw [← h6]; exact hB5.setCell (p := ⟨w.heap.size + 1 + 1 + 1 + 1 + 1, 0, none⟩) (by simp; omega) _
  have hs6 : X6.heap.size = w.heap.size + 1 + 1 + 1 + 1 + 1 + 1 := by rw [← h6]; simpa [World.setCell] using z5
  have hyc : X6.cell? ⟨yb, 0, none⟩ = some (.func (.yield l) #[] #[]) := (hB6.cell (p := ⟨yb, 0, none⟩) hyb).trans hy
  have hE : Dt.EnvS X6 (w.heap.size + 1 + 1) (w.heap.size + 1 + 1 + 1) (w.heap.size + 1) (w.heap.size + 1 + 1 + 1 + 1) (w.heap.size + 1 + 1 + 1 + 1 + 1) yb l 0 false :=
    ⟨(hne (by omega) 0).trans p2, ⟨0, (hne (by omega) 0).trans p3⟩, (hne (by omega) 0).trans p1, (hne (by omega) 0).trans p4, by rw [← h6]; exact World.cell?_setCell_same' _ _ _ (by rw [n5']; rfl), hyc, by rw [← h6, World.frozen?_setCell]; exact q2, by rw [← h6, World.frozen?_setCell]; exact q3, by rw [← h6, World.frozen?_setCell]; exact q4⟩
  have hnl : ∀ {k}, w.heap.size ≤ k → ¬ lb k := fun h h2 => by have := hlb _ h2; omega
  have hJ6 : J [] X6 := hJ _ _ _ hJ0 (Nat.le_refl _) hB6
  have hdn := Dt.downS_any n nY hn hlb hJ hJx hY x (fun k => k < w.heap.size ∧ ¬ lb k) 1 0 _ _ _ X6 (w.heap.size + 1 + 1) (w.heap.size + 1 + 1 + 1) (w.heap.size + 1) (w.heap.size + 1 + 1 + 1 + 1) (w.heap.size + 1 + 1 + 1 + 1 + 1) yb [] hW hFi ((Dt.Rep.mono (fun k h hk => ⟨hk, hF k h⟩) x hR).below hB6) (fun k hk h => by rcases h with h | h | h | h; omega; omega; omega; exact hk.2 h) hE ⟨by omega, by omega, by omega, by omega, by omega, hnl (by omega), by omega, by omega, by omega, by omega, hnl (by omega), by omega, by omega, by omega, hnl (by omega), hnl (by omega), hnl (by omega), hyl, by omega, by omega, by omega⟩ (by omega) (by omega) (by omega) hck hJ6 (by simpa using hN)
  rw [show (((1 : Nat)) : Int) = 1 from rfl] at hdn
  have eu := hE.cu
  have HDN := Lib.hid (callsIn_wide.1 hdn)
  have HB := Lib.hid hB6
  have HS := Lib.hid hs6
  have e0 := (hne (y := w.heap.size) (by omega) 0).trans d0
  have e1 := (hne (y := w.heap.size) (by omega) 1).trans d1
  have e2 := (hne (y := w.heap.size) (by omega) 2).trans d2
  have e3 := (hne (y := w.heap.size) (by omega) 3).trans d3
  have e4 := (hne (y := w.heap.size) (by omega) 4).trans d4
  have e5 := (hne (y := w.heap.size) (by omega) 5).trans d5
  clear n1' n2' n3' n4' m2 m3 b0 b1 b2 b3 b4 b5 b25 b35 b15 b05 h0 h1 h2 h3 h4 h5 z0 z1 z2 z3 z4 z5 hsix hE hB6 hB5 hs6 hdn hne p1 p2 p3 p4 q2 q3 q4 m4 hyc hJ6 d0 d1 d2 d3 d4 d5 hlt0 hR hW
  clear hJ hJx hY hJ0 hck hFi
  obtain ⟨R, hRR⟩ : ∃ R, R = Dt.chk x 1 0 := ⟨_, rfl⟩
  rw [← hRR] at HDN
  clear hRR
  go_enter Tryz.func62, Tryz.ntmps62
  go_wp2_with fail
  refine HDN.out.mono ?_
  rintro e w7 ⟨rfl, sp, hM⟩
  have HM : Hid ((∃ xs : List Dt.P, xs.map Dt.P.d = Dt.pre x ∧ J xs w7) ∨ (∃ xs : List Dt.P, xs.map Dt.P.d <+: Dt.pre x ∧ Jx xs w7)) := by
    rcases hM.2 with ⟨_, _, xs, h1, h2⟩ | ⟨_, _, xs, h1, h2⟩
    · exact .inl ⟨xs, h1, h2⟩
    · exact .inr ⟨xs, h1, h2⟩
  have HZ : Hid (w.heap.size ≤ w7.heap.size) := by
    show _ ≤ _
    have := hM.1.size
    have := HS.out
    omega
  obtain ⟨a', b', ca, cb⟩ : ∃ (a' : Nat) (b' : Int), w7.cell? ⟨w.heap.size + 1 + 1, 0, none⟩ = some (.int .i64 (a' : Int)) ∧ w7.cell? ⟨w.heap.size + 1 + 1 + 1, 0, none⟩ = some (.int .i64 b') := by
    rcases hM.2 with ⟨_, hE, _⟩ | ⟨_, ⟨a', hE⟩, _⟩
    · exact ⟨_, _, hE.cp, hE.cd.choose_spec⟩
    · exact ⟨_, _, hE.cp, hE.cd.choose_spec⟩
  clear hM HDN eu e0 e1 e2 e3 e4 e5 n5' m5 hall h6
  go_wp2
  go_quiet (fail)
  go_wp2
  refine bodyPost_ret (v := .tuple #[.int .i64 (a' : Int), .int .i64 b', .int .i64 0]) (by simp [results, Tryz.results62, go_sem]) rfl ?_
  exact ⟨⟨_, rfl⟩, HM.out.elim (fun ⟨xs, h1, h2⟩ => .inl ⟨xs, h1, HJ.out _ _ _ h2 HZ.out ⟨rfl, rfl, rfl, Nat.le_refl _, fun _ _ => rfl⟩⟩) (fun ⟨xs, h1, h2⟩ => .inr ⟨xs, h1, HJX.out _ _ _ h2 HZ.out ⟨rfl, rfl, rfl, Nat.le_refl _, fun _ _ => rfl⟩⟩)⟩
set_option maxRecDepth 100000 in
set_option maxHeartbeats 8000000 in
theorem dAll1_any (n nY : Nat) (hn : 3 ≤ n) {N l : Nat} {lb : Nat → Prop} {J Jx : List Dt.P → World → Prop} {w : World} (hlb : ∀ k, lb k → k < w.heap.size) (hJ : Rb.BelFrom w.heap.size J) (hJx : Rb.BelFrom w.heap.size Jx)
    (hY : ∀ pre x W1, J pre W1 → Dt.VP x W1 → pre.length < N → YieldAt Fence.wide nY Tryz.prog l (Dt.encP x) W1 fun e W' =>
      (e = .returned (.bool true) ∧ J (pre ++ [x]) W' ∧ Keep lb W1 W') ∨ (e = .returned (.bool false) ∧ Jx (pre ++ [x]) W' ∧ Keep lb W1 W'))
    {F : Nat → Prop} (x : Dt.D) (vm vl vt : Value) (hW : Dt.Wf x) (hR : Dt.Rep F w x vm vl vt) (hF : ∀ k, F k → ¬ lb k) (db : Nat) (hd : Dt.Six w db 0 x vm vl vt) (hck : (Dt.chk x 1 0).1 = 0) (hJ0 : J [] w) (hN : (Dt.pre x).length ≤ N) :
    Calls Tryz.prog 66 #[.func (.yield l) #[] #[], .pointer (some ⟨db, 0, none⟩)] w fun e w' => (∃ v, e = .returned v) ∧ ((∃ xs : List Dt.P, xs.map Dt.P.d = Dt.pre x ∧ J xs w') ∨ (∃ xs : List Dt.P, xs.map Dt.P.d <+: Dt.pre x ∧ Jx xs w')) := by
  obtain ⟨w1, hw1⟩ : ∃ w1, w.alloc (.cells #[.func (.yield l) #[] #[]] 68) = w1 := ⟨_, rfl⟩
  have hb1 : Below w.heap.size w w1 := by rw [← hw1]; exact (Below.refl _ _).alloc (Nat.le_refl _) _
  have hy1 : w1.cell? ⟨w.heap.size, 0, none⟩ = some (.func (.yield l) #[] #[]) := by rw [← hw1]; exact Dt.one_new _ _ _
  have hz1 : w1.heap.size = w.heap.size + 1 := by rw [← hw1, World.size_alloc]
  have hc := dCheck_any x vm vl vt w1 hW (hR.below hb1)
  have hdb : db < w.heap.size := block_lt_of_cell hd.1
  have hd1 := hd.keep (S := fun _ => False) ((Keep.refl _ _).below hb1) hdb id
  have hfi : Dt.Fine x := (Dt.chk_fine x 1 0 (by omega) hck).2
  have hck0 : Dt.check x = 0 := hck
  rw [hck0] at hc
  have HB1 := Lib.hid hb1
  have HD := Lib.hid hd1
  obtain ⟨d0, d1, d2, d3, d4, d5⟩ := hd1
  simp only [Nat.zero_add] at d0 d1 d2 d3 d4 d5
  have HR := Lib.hid hR
  have HJ := Lib.hid hJ
  have HJX := Lib.hid hJx
  have HY := Lib.hid hY
  have HJ0 := Lib.hid hJ0
  have HCK := Lib.hid hck
  have HY1 := Lib.hid hy1
  have HZ1 := Lib.hid hz1
  clear hb1 hd hR hJ hJx hY hJ0 hck hck0 hy1 hz1
  go_enter Tryz.func66, Tryz.ntmps66
  go_wp2_with fail
  refine hc.mono ?_
  rintro e w2 ⟨rfl, hb2⟩
  clear hc hw1
  have HB2 := Lib.hid hb2
  have HB12 := Lib.hid (HB1.out.trans (hb2.mono HB1.out.size))
  obtain ⟨e0, e1, e2, e3, e4, e5⟩ := HD.out.keep (S := fun _ => False) ((Keep.refl _ _).below hb2) (by have := HZ1.out; omega) id
  simp only [Nat.zero_add] at e0 e1 e2 e3 e4 e5
  clear hb2 d0 d1 d2 d3 d4 d5
  go_wp2_with fail
  refine (walkS_any n nY hn (N := N) (l := l) (lb := lb) (yb := w.heap.size) (J := J) (Jx := Jx) (w := w2) (fun k hk => Nat.lt_of_lt_of_le (hlb k hk) HB12.out.size) (fun s A B h hle hb => HJ.out s A B h (Nat.le_trans HB12.out.size hle) (hb.mono HB12.out.size)) (fun s A B h hle hb => HJX.out s A B h (Nat.le_trans HB12.out.size hle) (hb.mono HB12.out.size)) HY.out (F := F) x vm vl vt hW hfi (HR.out.below HB12.out) hF
    ((HB2.out.cell (p := ⟨w.heap.size, 0, none⟩) (by have := HZ1.out; simp only; omega)).trans HY1.out) (fun h => Nat.lt_irrefl _ (hlb _ h)) HCK.out (HJ.out _ _ _ HJ0.out (Nat.le_refl _) HB12.out) hN).mono ?_
  rintro e w3 ⟨⟨v, rfl⟩, h3⟩
  have H3 := Lib.hid h3
  clear h3
  go_wp2
  first | go_end0 | go_ret2 | trace_state
  exact ⟨⟨_, rfl⟩, H3.out⟩
end Go.Proofs.YtlckjphnbfahgaaGreatDoor
