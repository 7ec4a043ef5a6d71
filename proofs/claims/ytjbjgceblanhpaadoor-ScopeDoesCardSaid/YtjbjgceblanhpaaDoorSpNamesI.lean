/-
  scope.Table.Names: its closure goes through what a scope binds, each name in memory of its own.
-/
import Derived.Test.YtjbjgceblanhpaaDoorSpUpG
import Derived.Test.YtjbjgceblanhpaaDoorSpFind
namespace Go.Proofs.YtjbjgceblanhpaaDoor
open Go.RowKit Go.Shelf
attribute [local go_sem] Oper.semAt_some
namespace Sp
open Dt
/-- a scope that is told: its number, the three slices of its name -/
abbrev Ne (t : Tbl) := Sc t × Value × Value × Value
def Ne.d {t : Tbl} (x : Ne t) : D := (t.l[x.1.1]'x.1.2).id
def encN {t : Tbl} (x : Ne t) : Array Value := #[.int .i64 (x.1.1 : Int), .agg #[.int .i64 x.d.k, .int .i64 x.d.n, .string x.d.s, x.2.1, x.2.2.1, x.2.2.2]]
/-- its name lies well -/
def VN (n0 B : Nat) {t : Tbl} (x : Ne t) (W : World) : Prop := Rep (fun k => n0 ≤ k ∧ k ≠ B ∧ rowOf W B ≠ some k) W x.d x.2.1 x.2.2.1 x.2.2.2
/-- what a scope binds -/
def namesOf (t : Tbl) (s : Int) : List Nat := if s < 0 ∨ (t.l.length : Int) ≤ s then [] else ups t.l s.toNat
theorem grown_of {w w' : World} (h : Below w.heap.size w w') : w.grownBy w' none := ⟨h.os, h.tape, h.output, h.size, fun k hk _ => h.block k hk⟩
theorem sym_wf {x : D} (h : isSym x = true) : Wf x := by
  obtain ⟨h1, h2, h3, h4, h5, h6, h7, h8⟩ := sym_parts h
  have hl : x.s.size ≤ 32 := by
    have h9 : x.s.data.toList.length ≤ 32 := by
      unfold Lx.symbol at h7
      simp only [Bool.or_eq_true, Bool.and_eq_true, beq_iff_eq, decide_eq_true_eq] at h7
      rcases h7 with ((h | h) | h) | ⟨⟨⟨_, h⟩, _⟩, _⟩
      · rw [h]; decide
      · rw [h]; decide
      · rw [h]; decide
      · exact h
    rw [← Fx.size_toList]
    exact h9
  cases x
  rw [Wf]
  simp only [D.n, D.l, D.t, D.m, D.s] at h2 h3 h4 h5 hl
  subst h2 h3 h4
  exact ⟨by decide, by omega, by omega, by simp, by simp, by rw [Wfs]; trivial, by rw [Wfs]; trivial⟩
theorem NInv.grown {n0 B By Us Ut s T : Nat} {vy : Value} {w X X' : World} {row : Option Nat} (h : NInv n0 B By Us Ut vy s T w X) (hn : n0 ≤ w.heap.size) (hg : X.grownBy X' row) (hr : ∀ r, row = some r → (w.heap.size ≤ r ∧ B < r) ∧ ∃ o : Obj, X.heap[r]? = some o ∧ o.isCells = false) : NInv n0 B By Us Ut vy s T w X' := by
  have hB := h.hB
  have hbx : ∀ {k : Nat} {t : TypeId} {v : Value}, Boxed X k t v → Boxed X' k t v := fun hb => hb.kept hg (fun e => by
    obtain ⟨-, o, h1, h2⟩ := hr _ e.symm
    rw [show X.heap[_]? = _ from hb] at h1
    cases h1
    cases h2)
  have e := rowOf_of (B := B) (hg.block B hB (fun e => by have := (hr _ e.symm).1.2; omega))
  have hs := hg.size
  refine ⟨⟨hg.os.trans h.bel.os, hg.tape.trans h.bel.tape, hg.output.trans h.bel.output, Nat.le_trans h.bel.size hs, fun k hk => ?_⟩, hbx h.by', hbx h.us, hbx h.ut, h.nB, by rw [e]; exact h.nr, fun k hk => by rw [e] at hk; have := h.lt k hk; omega, by omega⟩
  exact (hg.block k (Nat.lt_of_lt_of_le (Nat.lt_of_lt_of_le hk hn) h.bel.size) (fun e => by have := (hr _ e.symm).1.1; omega)).trans (h.bel.block k hk)
theorem KpB.refl (n0 B : Nat) (W : World) : KpB n0 B W W := ⟨Below.refl _ _, fun _ _ _ _ _ _ _ => rfl, fun _ h => .inl h⟩
theorem id_clone {t : Tbl} (h : t.Ok) {i : Nat} {b : Bd} (hb : t.l[i]? = some b) : Wf b.id ∧ clone b.id = b.id := by
  by_cases hi : i = 0
  · subst hi
    rw [h.z] at hb
    cases hb
    refine ⟨?_, ?_⟩
    · show Wf (.mk _ _ _ _ _ _)
      rw [Wf]
      exact ⟨by decide, by decide, by simp, by simp, by simp, by rw [Wfs]; trivial, by rw [Wfs]; trivial⟩
    · unfold clone
      split
      · rfl
      · rfl
  · have hs := (h.inn i b hb (by omega)).2
    exact ⟨sym_wf hs, by unfold clone; rw [if_pos (sym_parts hs).2.2.2.2.2.2.2]⟩
/-- a scope's name as it lies -/
theorem TI.name {w : World} {base T mb : Nat} {vl : Value} {xs : List B} {t : Tbl} (h : TI w base T vl mb xs t) (y : Nat) (hy : y < t.l.length) : ∃ g c vm vL vt, w.cell? ⟨T, 0, none⟩ = some (.slice (some ⟨g, 0, none⟩) t.l.length c) ∧ Rep (fun _ => True) w (t.l[y]).id vm vL vt ∧
    w.cell? ⟨g, y * 10 + 1, none⟩ = some (.int .i64 (t.l[y]).id.k) ∧ w.cell? ⟨g, y * 10 + 1 + 1, none⟩ = some (.int .i64 (t.l[y]).id.n) ∧ w.cell? ⟨g, y * 10 + 1 + 2, none⟩ = some (.string (t.l[y]).id.s) ∧ w.cell? ⟨g, y * 10 + 1 + 3, none⟩ = some vm ∧ w.cell? ⟨g, y * 10 + 1 + 4, none⟩ = some vL ∧ w.cell? ⟨g, y * 10 + 1 + 5, none⟩ = some vt := by
  obtain ⟨g, c, e1, e2, e3, e4, e5, e6⟩ := h.tab.at
  have hyl : y < xs.length := by rw [h.tab.len]; exact hy
  have hb : xs[y].b = t.l[y] := by
    have h2 : (xs.map B.b)[y]? = some xs[y].b := by rw [List.getElem?_map, List.getElem?_eq_getElem hyl]; rfl
    rw [h.tab.xb, List.getElem?_eq_getElem hy] at h2
    exact (Option.some.inj h2).symm
  have hr := Rep.mono (G := fun _ => True) (fun _ _ _ => trivial) _ (h.ids xs[y] (List.getElem_mem _))
  rw [hb] at hr
  refine ⟨g, c, xs[y].vm, xs[y].vl, xs[y].vt, by rw [h.tab.c0, e1], hr, ?_⟩
  have hc := e6 y hyl
  have c1 := hc 1 (by omega)
  have c2 := hc 2 (by omega)
  have c3 := hc 3 (by omega)
  have c4 := hc 4 (by omega)
  have c5 := hc 5 (by omega)
  have c6 := hc 6 (by omega)
  simp only [B.cells, hb, List.getElem?_cons_succ, List.getElem?_cons_zero] at c1 c2 c3 c4 c5 c6
  exact ⟨c1, c2, c3, c4, c5, c6⟩
theorem drew_below (X : World) : Below X.heap.size X X.drew := bdrew (Below.refl _ _) 1
end Sp
set_option maxRecDepth 100000 in
set_option maxHeartbeats 8000000 in
theorem names1_in (nf : Nat) (hnf : 6 ≤ nf) (l Bs Bt n0 B n1 : Nat) (w W : World) {base T mb : Nat} {vl : Value} {xs : List Sp.B} {t : Sp.Tbl} (hTI : Sp.TI w base T vl mb xs t) (hn0 : n0 = w.heap.size) (s : Int)
    (hBs : w.cell? ⟨Bs, 0, none⟩ = some (.int .i64 s)) (hBt : w.cell? ⟨Bt, 0, none⟩ = some (.pointer (some ⟨T, 0, none⟩))) (hW : Below n0 w W) (hB0 : Sp.rowOf W B = none) (hBl : B < W.heap.size) (hnB : n0 ≤ B) (hn1 : n1 ≤ W.heap.size)
    (J Jx : List (Sp.Ne t) → World → Prop) (hJ : OwnFrom W.heap.size J) (hJx : OwnFrom W.heap.size Jx)
    (hY : ∀ pre x W1, J pre W1 → Sp.VN n0 B x W1 → pre.length < t.l.length → YieldAt Fence.wide (nf - 1) Tryd.prog l (Sp.encN x) W1 fun e W' =>
      (e = .returned (.bool true) ∧ J (pre ++ [x]) W' ∧ Sp.KpO n0 B n1 W1 W') ∨ (e = .returned (.bool false) ∧ Jx (pre ++ [x]) W' ∧ Sp.KpO n0 B n1 W1 W'))
    (h0 : J [] W) :
    CallsIn Fence.wide nf Tryd.prog 33 #[.func (.yield l) #[] #[], .pointer (some ⟨Bt, 0, none⟩), .pointer (some ⟨Bs, 0, none⟩)] W fun e W' => (∃ v, e = .returned v) ∧
      ((∃ ys : List (Sp.Ne t), ys.map (fun x => x.1.1) = Sp.namesOf t s ∧ J ys W') ∨ (∃ pre : List (Sp.Ne t), pre.map (fun x => x.1.1) <+: Sp.namesOf t s ∧ Jx pre W')) := by
  subst hn0
  have hnf1 : 1 ≤ nf := by omega
  refine callsIn_of_wp_marks Tryd.func33 rfl trivial ?_ rfl
  simp only [Tryd.ntmps33, List.size_toArray, List.length_cons, List.length_nil, Nat.reduceAdd, Nat.reduceSub, Array.replicate_succ, Array.replicate_zero, List.push_toArray, List.append_toArray, List.nil_append, List.cons_append]
  obtain ⟨vy, hvy⟩ : ∃ vy : Value, vy = .func (.yield l) #[] #[] := ⟨_, rfl⟩
  obtain ⟨W1, hW1⟩ : ∃ W1, W.alloc (.cells #[vy] 75) = W1 := ⟨_, rfl⟩
  have hb1 : Below W.heap.size W W1 := by rw [← hW1]; exact (Below.refl _ _).alloc (Nat.le_refl _) _
  have hs1 : W1.heap.size = W.heap.size + 1 := by rw [← hW1]; simp
  have hy1 : Boxed W1 W.heap.size 75 vy := by rw [← hW1]; exact Boxed.new W _ _
  have hbw : Below w.heap.size w W1 := hW.trans (hb1.mono hW.size)
  have bt1 := (hbw.cell (p := ⟨Bt, 0, none⟩) (block_lt_of_cell hBt)).trans hBt
  have bs1 := (hbw.cell (p := ⟨Bs, 0, none⟩) (block_lt_of_cell hBs)).trans hBs
  have hmay := spMay_any s W1 (hTI.tab.below hbw)
  have hJ1 : J [] W1 := hJ _ _ _ none h0 (Sp.grown_of hb1) (by simp)
  rw [hvy] at hW1
  by_cases hs : s < 0 ∨ (t.l.length : Int) ≤ s
  · have HE : Hid (Sp.mayE t s = 50) := by show _ = _; unfold Sp.mayE; rw [if_pos hs]
    have HV : Hid (Sp.namesOf t s = []) := by show _ = _; unfold Sp.namesOf; rw [if_pos hs]
    rw [HE.out] at hmay
    clear hs hTI hBs hBt hY hy1 hvy hs1 hbw hb1
    gi_wp2_with (refine ⟨trivial, ?_⟩; gi_at_call 26; refine (callsIn_wide.2 hmay).mono ?_; clear hmay; rintro e w5 ⟨rfl, rfl⟩)
    refine Sp.leaves_marks (b := 0) [] _ ⟨List.nodup_nil, fun r h => by cases h⟩ (fun w' hk => ?_)
    refine ⟨_, results_none rfl _ _ _, ⟨_, rfl⟩, .inl ⟨[], by rw [HV.out]; rfl, ?_⟩⟩
    exact hJ _ _ _ none hJ1 ⟨hk.os, hk.tape, hk.output, hk.size, fun k h _ => hk.block k h (fun h => by cases h)⟩ (by simp)
  · have HE : Hid (Sp.mayE t s = 0) := by show _ = _; unfold Sp.mayE; rw [if_neg hs]
    rw [HE.out] at hmay
    obtain ⟨q, rfl⟩ : ∃ q : Nat, s = (q : Int) := ⟨s.toNat, by omega⟩
    have hq : q < t.l.length := by omega
    have HV : Hid (Sp.namesOf t q = Sp.ups t.l q) := by show _ = _; unfold Sp.namesOf; rw [if_neg hs]; rfl
    clear hs
    gi_wp2_with (first | (refine ⟨trivial, ?_⟩; gi_at_call 26; refine (callsIn_wide.2 hmay).mono ?_; clear hmay; rintro e w5 ⟨rfl, rfl⟩) | (refine ⟨trivial, ?_⟩; gi_at_call 29; refine (callsIn_wide.2 (spUp_any _ _ _)).mono ?_; rintro e w9 ⟨rfl, rfl⟩))
    obtain ⟨W2, hW2⟩ : ∃ W2, (W1.alloc (.cells #[.pointer (some ⟨T, 0, none⟩)] 32)).alloc (.cells #[.int .i64 (q : Int)] 3) = W2 := ⟨_, rfl⟩
    rw [hW2]
    have hb2 : Below W1.heap.size W1 W2 := by rw [← hW2]; exact ((Below.refl _ _).alloc (Nat.le_refl _) _).alloc (by simp) _
    have hs2 : W2.heap.size = W1.heap.size + 2 := by rw [← hW2]; simp
    have hbw2 : Below w.heap.size w W2 := hbw.trans (hb2.mono hbw.size)
    have hbW2 : Below W.heap.size W W2 := hb1.trans (hb2.mono hb1.size)
    have e0 : Sp.rowOf W2 B = none := by rw [Sp.rowOf_of (hbW2.block B hBl)]; exact hB0
    have hN2 : Sp.NInv w.heap.size B W.heap.size (W.heap.size + 1 + 1) (W.heap.size + 1) vy q T w W2 := by
      refine ⟨hbw2, Sp.boxed_below hy1 hb2, ?_, ?_, ⟨by omega, by omega, by omega⟩, by rw [e0]; simp, fun k hk => (by rw [e0] at hk; cases hk), by omega⟩
      · rw [← hW2]
        have := Boxed.new (W1.alloc (.cells #[.pointer (some ⟨T, 0, none⟩)] 32)) 3 (.int .i64 (q : Int))
        rw [World.size_alloc, hs1] at this
        exact this
      · rw [← hW2]
        have := Boxed.new W1 32 (.pointer (some ⟨T, 0, none⟩))
        rw [hs1] at this
        exact this.alloc _
    have hJ2 : J [] W2 := hJ _ _ _ none h0 (Sp.grown_of hbW2) (by simp)
    have hUp : ∀ X, Sp.NInv w.heap.size B W.heap.size (W.heap.size + 1 + 1) (W.heap.size + 1) vy q T w X → Sp.UpAt X (W.heap.size + 1 + 1) (W.heap.size + 1) T q t := fun X h => ⟨h.us.cell, h.ut.cell, (hTI.tab.below h.bel).up⟩
    clear hW2 hW1 hy1 bt1 bs1
    refine wpIn_rangeFunc_ownG_of_H (n := nf) rfl (by omega) (gf := 44) (lb := #[.pointer (some ⟨W.heap.size + 1 + 1, 0, none⟩), .pointer (some ⟨W.heap.size + 1, 0, none⟩)]) rfl trivial (enters_of Tryd.func44 (by kernel_rfl) rfl)
      (spUp_gen (nf - 1) (by omega) (W.heap.size + 1 + 1) (W.heap.size + 1) T W2 hTI.tab.ok q hq (Sp.KpB w.heap.size B) (Sp.NInv w.heap.size B W.heap.size (W.heap.size + 1 + 1) (W.heap.size + 1) vy q T w) hN2 (fun X X' h hb => h.below (Nat.le_refl _) hb) (fun X X' h hk => h.kp hk) hUp)
      (fun h k => h.trans k) (fun X l o o' hl h ho _ => Sp.KpB.putObj X l o o' (by omega) (by omega) h ho) (Below.refl _ _) (fun _ => rfl)
      (fun pre X => ∃ r : List (Sp.Ne t), r.map Prod.fst = pre ∧ J r X ∧ Sp.NInv w.heap.size B W.heap.size (W.heap.size + 1 + 1) (W.heap.size + 1) vy q T w X)
      (fun c pre X => c = .ret ∧ ∃ r : List (Sp.Ne t), r.map Prod.fst = pre ∧ Jx r X)
      (fun pre X X' row ⟨r, h1, h2, h3⟩ hg hr => ⟨r, h1, hJ _ _ _ row h2 hg (fun k e => ⟨by have := (hr k e).1; omega, (hr k e).2⟩), h3.grown (Nat.le_refl _) hg (fun k e => ⟨⟨by have := (hr k e).1; omega, by have := (hr k e).1; omega⟩, (hr k e).2⟩)⟩)
      (fun c pre X X' row ⟨h1, r, h2, h3⟩ hg hr => ⟨h1, r, h2, hJx _ _ _ row h3 hg (fun k e => ⟨by have := (hr k e).1; omega, (hr k e).2⟩)⟩)
      ⟨[], rfl, hJ2, hN2⟩
      (fun y => { tmps := #[.func (.yield l) #[] #[], .pointer (some ⟨Bt, 0, none⟩), .pointer (some ⟨Bs, 0, none⟩), .pointer (some ⟨W.heap.size, 0, none⟩), .int .i64 (y.1 : Int), .pointer (some ⟨T, 0, none⟩), .int .i64 (q : Int), .int .i64 0, .bool false, .pointer (some ⟨T, 0, none⟩), .int .i64 (q : Int), .func (.func 44) #[] #[.pointer (some ⟨W.heap.size + 1 + 1, 0, none⟩), .pointer (some ⟨W.heap.size + 1, 0, none⟩)], .int .i64 (y.1 : Int), undef, undef, undef, undef, undef, undef, undef, undef, undef, undef, undef, undef, undef], defers := [] })
      ?assign ?body ?done ?stop (fun X => Sp.KpB.refl _ _ X)
    case assign =>
      intro l' y X K hK
      gi_wp2
      exact hK
    case body =>
      rintro l' pre ⟨yi, hyi⟩ X ⟨r, hr, hJr, hN⟩ hlt
      have y0 := hN.by'.cell
      rw [hvy] at y0
      have b1 := (hN.bel.cell (p := ⟨Bt, 0, none⟩) (block_lt_of_cell hBt)).trans hBt
      obtain ⟨g, c, vm, vL, vt, tc0, hRep, k1, k2, k3, k4, k5, k6⟩ := (hTI.below hN.bel).name yi hyi
      obtain ⟨hwf, hcl⟩ := Sp.id_clone hTI.tab.ok (List.getElem?_eq_getElem hyi)
      have HCL := Lib.hid (fun X' (hX : Below X.heap.size X X') => (show Calls Tryd.prog 30 #[.agg #[.int .i64 (t.l[yi]).id.k, .int .i64 (t.l[yi]).id.n, .string (t.l[yi]).id.s, vm, vL, vt]] X' fun e w' => Dt.Fresh X'.heap.size w' (t.l[yi]).id e ∧ Below X'.heap.size X' w' from by
        have := dClone_any _ vm vL vt X' hwf (hRep.below hX)
        rw [hcl] at this
        exact this))
      have HY := Lib.hid (fun a b c W5 (h5 : Below X.heap.size X W5) (hr5 : Dt.Rep (fun k => X.heap.size ≤ k) W5 (t.l[yi]).id a b c) => (show ∃ fn tmps assign body, (Instr.yield l #[.int .i64 (yi : Int), .agg #[.int .i64 (t.l[yi]).id.k, .int .i64 (t.l[yi]).id.n, .string (t.l[yi]).id.s, a, b, c]]).run Tryd.prog W5 = .ok (.round l fn tmps assign body) W5 ∧ RoundIn Fence.wide (nf - 1) Tryd.prog l fn tmps assign body W5 (fun e W' => ∃ b6 : Bool, e = .returned (.bool b6) ∧ (b6 = true → J (r ++ [(⟨yi, hyi⟩, a, b, c)]) W') ∧ (b6 = false → Jx (r ++ [(⟨yi, hyi⟩, a, b, c)]) W') ∧ Sp.KpO w.heap.size B n1 W5 W') from by
        refine (YieldAt.mono (hY r (⟨yi, hyi⟩, a, b, c) W5 (hJ _ _ _ none hJr (Sp.grown_of h5) (by simp)) ?_ (by have := congrArg List.length hr; rw [List.length_map] at this; omega)) (fun e W' h => by
          rcases h with ⟨h1, h2, h3⟩ | ⟨h1, h2, h3⟩
          · exact ⟨true, h1, fun _ => h2, fun h => (by cases h), h3⟩
          · exact ⟨false, h1, fun h => (by cases h), fun _ => h2, h3⟩))
        have hw := hN.bel.size
        have hBX := hN.hB
        refine Dt.Rep.mono (fun k hk _ => ⟨by omega, by omega, fun e => ?_⟩) _ hr5
        rw [Sp.rowOf_of (h5.block B hBX)] at e
        have := hN.lt k e
        omega))
      obtain ⟨d, hd⟩ : ∃ d, d = (t.l[yi]).id := ⟨_, rfl⟩
      rw [← hd] at k1 k2 k3 HCL HY
      have HFIN := Lib.hid (fun W5 W6 (h5 : Below X.heap.size X W5) (h6 : Sp.KpO w.heap.size B n1 W5 W6) => (show KeepsFrom (W.heap.size + 1 + 2) X W6 ∧ Sp.KpB w.heap.size B X W6 ∧ Sp.NInv w.heap.size B W.heap.size (W.heap.size + 1 + 1) (W.heap.size + 1) vy q T w W6 from
        ⟨⟨Nat.le_trans h5.size h6.kp.below.size, fun k o hk h1 h2 => h6.others k o (by omega) ((h5.block k (Array.getElem?_eq_some_iff.1 h1).1).trans h1) h2⟩, (Sp.KpB.of_below h5 hN.bel.size hN.hB).trans h6.kp, (hN.below (Nat.le_refl _) h5).kp h6.kp⟩))
      have HN := Lib.hid hN
      have HJR := Lib.hid hJr
      have HR := Lib.hid hr
      have hyl : (yi : Int) < (t.l.length : Int) := by omega
      have hy0 : (0 : Int) ≤ (yi : Int) := by omega
      clear hd hN hJr hr hRep hwf hcl hTI hY hUp hN2 hJ2 hvy hBt hBs h0 hJ1
      dsimp only
      have hmx : Tryd.prog.follows .mixedOrders = true := by kernel_rfl
      have hnf2 : 1 ≤ nf - 1 - 1 := by omega
      gi_wp2
      refine Rv.region_round rfl (by kernel_rfl) hmx ?_
      --REG
      refine wpAnyIn_take (i := 1) (v := ?_) rfl rfl (by kernel_rfl) (by kernel_rfl) (by kernel_rfl) (fun _ _ _ h => h) ⟨Or.inl ⟨by rfl, ?_⟩, fun _ => rfl⟩ ?_
      rotate_left
      · intro w9
        go_simp
        try with_reducible rfl
      simp only [Act.put, List.setIfInBounds_toArray, List.set_cons_zero, List.set_cons_succ]
      refine wpAnyIn_take (i := 6) (v := ?_) rfl rfl (by kernel_rfl) (by kernel_rfl) (by kernel_rfl) (fun _ _ _ h => h) ⟨Or.inl ⟨by rfl, ?_⟩, fun _ => rfl⟩ ?_
      rotate_left
      · intro w9
        go_simp
        try with_reducible rfl
      simp only [Act.put, List.setIfInBounds_toArray, List.set_cons_zero, List.set_cons_succ]
      refine wpAnyIn_ready (rs := [0, 2]) (by kernel_rfl) (by simp) ?_
      refine AllReadyIn.cons rfl (fun K hK => ?_) ?_
      · go_simp
        first | (refine hK _ _ ?_; clear hK K) | skip
        try simp only [Act.put, List.setIfInBounds_toArray, List.set_cons_zero, List.set_cons_succ]
        refine wpAnyIn_ready (rs := [2]) (by kernel_rfl) (by simp) ?_
        refine AllReadyIn.cons rfl (fun K hK => ?_) AllReadyIn.nil
        go_simp
        first | (refine hK _ _ ?_; clear hK K) | skip
        try simp only [Act.put, List.setIfInBounds_toArray, List.set_cons_zero, List.set_cons_succ]
        refine wpAnyIn_take (i := 3) (v := ?_) rfl rfl (by kernel_rfl) (by kernel_rfl) (by kernel_rfl) (fun _ _ _ h => h) ⟨Or.inl ⟨by rfl, ?_⟩, fun _ => rfl⟩ ?_
        rotate_left
        · intro w9
          go_simp
          try with_reducible rfl
        simp only [Act.put, List.setIfInBounds_toArray, List.set_cons_zero, List.set_cons_succ]
        refine wpAnyIn_take (i := 4) (v := ?_) rfl rfl (by kernel_rfl) (by kernel_rfl) (by kernel_rfl) (fun _ _ _ h => h) ⟨Or.inl ⟨by rfl, ?_⟩, fun _ => rfl⟩ ?_
        rotate_left
        · intro w9
          go_simp
          try with_reducible rfl
        simp only [Act.put, List.setIfInBounds_toArray, List.set_cons_zero, List.set_cons_succ]
        refine wpAnyIn_ready (rs := [5]) (by kernel_rfl) (by simp) ?_
        refine AllReadyIn.cons rfl (fun K hK => ?_) AllReadyIn.nil
        go_simp
        first | (refine hK _ _ ?_; clear hK K) | skip
        try simp only [Act.put, List.setIfInBounds_toArray, List.set_cons_zero, List.set_cons_succ]
        refine wpAnyIn_take (i := 7) (v := ?_) rfl rfl (by kernel_rfl) (by kernel_rfl) (by kernel_rfl) (fun _ _ _ h => h) ⟨Or.inl ⟨by rfl, ?_⟩, fun _ => rfl⟩ ?_
        rotate_left
        · intro w9
          go_simp
          try with_reducible rfl
        simp only [Act.put, List.setIfInBounds_toArray, List.set_cons_zero, List.set_cons_succ]
        refine wpAnyIn_take (i := 8) (v := ?_) rfl rfl (by kernel_rfl) (by kernel_rfl) (by kernel_rfl) (fun _ _ _ h => h) ⟨Or.inl ⟨by rfl, ?_⟩, fun _ => rfl⟩ ?_
        rotate_left
        · intro w9
          go_simp
          try with_reducible rfl
        simp only [Act.put, List.setIfInBounds_toArray, List.set_cons_zero, List.set_cons_succ]
        refine wpAnyIn_ready (rs := [9]) (by kernel_rfl) (by simp) ?_
        refine AllReadyIn.cons rfl (fun K hK => ?_) AllReadyIn.nil
        go_simp
        first | (refine hK _ _ ?_; clear hK K) | skip
        try simp only [Act.put, List.setIfInBounds_toArray, List.set_cons_zero, List.set_cons_succ]
        refine wpAnyIn_ready (rs := [10]) (by kernel_rfl) (by simp) ?_
        refine AllReadyIn.cons rfl (fun K hK => ?_) AllReadyIn.nil
        go_simp
        refine ⟨trivial, ?_⟩
        gi_at_call 30
        refine (callsIn_wide.2 (HCL.out _ (Sp.drew_below X))).mono ?_
        rintro e W5 ⟨⟨vm5, vl5, vt5, rfl, hr5⟩, hb5⟩
        have hb5x : Below X.heap.size X W5 := (Sp.drew_below X).trans hb5
        have y5 := (hb5x.cell (p := ⟨W.heap.size, 0, none⟩) (block_lt_of_cell y0)).trans y0
        obtain ⟨fn, tmps, assign, body, hy, hRd⟩ := HY.out vm5 vl5 vt5 W5 hb5x hr5
        have HB5 := Lib.hid hb5x
        clear hb5x hb5 hr5
        dsimp only
        first | (refine hK _ _ ?_; clear hK K) | skip
        try simp only [Act.put, List.setIfInBounds_toArray, List.set_cons_zero, List.set_cons_succ]
        refine wpAnyIn_ready (rs := [11]) (by kernel_rfl) (by simp) ?_
        refine AllReadyIn.cons rfl (fun K hK => ?_) AllReadyIn.nil
        go_simp
        refine (Rv.round_wide hRd).mono ?_
        rintro e W6 ⟨b6, rfl, hj6, hx6, hk6⟩
        have HJ6 := Lib.hid hj6
        have HX6 := Lib.hid hx6
        have HK6 := Lib.hid hk6
        clear hj6 hx6 hk6 hRd hy
        dsimp only
        first | (refine hK _ _ ?_; clear hK K) | skip
        try simp only [Act.put, List.setIfInBounds_toArray, List.set_cons_zero, List.set_cons_succ]
        refine wpAnyIn_take (i := 12) (v := ?_) rfl rfl (by kernel_rfl) (by kernel_rfl) (by kernel_rfl) (fun _ _ _ h => h) ⟨Or.inl ⟨by rfl, ?_⟩, fun _ => rfl⟩ ?_
        rotate_left
        · intro w9
          go_simp
          try with_reducible rfl
        simp only [Act.put, List.setIfInBounds_toArray, List.set_cons_zero, List.set_cons_succ]
        refine wpAnyIn_done (by kernel_rfl) ?_ _
        obtain ⟨f1, f2, f3⟩ := HFIN.out W5 W6 HB5.out HK6.out
        cases b6 with
        | true =>
          gi_wp2
          exact ⟨f1, f2, r ++ [(⟨yi, hyi⟩, vm5, vl5, vt5)], by rw [List.map_append, HR.out]; rfl, HJ6.out (by trivial), f3⟩
        | false =>
          gi_wp2
          exact ⟨f1, rfl, r ++ [(⟨yi, hyi⟩, vm5, vl5, vt5)], by rw [List.map_append, HR.out]; rfl, HX6.out (by trivial)⟩
      refine AllReadyIn.cons rfl (fun K hK => ?_) AllReadyIn.nil
      go_simp
      first | (refine hK _ _ ?_; clear hK K) | skip
      try simp only [Act.put, List.setIfInBounds_toArray, List.set_cons_zero, List.set_cons_succ]
      refine wpAnyIn_take (i := 3) (v := ?_) rfl rfl (by kernel_rfl) (by kernel_rfl) (by kernel_rfl) (fun _ _ _ h => h) ⟨Or.inl ⟨by rfl, ?_⟩, fun _ => rfl⟩ ?_
      rotate_left
      · intro w9
        go_simp
        try with_reducible rfl
      simp only [Act.put, List.setIfInBounds_toArray, List.set_cons_zero, List.set_cons_succ]
      refine wpAnyIn_take (i := 4) (v := ?_) rfl rfl (by kernel_rfl) (by kernel_rfl) (by kernel_rfl) (fun _ _ _ h => h) ⟨Or.inl ⟨by rfl, ?_⟩, fun _ => rfl⟩ ?_
      rotate_left
      · intro w9
        go_simp
        try with_reducible rfl
      simp only [Act.put, List.setIfInBounds_toArray, List.set_cons_zero, List.set_cons_succ]
      refine wpAnyIn_ready (rs := [0, 5]) (by kernel_rfl) (by simp) ?_
      refine AllReadyIn.cons rfl (fun K hK => ?_) ?_
      · go_simp
        first | (refine hK _ _ ?_; clear hK K) | skip
        try simp only [Act.put, List.setIfInBounds_toArray, List.set_cons_zero, List.set_cons_succ]
        refine wpAnyIn_ready (rs := [5]) (by kernel_rfl) (by simp) ?_
        refine AllReadyIn.cons rfl (fun K hK => ?_) AllReadyIn.nil
        go_simp
        first | (refine hK _ _ ?_; clear hK K) | skip
        try simp only [Act.put, List.setIfInBounds_toArray, List.set_cons_zero, List.set_cons_succ]
        refine wpAnyIn_take (i := 7) (v := ?_) rfl rfl (by kernel_rfl) (by kernel_rfl) (by kernel_rfl) (fun _ _ _ h => h) ⟨Or.inl ⟨by rfl, ?_⟩, fun _ => rfl⟩ ?_
        rotate_left
        · intro w9
          go_simp
          try with_reducible rfl
        simp only [Act.put, List.setIfInBounds_toArray, List.set_cons_zero, List.set_cons_succ]
        refine wpAnyIn_take (i := 8) (v := ?_) rfl rfl (by kernel_rfl) (by kernel_rfl) (by kernel_rfl) (fun _ _ _ h => h) ⟨Or.inl ⟨by rfl, ?_⟩, fun _ => rfl⟩ ?_
        rotate_left
        · intro w9
          go_simp
          try with_reducible rfl
        simp only [Act.put, List.setIfInBounds_toArray, List.set_cons_zero, List.set_cons_succ]
        refine wpAnyIn_ready (rs := [9]) (by kernel_rfl) (by simp) ?_
        refine AllReadyIn.cons rfl (fun K hK => ?_) AllReadyIn.nil
        go_simp
        first | (refine hK _ _ ?_; clear hK K) | skip
        try simp only [Act.put, List.setIfInBounds_toArray, List.set_cons_zero, List.set_cons_succ]
        refine wpAnyIn_ready (rs := [10]) (by kernel_rfl) (by simp) ?_
        refine AllReadyIn.cons rfl (fun K hK => ?_) AllReadyIn.nil
        go_simp
        refine ⟨trivial, ?_⟩
        gi_at_call 30
        refine (callsIn_wide.2 (HCL.out _ (Sp.drew_below X))).mono ?_
        rintro e W5 ⟨⟨vm5, vl5, vt5, rfl, hr5⟩, hb5⟩
        have hb5x : Below X.heap.size X W5 := (Sp.drew_below X).trans hb5
        have y5 := (hb5x.cell (p := ⟨W.heap.size, 0, none⟩) (block_lt_of_cell y0)).trans y0
        obtain ⟨fn, tmps, assign, body, hy, hRd⟩ := HY.out vm5 vl5 vt5 W5 hb5x hr5
        have HB5 := Lib.hid hb5x
        clear hb5x hb5 hr5
        dsimp only
        first | (refine hK _ _ ?_; clear hK K) | skip
        try simp only [Act.put, List.setIfInBounds_toArray, List.set_cons_zero, List.set_cons_succ]
        refine wpAnyIn_ready (rs := [11]) (by kernel_rfl) (by simp) ?_
        refine AllReadyIn.cons rfl (fun K hK => ?_) AllReadyIn.nil
        go_simp
        refine (Rv.round_wide hRd).mono ?_
        rintro e W6 ⟨b6, rfl, hj6, hx6, hk6⟩
        have HJ6 := Lib.hid hj6
        have HX6 := Lib.hid hx6
        have HK6 := Lib.hid hk6
        clear hj6 hx6 hk6 hRd hy
        dsimp only
        first | (refine hK _ _ ?_; clear hK K) | skip
        try simp only [Act.put, List.setIfInBounds_toArray, List.set_cons_zero, List.set_cons_succ]
        refine wpAnyIn_take (i := 12) (v := ?_) rfl rfl (by kernel_rfl) (by kernel_rfl) (by kernel_rfl) (fun _ _ _ h => h) ⟨Or.inl ⟨by rfl, ?_⟩, fun _ => rfl⟩ ?_
        rotate_left
        · intro w9
          go_simp
          try with_reducible rfl
        simp only [Act.put, List.setIfInBounds_toArray, List.set_cons_zero, List.set_cons_succ]
        refine wpAnyIn_done (by kernel_rfl) ?_ _
        obtain ⟨f1, f2, f3⟩ := HFIN.out W5 W6 HB5.out HK6.out
        cases b6 with
        | true =>
          gi_wp2
          exact ⟨f1, f2, r ++ [(⟨yi, hyi⟩, vm5, vl5, vt5)], by rw [List.map_append, HR.out]; rfl, HJ6.out (by trivial), f3⟩
        | false =>
          gi_wp2
          exact ⟨f1, rfl, r ++ [(⟨yi, hyi⟩, vm5, vl5, vt5)], by rw [List.map_append, HR.out]; rfl, HX6.out (by trivial)⟩
      refine AllReadyIn.cons rfl (fun K hK => ?_) AllReadyIn.nil
      go_simp
      first | (refine hK _ _ ?_; clear hK K) | skip
      try simp only [Act.put, List.setIfInBounds_toArray, List.set_cons_zero, List.set_cons_succ]
      refine wpAnyIn_take (i := 7) (v := ?_) rfl rfl (by kernel_rfl) (by kernel_rfl) (by kernel_rfl) (fun _ _ _ h => h) ⟨Or.inl ⟨by rfl, ?_⟩, fun _ => rfl⟩ ?_
      rotate_left
      · intro w9
        go_simp
        try with_reducible rfl
      simp only [Act.put, List.setIfInBounds_toArray, List.set_cons_zero, List.set_cons_succ]
      refine wpAnyIn_take (i := 8) (v := ?_) rfl rfl (by kernel_rfl) (by kernel_rfl) (by kernel_rfl) (fun _ _ _ h => h) ⟨Or.inl ⟨by rfl, ?_⟩, fun _ => rfl⟩ ?_
      rotate_left
      · intro w9
        go_simp
        try with_reducible rfl
      simp only [Act.put, List.setIfInBounds_toArray, List.set_cons_zero, List.set_cons_succ]
      refine wpAnyIn_ready (rs := [0, 9]) (by kernel_rfl) (by simp) ?_
      refine AllReadyIn.cons rfl (fun K hK => ?_) ?_
      · go_simp
        first | (refine hK _ _ ?_; clear hK K) | skip
        try simp only [Act.put, List.setIfInBounds_toArray, List.set_cons_zero, List.set_cons_succ]
        refine wpAnyIn_ready (rs := [9]) (by kernel_rfl) (by simp) ?_
        refine AllReadyIn.cons rfl (fun K hK => ?_) AllReadyIn.nil
        go_simp
        first | (refine hK _ _ ?_; clear hK K) | skip
        try simp only [Act.put, List.setIfInBounds_toArray, List.set_cons_zero, List.set_cons_succ]
        refine wpAnyIn_ready (rs := [10]) (by kernel_rfl) (by simp) ?_
        refine AllReadyIn.cons rfl (fun K hK => ?_) AllReadyIn.nil
        go_simp
        refine ⟨trivial, ?_⟩
        gi_at_call 30
        refine (callsIn_wide.2 (HCL.out _ (Sp.drew_below X))).mono ?_
        rintro e W5 ⟨⟨vm5, vl5, vt5, rfl, hr5⟩, hb5⟩
        have hb5x : Below X.heap.size X W5 := (Sp.drew_below X).trans hb5
        have y5 := (hb5x.cell (p := ⟨W.heap.size, 0, none⟩) (block_lt_of_cell y0)).trans y0
        obtain ⟨fn, tmps, assign, body, hy, hRd⟩ := HY.out vm5 vl5 vt5 W5 hb5x hr5
        have HB5 := Lib.hid hb5x
        clear hb5x hb5 hr5
        dsimp only
        first | (refine hK _ _ ?_; clear hK K) | skip
        try simp only [Act.put, List.setIfInBounds_toArray, List.set_cons_zero, List.set_cons_succ]
        refine wpAnyIn_ready (rs := [11]) (by kernel_rfl) (by simp) ?_
        refine AllReadyIn.cons rfl (fun K hK => ?_) AllReadyIn.nil
        go_simp
        refine (Rv.round_wide hRd).mono ?_
        rintro e W6 ⟨b6, rfl, hj6, hx6, hk6⟩
        have HJ6 := Lib.hid hj6
        have HX6 := Lib.hid hx6
        have HK6 := Lib.hid hk6
        clear hj6 hx6 hk6 hRd hy
        dsimp only
        first | (refine hK _ _ ?_; clear hK K) | skip
        try simp only [Act.put, List.setIfInBounds_toArray, List.set_cons_zero, List.set_cons_succ]
        refine wpAnyIn_take (i := 12) (v := ?_) rfl rfl (by kernel_rfl) (by kernel_rfl) (by kernel_rfl) (fun _ _ _ h => h) ⟨Or.inl ⟨by rfl, ?_⟩, fun _ => rfl⟩ ?_
        rotate_left
        · intro w9
          go_simp
          try with_reducible rfl
        simp only [Act.put, List.setIfInBounds_toArray, List.set_cons_zero, List.set_cons_succ]
        refine wpAnyIn_done (by kernel_rfl) ?_ _
        obtain ⟨f1, f2, f3⟩ := HFIN.out W5 W6 HB5.out HK6.out
        cases b6 with
        | true =>
          gi_wp2
          exact ⟨f1, f2, r ++ [(⟨yi, hyi⟩, vm5, vl5, vt5)], by rw [List.map_append, HR.out]; rfl, HJ6.out (by trivial), f3⟩
        | false =>
          gi_wp2
          exact ⟨f1, rfl, r ++ [(⟨yi, hyi⟩, vm5, vl5, vt5)], by rw [List.map_append, HR.out]; rfl, HX6.out (by trivial)⟩
      refine AllReadyIn.cons rfl (fun K hK => ?_) AllReadyIn.nil
      go_simp
      first | (refine hK _ _ ?_; clear hK K) | skip
      try simp only [Act.put, List.setIfInBounds_toArray, List.set_cons_zero, List.set_cons_succ]
      refine wpAnyIn_ready (rs := [0, 10]) (by kernel_rfl) (by simp) ?_
      refine AllReadyIn.cons rfl (fun K hK => ?_) ?_
      · go_simp
        first | (refine hK _ _ ?_; clear hK K) | skip
        try simp only [Act.put, List.setIfInBounds_toArray, List.set_cons_zero, List.set_cons_succ]
        refine wpAnyIn_ready (rs := [10]) (by kernel_rfl) (by simp) ?_
        refine AllReadyIn.cons rfl (fun K hK => ?_) AllReadyIn.nil
        go_simp
        refine ⟨trivial, ?_⟩
        gi_at_call 30
        refine (callsIn_wide.2 (HCL.out _ (Sp.drew_below X))).mono ?_
        rintro e W5 ⟨⟨vm5, vl5, vt5, rfl, hr5⟩, hb5⟩
        have hb5x : Below X.heap.size X W5 := (Sp.drew_below X).trans hb5
        have y5 := (hb5x.cell (p := ⟨W.heap.size, 0, none⟩) (block_lt_of_cell y0)).trans y0
        obtain ⟨fn, tmps, assign, body, hy, hRd⟩ := HY.out vm5 vl5 vt5 W5 hb5x hr5
        have HB5 := Lib.hid hb5x
        clear hb5x hb5 hr5
        dsimp only
        first | (refine hK _ _ ?_; clear hK K) | skip
        try simp only [Act.put, List.setIfInBounds_toArray, List.set_cons_zero, List.set_cons_succ]
        refine wpAnyIn_ready (rs := [11]) (by kernel_rfl) (by simp) ?_
        refine AllReadyIn.cons rfl (fun K hK => ?_) AllReadyIn.nil
        go_simp
        refine (Rv.round_wide hRd).mono ?_
        rintro e W6 ⟨b6, rfl, hj6, hx6, hk6⟩
        have HJ6 := Lib.hid hj6
        have HX6 := Lib.hid hx6
        have HK6 := Lib.hid hk6
        clear hj6 hx6 hk6 hRd hy
        dsimp only
        first | (refine hK _ _ ?_; clear hK K) | skip
        try simp only [Act.put, List.setIfInBounds_toArray, List.set_cons_zero, List.set_cons_succ]
        refine wpAnyIn_take (i := 12) (v := ?_) rfl rfl (by kernel_rfl) (by kernel_rfl) (by kernel_rfl) (fun _ _ _ h => h) ⟨Or.inl ⟨by rfl, ?_⟩, fun _ => rfl⟩ ?_
        rotate_left
        · intro w9
          go_simp
          try with_reducible rfl
        simp only [Act.put, List.setIfInBounds_toArray, List.set_cons_zero, List.set_cons_succ]
        refine wpAnyIn_done (by kernel_rfl) ?_ _
        obtain ⟨f1, f2, f3⟩ := HFIN.out W5 W6 HB5.out HK6.out
        cases b6 with
        | true =>
          gi_wp2
          exact ⟨f1, f2, r ++ [(⟨yi, hyi⟩, vm5, vl5, vt5)], by rw [List.map_append, HR.out]; rfl, HJ6.out (by trivial), f3⟩
        | false =>
          gi_wp2
          exact ⟨f1, rfl, r ++ [(⟨yi, hyi⟩, vm5, vl5, vt5)], by rw [List.map_append, HR.out]; rfl, HX6.out (by trivial)⟩
      refine AllReadyIn.cons rfl (fun K hK => ?_) AllReadyIn.nil
      go_simp
      refine ⟨trivial, ?_⟩
      gi_at_call 30
      refine (callsIn_wide.2 (HCL.out _ (Sp.drew_below X))).mono ?_
      rintro e W5 ⟨⟨vm5, vl5, vt5, rfl, hr5⟩, hb5⟩
      have hb5x : Below X.heap.size X W5 := (Sp.drew_below X).trans hb5
      have y5 := (hb5x.cell (p := ⟨W.heap.size, 0, none⟩) (block_lt_of_cell y0)).trans y0
      obtain ⟨fn, tmps, assign, body, hy, hRd⟩ := HY.out vm5 vl5 vt5 W5 hb5x hr5
      have HB5 := Lib.hid hb5x
      clear hb5x hb5 hr5
      dsimp only
      first | (refine hK _ _ ?_; clear hK K) | skip
      try simp only [Act.put, List.setIfInBounds_toArray, List.set_cons_zero, List.set_cons_succ]
      refine wpAnyIn_ready (rs := [0]) (by kernel_rfl) (by simp) ?_
      refine AllReadyIn.cons rfl (fun K hK => ?_) AllReadyIn.nil
      go_simp
      first | (refine hK _ _ ?_; clear hK K) | skip
      try simp only [Act.put, List.setIfInBounds_toArray, List.set_cons_zero, List.set_cons_succ]
      refine wpAnyIn_ready (rs := [11]) (by kernel_rfl) (by simp) ?_
      refine AllReadyIn.cons rfl (fun K hK => ?_) AllReadyIn.nil
      go_simp
      refine (Rv.round_wide hRd).mono ?_
      rintro e W6 ⟨b6, rfl, hj6, hx6, hk6⟩
      have HJ6 := Lib.hid hj6
      have HX6 := Lib.hid hx6
      have HK6 := Lib.hid hk6
      clear hj6 hx6 hk6 hRd hy
      dsimp only
      first | (refine hK _ _ ?_; clear hK K) | skip
      try simp only [Act.put, List.setIfInBounds_toArray, List.set_cons_zero, List.set_cons_succ]
      refine wpAnyIn_take (i := 12) (v := ?_) rfl rfl (by kernel_rfl) (by kernel_rfl) (by kernel_rfl) (fun _ _ _ h => h) ⟨Or.inl ⟨by rfl, ?_⟩, fun _ => rfl⟩ ?_
      rotate_left
      · intro w9
        go_simp
        try with_reducible rfl
      simp only [Act.put, List.setIfInBounds_toArray, List.set_cons_zero, List.set_cons_succ]
      refine wpAnyIn_done (by kernel_rfl) ?_ _
      obtain ⟨f1, f2, f3⟩ := HFIN.out W5 W6 HB5.out HK6.out
      cases b6 with
      | true =>
        gi_wp2
        exact ⟨f1, f2, r ++ [(⟨yi, hyi⟩, vm5, vl5, vt5)], by rw [List.map_append, HR.out]; rfl, HJ6.out (by trivial), f3⟩
      | false =>
        gi_wp2
        exact ⟨f1, rfl, r ++ [(⟨yi, hyi⟩, vm5, vl5, vt5)], by rw [List.map_append, HR.out]; rfl, HX6.out (by trivial)⟩
      --GER
    case done =>
      rintro D ys X hD hys ⟨r, hr, hJr, hN⟩ hK
      gi_wp2
      refine Sp.leaves_marks (b := 0) [D] X ⟨by simp, fun k hk => ⟨Nat.zero_le _, by rw [List.mem_singleton.1 hk]; exact hK⟩⟩ (fun w' hk => ?_)
      refine ⟨_, results_none rfl _ _ _, ⟨_, rfl⟩, .inl ⟨r, ?_, ?_⟩⟩
      · rw [HV.out, ← hys, ← hr, List.map_map]; rfl
      · exact hJ _ _ _ (some D) hJr ⟨hk.os, hk.tape, hk.output, hk.size, fun k h hn => hk.block k h (fun e => hn (by rw [List.mem_singleton.1 e]))⟩ (fun k e => by cases e; exact ⟨by omega, _, hK, rfl⟩)
    case stop =>
      rintro D c pre X hD hp ⟨rfl, r, hr, hJr⟩ hK
      gi_wp2
      refine Sp.leaves_marks (b := 0) [D] X ⟨by simp, fun k hk => ⟨Nat.zero_le _, by rw [List.mem_singleton.1 hk]; exact hK⟩⟩ (fun w' hk => ?_)
      refine ⟨_, results_none rfl _ _ _, ⟨_, rfl⟩, .inr ⟨r, ?_, ?_⟩⟩
      · have e : r.map (fun x => x.1.1) = (r.map Prod.fst).map Subtype.val := by rw [List.map_map]; rfl
        rw [HV.out, e, hr]
        exact hp
      · exact hJx _ _ _ (some D) hJr ⟨hk.os, hk.tape, hk.output, hk.size, fun k h hn => hk.block k h (fun e => hn (by rw [List.mem_singleton.1 e]))⟩ (fun k e => by cases e; exact ⟨by omega, _, hK, rfl⟩)
end Go.Proofs.YtjbjgceblanhpaaDoor
