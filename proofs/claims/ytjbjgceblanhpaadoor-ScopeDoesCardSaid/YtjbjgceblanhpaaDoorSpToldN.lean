/-
  told: the names that a scope binds, at most so many, over a table that was made.
-/
import Derived.Test.YtjbjgceblanhpaaDoorSpNamesI
import Derived.Lib.SmallJoins
namespace Go.Proofs.YtjbjgceblanhpaaDoor
open Go.RowKit Go.Sort Go.Shelf
attribute [local go_sem] Oper.semAt_some
namespace Sp
open Dt
set_option maxRecDepth 100000 in
theorem infoB7 : (Tryd.prog.info? 57).map (fun i => (i.zero, i.size, i.bytes)) = some (some (.agg #[.int .i64 0, .int .i64 0, .int .i64 0, .string ⟨#[]⟩, .slice none 0 0, .slice none 0 0, .slice none 0 0]), 7, 112) := by kernel_rfl
/-- what is told of a scope, as it lies -/
def Ne.cells {t : Tbl} (x : Ne t) : List Value := [.int .i64 (x.1.1 : Int), .int .i64 x.d.k, .int .i64 x.d.n, .string x.d.s, x.2.1, x.2.2.1, x.2.2.2]
def flatN {t : Tbl} (l : List (Ne t)) : List Value := l.flatMap Ne.cells
theorem flatN_app {t : Tbl} (l : List (Ne t)) (q : Ne t) : flatN (l ++ [q]) = flatN l ++ q.cells := by unfold flatN; simp
/-- the names that are told lie well -/
def RepN (n0 B : Nat) (v : Value) {t : Tbl} (l : List (Ne t)) (W : World) : Prop := ∀ x ∈ l, Rep (fun k => n0 ≤ k ∧ k ≠ B ∧ v.ownBlock ≠ some k) W x.d x.2.1 x.2.2.1 x.2.2.2
theorem rep_append {n0 B : Nat} {v v' : Value} {W W' : World} {d : D} {vm vl vt : Value} (hR : Rep (fun k => n0 ≤ k ∧ k ≠ B ∧ v.ownBlock ≠ some k) W d vm vl vt) (hK : Keep (fun k => k = B ∨ v.ownBlock = some k) W W') (hat : v'.ownBlock = v.ownBlock ∨ ∃ g, v'.ownBlock = some g ∧ W.heap.size ≤ g) : Rep (fun k => n0 ≤ k ∧ k ≠ B ∧ v'.ownBlock ≠ some k) W' d vm vl vt := by
  have h0 : Rep (fun k => k < W.heap.size ∧ n0 ≤ k ∧ k ≠ B ∧ v.ownBlock ≠ some k) W d vm vl vt := Rep.mono (fun b hb hl => ⟨hl, hb⟩) d hR
  refine Rep.mono (fun b hb _ => ⟨hb.2.1, hb.2.2.1, fun e => ?_⟩) d (Rep.keep hK (fun b hb _ e => e.elim hb.2.2.1 hb.2.2.2) d h0)
  rcases hat with e' | ⟨g, e', hg⟩
  · rw [e'] at e; exact hb.2.2.2 e
  · rw [e'] at e; cases e; have := hb.1; omega
theorem keep_append {W w1 : World} {B : Nat} {v v' : Value} {tmp : Obj} (hgrow : (W.alloc tmp).grownBy w1 v.ownBlock) : Keep (fun k => k = B ∨ v.ownBlock = some k) W (w1.setCell ⟨B, 0, none⟩ v') := by
  have hg2 := grownBy_setCell' w1 B v'
  have hz : (W.alloc tmp).heap.size = W.heap.size + 1 := by simp
  have hs1 := hgrow.size
  have hs2 := hg2.size
  refine ⟨hg2.os.trans hgrow.os, hg2.tape.trans hgrow.tape, hg2.output.trans hgrow.output, by omega, fun k hk hn => ?_⟩
  rw [hg2.block k (by omega) (fun e => hn (.inl (by cases e; rfl))), hgrow.block k (by omega) (fun e => hn (.inr e.symm)), (World.grownBy_alloc W tmp none).block k hk (by simp)]
theorem KpO.append {n0 n1 : Nat} {W w1 : World} {B : Nat} {t t2 : TypeId} {v v' : Value} {tmp : Obj} (hv : Boxed W B t v) (hv2 : Boxed (w1.setCell ⟨B, 0, none⟩ v') B t2 v') (hgrow : (W.alloc tmp).grownBy w1 v.ownBlock)
    (hat : v'.ownBlock = v.ownBlock ∨ v'.ownBlock = some (W.alloc tmp).heap.size) (hlt : ∀ k, v'.ownBlock = some k → k < w1.heap.size) (hb : Below n0 W (w1.setCell ⟨B, 0, none⟩ v')) (hko : KeepsOthers W (w1.setCell ⟨B, 0, none⟩ v')) : KpO n0 B n1 W (w1.setCell ⟨B, 0, none⟩ v') := by
  have e1 : rowOf W B = v.ownBlock := rowOf_box hv
  have e2 : rowOf (w1.setCell ⟨B, 0, none⟩ v') B = v'.ownBlock := rowOf_box hv2
  have hK := keep_append (B := B) (v' := v') hgrow
  have hz : (W.alloc tmp).heap.size = W.heap.size + 1 := by simp
  refine ⟨⟨hb, fun k c ty fz hk hB hr => hK.block k (Array.getElem?_eq_some_iff.1 hk).1 (fun e => e.elim hB (fun e => hr (by rw [e1]; exact e))), fun k hk => ?_⟩, fun k o _ h1 h2 => hko.same k o h1 h2⟩
  rw [e2] at hk
  rw [e1]
  have hl := hlt k hk
  rcases hat with h | h
  · exact .inl (by rw [← h]; exact hk)
  · rw [hk] at h
    cases h
    refine .inr ⟨by omega, ?_⟩
    have := (grownBy_setCell' w1 B v').size
    omega
theorem cells7_new (w : World) (cs : Array Value) (t : TypeId) : ∀ j u, cs.toList[j]? = some u → (w.alloc (.cells cs t)).cell? ((⟨w.heap.size, 0, none⟩ : Addr).add j) = some u := by
  have h := World.alloc_heap_new w (.cells cs t)
  intro j u hu
  rw [Addr.add_mid, Nat.zero_add]
  unfold World.cell?
  rw [h]
  simpa using hu
theorem eqlIn_seqN (d : Nat) (f : Fn) (ts lb : Array Value) (w : World) : (Op.equalIn (d + 1) 54 (.func f ts lb) .nilFunc).run Tryd.prog w = .ok false w := by
  simp [Op.equalIn, run_underlying Tryd.underlying54]
theorem eql_seqN (f : Fn) (ts lb : Array Value) (w : World) : (binOp .eql 54 (.func f ts lb) .nilFunc).run Tryd.prog w = .ok (.bool false) w := by
  have h := eqlIn_seqN 9999 f ts lb w
  have h2 : (Op.equal 54 (.func f ts lb) .nilFunc).run Tryd.prog w = .ok false w := h
  show ((do pure (.bool (← Op.equal 54 (.func f ts lb) .nilFunc)) : Sem Value)).run _ _ = _
  rw [Sem.run_bind, h2]
  rfl
theorem prefix_take {α : Type} {pre xs : List α} {m : Nat} (h : pre <+: xs) (hm : m ≤ pre.length) : pre.take m = xs.take m := by
  obtain ⟨r, rfl⟩ := h
  rw [List.take_append_of_le_length hm]
/-- what told holds between its rounds -/
def TInv (n0 B m : Nat) {t : Tbl} (w : World) (pre : List (Ne t)) (W : World) : Prop :=
  (∃ v, Boxed W B 51 v ∧ W.ownsRow n0 57 7 v pre.length (flatN pre) ∧ RepN n0 B v pre W ∧ pre.length ≤ m) ∧ Boxed W n0 3 (.int .i64 (m : Int)) ∧ Below n0 w W
theorem TInv.grown {n0 B m : Nat} {t : Tbl} {w W W' : World} {pre : List (Ne t)} {row : Option Nat} (h : TInv n0 B m w pre W) (hn : n0 ≤ w.heap.size) (hg : W.grownBy W' row) (hr : ∀ r, row = some r → n0 ≤ r ∧ ∃ o : Obj, W.heap[r]? = some o ∧ o.isCells = false) : TInv n0 B m w pre W' := by
  obtain ⟨⟨v, h1, h2, h3, h4⟩, h5, h6⟩ := h
  have hbx : ∀ {k : Nat} {t : TypeId} {v : Value}, Boxed W k t v → Boxed W' k t v := fun hb => hb.kept hg (fun e => by
    obtain ⟨-, o, g1, g2⟩ := hr _ e.symm
    rw [show W.heap[_]? = _ from hb] at g1
    cases g1
    cases g2)
  refine ⟨⟨v, hbx h1, ?_, fun x hx => Rep.grown (h3 x hx) hg (fun r e => (hr r e).2), h4⟩, hbx h5, ?_⟩
  · refine h2.kept hg ?_
    rcases h2.2 with ⟨rfl, _⟩ | ⟨g, cap, cur, rfl, _, hgh, _⟩
    · exact .inl rfl
    · refine .inr (fun e => ?_)
      obtain ⟨-, o, g1, g2⟩ := hr g (by rw [← e]; rfl)
      rw [hgh] at g1
      cases g1
      cases g2
  · refine ⟨hg.os.trans h6.os, hg.tape.trans h6.tape, hg.output.trans h6.output, Nat.le_trans h6.size hg.size, fun k hk => ?_⟩
    exact (hg.block k (Nat.lt_of_lt_of_le (Nat.lt_of_lt_of_le hk hn) h6.size) (fun e => by have := (hr _ e.symm).1; omega)).trans (h6.block k hk)
theorem VN.grown {n0 B : Nat} {t : Tbl} {x : Ne t} {W W' : World} {row : Option Nat} (h : VN n0 B x W) (hB : B < W.heap.size) (hg : W.grownBy W' row) (hr : ∀ r, row = some r → B < r ∧ ∃ o : Obj, W.heap[r]? = some o ∧ o.isCells = false) : VN n0 B x W' := by
  unfold VN at *
  rw [rowOf_of (hg.block B hB (fun e => by have := (hr _ e.symm).1; omega))]
  exact Rep.grown h hg (fun r e => (hr r e).2)
/-- what the body of a round begins with -/
def TAx (m : Nat) {t : Tbl} (w : World) (tm : Nat → Ne t → Array Value) (pre : List (Ne t)) (x : Ne t) (a' : Act) (W : World) : Prop :=
  TInv w.heap.size (w.heap.size + 1) m w pre W ∧ VN w.heap.size (w.heap.size + 1) x W ∧ ∃ Bx, w.heap.size + 1 < Bx ∧ W.heap[Bx]? = some (.cells #[.int .i64 x.d.k, .int .i64 x.d.n, .string x.d.s, x.2.1, x.2.2.1, x.2.2.2] 26 (0, 0)) ∧ a' = { tmps := tm Bx x, defers := [] }
theorem TInv.lt {n0 B m : Nat} {t : Tbl} {w W : World} {pre : List (Ne t)} (h : TInv n0 B m w pre W) : B < W.heap.size := by
  obtain ⟨⟨v, h1, _⟩, _⟩ := h
  exact h1.lt
theorem TAx.grown {m : Nat} {t : Tbl} {w : World} {tm : Nat → Ne t → Array Value} {pre : List (Ne t)} {x : Ne t} {a' : Act} {W W' : World} {row : Option Nat} (h : TAx m w tm pre x a' W) (hg : W.grownBy W' row) (hr : ∀ r, row = some r → w.heap.size + 2 ≤ r ∧ ∃ o : Obj, W.heap[r]? = some o ∧ o.isCells = false) : TAx m w tm pre x a' W' := by
  obtain ⟨h1, h2, Bx, h3, h4, h5⟩ := h
  refine ⟨h1.grown (Nat.le_refl _) hg (fun r e => ⟨by have := (hr r e).1; omega, (hr r e).2⟩), h2.grown h1.lt hg (fun r e => ⟨by have := (hr r e).1; omega, (hr r e).2⟩), Bx, h3, (hg.block Bx (Array.getElem?_eq_some_iff.1 h4).1 (fun e => ?_)).trans h4, h5⟩
  obtain ⟨-, o, ho, hc⟩ := hr Bx e.symm
  rw [h4] at ho
  cases ho
  cases hc
theorem one7 (i k n : Int) (s : ByteArray) (a b c : Option Addr) (m1 c1 m2 c2 m3 c3 : Nat) : ∀ x ∈ [Value.int .i64 i, .int .i64 k, .int .i64 n, .string s, .slice a m1 c1, .slice b m2 c2, .slice c m3 c3], x.oneCell' = true := by
  intro x hx
  simp only [List.mem_cons, List.not_mem_nil, or_false] at hx
  rcases hx with rfl | rfl | rfl | rfl | rfl | rfl | rfl <;> rfl
/-- where told's loop begins -/
structure TStart (w W0 : World) (m : Nat) : Prop where
  sz : W0.heap.size = w.heap.size + 2
  bel : Below w.heap.size w W0
  bm : Boxed W0 w.heap.size 3 (.int .i64 (m : Int))
  bl : Boxed W0 (w.heap.size + 1) 51 (.slice none 0 0)
theorem TStart.mk' (w : World) (m : Nat) {W0 : World} (h : (w.alloc (.cells #[.int .i64 (m : Int)] 3)).alloc (.cells #[.slice none 0 0] 51) = W0) : TStart w W0 m := by
  have bM := Boxed.new w 3 (.int .i64 (m : Int))
  have bL := Boxed.new (w.alloc (.cells #[.int .i64 (m : Int)] 3)) 51 (.slice none 0 0)
  rw [World.size_alloc] at bL
  refine ⟨by rw [← h]; simp, by rw [← h]; exact ((Below.refl _ w).alloc (Nat.le_refl _) _).alloc (by simp) _, by rw [← h]; exact bM.alloc _, by rw [← h]; exact bL⟩
end Sp
set_option maxRecDepth 100000 in
set_option maxHeartbeats 8000000 in
theorem spTold_any (Bt Bs m : Nat) (hm : m ≤ 1048576) (w : World) {base T mb : Nat} {vl : Value} {xs : List Sp.B} {t : Sp.Tbl} (hTI : Sp.TI w base T vl mb xs t) (s : Int) (hBs : w.cell? ⟨Bs, 0, none⟩ = some (.int .i64 s)) (hBt : w.cell? ⟨Bt, 0, none⟩ = some (.pointer (some ⟨T, 0, none⟩))) :
    Calls Tryd.prog 18 #[.func (.func 33) #[] #[.pointer (some ⟨Bt, 0, none⟩), .pointer (some ⟨Bs, 0, none⟩)], .int .i64 (m : Int)] w fun e W' => ∃ (v : Value) (ys : List (Sp.Ne t)), e = .returned v ∧ ys.map (fun x => x.1.1) = (Sp.namesOf t s).take m ∧
      W'.ownsRow w.heap.size 57 7 v ys.length (Sp.flatN ys) ∧ Sp.RepN w.heap.size (w.heap.size + 1) v ys W' ∧ Below w.heap.size w W' := by
  obtain ⟨i0, hi, hz0, hz1, hz2⟩ := info_parts Sp.infoB7
  refine (callsIn_wide (n := 12)).1 ?_
  refine callsIn_of_wp_marks Tryd.func18 rfl trivial ?_ rfl
  simp only [Tryd.ntmps18, List.size_toArray, List.length_cons, List.length_nil, Nat.reduceAdd, Nat.reduceSub, Array.replicate_succ, Array.replicate_zero, List.push_toArray, List.append_toArray, List.nil_append, List.cons_append]
  gi_wp2
  simp only [Sp.eql_seqN]
  gi_wp2
  obtain ⟨W0, hW0⟩ : ∃ W0, (w.alloc (.cells #[.int .i64 (m : Int)] 3)).alloc (.cells #[.slice none 0 0] 51) = W0 := ⟨_, rfl⟩
  have hst := Sp.TStart.mk' w m hW0
  rw [hW0]
  clear hW0
  have hsz := hst.sz
  refine Rv.wpIn_rangeV (n := 12) rfl (by omega) (gf := 33) (lb := #[.pointer (some ⟨Bt, 0, none⟩), .pointer (some ⟨Bs, 0, none⟩)]) rfl trivial (enters_of Tryd.func33 (by kernel_rfl) rfl)
    (encs := Sp.encN (t := t)) (Kp := Sp.KpO w.heap.size (w.heap.size + 1) (W0.heap.size + 2)) (V := Sp.VN w.heap.size (w.heap.size + 1)) (S := fun ys => ys.map (fun x => x.1.1) = Sp.namesOf t s) (Sp := fun pre => pre.map (fun x => x.1.1) <+: Sp.namesOf t s) (N := t.l.length) (w0 := W0)
    (fun l J Jx W hW hW2 hJ hJx hY h0 => names1_in 11 (by omega) l Bs Bt w.heap.size (w.heap.size + 1) (W0.heap.size + 2) w W hTI rfl s hBs hBt (hst.bel.trans (hW.mono hst.bel.size)) (by rw [Sp.rowOf_of (hW.block _ hst.bl.lt), Sp.rowOf_box hst.bl]; rfl) (Nat.lt_of_lt_of_le hst.bl.lt hW.size) (by omega) hW2 J Jx hJ hJx hY h0)
    (fun h k => h.trans k) (fun W o o' h ho => Sp.KpO.putObj W (W0.heap.size + 1) o o' (by omega) (by omega) (by omega) h ho) (Below.refl _ _) (fun _ => rfl)
    (Sp.TInv w.heap.size (w.heap.size + 1) m w) (fun c pre W => c = .exit 0 ∧ m ≤ pre.length ∧ Sp.TInv w.heap.size (w.heap.size + 1) m w (pre.take m) W)
    (fun pre W W' row h hg hr => Sp.TInv.grown h (Nat.le_refl _) hg (fun r e => ⟨by have := (hr r e).1; omega, (hr r e).2⟩))
    (fun c pre W W' row h hg hr => ⟨h.1, h.2.1, Sp.TInv.grown h.2.2 (Nat.le_refl _) hg (fun r e => ⟨by have := (hr r e).1; omega, (hr r e).2⟩)⟩)
    ⟨⟨_, hst.bl, World.ownsRow_nil _ _ _ _, fun x hx => (by cases hx), Nat.zero_le _⟩, hst.bm, hst.bel⟩
    (Sp.TAx m w (fun Bx x => #[.func (.func 33) #[] #[.pointer (some ⟨Bt, 0, none⟩), .pointer (some ⟨Bs, 0, none⟩)], .int .i64 (m : Int), undef, .pointer (some ⟨w.heap.size, 0, none⟩), .slice none 0 0, .pointer (some ⟨w.heap.size + 1, 0, none⟩), .int .i64 (x.1.1 : Int), .pointer (some ⟨Bx, 0, none⟩), .func (.func 33) #[] #[.pointer (some ⟨Bt, 0, none⟩), .pointer (some ⟨Bs, 0, none⟩)], .bool false, .func (.func 33) #[] #[.pointer (some ⟨Bt, 0, none⟩), .pointer (some ⟨Bs, 0, none⟩)], .int .i64 (x.1.1 : Int), .agg #[.int .i64 x.d.k, .int .i64 x.d.n, .string x.d.s, x.2.1, x.2.2.1, x.2.2.2], undef, undef, undef, undef, undef, undef, undef, undef, undef, undef, undef]))
    (fun pre x a' _ W W' row h hg hr => Sp.TAx.grown h hg (fun r e => ⟨by have := (hr r e).1; omega, (hr r e).2⟩))
    ?assign ?body ?done ?stop
  case assign =>
    rintro l pre x W K hT hV hK
    have hlt := hT.lt
    obtain ⟨⟨i, hi'⟩, vm, vL, vt⟩ := x
    obtain ⟨a1, n1, q1, a2, n2, q2, a3, n3, q3, e1, e2, e3⟩ := Dt.Rep.forms (show Dt.Rep _ W _ vm vL vt from hV)
    subst e1 e2 e3
    unfold Sp.encN
    dsimp only
    obtain ⟨d, hd⟩ : ∃ d, d = Sp.Ne.d (t := t) (⟨i, hi'⟩, .slice a1 n1 q1, .slice a2 n2 q2, .slice a3 n3 q3) := ⟨_, rfl⟩
    rw [← hd]
    have HD := Lib.hid hd
    clear hd
    gi_wp2
    refine hK _ _ ?_ ?_ ?_
    · exact (KeepsOthers.alloc _ _).from _
    · exact Sp.KpO.of_below ((Below.refl _ _).alloc (Nat.le_refl _) _) hT.2.2.size hlt
    exact ⟨hT.grown (Nat.le_refl _) (World.grownBy_alloc W _ none) (by simp), hV.grown hlt (World.grownBy_alloc W _ none) (by simp), W.heap.size, hlt, by rw [← HD.out]; exact World.alloc_heap_new W _, by rw [HD.out]⟩
  case body =>
    rintro l pre x a' W hl ⟨r, hr⟩ ⟨hT, hV, Bx, hBx, hX, rfl⟩ hlt
    obtain ⟨⟨v, hv, hrow, hrep, hpm⟩, hM, hB⟩ := hT
    have cL := hv.cell
    have fL := hv.frozen
    have cM := hM.cell
    have hBs1 := hB.size
    have HX7 : Hid (x.cells = x.cells) := rfl
    obtain ⟨⟨⟨i, hi'⟩, vm, vL, vt⟩, hx⟩ : ∃ y, y = x := ⟨_, rfl⟩
    obtain ⟨d, hd⟩ : ∃ d, d = x.d := ⟨_, rfl⟩
    have HE : Hid (x.cells = [.int .i64 (i : Int), .int .i64 d.k, .int .i64 d.n, .string d.s, vm, vL, vt]) := by show _ = _; rw [hd, ← hx]; rfl
    have HV : Hid (Dt.Rep (fun k => w.heap.size ≤ k ∧ k ≠ w.heap.size + 1 ∧ v.ownBlock ≠ some k) W d vm vL vt) := by
      have h9 := hV
      unfold Sp.VN at h9
      rw [Sp.rowOf_box hv, ← hd, ← hx] at h9
      exact h9
    have HVX : Hid (Dt.Rep (fun k => w.heap.size ≤ k ∧ k ≠ w.heap.size + 1 ∧ v.ownBlock ≠ some k) W x.d x.2.1 x.2.2.1 x.2.2.2) := by
      have h9 := hV
      unfold Sp.VN at h9
      rw [Sp.rowOf_box hv] at h9
      exact h9
    have e1 : x.1.1 = i := by rw [← hx]
    have e2 : x.2.1 = vm := by rw [← hx]
    have e3 : x.2.2.1 = vL := by rw [← hx]
    have e4 : x.2.2.2 = vt := by rw [← hx]
    dsimp only
    rw [← hd, e2, e3, e4] at hX
    rw [e1, ← hd, e2, e3, e4]
    obtain ⟨dk, hdk⟩ : ∃ dk, dk = d.k := ⟨_, rfl⟩
    obtain ⟨dn, hdn⟩ : ∃ dn, dn = d.n := ⟨_, rfl⟩
    obtain ⟨ds, hds⟩ : ∃ ds, ds = d.s := ⟨_, rfl⟩
    rw [← hdk, ← hdn, ← hds] at hX HE
    rw [← hdk, ← hdn, ← hds]
    have x0 : W.cell? ⟨Bx, 0, none⟩ = some (.int .i64 dk) := by simp [World.cell?, hX]
    have x1 : W.cell? ⟨Bx, 1, none⟩ = some (.int .i64 dn) := by simp [World.cell?, hX]
    have x2 : W.cell? ⟨Bx, 2, none⟩ = some (.string ds) := by simp [World.cell?, hX]
    have x3 : W.cell? ⟨Bx, 3, none⟩ = some vm := by simp [World.cell?, hX]
    have x4 : W.cell? ⟨Bx, 4, none⟩ = some vL := by simp [World.cell?, hX]
    have x5 : W.cell? ⟨Bx, 5, none⟩ = some vt := by simp [World.cell?, hX]
    obtain ⟨a, c, rfl⟩ := Dt.row_form hrow
    have HD := Lib.hid hd
    clear hx e1 e2 e3 e4 hdk hdn hds hd hV HX7
    obtain ⟨a1, n1, q1, a2, n2, q2, a3, n3, q3, e1, e2, e3⟩ := HV.out.forms
    subst e1 e2 e3
    by_cases hge : m ≤ pre.length
    · have hgei : (m : Int) ≤ (pre.length : Int) := by omega
      gi_wp2
      have he : (pre ++ [x]).take m = pre := by rw [List.take_append_of_le_length hge, List.take_of_length_le hpm]
      exact ⟨KeepsFrom.refl _ _, ⟨Sp.KpB.refl _ _ _, fun _ _ _ h _ => h⟩, rfl, by simp; omega, by rw [he]; exact ⟨⟨_, hv, hrow, hrep, hpm⟩, hM, hB⟩⟩
    · have hgei : ¬ (m : Int) ≤ (pre.length : Int) := by omega
      have hseven := Sp.cells7_new W #[.int .i64 (i : Int), .int .i64 dk, .int .i64 dn, .string ds, .slice a1 n1 q1, .slice a2 n2 q2, .slice a3 n3 q3] 57
      have hplus : pre.length + 1 ≤ maxLen := by unfold maxLen; omega
      gi_wp2_with (gi_at_builtin; refine wpListIn_append_own_at _ rfl _ _ 51 rfl w.heap.size 57 i0 (.agg #[.int .i64 0, .int .i64 0, .int .i64 0, .string ⟨#[]⟩, .slice none 0 0, .slice none 0 0, .slice none 0 0]) 7 112 Tryd.underlying51 hi hz0 hz1 hz2 rfl (by decide) _ _ _ rfl (hrow.alloc _) ⟨W.heap.size, 0, none⟩ 1 1 [.int .i64 (i : Int), .int .i64 dk, .int .i64 dn, .string ds, .slice a1 n1 q1, .slice a2 n2 q2, .slice a3 n3 q3] rfl rfl hseven (Sp.one7 _ _ _ _ _ _ _ _ _ _ _ _ _) hplus (by omega) (by simp; omega) ?_; intro v' w1 hown' hgrow hnil hat; obtain ⟨g', cap', rfl⟩ := ownsRow_succ hown'; obtain ⟨hv1, hv2, hr2, hk2, hb2⟩ := hv.appended (by decide) hrow hBs1 (by omega) hown' hgrow; have hkp := Sp.KpO.append (n1 := W0.heap.size + 2) hv hv2 hgrow hat (fun k e => (hown'.lt k e).2) hb2 hk2; have hc1 := hv1.cell; have hf1 := hv1.frozen; have hM2 := (hM.alloc (.cells #[.int .i64 (i : Int), .int .i64 dk, .int .i64 dn, .string ds, .slice a1 n1 q1, .slice a2 n2 q2, .slice a3 n3 q3] 57)).kept hgrow (hM.not_row (by decide) hrow); have hM3 := hM2.other (B' := w.heap.size + 1) (by omega) (.slice (some ⟨g', 0, none⟩) (pre.length + 1) cap'); have hKA := Sp.keep_append (B := w.heap.size + 1) (v' := .slice (some ⟨g', 0, none⟩) (pre.length + 1) cap') hgrow)
      have hat2 : (Value.slice (some ⟨g', 0, none⟩) (pre.length + 1) cap').ownBlock = (Value.slice a pre.length c).ownBlock ∨ ∃ g, (Value.slice (some ⟨g', 0, none⟩) (pre.length + 1) cap').ownBlock = some g ∧ W.heap.size ≤ g := hat.imp id (fun h => ⟨_, h, by simp⟩)
      have hkp2 := hkp
      rw [hsz] at hkp2
      refine ⟨hk2.from _, hkp2, ⟨⟨_, hv2, by rw [List.length_append, Sp.flatN_app, HE.out]; exact hr2, fun y hy => ?_, by simp; omega⟩, hM3, hB.trans hb2⟩⟩
      rcases List.mem_append.1 hy with hy | hy
      · exact Sp.rep_append (hrep y hy) hKA hat2
      · rw [List.mem_singleton.1 hy]; exact Sp.rep_append HVX.out hKA hat2
  case done =>
    rintro D ys W hD hS ⟨⟨v, hv, hrow, hrep, hpm⟩, hM, hB⟩ hK
    have cL := hv.cell
    have hS2 := Lib.hid hS
    clear hS
    gi_wp2
    refine ⟨by simp, .inl ⟨_, _, rfl, run_takeDeferred hK, ?_⟩⟩
    refine ⟨_, results_tmp rfl _ _ _, v, ys, rfl, ?_, ownsRow_putObj hrow _ hK rfl, fun y hy => Dt.Rep.grown (hrep y hy) (grownBy_putObj' _ _ _) (fun r e => by cases e; exact ⟨_, hK, rfl⟩), hB.trans (belowK_b (w := w) (Nat.le_refl _) W D _ _ (by omega) hK rfl rfl)⟩
    rw [← hS2.out, List.take_of_length_le (by rw [List.length_map]; exact hpm)]
  case stop =>
    rintro D c pre W hD hp ⟨rfl, hmp, ⟨v, hv, hrow, hrep, hpm⟩, hM, hB⟩ hK
    have cL := hv.cell
    have hP := Lib.hid hp
    clear hp
    gi_wp2
    refine ⟨by simp, .inl ⟨_, _, rfl, run_takeDeferred hK, ?_⟩⟩
    refine ⟨_, results_tmp rfl _ _ _, v, pre.take m, rfl, ?_, ownsRow_putObj hrow _ hK rfl, fun y hy => Dt.Rep.grown (hrep y hy) (grownBy_putObj' _ _ _) (fun r e => by cases e; exact ⟨_, hK, rfl⟩), hB.trans (belowK_b (w := w) (Nat.le_refl _) W D _ _ (by omega) hK rfl rfl)⟩
    rw [← Sp.prefix_take hP.out (by rw [List.length_map]; exact hmp), List.map_take]
end Go.Proofs.YtjbjgceblanhpaaDoor
