/-
  A loop over an iterator whose elements are known to lie well in the world of their round: the library's law for a range over a function (wpIn_rangeFunc_ownH), turned so that the round is told of it.
-/
import Derived.RangeFuncNested
import Derived.OrdersIn
import Derived.Test.YtjbjgceblanhpaaDoorRq
namespace Go.Proofs.YtjbjgceblanhpaaDoor
open Go.RowKit
namespace Rv
/-- an iterator that stops, whose element is valid in the world of its round -/
def SeqStopsV {α : Type} (F : Fence) (n : Nat) (P : Program) (g : Nat) (lb : Array Value) (encs : α → Array Value) (Kp : World → World → Prop) (V : α → World → Prop) (S Sp : List α → Prop) (N : Nat) (w : World) : Prop :=
  ∀ (l : Nat) (J Jx : List α → World → Prop) (W : World), Below w.heap.size w W → w.heap.size + 2 ≤ W.heap.size → OwnFrom W.heap.size J → OwnFrom W.heap.size Jx →
    (∀ pre x W1, J pre W1 → V x W1 → pre.length < N → YieldAt F (n - 1) P l (encs x) W1 fun e W' =>
      (e = .returned (.bool true) ∧ J (pre ++ [x]) W' ∧ Kp W1 W') ∨ (e = .returned (.bool false) ∧ Jx (pre ++ [x]) W' ∧ Kp W1 W')) →
    J [] W →
    CallsIn F n P g (#[.func (.yield l) #[] #[]] ++ lb) W fun e W' => (∃ v, e = .returned v) ∧ ((∃ xs, S xs ∧ J xs W') ∨ (∃ pre, Sp pre ∧ Jx pre W'))
/-- how the body of a round may be left -/
def ownPostV {α : Type} (B : Nat) (Kp : World → World → Prop) (I : List α → World → Prop) (Ix : Code → List α → World → Prop) (xs : List α) (W : World) : Exit → Act → World → Prop
  | .normal, _, W' => KeepsFrom B W W' ∧ Kp W W' ∧ I xs W'
  | .ret, _, W' => KeepsFrom B W W' ∧ Kp W W' ∧ Ix .ret xs W'
  | .exit id, _, W' => KeepsFrom B W W' ∧ Kp W W' ∧ Ix (.exit id) xs W'
  | .goto t, _, W' => KeepsFrom B W W' ∧ Kp W W' ∧ Ix (.goto t) xs W'
  | .panic _, _, _ => False
  | .outgrown, _, _ => False
variable {F : Fence} {n : Nat} {P : Program} {w : World}
theorem wpIn_rangeV {α : Type} {g : Operand} {ps : Array Tmp} {assign body : Code} {Q : Exit → Act → World → Prop} {a : Act} {w : World}
    (hro : F.round = none) (h1 : 1 ≤ n) {gf : Nat} {lb : Array Value} (hg : a.eval g = .func (.func gf) #[] lb) (hFg : F.fn gf) (eg : ∀ args w, (callFunc gf args).run P w = .ok (.enter gf args) w)
    {encs : α → Array Value} {Kp : World → World → Prop} {V : α → World → Prop} {S Sp : List α → Prop} {N : Nat} {w0 : World} (hseq : SeqStopsV F (n - 1) P gf lb encs Kp V S Sp N w0)
    (hKt : ∀ {A B C : World}, Kp A B → Kp B C → Kp A C) (hKb : ∀ (W : World) (o o' : Obj), W.heap[w.heap.size + 1]? = some o → o.isCells = false → Kp W (W.putObj (w.heap.size + 1) o')) (hb0 : Below w0.heap.size w0 w) (hps : ∀ x, (encs x).size = ps.size)
    (I : List α → World → Prop) (Ix : Code → List α → World → Prop) (hI : OwnFrom w.heap.size I) (hIx : ∀ c, OwnFrom w.heap.size (Ix c)) (h0 : I [] w) (Ax : List α → α → Act → World → Prop) (hAx : ∀ pre x a', OwnFrom w.heap.size (fun (_ : Unit) W => Ax pre x a' W))
    (hassign : ∀ (l : Nat) (pre : List α) (x : α) (W : World) (K : Act → World → Prop), I pre W → V x W → (∀ a' W', KeepsFrom w.heap.size W W' → Kp W W' → Ax pre x a' W' → K a' W') →
      assign.wpIn (F.inRound l) (n - 1 - 1) P (Exit.then K (fun _ _ _ => False)) { tmps := (ps.zip (encs x)).foldl (fun t (p, v) => t.setIfInBounds p v) a.tmps, defers := [] } W)
    (hbody : ∀ (l : Nat) (pre : List α) (x : α) (a' : Act) (W : World), w.heap.size ≤ l → (∃ r, W.heap[l]? = some (.loop r)) → Ax pre x a' W → pre.length < N → body.wpIn (F.inRound l) (n - 1 - 1) P (ownPostV w.heap.size Kp I Ix (pre ++ [x]) W) a' W)
    (hdone : ∀ (D : Nat) (xs : List α) (W : World), w.heap.size ≤ D → S xs → I xs W → W.heap[D]? = some (.deferred (some [])) → Q .normal { a with defers := { target := .collected D, args := #[] } :: a.defers } W)
    (hstop : ∀ (D : Nat) (c : Code) (pre : List α) (W : World), w.heap.size ≤ D → Sp pre → Ix c pre W → W.heap[D]? = some (.deferred (some [])) → c.wpIn F n P Q { a with defers := { target := .collected D, args := #[] } :: a.defers } W) :
    (Code.rangeFunc g ps assign body).wpIn F n P Q a w := by
  refine wpIn_rangeFunc ?_
  intro fn hfn
  rw [hro]
  obtain ⟨rec, hrec⟩ : ∃ rec : LoopState → Option Code → Loop, rec = fun st pe => { state := st, pending := pe, fn, tmps := a.tmps, params := ps, assign, body, defers := w.heap.size } := ⟨_, rfl⟩
  obtain ⟨U, hU⟩ : ∃ U, (w.alloc (.deferred (some []))).alloc (.loop (rec .ready none)) = U := ⟨_, rfl⟩
  have hs : U.heap.size = w.heap.size + 2 := by rw [← hU]; simp
  have hlr : U.heap[w.heap.size + 1]? = some (.loop (rec .ready none)) := by
    have := World.alloc_heap_new (w.alloc (.deferred (some []))) (.loop (rec .ready none))
    rw [World.size_alloc] at this
    rw [← hU]; exact this
  have hld : U.heap[w.heap.size]? = some (.deferred (some [])) := by
    rw [← hU]; exact (Below.heap_alloc _ _ _ (by simp)).trans (World.alloc_heap_new w _)
  have hbw : Below w.heap.size w U := by rw [← hU]; exact ((Below.refl _ w).alloc (Nat.le_refl _) _).alloc (by simp) _
  have hIU : I [] U := by rw [← hU]; exact hI.alloc _ (hI.alloc _ h0)
  refine ⟨w.heap.size + 1, [{ target := .collected w.heap.size, args := #[] }], U, { target := .fn (.func gf) lb, args := #[.func (.yield (w.heap.size + 1)) #[] #[]] }, U, gf, #[.func (.yield (w.heap.size + 1)) #[] #[]] ++ lb, U, ?_, ?_, ?_, ?_, fun _ => h1, ?_⟩
  · rw [← hU, hrec]; exact run_enterLoop_outer _ _ _ _ _
  · simp only [resolve, hg]
    simp [go_sem]
  · intro f' hf'
    simp [Target.leads] at hf'
    subst hf'
    exact hFg
  · simp [invoke, go_sem, eg]
  have hrow : ∀ {A : World} {row : Option Nat}, (∀ r, row = some r → U.heap.size ≤ r ∧ ∃ o : Obj, A.heap[r]? = some o ∧ o.isCells = false) → (∀ r, row = some r → w.heap.size ≤ r ∧ ∃ o : Obj, A.heap[r]? = some o ∧ o.isCells = false) := fun hr r e => by
    obtain ⟨h2, o, h3, h4⟩ := hr r e
    exact ⟨by omega, o, h3, h4⟩
  have hold : ∀ {A B : World} {row : Option Nat} {k : Nat} {o : Obj}, A.grownBy B row → (∀ r, row = some r → U.heap.size ≤ r ∧ ∃ o : Obj, A.heap[r]? = some o ∧ o.isCells = false) → k < U.heap.size → A.heap[k]? = some o → B.heap[k]? = some o := fun hg' hr hk hA =>
    (hg'.block _ (Array.getElem?_eq_some_iff.1 hA).1 (fun e => by have := (hr _ e.symm).1; omega)).trans hA
  refine (hseq (w.heap.size + 1) (fun pre W => (I pre W ∧ W.heap[w.heap.size + 1]? = some (.loop (rec .ready none))) ∧ W.heap[w.heap.size]? = some (.deferred (some [])))
    (fun pre W => ∃ c, (Ix c pre W ∧ W.heap[w.heap.size + 1]? = some (.loop (rec .done (some c)))) ∧ W.heap[w.heap.size]? = some (.deferred (some []))) U (hb0.trans (hbw.mono hb0.size)) (by have := hb0.size; omega)
    (fun s A B row h hg' hr => ⟨⟨hI s A B row h.1.1 hg' (hrow hr), hold hg' hr (by omega) h.1.2⟩, hold hg' hr (by omega) h.2⟩)
    (fun s A B row h hg' hr => by
      obtain ⟨c, ⟨h2, h3⟩, h4⟩ := h
      exact ⟨c, ⟨hIx c s A B row h2 hg' (hrow hr), hold hg' hr (by omega) h3⟩, hold hg' hr (by omega) h4⟩)
    ?_ ⟨⟨hIU, hlr⟩, hld⟩).mono ?_
  · rintro pre x X ⟨⟨hi, hl⟩, hd⟩ hv hlen
    have hy := run_yield (P := P) (args := encs x) hl (by rw [hrec]; exact hps x)
    rw [hrec] at hy
    refine ⟨fn, _, assign, body, hy, roundIn_of_wpIn hfn (hassign _ pre x X _ hi hv ?_)⟩
    intro a' Y hkf hkp hax
    have hl2 : Y.heap[w.heap.size + 1]? = some (.loop (rec .ready none)) := hkf.same _ _ (by omega) hl rfl
    have hd2 : Y.heap[w.heap.size]? = some (.deferred (some [])) := hkf.same _ _ (Nat.le_refl _) hd rfl
    have hlt2 := (Array.getElem?_eq_some_iff.1 hl2).1
    refine ⟨_, run_beginRound hl2 (by rw [hrec]), ?_⟩
    obtain ⟨busy, hbusy⟩ : ∃ b : Obj, b = .loop { rec .ready none with state := .busy } := ⟨_, rfl⟩
    rw [← hbusy]
    have hl3 : (Y.putObj (w.heap.size + 1) busy).heap[w.heap.size + 1]? = some busy := World.putObj_heap_same hlt2
    have hd3 : (Y.putObj (w.heap.size + 1) busy).heap[w.heap.size]? = some (.deferred (some [])) := (World.putObj_heap_other (by omega)).trans hd2
    have hk3 : Kp Y (Y.putObj (w.heap.size + 1) busy) := hKb _ _ _ hl2 rfl
    refine wpIn_mono (hbody _ pre x a' _ (by omega) ⟨_, hl3.trans (by rw [hbusy])⟩ ((hAx pre x a').putObj (s := ()) _ hax (by omega) hl2 rfl) hlen) ?_
    have fin : ∀ (jump : Option Code) (Z : World), KeepsFrom w.heap.size (Y.putObj (w.heap.size + 1) busy) Z →
        (Instr.endRound (w.heap.size + 1) jump).run P Z = .ok (.bool jump.isNone) (Z.putObj (w.heap.size + 1) (.loop (rec (if jump.isNone then .ready else .done) jump))) ∧ Z.heap[w.heap.size + 1]? = some busy ∧
        (Z.putObj (w.heap.size + 1) (.loop (rec (if jump.isNone then .ready else .done) jump))).heap[w.heap.size + 1]? = some (.loop (rec (if jump.isNone then .ready else .done) jump)) ∧
        (Z.putObj (w.heap.size + 1) (.loop (rec (if jump.isNone then .ready else .done) jump))).heap[w.heap.size]? = some (.deferred (some [])) := fun jump Z hz => by
      have h4 : Z.heap[w.heap.size + 1]? = some busy := hz.same _ _ (by omega) hl3 (by rw [hbusy]; rfl)
      have h5 := run_endRound (P := P) jump (h4.trans (by rw [hbusy]))
      rw [hrec] at h5 ⊢
      exact ⟨h5, h4, World.putObj_heap_same (Array.getElem?_eq_some_iff.1 h4).1, (World.putObj_heap_other (by omega)).trans (hz.same _ _ (Nat.le_refl _) hd3 rfl)⟩
    have hbc : busy.isCells = false ∧ True := by rw [hbusy]; exact ⟨rfl, trivial⟩
    intro e a3 Z hp
    cases e with
    | normal =>
      obtain ⟨h4, h5, h6⟩ := hp
      obtain ⟨g1, g2, g3, g4⟩ := fin none Z h4
      exact ⟨_, _, g1, .inl ⟨rfl, ⟨⟨hI.putObj _ h6 (by omega) g2 hbc.1, g3⟩, g4⟩, hKt hkp (hKt (hKt hk3 h5) (hKb _ _ _ g2 hbc.1))⟩⟩
    | ret =>
      obtain ⟨h4, h5, h6⟩ := hp
      obtain ⟨g1, g2, g3, g4⟩ := fin (some .ret) Z h4
      exact ⟨_, _, g1, .inr ⟨rfl, ⟨.ret, ⟨(hIx _).putObj _ h6 (by omega) g2 hbc.1, g3⟩, g4⟩, hKt hkp (hKt (hKt hk3 h5) (hKb _ _ _ g2 hbc.1))⟩⟩
    | exit id =>
      obtain ⟨h4, h5, h6⟩ := hp
      obtain ⟨g1, g2, g3, g4⟩ := fin (some (.exit id)) Z h4
      exact ⟨_, _, g1, .inr ⟨rfl, ⟨.exit id, ⟨(hIx _).putObj _ h6 (by omega) g2 hbc.1, g3⟩, g4⟩, hKt hkp (hKt (hKt hk3 h5) (hKb _ _ _ g2 hbc.1))⟩⟩
    | goto t =>
      obtain ⟨h4, h5, h6⟩ := hp
      obtain ⟨g1, g2, g3, g4⟩ := fin (some (.goto t)) Z h4
      exact ⟨_, _, g1, .inr ⟨rfl, ⟨.goto t, ⟨(hIx _).putObj _ h6 (by omega) g2 hbc.1, g3⟩, g4⟩, hKt hkp (hKt (hKt hk3 h5) (hKb _ _ _ g2 hbc.1))⟩⟩
    | panic ch => exact hp.elim
    | outgrown => exact hp.elim
  · rintro e X ⟨⟨v, rfl⟩, ⟨xs, hS, ⟨hi, hl⟩, hd⟩ | ⟨pre, hS, c, ⟨hi, hl⟩, hd⟩⟩
    · have h5 := run_endLoop (P := P) hl (by rw [hrec]; simp)
      rw [hrec] at h5
      exact ⟨none, _, h5, hdone _ xs _ (Nat.le_refl _) hS (hI.putObj _ hi (by omega) hl rfl) ((World.putObj_heap_other (by omega)).trans hd)⟩
    · have h5 := run_endLoop (P := P) hl (by rw [hrec]; simp)
      rw [hrec] at h5
      exact ⟨some c, _, h5, hstop _ c pre _ (Nat.le_refl _) hS ((hIx c).putObj _ hi (by omega) hl rfl) ((World.putObj_heap_other (by omega)).trans hd)⟩
theorem round_wide {n m l : Nat} {P : Program} {f : FuncId} {tmps : Array Value} {assign body : Code} {w : World} {R : Ending → World → Prop} (h : RoundIn Fence.wide n P l f tmps assign body w R) : RoundIn Fence.wide m P l f tmps assign body w R :=
  ⟨h.1, fun c cs _ => h.2 c cs (room_wide _)⟩
theorem round_in {n m l k : Nat} {P : Program} {f : FuncId} {tmps : Array Value} {assign body : Code} {w : World} {R : Ending → World → Prop} (h : RoundIn Fence.wide n P l f tmps assign body w R) : RoundIn (Fence.wide.inRound k) m P l f tmps assign body w R :=
  (round_wide (m := m) h : RoundIn Fence.wide m P l f tmps assign body w R)
/-- in a round a region that defers no call goes as outside -/
theorem op_round {F : Fence} {n : Nat} {P : Program} {o : Oper} {a : Act} {K : Act → World → Prop} {Q : Exit → Act → World → Prop} {w : World} {k : Nat} (_hro : F.round = none) (hnd : ∀ c, o.op ≠ .defer c) (h : o.wpIn F n P a w K Q) : o.wpIn (F.inRound k) n P a w K Q := by
  unfold Oper.wpIn at h ⊢
  refine ⟨h.1, ?_⟩
  have h2 := h.2
  rw [Oper.semAt_eq _ _ _ hnd] at h2 ⊢
  generalize (execOp a.eval o).run P w = r at *
  cases r with
  | ok x w' => cases x <;> exact h2
  | halt x w' => cases x <;> exact h2
theorem any_round {F : Fence} {n : Nat} {P : Program} {ops : Array Oper} {Q : Exit → Act → World → Prop} {md : Region.Mode} {k : Nat} (hro : F.round = none) (hnd : Rq.noDefer ops = true) : ∀ (fuel : Nat) (listed : Array Bool) (a : Act) (w : World), wpAnyIn F n P md ops Q fuel listed a w → wpAnyIn (F.inRound k) n P md ops Q fuel listed a w
  | 0, _, _, _, h => h
  | fuel + 1, listed, a, w, h => ⟨h.1, fun i hi => by
      have h1 := wpOpIn_mono (fun a' w' h' => any_round (k := k) hro hnd fuel _ a' w' h') (h.2 i hi)
      unfold wpOpIn at h1 ⊢
      split
      · rename_i e
        simpa [e] using h1
      · rename_i o e
        simp only [e] at h1
        split
        · rename_i hw
          simp only [hw, if_true] at h1
          exact op_round hro (Rq.noDefer_at hnd e) h1
        · rename_i hw
          simp only [hw] at h1
          exact h1⟩
theorem region_round {F : Fence} {n : Nat} {P : Program} {ops : Array Oper} {Q : Exit → Act → World → Prop} {k id : Nat} {a : Act} {w : World} (hro : F.round = none) (hnd : Rq.noDefer ops = true) (hm : P.follows .mixedOrders = true)
    (h : wpAnyIn F n P .any ops Q ops.size (Array.replicate ops.size false) a w.drew) : (Code.region id ops true).wpIn (F.inRound k) n P Q a w :=
  wpIn_region_any hm (any_round hro hnd _ _ _ _ h)
end Rv
end Go.Proofs.YtjbjgceblanhpaaDoor
