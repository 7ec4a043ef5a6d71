/-
  A loop over an iterator that has boxes of its own and writes them: the library's law for a range over a function (wpIn_rangeFunc_ownH), turned so that what is held between rounds may not speak of what the iterator has made.
-/
import Derived.RangeFuncNested
import Derived.OrdersIn
import Derived.Test.YtlckjphnbfahgaaGreatDoorTbKeep
namespace Go.Proofs.YtlckjphnbfahgaaGreatDoor
open Go.RowKit
namespace Rb
/-- what does not speak of the blocks from B on -/
def BelFrom {β : Type} (B : Nat) (J : β → World → Prop) : Prop := ∀ s W W', J s W → B ≤ W.heap.size → Below B W W' → J s W'
/-- an iterator that stops, whose element is valid in the world of its round -/
def SeqStopsB {α : Type} (F : Fence) (n : Nat) (P : Program) (g : Nat) (lb : Array Value) (encs : α → Array Value) (Kp : World → World → Prop) (V : α → World → Prop) (S Sp : List α → Prop) (N : Nat) (w : World) : Prop :=
  ∀ (l : Nat) (J Jx : List α → World → Prop) (W : World), Below w.heap.size w W → w.heap.size + 2 ≤ W.heap.size → BelFrom W.heap.size J → BelFrom W.heap.size Jx →
    (∀ pre x W1, J pre W1 → V x W1 → pre.length < N → YieldAt F (n - 1) P l (encs x) W1 fun e W' =>
      (e = .returned (.bool true) ∧ J (pre ++ [x]) W' ∧ Kp W1 W') ∨ (e = .returned (.bool false) ∧ Jx (pre ++ [x]) W' ∧ Kp W1 W')) →
    J [] W →
    CallsIn F n P g (#[.func (.yield l) #[] #[]] ++ lb) W fun e W' => (∃ v, e = .returned v) ∧ ((∃ xs, S xs ∧ J xs W') ∨ (∃ pre, Sp pre ∧ Jx pre W'))
/-- how the body of a round may be left -/
def ownPostB {α : Type} (B : Nat) (Kp : World → World → Prop) (I : List α → World → Prop) (Ix : Code → List α → World → Prop) (xs : List α) (W : World) : Exit → Act → World → Prop
  | .normal, _, W' => KeepsFrom B W W' ∧ Kp W W' ∧ I xs W'
  | .ret, _, W' => KeepsFrom B W W' ∧ Kp W W' ∧ Ix .ret xs W'
  | .exit id, _, W' => KeepsFrom B W W' ∧ Kp W W' ∧ Ix (.exit id) xs W'
  | .goto t, _, W' => KeepsFrom B W W' ∧ Kp W W' ∧ Ix (.goto t) xs W'
  | .panic _, _, _ => False
  | .outgrown, _, _ => False
variable {F : Fence} {n : Nat} {P : Program} {w : World}
theorem wpIn_rangeB {α : Type} {g : Operand} {ps : Array Tmp} {assign body : Code} {Q : Exit → Act → World → Prop} {a : Act} {w : World}
    (hro : F.round = none) (h1 : 1 ≤ n) {gf : Nat} {lb : Array Value} (hg : a.eval g = .func (.func gf) #[] lb) (hFg : F.fn gf) (eg : ∀ args w, (callFunc gf args).run P w = .ok (.enter gf args) w)
    {encs : α → Array Value} {Kp : World → World → Prop} {V : α → World → Prop} {S Sp : List α → Prop} {N : Nat} {w0 : World} (hseq : SeqStopsB F (n - 1) P gf lb encs Kp V S Sp N w0)
    (hKt : ∀ {A B C : World}, Kp A B → Kp B C → Kp A C) (hKb : ∀ (W : World) (o o' : Obj), W.heap[w.heap.size + 1]? = some o → o.isCells = false → Kp W (W.putObj (w.heap.size + 1) o')) (hb0 : Below w0.heap.size w0 w) (hps : ∀ x, (encs x).size = ps.size)
    (I : List α → World → Prop) (Ix : Code → List α → World → Prop) (hI : OwnFrom w.heap.size I) (hIx : ∀ c, OwnFrom w.heap.size (Ix c)) (hIB : BelFrom (w.heap.size + 2) I) (hIxB : ∀ c, BelFrom (w.heap.size + 2) (Ix c)) (h0 : I [] w) (Ax : List α → α → Act → World → Prop) (hAx : ∀ pre x a', OwnFrom w.heap.size (fun (_ : Unit) W => Ax pre x a' W))
    (hassign : ∀ (l : Nat) (pre : List α) (x : α) (W : World) (K : Act → World → Prop), I pre W → V x W → (∀ a' W', KeepsFrom w.heap.size W W' → Kp W W' → Ax pre x a' W' → K a' W') →
      assign.wpIn (F.inRound l) (n - 1 - 1) P (Exit.then K (fun _ _ _ => False)) { tmps := (ps.zip (encs x)).foldl (fun t (p, v) => t.setIfInBounds p v) a.tmps, defers := [] } W)
    (hbody : ∀ (l : Nat) (pre : List α) (x : α) (a' : Act) (W : World), w.heap.size ≤ l → (∃ r, W.heap[l]? = some (.loop r)) → Ax pre x a' W → pre.length < N → body.wpIn (F.inRound l) (n - 1 - 1) P (ownPostB w.heap.size Kp I Ix (pre ++ [x]) W) a' W)
    (hdone : ∀ (D : Nat) (xs : List α) (W : World), w.heap.size ≤ D → S xs → I xs W → W.heap[D]? = some (.deferred (some [])) → Q .normal { a with defers := { target := .collected D, args := #[] } :: a.defers } W)
    (hstop : ∀ (D : Nat) (c : Code) (pre : List α) (W : World), w.heap.size ≤ D → Sp pre → Ix c pre W → W.heap[D]? = some (.deferred (some [])) → c.wpIn F n P Q { a with defers := { target := .collected D, args := #[] } :: a.defers } W) :
    (Code.rangeFunc g ps assign body).wpIn F n P Q a w := by
  refine wpIn_rangeFunc ?_
  intro fn hfn
  rw [hro]
  obtain ⟨rec, hrec⟩ : ∃ rec : LoopState → Option Code → Loop, rec = fun st pe => { state := st, pending := pe, fn, tmps := a.tmps, params := ps, assign, body, defers := w.heap.size } := ⟨_, rfl⟩
  obtain ⟨U, hU⟩ : ∃ U, (w.alloc (.deferred (some []))).alloc (.loop (rec .ready none)) = U := ⟨_, rfl⟩
  have hs : U.heap.size = w.heap.size + 2 := by rw [← hU]; simp
  have hlr : U.heap[w.heap.size + 1]? = some (.loop (rec .ready none)) := by
    have := World.alloc_heap_new (w.alloc (.deferred (some []))) (.loop (rec .ready none))
    rw [World.size_alloc] at this
    rw [← hU]; exact this
  have hld : U.heap[w.heap.size]? = some (.deferred (some [])) := by
    rw [← hU]; exact (Below.heap_alloc _ _ _ (by simp)).trans (World.alloc_heap_new w _)
  have hbw : Below w.heap.size w U := by rw [← hU]; exact ((Below.refl _ w).alloc (Nat.le_refl _) _).alloc (by simp) _
  have hIU : I [] U := by rw [← hU]; exact hI.alloc _ (hI.alloc _ h0)
  refine ⟨w.heap.size + 1, [{ target := .collected w.heap.size, args := #[] }], U, { target := .fn (.func gf) lb, args := #[.func (.yield (w.heap.size + 1)) #[] #[]] }, U, gf, #[.func (.yield (w.heap.size + 1)) #[] #[]] ++ lb, U, ?_, ?_, ?_, ?_, fun _ => h1, ?_⟩
  · rw [← hU, hrec]; exact run_enterLoop_outer _ _ _ _ _
  · simp only [resolve, hg]
    simp [go_sem]
  · intro f' hf'
    simp [Target.leads] at hf'
    subst hf'
    exact hFg
  · simp [invoke, go_sem, eg]
  refine (hseq (w.heap.size + 1) (fun pre W => (I pre W ∧ W.heap[w.heap.size + 1]? = some (.loop (rec .ready none))) ∧ W.heap[w.heap.size]? = some (.deferred (some [])))
    (fun pre W => ∃ c, (Ix c pre W ∧ W.heap[w.heap.size + 1]? = some (.loop (rec .done (some c)))) ∧ W.heap[w.heap.size]? = some (.deferred (some []))) U (hb0.trans (hbw.mono hb0.size)) (by have := hb0.size; omega)
    (fun s A B h hle hb => ⟨⟨hIB s A B h.1.1 (by omega) (hb.mono (by omega)), (hb.block _ (by omega)).trans h.1.2⟩, (hb.block _ (by omega)).trans h.2⟩)
    (fun s A B h hle hb => by
      obtain ⟨c, ⟨h2, h3⟩, h4⟩ := h
      exact ⟨c, ⟨hIxB c s A B h2 (by omega) (hb.mono (by omega)), (hb.block _ (by omega)).trans h3⟩, (hb.block _ (by omega)).trans h4⟩)
    ?_ ⟨⟨hIU, hlr⟩, hld⟩).mono ?_
  · rintro pre x X ⟨⟨hi, hl⟩, hd⟩ hv hlen
    have hy := run_yield (P := P) (args := encs x) hl (by rw [hrec]; exact hps x)
    rw [hrec] at hy
    refine ⟨fn, _, assign, body, hy, roundIn_of_wpIn hfn (hassign _ pre x X _ hi hv ?_)⟩
    intro a' Y hkf hkp hax
    have hl2 : Y.heap[w.heap.size + 1]? = some (.loop (rec .ready none)) := hkf.same _ _ (by omega) hl rfl
    have hd2 : Y.heap[w.heap.size]? = some (.deferred (some [])) := hkf.same _ _ (Nat.le_refl _) hd rfl
    have hlt2 := (Array.getElem?_eq_some_iff.1 hl2).1
    refine ⟨_, run_beginRound hl2 (by rw [hrec]), ?_⟩
    obtain ⟨busy, hbusy⟩ : ∃ b : Obj, b = .loop { rec .ready none with state := .busy } := ⟨_, rfl⟩
    rw [← hbusy]
    have hl3 : (Y.putObj (w.heap.size + 1) busy).heap[w.heap.size + 1]? = some busy := World.putObj_heap_same hlt2
    have hd3 : (Y.putObj (w.heap.size + 1) busy).heap[w.heap.size]? = some (.deferred (some [])) := (World.putObj_heap_other (by omega)).trans hd2
    have hk3 : Kp Y (Y.putObj (w.heap.size + 1) busy) := hKb _ _ _ hl2 rfl
    refine wpIn_mono (hbody _ pre x a' _ (by omega) ⟨_, hl3.trans (by rw [hbusy])⟩ ((hAx pre x a').putObj (s := ()) _ hax (by omega) hl2 rfl) hlen) ?_
    have fin : ∀ (jump : Option Code) (Z : World), KeepsFrom w.heap.size (Y.putObj (w.heap.size + 1) busy) Z →
        (Instr.endRound (w.heap.size + 1) jump).run P Z = .ok (.bool jump.isNone) (Z.putObj (w.heap.size + 1) (.loop (rec (if jump.isNone then .ready else .done) jump))) ∧ Z.heap[w.heap.size + 1]? = some busy ∧
        (Z.putObj (w.heap.size + 1) (.loop (rec (if jump.isNone then .ready else .done) jump))).heap[w.heap.size + 1]? = some (.loop (rec (if jump.isNone then .ready else .done) jump)) ∧
        (Z.putObj (w.heap.size + 1) (.loop (rec (if jump.isNone then .ready else .done) jump))).heap[w.heap.size]? = some (.deferred (some [])) := fun jump Z hz => by
      have h4 : Z.heap[w.heap.size + 1]? = some busy := hz.same _ _ (by omega) hl3 (by rw [hbusy]; rfl)
      have h5 := run_endRound (P := P) jump (h4.trans (by rw [hbusy]))
      rw [hrec] at h5 ⊢
      exact ⟨h5, h4, World.putObj_heap_same (Array.getElem?_eq_some_iff.1 h4).1, (World.putObj_heap_other (by omega)).trans (hz.same _ _ (Nat.le_refl _) hd3 rfl)⟩
    have hbc : busy.isCells = false ∧ True := by rw [hbusy]; exact ⟨rfl, trivial⟩
    intro e a3 Z hp
    cases e with
    | normal =>
      obtain ⟨h4, h5, h6⟩ := hp
      obtain ⟨g1, g2, g3, g4⟩ := fin none Z h4
      exact ⟨_, _, g1, .inl ⟨rfl, ⟨⟨hI.putObj _ h6 (by omega) g2 hbc.1, g3⟩, g4⟩, hKt hkp (hKt (hKt hk3 h5) (hKb _ _ _ g2 hbc.1))⟩⟩
    | ret =>
      obtain ⟨h4, h5, h6⟩ := hp
      obtain ⟨g1, g2, g3, g4⟩ := fin (some .ret) Z h4
      exact ⟨_, _, g1, .inr ⟨rfl, ⟨.ret, ⟨(hIx _).putObj _ h6 (by omega) g2 hbc.1, g3⟩, g4⟩, hKt hkp (hKt (hKt hk3 h5) (hKb _ _ _ g2 hbc.1))⟩⟩
    | exit id =>
      obtain ⟨h4, h5, h6⟩ := hp
      obtain ⟨g1, g2, g3, g4⟩ := fin (some (.exit id)) Z h4
      exact ⟨_, _, g1, .inr ⟨rfl, ⟨.exit id, ⟨(hIx _).putObj _ h6 (by omega) g2 hbc.1, g3⟩, g4⟩, hKt hkp (hKt (hKt hk3 h5) (hKb _ _ _ g2 hbc.1))⟩⟩
    | goto t =>
      obtain ⟨h4, h5, h6⟩ := hp
      obtain ⟨g1, g2, g3, g4⟩ := fin (some (.goto t)) Z h4
      exact ⟨_, _, g1, .inr ⟨rfl, ⟨.goto t, ⟨(hIx _).putObj _ h6 (by omega) g2 hbc.1, g3⟩, g4⟩, hKt hkp (hKt (hKt hk3 h5) (hKb _ _ _ g2 hbc.1))⟩⟩
    | panic ch => exact hp.elim
    | outgrown => exact hp.elim
  · rintro e X ⟨⟨v, rfl⟩, ⟨xs, hS, ⟨hi, hl⟩, hd⟩ | ⟨pre, hS, c, ⟨hi, hl⟩, hd⟩⟩
    · have h5 := run_endLoop (P := P) hl (by rw [hrec]; simp)
      rw [hrec] at h5
      exact ⟨none, _, h5, hdone _ xs _ (Nat.le_refl _) hS (hI.putObj _ hi (by omega) hl rfl) ((World.putObj_heap_other (by omega)).trans hd)⟩
    · have h5 := run_endLoop (P := P) hl (by rw [hrec]; simp)
      rw [hrec] at h5
      exact ⟨some c, _, h5, hstop _ c pre _ (Nat.le_refl _) hS ((hIx c).putObj _ hi (by omega) hl rfl) ((World.putObj_heap_other (by omega)).trans hd)⟩
end Rb
end Go.Proofs.YtlckjphnbfahgaaGreatDoor
