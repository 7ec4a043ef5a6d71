/-
  scope.Table.up: a scope and those that it stands within, whatever the rounds do with other memory.
-/
import Derived.Test.YtjbjgceblanhpaaDoorSpNamesP
namespace Go.Proofs.YtjbjgceblanhpaaDoor
open Go.RowKit Go.Shelf
attribute [local go_sem] Oper.semAt_some
namespace Sp
/-- what the closure of up reads -/
structure UpAt (W : World) (Bs Bt T s : Nat) (t : Tbl) : Prop where
  bs : W.cell? ⟨Bs, 0, none⟩ = some (.int .i64 s)
  bt : W.cell? ⟨Bt, 0, none⟩ = some (.pointer (some ⟨T, 0, none⟩))
  row : ∃ g c, W.cell? ⟨T, 0, none⟩ = some (.slice (some ⟨g, 0, none⟩) t.l.length c) ∧ ∀ q b, t.l[q]? = some b → W.cell? ⟨g, q * 10, none⟩ = some (.int .i64 b.inn)
theorem Tab.up {w : World} {base T mb : Nat} {vl : Value} {xs : List B} {t : Tbl} (h : Tab w base T vl mb xs t) : ∃ g c, w.cell? ⟨T, 0, none⟩ = some (.slice (some ⟨g, 0, none⟩) t.l.length c) ∧ ∀ q b, t.l[q]? = some b → w.cell? ⟨g, q * 10, none⟩ = some (.int .i64 b.inn) := by
  obtain ⟨g, c, e1, e2, e3, e4, e5, e6⟩ := h.at
  refine ⟨g, c, by rw [h.c0, e1], fun q b hb => ?_⟩
  have hql : q < xs.length := by rw [h.len]; exact (List.getElem?_eq_some_iff.1 hb).1
  have hc := e6 q hql 0 (by omega)
  have h2 : (xs.map Sp.B.b)[q]? = some xs[q].b := by rw [List.getElem?_map, List.getElem?_eq_getElem hql]; rfl
  rw [h.xb, hb] at h2
  cases h2
  rw [Nat.add_zero] at hc
  rw [hc]
  rfl
end Sp
set_option maxRecDepth 100000 in
set_option maxHeartbeats 8000000 in
theorem spUp1_gen (n : Nat) (hn : 2 ≤ n) (l Bs Bt T : Nat) {t : Sp.Tbl} (hok : t.Ok) (s N : Nat) (hs : s < t.l.length) (hN : s ≤ N) (Kp : World → World → Prop) (Inv : World → Prop) (hk : ∀ W W', Inv W → Kp W W' → Inv W') (hc : ∀ W, Inv W → Sp.UpAt W Bs Bt T s t)
    (J Jx : List (Sp.Sc t) → World → Prop) (W : World) (hW : Inv W)
    (hY : ∀ (pre : List (Sp.Sc t)) (x : Sp.Sc t) W1, J pre W1 → pre.length < N → YieldAt Fence.wide (n - 1) Tryd.prog l #[.int .i64 (x.1 : Int)] W1 fun e W' =>
      (e = .returned (.bool true) ∧ J (pre ++ [x]) W' ∧ Kp W1 W') ∨ (e = .returned (.bool false) ∧ Jx (pre ++ [x]) W'))
    (h0 : J [] W) :
    CallsIn Fence.wide n Tryd.prog 44 #[.func (.yield l) #[] #[], .pointer (some ⟨Bs, 0, none⟩), .pointer (some ⟨Bt, 0, none⟩)] W fun e W' => (∃ v, e = .returned v) ∧
      ((∃ ys : List (Sp.Sc t), ys.map Subtype.val = Sp.ups t.l s ∧ J ys W') ∨ (∃ pre : List (Sp.Sc t), pre.map Subtype.val <+: Sp.ups t.l s ∧ Jx pre W')) := by
  refine callsIn_of_wp Tryd.func44 rfl trivial ?_ rfl
  simp only [Tryd.ntmps44, List.size_toArray, List.length_cons, List.length_nil, Nat.reduceAdd, Nat.reduceSub, Array.replicate_succ, Array.replicate_zero, List.push_toArray, List.append_toArray, List.nil_append, List.cons_append]
  have hn1 : 1 ≤ n := by omega
  have b0 := (hc W hW).bs
  have HT := Lib.hid hok
  have HW := Lib.hid hW
  have HL := Lib.hid (Sp.ups_len hok s hs)
  have HK := Lib.hid hk
  have HC := Lib.hid hc
  clear hok hW hk hc
  gi_wp2
  clear b0
  gi_loopw [4] (fun v wr => ∃ (pre : List (Sp.Sc t)) (q : Nat), v = .int .i64 q ∧ q < t.l.length ∧ Hid (pre.map Subtype.val ++ Sp.ups t.l q = Sp.ups t.l s) ∧ J pre wr ∧ Hid (Inv wr)) (fun v _ => (intOf v).toNat)
  case atStart => exact ⟨[], s, rfl, hs, rfl, h0, HW⟩
  case round =>
    obtain ⟨pre, q, rfl, hq, HP, hJs, HB⟩ := hrel
    by_cases hz : q = 0
    · subst hz
      have HE : Hid (pre.map Subtype.val = Sp.ups t.l s) := by show _ = _; rw [← HP.out, Sp.ups_zero, List.append_nil]
      gi_wp2
      go_end0
      exact ⟨⟨_, rfl⟩, .inl ⟨pre, HE.out, hJs⟩⟩
    · have hqi : ((q : Int) != 0) = true := by simpa using hz
      have hb := List.getElem?_eq_getElem hq
      obtain ⟨b, hbb⟩ : ∃ b, b = t.l[q] := ⟨_, rfl⟩
      rw [← hbb] at hb
      have hlt := (HT.out.inn q b hb (by omega)).1
      have HQ : Hid ((pre ++ [(⟨q, hq⟩ : Sp.Sc t)]).map Subtype.val ++ Sp.ups t.l b.inn = Sp.ups t.l s) := by show _ = _; rw [List.map_append, List.append_assoc, ← HP.out, Sp.ups_step HT.out hz hb]; rfl
      have hpl : pre.length < N := by
        have := congrArg List.length HP.out
        rw [Sp.ups_step HT.out hz hb] at this
        simp at this
        have := HL.out
        omega
      obtain ⟨fn, tmps, assign, body, hy, hR⟩ := hY pre ⟨q, hq⟩ wr hJs hpl
      have HBQ : Hid (∃ c, c = t.l[q]) := ⟨_, rfl⟩
      have HX : Hid (∀ W3, Inv W3 → ∃ g c, W3.cell? ⟨g, q * 10, none⟩ = some (.int .i64 b.inn) ∧ W3.cell? ⟨T, 0, none⟩ = some (.slice (some ⟨g, 0, none⟩) t.l.length c) ∧ W3.cell? ⟨Bt, 0, none⟩ = some (.pointer (some ⟨T, 0, none⟩))) := by
        intro W3 h3
        obtain ⟨_, h4, g, c, h5, h6⟩ := HC.out W3 h3
        exact ⟨g, c, h6 q b hb, h5, h4⟩
      clear hb hbb HP
      gi_wp2
      refine hR.mono ?_
      rintro e W3 (⟨rfl, hJ3, hk3⟩ | ⟨rfl, hJx3⟩)
      · have HB3 := Lib.hid (HK.out _ _ HB.out hk3)
        obtain ⟨g, c, q1, q2, q3⟩ := HX.out W3 HB3.out
        have hq0 : (0 : Int) ≤ (q : Int) := by omega
        clear HX hk3
        gi_wp2
        go_roundw
        case rel => exact ⟨pre ++ [(⟨q, hq⟩ : Sp.Sc t)], b.inn, by simp, by omega, HQ, hJ3, HB3⟩
        case measure => simp [intOf]; omega
      · gi_wp2
        refine bodyPost_ret (results_none rfl _ _ _) rfl ?_
        exact ⟨⟨_, rfl⟩, .inr ⟨pre ++ [(⟨q, hq⟩ : Sp.Sc t)], ⟨Sp.ups t.l b.inn, HQ.out⟩, hJx3⟩⟩
theorem spUp_gen (n : Nat) (hn : 2 ≤ n) (Bs Bt T : Nat) (w : World) {t : Sp.Tbl} (hok : t.Ok) (s : Nat) (hs : s < t.l.length) (Kp : World → World → Prop) (Inv : World → Prop) (h0 : Inv w) (hb : ∀ W W', Inv W → Below W.heap.size W W' → Inv W') (hk : ∀ W W', Inv W → Kp W W' → Inv W') (hc : ∀ W, Inv W → Sp.UpAt W Bs Bt T s t) :
    SeqStopsK Fence.wide n Tryd.prog 44 #[.pointer (some ⟨Bs, 0, none⟩), .pointer (some ⟨Bt, 0, none⟩)] (fun x : Sp.Sc t => #[.int .i64 (x.1 : Int)]) Kp (fun ys => ys.map Subtype.val = Sp.ups t.l s) (fun pre => pre.map Subtype.val <+: Sp.ups t.l s) s w := fun l J Jx W hW _ _ hY h0' =>
  spUp1_gen n hn l Bs Bt T hok s s hs (Nat.le_refl _) Kp Inv hk hc J Jx W (hb _ _ h0 hW) hY h0'
end Go.Proofs.YtjbjgceblanhpaaDoor
