/-
  table.All: the globals, one after another.
-/
import Derived.Test.YtihfflinkmceaaaTbAllP
namespace Go.Proofs.Ytihfflinkmceaaa
open Go.RowKit Go.Maps Go.Sort Go.Shelf
attribute [local go_sem] Oper.semAt_some
set_option maxRecDepth 100000 in
theorem lenStr (base : Option Addr) (n c : Nat) (w : World) : (Builtin.len_ #[76] 3 #[.slice base n c]).run Try.prog w = .ok (goInt n) w := run_len_slice (P := Try.prog) (w := w) 76 3 base n c rfl
attribute [local go_sem] lenStr
set_option maxRecDepth 100000 in
set_option maxHeartbeats 8000000 in
theorem All1_in (nf : Nat) (hnf : 2 ≤ nf) (l Bs B T n lo hi : Nat) (M : Nat → Nat) (L : List (Tb.Nm × Tb.V)) (J Jx : List (Tb.Nm × Tb.V) → World → Prop) (W : World)
    (hJ : AbidesFrom W.heap.size J)
    (hY : ∀ pre x W1, J pre W1 → pre.length < L.length → YieldAt Fence.wide (nf - 1) Try.prog l (Tb.encG x) W1 fun e W' =>
      (e = .returned (.bool true) ∧ J (pre ++ [x]) W' ∧ Tb.KpM B W1 W') ∨ (e = .returned (.bool false) ∧ Jx (pre ++ [x]) W'))
    (hT : Tb.Tab W T n lo hi M L) (hBs : W.cell? ⟨Bs, 0, none⟩ = some (.pointer (some ⟨T, 0, none⟩))) (hB : W.cell? ⟨B, 0, none⟩ = some (.slice none 0 0)) (hBl : B < W.heap.size) (hTB : T ≠ B) (hBB : Bs ≠ B)
    (hnm : ∀ p ∈ L, p.1.length ≤ 1000) (h0 : J [] W) :
    CallsIn Fence.wide nf Try.prog 29 #[.func (.yield l) #[] #[], .pointer (some ⟨Bs, 0, none⟩)] W fun e W' => (∃ v, e = .returned v) ∧
      ((∃ ys, ys = L ∧ J ys W') ∨ (∃ pre, pre <+: L ∧ Jx pre W')) := by
  refine callsIn_of_wp Try.func29 rfl trivial ?_ rfl
  simp only [Try.ntmps29, List.size_toArray, List.length_cons, List.length_nil, Nat.reduceAdd, Nat.reduceSub, Array.replicate_succ, Array.replicate_zero, List.push_toArray, List.append_toArray, List.nil_append, List.cons_append]
  have hn1 : 1 ≤ nf := by omega
  have k1 := hT.n1
  have k16 := hT.n16
  have kl := hT.len
  have c0 := hT.c0
  have HT := Lib.hid hT
  have HBX := Lib.hid hBs
  gi_wp2_with (refine ⟨trivial, ?_⟩; gi_at_call 24; refine (callsIn_wide.2 (none_yes T n W c0 k1)).mono ?_; rintro e w2 ⟨rfl, rfl⟩)
  clear hT hBs c0
  gi_loopw [3, 13] (fun vn vi wr => ∃ (k : Nat) (cs : List (List UInt8)), vi = .int .i64 k ∧ k ≤ n ∧ Hid (wr.ownsRow W.heap.size 9 1 vn cs.length (cs.map encStr)) ∧ Hid (cs.Nodup ∧ ∀ s, s ∈ cs ↔ ((Tb.look L s).isSome = true ∧ Tb.shard n s < k)) ∧ cs.length ≤ 4096 * k ∧ Hid (Below W.heap.size W wr)) (fun _ vi _ => n - (intOf vi).toNat)
  case atStart => exact ⟨0, [], rfl, by omega, World.ownsRow_nil _ _ _ _, ⟨List.nodup_nil, fun s => by simp⟩, by simp, Below.refl _ _⟩
  case round =>
    obtain ⟨k, cs, rfl, hk, HR, HC, hcl, HB⟩ := hrel
    by_cases hlt : k < n
    · have hlti : (k : Int) < (n : Int) := by omega
      have hk16 : (k : Int) < 16 := by omega
      have b0 := (HB.out.cell (p := ⟨Bs, 0, none⟩) (block_lt_of_cell HBX.out)).trans HBX.out
      have HTw := Lib.hid (HT.out.below HB.out)
      have cm := HTw.out.cl k hlt
      obtain ⟨kk, hkk, D0, ho, hD, hg⟩ := HTw.out.mp k hlt
      have hbb : Below wr.heap.size wr (wr.alloc (.cells #[.map (some (M k))] 30)) := (Below.refl _ wr).alloc (Nat.le_refl _) _
      have hbc : (wr.alloc (.cells #[.map (some (M k))] 30)).cell? ⟨wr.heap.size, 0, none⟩ = some (.map (some (M k))) := by
        unfold World.cell?; rw [World.alloc_heap_new]; rfl
      have hA := AppendSeq_any W.heap.size u3 cs wr.heap.size (M k) kk D0 (wr.alloc (.cells #[.map (some (M k))] 30)) (Nat.le_trans HB.out.size hbb.size) (HR.out.alloc _) (by simp) hbc (ho.alloc _) (by omega)
      have HBb := Lib.hid (HB.out.trans (hbb.mono HB.out.size))
      clear hbb hbc
      gi_wp2_with (first | (refine ⟨trivial, ?_⟩; gi_at_call 31; refine (callsIn_wide.2 (Keys_any (M k) wr)).mono ?_; rintro e w2 ⟨rfl, rfl⟩) | (refine ⟨trivial, ?_⟩; gi_at_call 30; refine (callsIn_wide.2 hA).mono ?_; clear hA; rintro e w3 ⟨v', ks, rfl, ⟨hk1, hk2, hk3⟩, hr3, hb3⟩))
      go_roundw
      case rel =>
        refine ⟨k + 1, cs ++ ks, by simp, by omega, hr3, Tb.collect HC.out ⟨hk1, fun s => ?_⟩, by rw [List.length_append]; omega, HBb.out.trans hb3⟩
        rw [hk3 s]
        exact Bool.eq_iff_iff.1 (hg s).1
      case measure => simp [intOf]; omega
    · obtain rfl : k = n := by omega
      clear hlt hk
      have hcs : cs.mergeSort leB = L.map (·.1) := Tb.names_sorted HT.out.rise HC.out.1 (fun s => (HC.out.2 s).trans ⟨fun h => h.1, fun h => ⟨h, Tb.shard_lt k1 s⟩⟩)
      have hcl2 : cs.length = L.length := by rw [← List.length_mergeSort (le := leB) cs, hcs, List.length_map]
      have hS := Sort_any W.heap.size u3 cs wr HB.out.size HR.out (by omega)
      rw [hcs, hcl2] at hS
      clear hcs hcl hcl2 HC
      gi_wp2_with (refine ⟨trivial, ?_⟩; gi_at_call 32; refine (callsIn_wide.2 hS).mono ?_; clear hS; rintro e w3 ⟨rfl, hr3, hb3⟩)
      have HB3 := Lib.hid (HB.out.trans hb3)
      have HT3 := Lib.hid (HT.out.below HB3.out)
      have hJ3 := hJ [] W w3 none h0 (Tb.grown_of HB3.out) (by simp)
      have hbB := HB3.out.cell (p := ⟨B, 0, none⟩) hBl
      have hr0 : Tb.rowOf w3 B = none := by unfold Tb.rowOf; rw [hbB, hB]; rfl
      have hbs3 := (HB3.out.cell (p := ⟨Bs, 0, none⟩) (block_lt_of_cell HBX.out)).trans HBX.out
      have hs3 := HB3.out.size
      clear hb3 HB HT HR
      rcases hr3.2 with ⟨rfl, hz⟩ | ⟨g, cap, cur, rfl, hbg, hgh, hc1, hc2, hc3, hc4⟩
      · have hL0 : L = [] := List.eq_nil_of_length_eq_zero hz
        subst hL0
        simp only [lenStr]
        gi_wp2
        gi_loopw [30] (fun vi wr => vi = .int .i64 0 ∧ J [] wr) (fun _ _ => 0)
        case atStart => exact ⟨rfl, hJ3⟩
        case round =>
          obtain ⟨rfl, hJs⟩ := hrel
          gi_wp2
          go_end0
          exact ⟨⟨_, rfl⟩, .inl ⟨_, rfl, hJs⟩⟩
      · have HS : Hid (Tb.AllSt w3 B T k lo hi M L Bs g) := ⟨HT3.out, hbs3, ⟨cur, _, hgh, by rw [Nat.mul_one] at hc4; exact hc4⟩, ⟨hTB, hBB, by omega⟩, ⟨by rw [hr0]; simp, by rw [hr0]; simp, by rw [hr0]; simp⟩, by omega⟩
        clear hr3 hc1 hc2 hc3 hc4 hgh hr0 hbs3 hbB hB HBX HT3
        simp only [lenStr]
        gi_wp2
        gi_loopw [30] (fun vi wr => ∃ q : Nat, q ≤ L.length ∧ vi = .int .i64 q ∧ J (L.take q) wr ∧ Hid (Tb.AllSt wr B T k lo hi M L Bs g) ∧ W.heap.size ≤ wr.heap.size) (fun vi _ => L.length - (intOf vi).toNat)
        case atStart => exact ⟨0, by omega, rfl, hJ3, HS, hs3⟩
        case round =>
          obtain ⟨q, hq, rfl, hJs, HQ, hws⟩ := hrel
          clear HS hJ3 HB3 hs3
          by_cases hlt : q < L.length
          · have hlti : (q : Int) < (L.length : Int) := by omega
            have gname := HQ.out.name q hlt
            have gbox := HQ.out.box
            have hlk := Tb.look_at HQ.out.tab.rise q hlt
            obtain ⟨p, hp⟩ : ∃ p, L[q] = p := ⟨_, rfl⟩
            have hpz := hnm p (by rw [← hp]; exact List.getElem_mem hlt)
            rw [hp] at gname hlk
            obtain ⟨s, hs⟩ : ∃ s, s = (⟨p.1.toArray⟩ : ByteArray) := ⟨_, rfl⟩
            have hsl : s.data.toList = p.1 := by rw [hs]
            have hsz : s.size ≤ 1000 := by rw [← Fx.size_toList, hsl]; exact hpz
            rw [← hs] at gname
            have hof := of_any s wr HQ.out.tab hsz
            obtain ⟨b, hb⟩ : ∃ b, b = M (Tb.shard k s.data.toList) := ⟨_, rfl⟩
            rw [← hb] at hof
            have HP := Lib.hid hp
            have HS2 := Lib.hid hs
            have HSL := Lib.hid hsl
            have HBB := Lib.hid hb
            have HLK := Lib.hid hlk
            have HNM := Lib.hid hnm
            clear hp hs hsl hb hlk hpz
            have HY := Lib.hid (fun w4 (h4 : Below wr.heap.size wr w4) => (show ∃ fn tmps assign body, (Instr.yield l #[.string s, .agg #[.int .i64 p.2.1, .int .i64 p.2.2]]).run Try.prog w4 = .ok (.round l fn tmps assign body) w4 ∧ RoundIn Fence.wide (nf - 1) Try.prog l fn tmps assign body w4 (fun e W' => (e = .returned (.bool true) ∧ J (L.take q ++ [p]) W' ∧ Tb.KpM B w4 W') ∨ (e = .returned (.bool false) ∧ Jx (L.take q ++ [p]) W')) from by
              have hJ4 := hJ _ _ w4 none hJs (Tb.grown_of h4) (by simp)
              obtain ⟨fn, tmps, assign, body, hy, hR⟩ := hY (L.take q) p w4 hJ4 (by rw [List.length_take]; omega)
              refine ⟨fn, tmps, assign, body, ?_, hR⟩
              rw [HS2.out]
              exact hy))
            have HG := Lib.hid (fun w4 (h4 : Below wr.heap.size wr w4) => (show (Instr.lookup 30 (.map (some b)) (.string s) false).run Try.prog w4 = .ok (.agg #[.int .i64 p.2.1, .int .i64 p.2.2]) w4 from by
              rw [HBB.out]
              exact (HQ.out.tab.below h4).get1 hsz (by rw [HSL.out]; exact HLK.out)))
            clear hnm
            gi_wp2_with (refine ⟨trivial, ?_⟩; gi_at_call 26; refine (callsIn_wide.2 hof).mono ?_; clear hof; rintro e w4 ⟨rfl, hb4⟩; have hget := HG.out w4 hb4; obtain ⟨fn, tmps, assign, body, hy, hR⟩ := HY.out w4 hb4)
            refine hR.mono ?_
            rintro e W5 (⟨rfl, hJ5, hk5⟩ | ⟨rfl, hJx5⟩)
            · have HQ5 := Lib.hid ((HQ.out.below hb4).next hk5)
              have hs5 := Nat.le_trans hb4.size hk5.size
              have htk : L.take (q + 1) = L.take q ++ [p] := by rw [List.take_add_one, List.getElem?_eq_getElem hlt, HP.out]; rfl
              have HTK := Lib.hid htk
              clear htk hget hy hR hb4 hk5
              gi_wp2
              go_roundw
              case rel => exact ⟨q + 1, by omega, by simp, by rw [HTK.out]; exact hJ5, HQ5, by omega⟩
              case measure => simp [intOf]; omega
            · clear hget hy hR hb4
              gi_wp2
              refine bodyPost_ret (results_none rfl _ _ _) rfl ?_
              exact ⟨⟨_, rfl⟩, .inr ⟨_, ⟨L.drop (q + 1), by rw [← HP.out]; exact Tb.take_app_drop L q hlt⟩, hJx5⟩⟩
          · obtain rfl : q = L.length := by omega
            gi_wp2
            go_end0
            exact ⟨⟨_, rfl⟩, .inl ⟨_, List.take_length, hJs⟩⟩
end Go.Proofs.Ytihfflinkmceaaa
