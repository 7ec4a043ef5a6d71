/-
  The walk of TableMap.
-/
import Derived.Test.YtihfflinkmceaaaTbLawA
import Derived.Deep.RegionHeld3
namespace Go.Proofs.Ytihfflinkmceaaa
open Go.RowKit Go.Maps Go.WideMaps Go.Sort
namespace Tb
theorem defr_yes {L : List (Nm × V)} {s : Nm} (v : V) (h : defr L s = (0, 0)) : defL L s v = put L s v ∧ Lx.symbol s = true := by
  unfold defr at h
  unfold defL
  cases hy : Lx.symbol s
  · rw [hy] at h; cases h
  · rw [hy] at h
    refine ⟨?_, rfl⟩
    cases hs : (look L s).isSome
    · rw [hs] at h
      by_cases hl : 4096 ≤ L.length
      · simp [hl] at h
      · simp [hl]
    · simp
theorem defr_no {L : List (Nm × V)} {s : Nm} (v : V) (h : defr L s ≠ (0, 0)) : defL L s v = L := by
  unfold defr at h
  unfold defL
  cases hy : Lx.symbol s
  · rfl
  · rw [hy] at h
    cases hs : (look L s).isSome
    · rw [hs] at h
      by_cases hl : 4096 ≤ L.length
      · simp [hl]
      · simp [hl] at h
    · rw [hs] at h; simp at h
theorem asr_yes {L : List (Nm × V)} {s : Nm} (v : V) (h : asr L s = (0, 0)) : asL L s v = put L s v ∧ Lx.symbol s = true := by
  unfold asr at h
  unfold asL
  split at h
  · rename_i hc
    rw [if_pos hc]
    exact defr_yes v h
  · rename_i hc
    refine absurd ?_ hc
    simp only [Prod.mk.injEq] at h
    exact ⟨h.2, h.1⟩
theorem asr_no {L : List (Nm × V)} {s : Nm} (v : V) (h : asr L s ≠ (0, 0)) : asL L s v = L := by
  unfold asr at h
  unfold asL
  split at h
  · rename_i hc
    rw [if_pos hc]
    exact defr_no v h
  · rename_i hc
    rw [if_neg hc]
/-- every name that is held is a symbol -/
def Good (L : List (Nm × V)) : Prop := ∀ s, (look L s).isSome = true → Lx.symbol s = true
theorem Good.put {L : List (Nm × V)} (h : Good L) {s : Nm} (v : V) (hs : Lx.symbol s = true) : Good (put L s v) := fun z hz => by
  by_cases e : z = s
  · rw [e]; exact hs
  · rw [look_put_other _ _ _ _ e] at hz; exact h z hz
theorem prim_symbol (s : Nm) (p : Nat) (h : prim s = some p) : Lx.symbol s = true := by
  have hall : prims.all (fun p => Lx.symbol p.2.1) = true := by decide +kernel
  unfold prim at h
  cases hf : prims.find? fun p => p.2.1 == s with
  | none => rw [hf] at h; cases h
  | some q =>
    have h1 := List.find?_some hf
    have h2 := List.mem_of_find?_eq_some hf
    have h3 := List.all_eq_true.1 hall q h2
    have h4 : q.2.1 = s := by simpa using h1
    rw [← h4]; exact h3
theorem get_some {L : List (Nm × V)} (hG : Good L) {s : Nm} {v : V} (h : look L s = some v) : get L s = (v, 0, 0) := by
  unfold get
  rw [hG s (by rw [h]; rfl), h]; rfl
theorem get_prim {L : List (Nm × V)} {s : Nm} {p : Nat} (h : look L s = none) (hp : prim s = some p) : get L s = ((6, (p : Int)), 0, 0) := by
  unfold get
  rw [prim_symbol s p hp, h, hp]; rfl
theorem get_none {L : List (Nm × V)} {s : Nm} (h : look L s = none) (hp : prim s = none) : get L s = ((0, 0), 3, 0) ∨ get L s = ((0, 0), 0, 180) := by
  unfold get
  cases hy : Lx.symbol s
  · exact .inr rfl
  · rw [h, hp]; exact .inl rfl
/-- the map beside the table, behind a store -/
theorem Mp.put {w : World} {b : Nat} {L : List (Nm × V)} (h : Mp w b L.length (look L)) (hr : Rising L) (h4 : L.length ≤ 4096) {s : ByteArray} (hs : s.size ≤ 1000) (v : V) :
    ∃ w', (Instr.mapUpdate 30 (.map (some b)) (.string s) (.agg #[.int .i64 v.1, .int .i64 v.2])).run Try.prog w = .ok () w' ∧ Mp w' b (put L s.data.toList v).length (look (put L s.data.toList v)) ∧ w.grownBy w' (some b) := by
  obtain ⟨w', hrun, hm, ht⟩ := h.set (by unfold maxLen; omega) (s := s) (by unfold maxLen; omega) v
  rw [upd_look, ← length_put hr] at hm
  exact ⟨w', hrun, hm, ht.grown⟩
theorem grown {w w' : World} (h : Below w.heap.size w w') : w.grownBy w' none := ⟨h.os, h.tape, h.output, h.size, fun k hk _ => h.block k hk⟩
theorem three_new (w : World) (x y z : Value) : (w.alloc (.cells #[x, y, z] 33)).cell? ⟨w.heap.size, 0, none⟩ = some x ∧ (w.alloc (.cells #[x, y, z] 33)).cell? ⟨w.heap.size, 1, none⟩ = some y ∧ (w.alloc (.cells #[x, y, z] 33)).cell? ⟨w.heap.size, 2, none⟩ = some z := by
  have h := World.alloc_heap_new w (.cells #[x, y, z] 33)
  exact ⟨by unfold World.cell?; rw [h]; rfl, by unfold World.cell?; rw [h]; rfl, by unfold World.cell?; rw [h]; rfl⟩
theorem Row.at_ {w : World} {a : Option Addr} {m c : Nat} {l : List O} (h : Row w (.slice a m c) l) (_hl : l.length = m) (k : Nat) (hk : k < l.length) :
    ∃ b o, a = some ⟨b, o, none⟩ ∧ w.cell? ⟨b, o + k * 3, none⟩ = some (.int .i64 l[k].d) ∧ w.cell? ⟨b, o + k * 3 + 1, none⟩ = some (.string l[k].s) ∧ w.cell? ⟨b, o + k * 3 + 2, none⟩ = some (.int .i64 l[k].n) := by
  obtain ⟨_, _, he, _, h3⟩ := h
  cases he
  obtain ⟨b, o, h4, _, h6⟩ := h3 (fun h0 => by subst h0; simp at hk)
  obtain ⟨c0, c1, c2⟩ := h6 k hk
  exact ⟨b, o, h4, c0, c1, c2⟩
theorem Mp.keep {w w' : World} {b k : Nat} {g : Ctx} {S : Nat → Prop} (h : Mp w b k g) (hk : Keep S w w') (hS : ¬ S b) : Mp w' b k g := by
  have hlt := h.lt
  obtain ⟨D, ⟨es, clock, e1, e2⟩, h2⟩ := h
  exact ⟨D, ⟨es, clock, (hk.block b hlt hS).trans e1, e2⟩, h2⟩
theorem keep_grown {w w' : World} {b : Nat} (h : w.grownBy w' (some b)) : Keep (fun k => k = b) w w' := ⟨h.os, h.tape, h.output, h.size, fun k hk hn => h.block k hk (fun e => hn (by cases e; rfl))⟩
theorem dr {w w' : World} (h : Below w.drew.heap.size w.drew w') : Below w.heap.size w w' := ((Below.refl _ w).drew).trans h
theorem bch {w w1 w2 : World} (h : Below w.heap.size w w1) (k : Below w1.heap.size w1 w2) : Below w.heap.size w w2 := h.trans (k.mono h.size)
end Tb
set_option maxRecDepth 100000 in
set_option maxHeartbeats 8000000 in
theorem TableMap_walk (sh : Int) (l : List Tb.O) (v : Value) (ask : ByteArray) (w : World) (h0 : 0 ≤ sh) (h255 : sh ≤ 255) (hv : Tb.Row w v l) :
    Calls Try.prog 3 #[.int .u8 sh, v, .string ask] w fun e w' => e = .returned (.bool true) ∧ Below w.heap.size w w' := by
  obtain ⟨a, c, rfl, hc, hcs⟩ := hv
  have hrow : Tb.Row w (.slice a l.length c) l := ⟨a, c, rfl, hc, hcs⟩
  obtain ⟨n, hn⟩ : ∃ n : Nat, 1 + sh % 16 = (n : Int) := ⟨(1 + sh % 16).toNat, by omega⟩
  have hn1 : 1 ≤ n := by omega
  have hn16 : n ≤ 16 := by omega
  have hfew := few_any l a c w hrow
  obtain ⟨m, hm⟩ : ∃ m, m = min l.length 80 := ⟨_, rfl⟩
  have hrow' := hrow.take m (by omega)
  rw [← hm] at hfew
  have hm8 : m ≤ 80 := by omega
  have HROW := Lib.hid hrow'
  have hlen' : (l.take m).length = m := by rw [List.length_take]; omega
  clear hm
  cases hF : Tb.fewL l
  · rw [hF] at hfew
    go_enter Try.func3, Try.ntmps3
    go_wp2_with fail
    refine hfew.mono ?_
    rintro e w1 ⟨rfl, hb1⟩
    unfold Tb.fewV
    clear hfew hrow hrow' hcs
    have HB1 := Lib.hid hb1
    clear hb1
    go_wp2_with fail
    refine (New_any n hn1 hn16 w1).mono ?_
    rintro e w2 ⟨rfl, hb2, _⟩
    have HB2 := Lib.hid (HB1.out.trans (hb2.mono HB1.out.size))
    clear hb2
    go_wp2_with fail
    refine (awake_any w2).mono ?_
    rintro e w3 ⟨rfl, hb3⟩
    have HB3 := Lib.hid (HB2.out.trans (hb3.mono HB2.out.size))
    clear hb3
    go_wp2_with fail
    refine (awake_any w3).mono ?_
    rintro e w4 ⟨rfl, hb4⟩
    have HB4 := Lib.hid (HB3.out.trans (hb4.mono HB3.out.size))
    clear hb4
    go_wp2
    go_ret
    exact ⟨rfl, HB4.out⟩
  rw [hF] at hfew
  by_cases hask : 1000 < ask.size
  · have haski : (1000 : Int) < (ask.size : Int) := by omega
    go_enter Try.func3, Try.ntmps3
    go_wp2_with fail
    refine hfew.mono ?_
    rintro e w1 ⟨rfl, hb1⟩
    unfold Tb.fewV
    clear hfew hrow hrow' hcs
    have HB1 := Lib.hid hb1
    clear hb1
    go_wp2_with fail
    refine (New_any n hn1 hn16 w1).mono ?_
    rintro e w2 ⟨rfl, hb2, _⟩
    have HB2 := Lib.hid (HB1.out.trans (hb2.mono HB1.out.size))
    clear hb2
    go_wp2_with fail
    refine (awake_any w2).mono ?_
    rintro e w3 ⟨rfl, hb3⟩
    have HB3 := Lib.hid (HB2.out.trans (hb3.mono HB2.out.size))
    clear hb3
    go_wp2_with fail
    refine (awake_any w3).mono ?_
    rintro e w4 ⟨rfl, hb4⟩
    have HB4 := Lib.hid (HB3.out.trans (hb4.mono HB3.out.size))
    clear hb4
    go_wp2
    go_ret
    exact ⟨rfl, HB4.out⟩
  have haski : ¬ (1000 : Int) < (ask.size : Int) := by omega
  go_enter Try.func3, Try.ntmps3
  go_wp2_with fail
  refine hfew.mono ?_
  rintro e w1 ⟨rfl, hb1⟩
  unfold Tb.fewV
  clear hfew hrow hrow' hcs
  have HB1 := Lib.hid hb1
  clear hb1
  go_wp2_with fail
  refine (New_any n hn1 hn16 w1).mono ?_
  rintro e w2 ⟨rfl, hb2, ht2⟩
  have HB2 := Lib.hid (HB1.out.trans (hb2.mono HB1.out.size))
  clear hb2
  go_wp2_with fail
  refine (awake_any w2).mono ?_
  rintro e w3 ⟨rfl, hb3⟩
  have HB3 := Lib.hid (HB2.out.trans (hb3.mono HB2.out.size))
  have HT3 := Lib.hid (ht2.below hb3)
  have hs3 := hb3.size
  clear hb3 ht2
  have hmm := @run_makeMap Try.prog
  have hM4 := Tb.Mp.made w3
  have hb4 : Below w3.heap.size w3 (w3.alloc (.map #[] 0)) := (Below.refl _ w3).alloc (Nat.le_refl _) _
  obtain ⟨w4, hw4⟩ : ∃ w4, w3.alloc (.map #[] 0) = w4 := ⟨_, rfl⟩
  rw [hw4] at hM4 hb4
  have HB4 := Lib.hid (HB3.out.trans (hb4.mono HB3.out.size))
  have HT4 := Lib.hid (HT3.out.below hb4)
  clear HT3 hb4
  go_wp2_with fail
  -- HERE
  refine (Shard_any _ n ask w4 HT4.out.c0 hn1 hn16 (Nat.lt_of_lt_of_le HT4.out.lt.2 HT4.out.hh) (by omega)).mono ?_
  rintro e w5 ⟨rfl, hb5⟩
  have HB5 := Lib.hid (HB4.out.trans (hb5.mono HB4.out.size))
  have HT5 := Lib.hid (HT4.out.below hb5)
  have HM5 : Hid (Tb.Mp w5 w3.heap.size ([] : List (Tb.Nm × Tb.V)).length (Tb.look [])) := hM4.kept (Tb.grown hb5) (by simp)
  obtain ⟨g, hg⟩ : ∃ g, g = Tb.shard n ask.data.toList := ⟨_, rfl⟩
  rw [← hg]
  have hgl : g < n := by rw [hg]; exact Tb.shard_lt hn1 _
  have HG := Lib.hid hg
  obtain ⟨T, hT⟩ : ∃ T, w1.heap.size = T := ⟨_, rfl⟩
  obtain ⟨bh, hbh⟩ : ∃ bh, w3.heap.size = bh := ⟨_, rfl⟩
  obtain ⟨hi, hhi⟩ : ∃ hi, w2.heap.size = hi := ⟨_, rfl⟩
  have hbT := HB1.out.size
  obtain ⟨B, hB⟩ : ∃ B, (fun i => w1.heap.size + 1 + i) = B := ⟨_, rfl⟩
  rw [hB] at HT5
  rw [hT, hhi] at HT5
  rw [hT] at hbT ⊢
  rw [hbh] at HM5 hs3 ⊢
  rw [hhi] at hs3
  clear hb5 HT4 hM4 hw4 HB1 HB2 HB3 HB4 hg hT hbh hhi hB
  go_wp2_with fail
  obtain ⟨l', hl'⟩ : ∃ l', l' = l.take m := ⟨_, rfl⟩
  rw [← hl'] at HROW hlen'
  have HF : Hid (∀ o ∈ l', o.s.size ≤ 1000) := by
    intro o ho
    have h1 : (l.take 80).all (fun o => decide (o.s.size ≤ 1000)) = true := hF
    rw [hl'] at ho
    have h2 := List.all_eq_true.1 h1 o ((List.take_subset_take_left l hm8) ho)
    simpa using h2
  clear hl' hF hmm
  go_loopw [66] (fun vi wr => ∃ (k : Nat) (L : List (Tb.Nm × Tb.V)), vi = .int .i64 k ∧ k ≤ m ∧ Hid (Tb.Tab wr T n T hi B L) ∧ Hid (Tb.Mp wr bh L.length (Tb.look L)) ∧ Hid (Tb.Good L) ∧ Hid (Below w.heap.size w wr)) (fun vi _ => m - (intOf vi).toNat)
  case atStart => exact ⟨0, [], rfl, by omega, HT5, HM5, (fun s h => by cases h), HB5⟩
  case round =>
    obtain ⟨k, L, rfl, hk, HT, HM, HGD, HB⟩ := hrel
    clear HT5 HM5 HB5
    by_cases hlt : k < m
    case neg =>
      have hge : (m : Int) ≤ (k : Int) := by omega
      obtain rfl : k = m := by omega
      have hg0 : (0 : Int) ≤ (g : Int) := by omega
      have hgn : (g : Int) < (n : Int) := by omega
      have hlast := HM.out.lt
      cases hlk : Tb.look L ask.data.toList with
      | some v =>
        have hg1 := Get_any ask wr HT.out (by omega)
        rw [Tb.get_some HGD.out hlk] at hg1
        go_wp2_with fail
        refine hg1.mono ?_
        rintro e wG ⟨rfl, hbG⟩
        have HTG := Lib.hid (HT.out.below hbG)
        have HMG : Hid (Tb.Mp wG bh L.length (Tb.look L)) := HM.out.kept (Tb.grown hbG) (by simp)
        have HBG := Lib.hid (HB.out.trans (hbG.mono HB.out.size))
        obtain ⟨p0, p1⟩ := Tb.pair_new wG (.int .i64 v.1) (.int .i64 v.2)
        have hbA : Below wG.heap.size wG (wG.alloc (.cells #[.int .i64 v.1, .int .i64 v.2] 37)) := (Below.refl _ wG).alloc (Nat.le_refl _) _
        have HTA := Lib.hid (HTG.out.below hbA)
        have HMA : Hid (Tb.Mp (wG.alloc (.cells #[.int .i64 v.1, .int .i64 v.2] 37)) bh L.length (Tb.look L)) := HMG.out.kept (Tb.grown hbA) (by simp)
        have HBA := Lib.hid (HBG.out.trans (hbA.mono HBG.out.size))
        have hlA : wG.heap.size < (wG.alloc (.cells #[.int .i64 v.1, .int .i64 v.2] 37)).heap.size := by simp
        have hsh := Shard_any T n ask (wG.alloc (.cells #[.int .i64 v.1, .int .i64 v.2] 37)) HTA.out.c0 hn1 hn16 (Nat.lt_of_lt_of_le HTA.out.lt.2 HTA.out.hh) (by omega)
        rw [← HG.out] at hsh
        clear hg1 hbG hbA HTG HMG HBG
        go_wp2_with fail
        refine hsh.mono ?_
        rintro e wS ⟨rfl, hbS⟩
        have HTS := Lib.hid (HTA.out.below hbS)
        have HMS : Hid (Tb.Mp wS bh L.length (Tb.look L)) := HMA.out.kept (Tb.grown hbS) (by simp)
        have HBS := Lib.hid (HBA.out.trans (hbS.mono HBA.out.size))
        have s0 := (hbS.cell (p := ⟨wG.heap.size, 0, none⟩) hlA).trans p0
        have s1 := (hbS.cell (p := ⟨wG.heap.size, 1, none⟩) hlA).trans p1
        have hlS : wG.heap.size < wS.heap.size := Nat.lt_of_lt_of_le hlA hbS.size
        have hln := Len_any wS HTS.out
        have hlen := HMS.out.len
        have hget := HMS.out.get (s := ask) (by unfold maxLen; omega)
        rw [hlk] at hget
        have hget2 : (Instr.lookup 30 (.map (some bh)) (.string ask) true).run Try.prog wS = .ok (.tuple #[.agg #[.int .i64 v.1, .int .i64 v.2], .bool true]) wS := hget
        clear hsh hbS hget HTA HMA HBA HTS HMS p0 p1 hlA
        go_wp2_with fail
        refine hln.mono ?_
        rintro e wL ⟨rfl, rfl⟩
        clear hln
        have hbZ : Below wS.heap.size wS (wS.alloc (.cells #[.int .i64 v.1, .int .i64 v.2] 37)) := (Below.refl _ wS).alloc (Nat.le_refl _) _
        obtain ⟨z0, z1⟩ := Tb.pair_new wS (.int .i64 v.1) (.int .i64 v.2)
        obtain ⟨wZ, hwZ⟩ : ∃ wZ, wS.alloc (.cells #[.int .i64 v.1, .int .i64 v.2] 37) = wZ := ⟨_, rfl⟩
        rw [hwZ] at hbZ z0 z1
        have y0 := (hbZ.cell (p := ⟨wG.heap.size, 0, none⟩) hlS).trans s0
        have y1 := (hbZ.cell (p := ⟨wG.heap.size, 1, none⟩) hlS).trans s1
        have HBZ := Lib.hid (HBS.out.trans (hbZ.mono HBS.out.size))
        clear hbZ s0 s1
        go_wp2
        go_ret
        exact ⟨rfl, HBZ.out⟩
      | none =>
        cases hpr : Tb.prim ask.data.toList with
        | some p =>
          have hg1 := Get_any ask wr HT.out (by omega)
          rw [Tb.get_prim hlk hpr] at hg1
          go_wp2_with fail
          refine hg1.mono ?_
          rintro e wG ⟨rfl, hbG⟩
          have HTG := Lib.hid (HT.out.below hbG)
          have HMG : Hid (Tb.Mp wG bh L.length (Tb.look L)) := HM.out.kept (Tb.grown hbG) (by simp)
          have HBG := Lib.hid (HB.out.trans (hbG.mono HB.out.size))
          obtain ⟨p0, p1⟩ := Tb.pair_new wG (.int .i64 6) (.int .i64 (p : Int))
          have hbA : Below wG.heap.size wG (wG.alloc (.cells #[.int .i64 6, .int .i64 (p : Int)] 37)) := (Below.refl _ wG).alloc (Nat.le_refl _) _
          have HTA := Lib.hid (HTG.out.below hbA)
          have HMA : Hid (Tb.Mp (wG.alloc (.cells #[.int .i64 6, .int .i64 (p : Int)] 37)) bh L.length (Tb.look L)) := HMG.out.kept (Tb.grown hbA) (by simp)
          have HBA := Lib.hid (HBG.out.trans (hbA.mono HBG.out.size))
          have hlA : wG.heap.size < (wG.alloc (.cells #[.int .i64 6, .int .i64 (p : Int)] 37)).heap.size := by simp
          have hsh := Shard_any T n ask (wG.alloc (.cells #[.int .i64 6, .int .i64 (p : Int)] 37)) HTA.out.c0 hn1 hn16 (Nat.lt_of_lt_of_le HTA.out.lt.2 HTA.out.hh) (by omega)
          rw [← HG.out] at hsh
          clear hg1 hbG hbA HTG HMG HBG
          go_wp2_with fail
          refine hsh.mono ?_
          rintro e wS ⟨rfl, hbS⟩
          have HTS := Lib.hid (HTA.out.below hbS)
          have HMS : Hid (Tb.Mp wS bh L.length (Tb.look L)) := HMA.out.kept (Tb.grown hbS) (by simp)
          have HBS := Lib.hid (HBA.out.trans (hbS.mono HBA.out.size))
          have s0 := (hbS.cell (p := ⟨wG.heap.size, 0, none⟩) hlA).trans p0
          have s1 := (hbS.cell (p := ⟨wG.heap.size, 1, none⟩) hlA).trans p1
          have hlS : wG.heap.size < wS.heap.size := Nat.lt_of_lt_of_le hlA hbS.size
          have hln := Len_any wS HTS.out
          have hlen := HMS.out.len
          have hget := HMS.out.get (s := ask) (by unfold maxLen; omega)
          rw [hlk] at hget
          have hget2 : (Instr.lookup 30 (.map (some bh)) (.string ask) true).run Try.prog wS = .ok (.tuple #[.agg #[.int .i64 0, .int .i64 0], .bool false]) wS := hget
          clear hsh hbS hget HTA HMA HBA HTS HMS p0 p1 hlA
          go_wp2_with fail
          refine hln.mono ?_
          rintro e wL ⟨rfl, rfl⟩
          clear hln
          have hfd := FindR_any ask (wS.alloc (.cells #[.int .i64 0, .int .i64 0] 37))
          rw [hpr] at hfd
          have hbZ : Below wS.heap.size wS (wS.alloc (.cells #[.int .i64 0, .int .i64 0] 37)) := (Below.refl _ wS).alloc (Nat.le_refl _) _
          have y0 := (hbZ.cell (p := ⟨wG.heap.size, 0, none⟩) hlS).trans s0
          have y1 := (hbZ.cell (p := ⟨wG.heap.size, 1, none⟩) hlS).trans s1
          have hlZ := Nat.lt_of_lt_of_le hlS hbZ.size
          have HBZ := Lib.hid (HBS.out.trans (hbZ.mono HBS.out.size))
          clear hbZ s0 s1
          go_wp2_with fail
          refine hfd.mono ?_
          rintro e wF ⟨rfl, hbF⟩
          have x0 := (hbF.cell (p := ⟨wG.heap.size, 0, none⟩) hlZ).trans y0
          have x1 := (hbF.cell (p := ⟨wG.heap.size, 1, none⟩) hlZ).trans y1
          have HBF := Lib.hid (HBZ.out.trans (hbF.mono HBZ.out.size))
          clear hfd hbF y0 y1
          go_wp2
          go_ret
          exact ⟨rfl, HBF.out⟩
        | none =>
          rcases Tb.get_none hlk hpr with hge2 | hge2
          · have hg1 := Get_any ask wr HT.out (by omega)
            rw [hge2] at hg1
            go_wp2_with fail
            refine hg1.mono ?_
            rintro e wG ⟨rfl, hbG⟩
            have HTG := Lib.hid (HT.out.below hbG)
            have HMG : Hid (Tb.Mp wG bh L.length (Tb.look L)) := HM.out.kept (Tb.grown hbG) (by simp)
            have HBG := Lib.hid (HB.out.trans (hbG.mono HB.out.size))
            obtain ⟨p0, p1⟩ := Tb.pair_new wG (.int .i64 0) (.int .i64 0)
            have hbA : Below wG.heap.size wG (wG.alloc (.cells #[.int .i64 0, .int .i64 0] 37)) := (Below.refl _ wG).alloc (Nat.le_refl _) _
            have HTA := Lib.hid (HTG.out.below hbA)
            have HMA : Hid (Tb.Mp (wG.alloc (.cells #[.int .i64 0, .int .i64 0] 37)) bh L.length (Tb.look L)) := HMG.out.kept (Tb.grown hbA) (by simp)
            have HBA := Lib.hid (HBG.out.trans (hbA.mono HBG.out.size))
            have hlA : wG.heap.size < (wG.alloc (.cells #[.int .i64 0, .int .i64 0] 37)).heap.size := by simp
            have hsh := Shard_any T n ask (wG.alloc (.cells #[.int .i64 0, .int .i64 0] 37)) HTA.out.c0 hn1 hn16 (Nat.lt_of_lt_of_le HTA.out.lt.2 HTA.out.hh) (by omega)
            rw [← HG.out] at hsh
            clear hg1 hbG hbA HTG HMG HBG
            go_wp2_with fail
            refine hsh.mono ?_
            rintro e wS ⟨rfl, hbS⟩
            have HTS := Lib.hid (HTA.out.below hbS)
            have HMS : Hid (Tb.Mp wS bh L.length (Tb.look L)) := HMA.out.kept (Tb.grown hbS) (by simp)
            have HBS := Lib.hid (HBA.out.trans (hbS.mono HBA.out.size))
            have s0 := (hbS.cell (p := ⟨wG.heap.size, 0, none⟩) hlA).trans p0
            have s1 := (hbS.cell (p := ⟨wG.heap.size, 1, none⟩) hlA).trans p1
            have hlS : wG.heap.size < wS.heap.size := Nat.lt_of_lt_of_le hlA hbS.size
            have hln := Len_any wS HTS.out
            have hlen := HMS.out.len
            have hget := HMS.out.get (s := ask) (by unfold maxLen; omega)
            rw [hlk] at hget
            have hget2 : (Instr.lookup 30 (.map (some bh)) (.string ask) true).run Try.prog wS = .ok (.tuple #[.agg #[.int .i64 0, .int .i64 0], .bool false]) wS := hget
            clear hsh hbS hget HTA HMA HBA HTS HMS p0 p1 hlA
            go_wp2_with fail
            refine hln.mono ?_
            rintro e wL ⟨rfl, rfl⟩
            clear hln
            have hfd := FindR_any ask (wS.alloc (.cells #[.int .i64 0, .int .i64 0] 37))
            rw [hpr] at hfd
            have hbZ : Below wS.heap.size wS (wS.alloc (.cells #[.int .i64 0, .int .i64 0] 37)) := (Below.refl _ wS).alloc (Nat.le_refl _) _
            have y0 := (hbZ.cell (p := ⟨wG.heap.size, 0, none⟩) hlS).trans s0
            have y1 := (hbZ.cell (p := ⟨wG.heap.size, 1, none⟩) hlS).trans s1
            have hlZ := Nat.lt_of_lt_of_le hlS hbZ.size
            have HBZ := Lib.hid (HBS.out.trans (hbZ.mono HBS.out.size))
            clear hbZ s0 s1
            go_wp2_with fail
            refine hfd.mono ?_
            rintro e wF ⟨rfl, hbF⟩
            have x0 := (hbF.cell (p := ⟨wG.heap.size, 0, none⟩) hlZ).trans y0
            have x1 := (hbF.cell (p := ⟨wG.heap.size, 1, none⟩) hlZ).trans y1
            have HBF := Lib.hid (HBZ.out.trans (hbF.mono HBZ.out.size))
            clear hfd hbF y0 y1
            go_wp2
            go_ret
            exact ⟨rfl, HBF.out⟩
          · have hg1 := Get_any ask wr HT.out (by omega)
            rw [hge2] at hg1
            go_wp2_with fail
            refine hg1.mono ?_
            rintro e wG ⟨rfl, hbG⟩
            have HTG := Lib.hid (HT.out.below hbG)
            have HMG : Hid (Tb.Mp wG bh L.length (Tb.look L)) := HM.out.kept (Tb.grown hbG) (by simp)
            have HBG := Lib.hid (HB.out.trans (hbG.mono HB.out.size))
            obtain ⟨p0, p1⟩ := Tb.pair_new wG (.int .i64 0) (.int .i64 0)
            have hbA : Below wG.heap.size wG (wG.alloc (.cells #[.int .i64 0, .int .i64 0] 37)) := (Below.refl _ wG).alloc (Nat.le_refl _) _
            have HTA := Lib.hid (HTG.out.below hbA)
            have HMA : Hid (Tb.Mp (wG.alloc (.cells #[.int .i64 0, .int .i64 0] 37)) bh L.length (Tb.look L)) := HMG.out.kept (Tb.grown hbA) (by simp)
            have HBA := Lib.hid (HBG.out.trans (hbA.mono HBG.out.size))
            have hlA : wG.heap.size < (wG.alloc (.cells #[.int .i64 0, .int .i64 0] 37)).heap.size := by simp
            have hsh := Shard_any T n ask (wG.alloc (.cells #[.int .i64 0, .int .i64 0] 37)) HTA.out.c0 hn1 hn16 (Nat.lt_of_lt_of_le HTA.out.lt.2 HTA.out.hh) (by omega)
            rw [← HG.out] at hsh
            clear hg1 hbG hbA HTG HMG HBG
            go_wp2_with fail
            refine hsh.mono ?_
            rintro e wS ⟨rfl, hbS⟩
            have HTS := Lib.hid (HTA.out.below hbS)
            have HMS : Hid (Tb.Mp wS bh L.length (Tb.look L)) := HMA.out.kept (Tb.grown hbS) (by simp)
            have HBS := Lib.hid (HBA.out.trans (hbS.mono HBA.out.size))
            have s0 := (hbS.cell (p := ⟨wG.heap.size, 0, none⟩) hlA).trans p0
            have s1 := (hbS.cell (p := ⟨wG.heap.size, 1, none⟩) hlA).trans p1
            have hlS : wG.heap.size < wS.heap.size := Nat.lt_of_lt_of_le hlA hbS.size
            have hln := Len_any wS HTS.out
            have hlen := HMS.out.len
            have hget := HMS.out.get (s := ask) (by unfold maxLen; omega)
            rw [hlk] at hget
            have hget2 : (Instr.lookup 30 (.map (some bh)) (.string ask) true).run Try.prog wS = .ok (.tuple #[.agg #[.int .i64 0, .int .i64 0], .bool false]) wS := hget
            clear hsh hbS hget HTA HMA HBA HTS HMS p0 p1 hlA
            go_wp2_with fail
            refine hln.mono ?_
            rintro e wL ⟨rfl, rfl⟩
            clear hln
            have hfd := FindR_any ask (wS.alloc (.cells #[.int .i64 0, .int .i64 0] 37))
            rw [hpr] at hfd
            have hbZ : Below wS.heap.size wS (wS.alloc (.cells #[.int .i64 0, .int .i64 0] 37)) := (Below.refl _ wS).alloc (Nat.le_refl _) _
            have y0 := (hbZ.cell (p := ⟨wG.heap.size, 0, none⟩) hlS).trans s0
            have y1 := (hbZ.cell (p := ⟨wG.heap.size, 1, none⟩) hlS).trans s1
            have hlZ := Nat.lt_of_lt_of_le hlS hbZ.size
            have HBZ := Lib.hid (HBS.out.trans (hbZ.mono HBS.out.size))
            clear hbZ s0 s1
            go_wp2_with fail
            refine hfd.mono ?_
            rintro e wF ⟨rfl, hbF⟩
            have x0 := (hbF.cell (p := ⟨wG.heap.size, 0, none⟩) hlZ).trans y0
            have x1 := (hbF.cell (p := ⟨wG.heap.size, 1, none⟩) hlZ).trans y1
            have HBF := Lib.hid (HBZ.out.trans (hbF.mono HBZ.out.size))
            clear hfd hbF y0 y1
            go_wp2
            go_ret
            exact ⟨rfl, HBF.out⟩
    have hlti : (k : Int) < (m : Int) := by omega
    have hll : k < l'.length := by omega
    obtain ⟨t, ht⟩ : ∃ t, l'[k] = t := ⟨_, rfl⟩
    have htz : t.s.size ≤ 1000 := HF.out t (by rw [← ht]; exact List.getElem_mem hll)
    obtain ⟨b, o, rfl, r0, r1, r2⟩ := Tb.Row.at_ (HROW.out.below HB.out) hlen' k hll
    rw [ht] at r0 r1 r2
    obtain ⟨d, s, nn⟩ := t
    simp only at r0 r1 r2 htz
    clear ht
    obtain ⟨X, hX⟩ : ∃ X, wr.heap.size = X := ⟨_, rfl⟩
    have hc3 := Tb.three_new wr (.int .i64 d) (.string s) (.int .i64 nn)
    have hb6 : Below wr.heap.size wr (wr.alloc (.cells #[.int .i64 d, .string s, .int .i64 nn] 33)) := (Below.refl _ wr).alloc (Nat.le_refl _) _
    have hX6 : X < (wr.alloc (.cells #[.int .i64 d, .string s, .int .i64 nn] 33)).heap.size := by rw [← hX]; simp
    obtain ⟨w6, hw6⟩ : ∃ w6, wr.alloc (.cells #[.int .i64 d, .string s, .int .i64 nn] 33) = w6 := ⟨_, rfl⟩
    rw [hw6] at hc3 hb6 hX6
    have hhiX : hi ≤ X := by rw [← hX]; exact HT.out.hh
    have hbhX : bh < X := by rw [← hX]; exact HM.out.lt
    rw [hX] at hc3
    obtain ⟨x0, x1, x2⟩ := hc3
    have HRISE := Lib.hid HT.out.rise
    have HLEN := Lib.hid HT.out.len
    have HT6 := Lib.hid (HT.out.below hb6)
    have HM6 : Hid (Tb.Mp w6 bh L.length (Tb.look L)) := HM.out.kept (Tb.grown hb6) (by simp)
    have HB6 := Lib.hid (HB.out.trans (hb6.mono HB.out.size))
    clear HT HM HB hb6
    by_cases hd1 : d = 1
    · subst hd1
      have HMK : Hid (∀ w', Below w6.heap.size w6 w' → w'.cell? ⟨X, 0, none⟩ = some (.int .i64 1) ∧ w'.cell? ⟨X, 1, none⟩ = some (.string s) ∧ w'.cell? ⟨X, 2, none⟩ = some (.int .i64 nn)) := fun w' hb => ⟨(hb.cell (p := ⟨X, 0, none⟩) hX6).trans x0, (hb.cell (p := ⟨X, 1, none⟩) hX6).trans x1, (hb.cell (p := ⟨X, 2, none⟩) hX6).trans x2⟩
      have HMW : Hid (∀ w7 w', Below w6.heap.size w6 w7 → Keep (Tb.Within T hi) w7 w' → w'.cell? ⟨X, 0, none⟩ = some (.int .i64 1) ∧ w'.cell? ⟨X, 1, none⟩ = some (.string s) ∧ w'.cell? ⟨X, 2, none⟩ = some (.int .i64 nn)) := fun w7 w' hb hk => by
        obtain ⟨h0, h1, h2⟩ := HMK.out w7 hb
        have hz := Nat.lt_of_lt_of_le hX6 hb.size
        have hn : ¬ Tb.Within T hi X := fun h => by have := h.2; omega
        exact ⟨(hk.cell 0 hz hn).trans h0, (hk.cell 1 hz hn).trans h1, (hk.cell 2 hz hn).trans h2⟩
      obtain ⟨⟨rk, re⟩, hr⟩ : ∃ r, r = Tb.asr L s.data.toList := ⟨_, rfl⟩
      have HA : Hid (∀ w7, Below w6.heap.size w6 w7 → Calls Try.prog 11 #[.pointer (some ⟨T, 0, none⟩), .string s, .agg #[.int .i64 1, .int .i64 nn]] w7 fun e w' => e = .returned (.tuple #[.int .i64 rk, .int .i64 re]) ∧ Tb.Tab w' T n T hi B (Tb.asL L s.data.toList (1, nn)) ∧ Keep (Tb.Within T hi) w7 w') := fun w7 hb => by
        have h := Assign_any s (1, nn) w7 (HT6.out.below hb) htz
        rw [← hr] at h
        exact h
      have HR := Lib.hid hr
      clear hr
      go_wp2_with fail
      clear hw6
      go_region_held3 (fun w' => w'.cell? ⟨X, 0, none⟩ = some (.int .i64 1) ∧ w'.cell? ⟨X, 1, none⟩ = some (.string s) ∧ w'.cell? ⟨X, 2, none⟩ = some (.int .i64 nn)) (first | exact HMK.out _ ((Below.refl _ _).drew) | exact HMW.out _ _ (Tb.dr hb7) hk8 | exact HMK.out _ (Tb.dr hb7))
        (first | (go_at_call 12; refine (value_any 1 nn s _).mono ?_; rintro e w7 ⟨rfl, hb7⟩) | (go_at_call 11; refine (HA.out _ (Tb.dr hb7)).mono ?_; rintro e w8 ⟨rfl, ht8, hk8⟩))
      all_goals
        have hb7' : Below w6.heap.size w6 w7 := Tb.dr hb7
        have HT8 := Lib.hid ht8
        have HM8 : Hid (Tb.Mp w8 bh L.length (Tb.look L)) := (HM6.out.kept (Tb.grown hb7') (by simp)).keep hk8 (fun h => by have := h.2; omega)
        have HB8 := Lib.hid ((HB6.out.trans (hb7'.mono HB6.out.size)).trans (hk8.to_below (fun j h => Nat.le_trans hbT h.1) (Nat.le_trans HB6.out.size hb7'.size)))
        obtain ⟨y0, y1, y2⟩ := HMW.out w7 w8 hb7' hk8
        have hX8 : X < w8.heap.size := Nat.lt_of_lt_of_le (Nat.lt_of_lt_of_le hX6 hb7'.size) hk8.size
        clear hb7 hb7' ht8 hk8 HMK HMW HA HT6 HM6 HB6 x0 x1 x2 r0 r1 r2
        by_cases hre : re = 0
        · by_cases hrk : rk = 0
          · subst hre hrk
            obtain ⟨hLe, hsym⟩ := Tb.asr_yes (1, nn) HR.out.symm
            have HT8' := HT8.out
            rw [hLe] at HT8'
            have HT9 := Lib.hid HT8'
            have HGD9 := Lib.hid (HGD.out.put (1, nn) hsym)
            have HMK2 : Hid (∀ w', Below w8.heap.size w8 w' → w'.cell? ⟨X, 0, none⟩ = some (.int .i64 1) ∧ w'.cell? ⟨X, 1, none⟩ = some (.string s) ∧ w'.cell? ⟨X, 2, none⟩ = some (.int .i64 nn)) := fun w' hb => ⟨(hb.cell (p := ⟨X, 0, none⟩) hX8).trans y0, (hb.cell (p := ⟨X, 1, none⟩) hX8).trans y1, (hb.cell (p := ⟨X, 2, none⟩) hX8).trans y2⟩
            have HMX : Hid (∀ w9 w', Below w8.heap.size w8 w9 → w9.grownBy w' (some bh) → w'.cell? ⟨X, 0, none⟩ = some (.int .i64 1) ∧ w'.cell? ⟨X, 1, none⟩ = some (.string s) ∧ w'.cell? ⟨X, 2, none⟩ = some (.int .i64 nn)) := fun w9 w' hb hk => by
              obtain ⟨h0, h1, h2⟩ := HMK2.out w9 hb
              have hz := Nat.lt_of_lt_of_le hX8 hb.size
              have e := hk.block X hz (fun e => by cases e; omega)
              refine ⟨?_, ?_, ?_⟩
              · rw [← h0]; unfold World.cell?; rw [e]
              · rw [← h1]; unfold World.cell?; rw [e]
              · rw [← h2]; unfold World.cell?; rw [e]
            have HMP : Hid (∀ w9, Below w8.heap.size w8 w9 → ∃ w', (Instr.mapUpdate 30 (.map (some bh)) (.string s) (.agg #[.int .i64 1, .int .i64 nn])).run Try.prog w9 = .ok () w' ∧ Tb.Mp w' bh (Tb.put L s.data.toList (1, nn)).length (Tb.look (Tb.put L s.data.toList (1, nn))) ∧ w9.grownBy w' (some bh)) := fun w9 hb =>
              (HM8.out.kept (Tb.grown hb) (by simp)).put HRISE.out (by have := HLEN.out; omega) htz (1, nn)
            clear hLe hsym HT8' HT8 HM8 HR HGD
            go_wp2_with fail
            go_region_held3 (fun w' => w'.cell? ⟨X, 0, none⟩ = some (.int .i64 1) ∧ w'.cell? ⟨X, 1, none⟩ = some (.string s) ∧ w'.cell? ⟨X, 2, none⟩ = some (.int .i64 nn)) (first | exact HMK2.out _ ((Below.refl _ _).drew) | exact HMX.out _ _ (Tb.dr hb9) hg10 | exact HMK2.out _ (Tb.dr hb9))
              (first | (go_at_call 12; refine (value_any 1 nn s _).mono ?_; rintro e w9 ⟨rfl, hb9⟩; obtain ⟨w10, hrun, hm10, hg10⟩ := HMP.out w9 (Tb.dr hb9)))
            all_goals
              have hb9' : Below w8.heap.size w8 w9 := Tb.dr hb9
              have HM10 := Lib.hid hm10
              have HT10 := Lib.hid ((HT9.out.below hb9').keep (Tb.keep_grown hg10) (fun j _ h2 => by intro e; omega))
              have HB10 := Lib.hid ((HB8.out.trans (hb9'.mono HB8.out.size)).trans ((Tb.keep_grown hg10).to_below (n := w.heap.size) (fun j h => by have := HT10.out.lt; omega) (Nat.le_trans HB8.out.size hb9'.size)))
              clear hb9 hb9' hm10 hg10 hrun HMK2 HMX HMP HT9 HB8 y0 y1 y2
              go_wp2
              go_roundw
              case rel => exact ⟨k + 1, _, by simp, by omega, HT10, HM10, HGD9, HB10⟩
              case measure => simp [intOf]; omega
          · have hrk0 : (rk == 0) = false := by simpa using hrk
            subst hre
            have hLe := Tb.asr_no (1, nn) (by rw [← HR.out]; simpa using hrk)
            have HT8' := HT8.out
            rw [hLe] at HT8'
            have HT9 := Lib.hid HT8'
            clear hLe HT8' HT8 HR
            go_wp2
            go_roundw
            case rel => exact ⟨k + 1, L, by simp, by omega, HT9, HM8, HGD, HB8⟩
            case measure => simp [intOf]; omega
        · have hre0 : (re == 0) = false := by simpa using hre
          have hLe := Tb.asr_no (1, nn) (by rw [← HR.out]; simp; intro _ h; exact hre h)
          have HT8' := HT8.out
          rw [hLe] at HT8'
          have HT9 := Lib.hid HT8'
          clear hLe HT8' HT8 HR
          go_wp2
          go_roundw
          case rel => exact ⟨k + 1, L, by simp, by omega, HT9, HM8, HGD, HB8⟩
          case measure => simp [intOf]; omega
    have hd1' : (d == 1) = false := by simpa using hd1
    by_cases hd2 : d = 2
    · subst hd2
      have HMK : Hid (∀ w', Below w6.heap.size w6 w' → w'.cell? ⟨X, 0, none⟩ = some (.int .i64 2) ∧ w'.cell? ⟨X, 1, none⟩ = some (.string s) ∧ w'.cell? ⟨X, 2, none⟩ = some (.int .i64 nn)) := fun w' hb => ⟨(hb.cell (p := ⟨X, 0, none⟩) hX6).trans x0, (hb.cell (p := ⟨X, 1, none⟩) hX6).trans x1, (hb.cell (p := ⟨X, 2, none⟩) hX6).trans x2⟩
      have HMW : Hid (∀ w7 w', Below w6.heap.size w6 w7 → Keep (Tb.Within T hi) w7 w' → w'.cell? ⟨X, 0, none⟩ = some (.int .i64 2) ∧ w'.cell? ⟨X, 1, none⟩ = some (.string s) ∧ w'.cell? ⟨X, 2, none⟩ = some (.int .i64 nn)) := fun w7 w' hb hk => by
        obtain ⟨h0, h1, h2⟩ := HMK.out w7 hb
        have hz := Nat.lt_of_lt_of_le hX6 hb.size
        have hn : ¬ Tb.Within T hi X := fun h => by have := h.2; omega
        exact ⟨(hk.cell 0 hz hn).trans h0, (hk.cell 1 hz hn).trans h1, (hk.cell 2 hz hn).trans h2⟩
      obtain ⟨⟨rk, re⟩, hr⟩ : ∃ r, r = Tb.defr L s.data.toList := ⟨_, rfl⟩
      have HA : Hid (∀ w7, Below w6.heap.size w6 w7 → Calls Try.prog 13 #[.pointer (some ⟨T, 0, none⟩), .string s, .agg #[.int .i64 1, .int .i64 nn]] w7 fun e w' => e = .returned (.tuple #[.int .i64 rk, .int .i64 re]) ∧ Tb.Tab w' T n T hi B (Tb.defL L s.data.toList (1, nn)) ∧ Keep (Tb.Within T hi) w7 w') := fun w7 hb => by
        have h := Define_any s (1, nn) w7 (HT6.out.below hb) htz
        rw [← hr] at h
        exact h
      have HR := Lib.hid hr
      clear hr
      go_wp2_with fail
      clear hw6
      go_region_held3 (fun w' => w'.cell? ⟨X, 0, none⟩ = some (.int .i64 2) ∧ w'.cell? ⟨X, 1, none⟩ = some (.string s) ∧ w'.cell? ⟨X, 2, none⟩ = some (.int .i64 nn)) (first | exact HMK.out _ ((Below.refl _ _).drew) | exact HMW.out _ _ (Tb.dr hb7) hk8 | exact HMK.out _ (Tb.dr hb7))
        (first | (go_at_call 12; refine (value_any 2 nn s _).mono ?_; rintro e w7 ⟨rfl, hb7⟩) | (go_at_call 13; refine (HA.out _ (Tb.dr hb7)).mono ?_; rintro e w8 ⟨rfl, ht8, hk8⟩))
      all_goals
        have hb7' : Below w6.heap.size w6 w7 := Tb.dr hb7
        have HT8 := Lib.hid ht8
        have HM8 : Hid (Tb.Mp w8 bh L.length (Tb.look L)) := (HM6.out.kept (Tb.grown hb7') (by simp)).keep hk8 (fun h => by have := h.2; omega)
        have HB8 := Lib.hid ((HB6.out.trans (hb7'.mono HB6.out.size)).trans (hk8.to_below (fun j h => Nat.le_trans hbT h.1) (Nat.le_trans HB6.out.size hb7'.size)))
        obtain ⟨y0, y1, y2⟩ := HMW.out w7 w8 hb7' hk8
        have hX8 : X < w8.heap.size := Nat.lt_of_lt_of_le (Nat.lt_of_lt_of_le hX6 hb7'.size) hk8.size
        clear hb7 hb7' ht8 hk8 HMK HMW HA HT6 HM6 HB6 x0 x1 x2 r0 r1 r2
        by_cases hre : re = 0
        · by_cases hrk : rk = 0
          · subst hre hrk
            obtain ⟨hLe, hsym⟩ := Tb.defr_yes (1, nn) HR.out.symm
            have HT8' := HT8.out
            rw [hLe] at HT8'
            have HT9 := Lib.hid HT8'
            have HGD9 := Lib.hid (HGD.out.put (1, nn) hsym)
            have HMK2 : Hid (∀ w', Below w8.heap.size w8 w' → w'.cell? ⟨X, 0, none⟩ = some (.int .i64 2) ∧ w'.cell? ⟨X, 1, none⟩ = some (.string s) ∧ w'.cell? ⟨X, 2, none⟩ = some (.int .i64 nn)) := fun w' hb => ⟨(hb.cell (p := ⟨X, 0, none⟩) hX8).trans y0, (hb.cell (p := ⟨X, 1, none⟩) hX8).trans y1, (hb.cell (p := ⟨X, 2, none⟩) hX8).trans y2⟩
            have HMX : Hid (∀ w9 w', Below w8.heap.size w8 w9 → w9.grownBy w' (some bh) → w'.cell? ⟨X, 0, none⟩ = some (.int .i64 2) ∧ w'.cell? ⟨X, 1, none⟩ = some (.string s) ∧ w'.cell? ⟨X, 2, none⟩ = some (.int .i64 nn)) := fun w9 w' hb hk => by
              obtain ⟨h0, h1, h2⟩ := HMK2.out w9 hb
              have hz := Nat.lt_of_lt_of_le hX8 hb.size
              have e := hk.block X hz (fun e => by cases e; omega)
              refine ⟨?_, ?_, ?_⟩
              · rw [← h0]; unfold World.cell?; rw [e]
              · rw [← h1]; unfold World.cell?; rw [e]
              · rw [← h2]; unfold World.cell?; rw [e]
            have HMP : Hid (∀ w9, Below w8.heap.size w8 w9 → ∃ w', (Instr.mapUpdate 30 (.map (some bh)) (.string s) (.agg #[.int .i64 1, .int .i64 nn])).run Try.prog w9 = .ok () w' ∧ Tb.Mp w' bh (Tb.put L s.data.toList (1, nn)).length (Tb.look (Tb.put L s.data.toList (1, nn))) ∧ w9.grownBy w' (some bh)) := fun w9 hb =>
              (HM8.out.kept (Tb.grown hb) (by simp)).put HRISE.out (by have := HLEN.out; omega) htz (1, nn)
            clear hLe hsym HT8' HT8 HM8 HR HGD
            go_wp2_with fail
            go_region_held3 (fun w' => w'.cell? ⟨X, 0, none⟩ = some (.int .i64 2) ∧ w'.cell? ⟨X, 1, none⟩ = some (.string s) ∧ w'.cell? ⟨X, 2, none⟩ = some (.int .i64 nn)) (first | exact HMK2.out _ ((Below.refl _ _).drew) | exact HMX.out _ _ (Tb.dr hb9) hg10 | exact HMK2.out _ (Tb.dr hb9))
              (first | (go_at_call 12; refine (value_any 2 nn s _).mono ?_; rintro e w9 ⟨rfl, hb9⟩; obtain ⟨w10, hrun, hm10, hg10⟩ := HMP.out w9 (Tb.dr hb9)))
            all_goals
              have hb9' : Below w8.heap.size w8 w9 := Tb.dr hb9
              have HM10 := Lib.hid hm10
              have HT10 := Lib.hid ((HT9.out.below hb9').keep (Tb.keep_grown hg10) (fun j _ h2 => by intro e; omega))
              have HB10 := Lib.hid ((HB8.out.trans (hb9'.mono HB8.out.size)).trans ((Tb.keep_grown hg10).to_below (n := w.heap.size) (fun j h => by have := HT10.out.lt; omega) (Nat.le_trans HB8.out.size hb9'.size)))
              clear hb9 hb9' hm10 hg10 hrun HMK2 HMX HMP HT9 HB8 y0 y1 y2
              go_wp2
              go_roundw
              case rel => exact ⟨k + 1, _, by simp, by omega, HT10, HM10, HGD9, HB10⟩
              case measure => simp [intOf]; omega
          · have hrk0 : (rk == 0) = false := by simpa using hrk
            subst hre
            have hLe := Tb.defr_no (1, nn) (by rw [← HR.out]; simpa using hrk)
            have HT8' := HT8.out
            rw [hLe] at HT8'
            have HT9 := Lib.hid HT8'
            clear hLe HT8' HT8 HR
            go_wp2
            go_roundw
            case rel => exact ⟨k + 1, L, by simp, by omega, HT9, HM8, HGD, HB8⟩
            case measure => simp [intOf]; omega
        · have hre0 : (re == 0) = false := by simpa using hre
          have hLe := Tb.defr_no (1, nn) (by rw [← HR.out]; simp; intro _ h; exact hre h)
          have HT8' := HT8.out
          rw [hLe] at HT8'
          have HT9 := Lib.hid HT8'
          clear hLe HT8' HT8 HR
          go_wp2
          go_roundw
          case rel => exact ⟨k + 1, L, by simp, by omega, HT9, HM8, HGD, HB8⟩
          case measure => simp [intOf]; omega
    have hd2' : (d == 2) = false := by simpa using hd2
    go_wp2
    go_roundw
    case rel => exact ⟨k + 1, L, by simp, by omega, HT6, HM6, HGD, HB6⟩
    case measure => simp [intOf]; omega
end Go.Proofs.Ytihfflinkmceaaa
