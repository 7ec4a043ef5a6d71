/-
  The walk of picks: the picks of a line.
-/
import Derived.Test.YtomggdeinjediaaDoorScReads
import Derived.OwnWalk
import Derived.Lib.SmallJoins
import Derived.Laws.AppendOwn
namespace Go.Proofs.YtomggdeinjediaaDoor
open Go.RowKit Go.Sort
theorem Keep.below2 {S : Nat → Prop} {a w w' : World} (h : Keep S a w) (hb : Below a.heap.size w w') : Keep S a w' :=
  ⟨hb.os.trans h.os, hb.tape.trans h.tape, hb.output.trans h.output, Nat.le_trans h.size hb.size, fun k hk hn => (hb.block k hk).trans (h.block k hk hn)⟩
namespace Sc
theorem infoU8 : (Tryd.prog.info? 5).map (fun i => (i.zero, i.size, i.bytes)) = some (some (.int .u8 0), 1, 1) := by kernel_rfl
def byteV (b : UInt8) : Value := .int .u8 (b.toNat : Int)
def PInv (wk : Int) (ws : List UInt8) (m : Bool) (acc t : List UInt8) : Prop :=
  if m = true then picks wk 0 (cuts ws) = (picks wk acc.length (cuts t)).map (acc ++ ·) else picks wk 0 (cuts ws) = some acc
def meas : Value → Value → Nat
  | .string t, .bool true => t.size + 1
  | _, _ => 0
theorem St.below2 {w w' : World} {S n : Nat} {v : List Int} {p : Value} {x : ByteArray} (h : St w S v p x) (hb : Below n w w') (hS : S < n) : St w' S v p x :=
  ⟨fun k hk5 => (hb.cell (p := ⟨S, k, none⟩) hS).trans (h.n k hk5), (hb.cell (p := ⟨S, 5, none⟩) hS).trans h.c5, (hb.cell (p := ⟨S, 6, none⟩) hS).trans h.c6, fun j => (hb.frozen (p := ⟨S, j, none⟩) hS).trans (h.fz j), Nat.lt_of_lt_of_le h.lt hb.size⟩
theorem St.set5 {w : World} {S : Nat} {v : List Int} {p : Value} {x : ByteArray} (h : St w S v p x) (q : Value) : St (w.setCell ⟨S, 5, none⟩ q) S v q x :=
  ⟨fun k hk => by rw [World.cell?_setCell_other _ _ _ _ (by intro e; injection e with _ e; omega)]; exact h.n k hk, World.cell?_setCell_same _ _ _ h.c5, by rw [World.cell?_setCell_other _ _ _ _ (by intro e; injection e with _ e; omega)]; exact h.c6, fun j => by rw [World.frozen?_setCell]; exact h.fz j, by simpa [World.setCell] using h.lt⟩
theorem St.set6 {w : World} {S : Nat} {v : List Int} {p : Value} {x : ByteArray} (h : St w S v p x) (y : ByteArray) : St (w.setCell ⟨S, 6, none⟩ (.string y)) S v p y :=
  ⟨fun k hk => by rw [World.cell?_setCell_other _ _ _ _ (by intro e; injection e with _ e; omega)]; exact h.n k hk, by rw [World.cell?_setCell_other _ _ _ _ (by intro e; injection e with _ e; omega)]; exact h.c5, World.cell?_setCell_same _ _ _ h.c6, fun j => by rw [World.frozen?_setCell]; exact h.fz j, by simpa [World.setCell] using h.lt⟩
theorem St.drew {w : World} {S : Nat} {v : List Int} {p : Value} {x : ByteArray} (h : St w S v p x) (q : Nat) : St (w.drewN q) S v p x := ⟨h.n, h.c5, h.c6, h.fz, h.lt⟩
/-- what picks comes to -/
def PicksPost (S : Nat) (l : List UInt8) (v : List Int) (x : ByteArray) (w : World) (e : Ending) (w' : World) : Prop :=
  Keep (· = S) w w' ∧ match strip picksW l with
  | none => e = .returned (.tuple #[.bool false, .bool true]) ∧ St w' S v (.slice none 0 0) x
  | some ws => match picks (v.getD 2 0) 0 (cuts ws) with
    | none => e = .returned (.tuple #[.bool true, .bool false])
    | some ps => e = .returned (.tuple #[.bool true, .bool true]) ∧ ∃ pv, St w' S v pv x ∧ w'.ownsRow w.heap.size 5 1 pv ps.length (ps.map byteV)
theorem PicksPost.no {S : Nat} {l : List UInt8} {v : List Int} {x : ByteArray} {w w' : World} (h : strip picksW l = none) (hk : Keep (· = S) w w') (hs : St w' S v (.slice none 0 0) x) : PicksPost S l v x w (.returned (.tuple #[.bool false, .bool true])) w' := by
  refine ⟨hk, ?_⟩
  rw [h]
  exact ⟨rfl, hs⟩
theorem PicksPost.bad {S : Nat} {l ws : List UInt8} {v : List Int} {x : ByteArray} {w w' : World} (h : strip picksW l = some ws) (hp : picks (v.getD 2 0) 0 (cuts ws) = none) (hk : Keep (· = S) w w') : PicksPost S l v x w (.returned (.tuple #[.bool true, .bool false])) w' := by
  refine ⟨hk, ?_⟩
  simp only [h, hp]
theorem PicksPost.good {S : Nat} {l ws ps : List UInt8} {v : List Int} {x : ByteArray} {w w' : World} {pv : Value} (h : strip picksW l = some ws) (hp : picks (v.getD 2 0) 0 (cuts ws) = some ps) (hk : Keep (· = S) w w') (hs : St w' S v pv x) (ho : w'.ownsRow w.heap.size 5 1 pv ps.length (ps.map byteV)) : PicksPost S l v x w (.returned (.tuple #[.bool true, .bool true])) w' := by
  refine ⟨hk, ?_⟩
  simp only [h, hp, true_and]
  exact ⟨pv, hs, ho⟩
theorem cuts_cut (t : List UInt8) : cuts t = t.takeWhile (· != 32) :: (if t.contains 32 = true then cuts (t.dropWhile (· != 32)).tail else []) := by
  by_cases h : t.contains 32 = true
  · rw [if_pos h]; exact cuts_yes t h
  · rw [if_neg h]
    have h' : t.contains 32 = false := by simpa using h
    rw [cuts_no t h']
    congr 1
    rcases idx_has t 32 with ⟨_, _, h3, _⟩ | ⟨i, _, _, h3, _⟩
    · exact h3.symm
    · rw [h'] at h3; cases h3
theorem picks_none (wk : Int) (k : Nat) (w : List UInt8) (r : List (List UInt8)) (h : pick wk w = none ∨ 400 ≤ k) : picks wk k (w :: r) = none := by
  unfold picks
  rcases h with h | h
  · rw [h]
  · split
    · rfl
    · rw [if_pos h]
theorem picks_some (wk : Int) (k : Nat) (w : List UInt8) (r : List (List UInt8)) (b : UInt8) (h : pick wk w = some b) (hk : ¬ 400 ≤ k) : picks wk k (w :: r) = (picks wk (k + 1) r).map (b :: ·) := by
  rw [picks, h]
  simp only []
  rw [if_neg hk]
theorem PInv.step (wk : Int) (ws : List UInt8) (acc t : List UInt8) (b : UInt8) (h : picks wk 0 (cuts ws) = (picks wk acc.length (cuts t)).map (acc ++ ·)) (hp : pick wk (t.takeWhile (· != 32)) = some b) (hk : ¬ 400 ≤ acc.length) : PInv wk ws (t.contains 32) (acc ++ [b]) (t.dropWhile (· != 32)).tail := by
  rw [cuts_cut t, picks_some _ _ _ _ b hp hk] at h
  unfold PInv
  cases hc : t.contains 32
  · rw [if_neg (by simp), h, hc]
    simp [picks]
  · rw [if_pos rfl, h, hc, if_pos rfl, List.length_append, List.length_singleton, Option.map_map]
    congr 1
    funext l
    simp
theorem pick_some (wk : Int) (w : List UInt8) (n : Int) (h : value w = some n) (hn : n < wk) : pick wk w = some (UInt8.ofNat n.toNat) := by
  unfold pick
  rw [h]
  simp only []
  rw [if_pos hn]
theorem pick_big (wk : Int) (w : List UInt8) (n : Int) (h : value w = some n) (hn : ¬ n < wk) : pick wk w = none := by
  unfold pick
  rw [h]
  simp only []
  rw [if_neg hn]
theorem pick_no (wk : Int) (w : List UInt8) (h : value w = none) : pick wk w = none := by
  unfold pick
  rw [h]
theorem value_parse (s : List UInt8) (n : Int) (h : value s = some n) : (Fx.parse s).1 = n ∧ 0 ≤ n := by
  unfold value at h
  split at h
  · rename_i hc
    injection h with h
    exact ⟨h, by omega⟩
  · cases h
theorem own_form {w : World} {b : Nat} {pv : Value} {ps : List UInt8} (ho : w.ownsRow b 5 1 pv ps.length (ps.map byteV)) : ∃ a c, pv = .slice a ps.length c := by
  rcases Joins.ownsRow_forms ho with ⟨rfl, hz⟩ | ⟨g, cap, rfl, _⟩
  · exact ⟨none, 0, by rw [hz]⟩
  · exact ⟨_, _, rfl⟩
end Sc
set_option maxRecDepth 100000 in
set_option maxHeartbeats 4000000 in
theorem picks_any (R S : Nat) (s l : ByteArray) (n : Int) (v : List Int) (x : ByteArray) (w : World) (hr : Sc.Rd w R s n l) (hst : Sc.St w S v (.slice none 0 0) x) (_hRS : R ≠ S) (hl : l.size ≤ 1000000) (hwk : v.getD 2 0 ≤ 16) :
    Calls Tryd.prog 12 #[.pointer (some ⟨R, 0, none⟩), .pointer (some ⟨S, 0, none⟩)] w (Sc.PicksPost S l.data.toList v x w) := by
  obtain ⟨i0, hi, hz0, hz1, hz2⟩ := info_parts Sc.infoU8
  have q := fun wx => CutPrefix_any l ⟨#[112, 105, 99, 107, 115, 32]⟩ wx hl
  have r2 := hr.c2
  have hRl := hr.lt
  have hpw : (⟨#[112, 105, 99, 107, 115, 32]⟩ : ByteArray).data.toList = Sc.picksW := rfl
  have hys := Nat.le_trans (Sc.restB_size ⟨#[112, 105, 99, 107, 115, 32]⟩ l) hl
  have hyl := Sc.restB_yes ⟨#[112, 105, 99, 107, 115, 32]⟩ l
  obtain ⟨y, hy⟩ : ∃ y, Sc.restB ⟨#[112, 105, 99, 107, 115, 32]⟩ l = y := ⟨_, rfl⟩
  rw [hy] at hys hyl q
  rw [hpw] at hyl q
  obtain ⟨g, hg⟩ : ∃ g, Sc.picksW.isPrefixOf l.data.toList = g := ⟨_, rfl⟩
  rw [hg] at q
  have HST := Lib.hid hst
  have hSw := hst.lt
  clear hr hst hpw hy
  cases g
  · have HS : Hid (Sc.strip Sc.picksW l.data.toList = none) := by show _ = _; unfold Sc.strip; rw [hg]; rfl
    clear hyl hg
    go_enter Tryd.func12, Tryd.ntmps12
    go_wp2_with fail
    refine (q _).mono ?_
    rintro e w1 ⟨rfl, rfl⟩
    go_wp2
    go_ret2
    exact .no HS.out (Keep.refl _ _) HST.out
  have HS : Hid (Sc.strip Sc.picksW l.data.toList = some y.data.toList) := by show _ = _; unfold Sc.strip; rw [hyl hg, hg]; rfl
  clear hyl hg
  go_enter Tryd.func12, Tryd.ntmps12
  go_wp2_with fail
  refine (q _).mono ?_
  rintro e w1 ⟨rfl, rfl⟩
  go_wp2_with fail
  go_loopw [6, 8] (fun vt vm wr => ∃ (t : ByteArray) (m : Bool) (acc : List UInt8) (pv : Value), vt = .string t ∧ vm = .bool m ∧ t.size ≤ 1000000 ∧ acc.length ≤ 400 ∧ Hid (Sc.PInv (v.getD 2 0) y.data.toList m acc t.data.toList) ∧ Hid (Sc.St wr S v pv x) ∧ Hid (wr.ownsRow w.heap.size 5 1 pv acc.length (acc.map Sc.byteV)) ∧ Hid (Keep (· = S) w wr)) (fun vt vm _ => Sc.meas vt vm)
  case atStart =>
    refine ⟨y, true, [], _, rfl, rfl, hys, by simp, ?_, HST, World.ownsRow_nil _ _ _ _, Keep.refl _ _⟩
    show Sc.PInv _ _ _ _ _
    unfold Sc.PInv
    rw [if_pos rfl]
    simp
  case round =>
    obtain ⟨t, m, acc, pv, rfl, rfl, hts, hacc, HI, HT, HO, HK⟩ := hrel
    cases m
    · have hp : Sc.picks (v.getD 2 0) 0 (Sc.cuts y.data.toList) = some acc := by have := HI.out; unfold Sc.PInv at this; rw [if_neg (by simp)] at this; exact this
      have HP := Lib.hid hp
      clear hp
      go_wp2
      go_ret2
      exact .good HS.out HP.out HK.out HT.out HO.out
    have hp : Sc.picks (v.getD 2 0) 0 (Sc.cuts y.data.toList) = (Sc.picks (v.getD 2 0) acc.length (Sc.cuts t.data.toList)).map (acc ++ ·) := by have := HI.out; unfold Sc.PInv at this; rw [if_pos rfl] at this; exact this
    have HP := Lib.hid hp
    clear hp HI
    have qc := fun wx => Cut_any t ⟨#[32]⟩ 32 wx rfl hts
    go_wp2_with fail
    refine (qc _).mono ?_
    rintro e w2 ⟨wd, rs, rfl, hwd, hrs, dq, rfl⟩
    have hws : wd.size ≤ 1000000 := by
      have := congrArg List.length hwd
      have h2 := (List.takeWhile_sublist (l := t.data.toList) (· != 32)).length_le
      rw [Fx.size_toList] at this h2
      omega
    have hrss : rs.size ≤ 1000000 ∧ (t.data.toList.contains 32 = true → rs.size < t.size) := by
      have h1 := congrArg List.length hrs
      have h2 := (List.dropWhile_sublist (l := t.data.toList) (· != 32)).length_le
      rw [Fx.size_toList, List.length_tail] at h1
      rw [Fx.size_toList] at h2
      refine ⟨by omega, fun hc => ?_⟩
      rcases Sc.idx_has t.data.toList 32 with ⟨_, h3, _⟩ | ⟨i, _, h4, _, _, h5⟩
      · rw [hc] at h3; cases h3
      · have h6 := congrArg List.length hrs
        rw [h5, List.length_drop, Fx.size_toList, Fx.size_toList] at h6
        rw [Fx.size_toList] at h4
        omega
    have hp0 := HP.out
    rw [Sc.cuts_cut t.data.toList, ← hwd] at hp0
    have HNO : Hid (Sc.pick (v.getD 2 0) wd.data.toList = none ∨ 400 ≤ acc.length → Sc.picks (v.getD 2 0) 0 (Sc.cuts y.data.toList) = none) := fun h => by rw [hp0, Sc.picks_none _ _ _ _ h]; rfl
    have HYES : Hid (∀ b, Sc.pick (v.getD 2 0) wd.data.toList = some b → ¬ 400 ≤ acc.length → Sc.PInv (v.getD 2 0) y.data.toList (t.data.toList.contains 32) (acc ++ [b]) rs.data.toList) := fun b h1 h2 => by
      rw [hwd] at h1
      rw [hrs]
      exact Sc.PInv.step _ _ _ _ b HP.out h1 h2
    obtain ⟨mo, hmo⟩ : ∃ mo, t.data.toList.contains 32 = mo := ⟨_, rfl⟩
    rw [hmo] at HYES hrss ⊢
    obtain ⟨pa, pc, rfl⟩ := Sc.own_form HO.out
    have ht3 := HT.out.drew dq
    have s2 := ht3.n 2 (by omega)
    have s5 := ht3.c5
    have sf := ht3.fz
    have HT3 := Lib.hid ht3
    have HO3 := Lib.hid (Keep.own HO.out ((Keep.refl (fun _ => False) _).drew dq) (fun _ h => h.elim))
    have HK3 := Lib.hid (HK.out.drew dq)
    have hSl := ht3.lt
    obtain ⟨w3, hw3⟩ : ∃ w3, wr.drewN dq = w3 := ⟨_, rfl⟩
    rw [hw3] at s2 s5 sf HT3 HO3 HK3 hSl
    clear hwd hrs hp0 hmo HP HT HO HK qc q ht3
    go_wp2_with fail
    refine (value_any wd _ hws).mono ?_
    rintro e w4 ⟨rfl, rfl⟩
    clear hw3
    obtain ⟨wk, hwk2⟩ : ∃ wk, v.getD 2 0 = wk := ⟨_, rfl⟩
    rw [hwk2] at s2 hwk HNO HYES
    have HWK := Lib.hid hwk2
    clear hwk2
    obtain ⟨n', hn'⟩ : ∃ n', (Fx.parse wd.data.toList).1 = n' := ⟨_, rfl⟩
    obtain ⟨F, hF⟩ : ∃ F, (Sc.value wd.data.toList).isSome = F := ⟨_, rfl⟩
    rw [hn', hF]
    have bad : ∀ (P : Prop), P → (P → Sc.pick wk wd.data.toList = none ∨ 400 ≤ acc.length) → Hid (Sc.picks (v.getD 2 0) 0 (Sc.cuts y.data.toList) = none) := fun P h1 h2 => by show _ = _; rw [HWK.out]; exact HNO.out (h2 h1)
    cases F
    · have hvn : Sc.value wd.data.toList = none := by
        cases hv0 : Sc.value wd.data.toList with
        | none => rfl
        | some m => rw [hv0] at hF; simp at hF
      have HB := bad _ (Sc.pick_no wk _ hvn) (fun h => .inl h)
      clear bad hvn hF hn' HNO HYES
      go_wp2
      go_ret2
      exact .bad HS.out HB.out HK3.out
    have hvs : Sc.value wd.data.toList = some n' := by
      cases hv0 : Sc.value wd.data.toList with
      | none => rw [hv0] at hF; simp at hF
      | some m => rw [← hn', (Sc.value_parse _ _ hv0).1]
    have hn0 := (Sc.value_parse _ _ hvs).2
    by_cases hlt : n' < wk
    case neg =>
      have HB := bad _ (Sc.pick_big wk _ _ hvs hlt) (fun h => .inl h)
      clear bad hvs hF hn' HNO HYES
      go_wp2
      go_ret2
      exact .bad HS.out HB.out HK3.out
    by_cases h400 : 400 ≤ acc.length
    case pos =>
      have HB := bad _ h400 (fun h => .inr h)
      have h400i : 400 ≤ (acc.length : Int) := by omega
      clear bad hvs hF hn' HNO HYES
      go_wp2
      go_ret2
      exact .bad HS.out HB.out HK3.out
    have h400i : ¬ 400 ≤ (acc.length : Int) := by omega
    have HNew := Lib.hid (HYES.out _ (Sc.pick_some wk _ _ hvs hlt) h400)
    have hbv : Sc.byteV (UInt8.ofNat n'.toNat) = .int .u8 n' := by
      unfold Sc.byteV
      congr 1
      rw [UInt8.toNat_ofNat']
      omega
    have HBV := Lib.hid hbv
    have hcv : IntKind.u8.wrap n' = n' := by rw [IntKind.wrap_u8]; omega
    have hKs := HK3.out.size
    clear bad hvs hF hn' HNO HYES hbv
    go_wp2_with (at_builtin; refine wpList_append_own _ rfl _ _ 23 rfl w.heap.size 5 i0 (.int .u8 0) 1 1 Tryd.underlying23 hi hz0 hz1 hz2 rfl (by decide) _ _ _ rfl (HO3.out.alloc _) ⟨w3.heap.size, 0, none⟩ 1 1 [.int .u8 n'] rfl rfl (cell_one_new _ _ _) (fun x hx => by simp at hx; subst hx; rfl) (by unfold maxLen; omega) (by omega) (by simp; omega) ?_; intro v' w5 hown' hgrow3 hnil3; rcases Joins.ownsRow_forms hown' with ⟨rfl, hz⟩ | ⟨g', cap', rfl, _⟩; exact absurd hz (by simp); have hb5 : Below w.heap.size w3 w5 := Below.grown ((Below.refl w.heap.size w3).alloc hKs _) hgrow3 (by simp; omega) (fun j hj => (HO3.out.lt _ hj).1); have ht5 := HT3.out.below2 hb5 hSw; have q5 := ht5.c5; have f5 := ht5.fz; have HT5 := Lib.hid ht5; have HB5 := Lib.hid hb5; have HOW := Lib.hid hown'; clear ht5 hb5 hown' hgrow3 hnil3)
    go_roundw
    case rel =>
      refine ⟨rs, mo, acc ++ [UInt8.ofNat n'.toNat], _, rfl, rfl, hrss.1, by rw [List.length_append, List.length_singleton]; omega, ?_, HT5.out.set5 _, ?_, (HK3.out.below2 HB5.out).setCell (B := S) rfl 5 _⟩
      · show Sc.PInv _ _ _ _ _
        rw [HWK.out]; exact HNew.out
      · show World.ownsRow _ _ _ _ _ _ _
        rw [List.length_append, List.length_singleton, List.map_append, List.map_singleton, HBV.out]
        exact Keep.own HOW.out ((Keep.refl (· = S) w5).setCell (B := S) rfl 5 _) (fun k hk => by rw [hk]; exact hSw)
    case measure =>
      cases mo
      · show 0 < t.size + 1
        omega
      · show rs.size + 1 < t.size + 1
        have := hrss.2 rfl
        omega
end Go.Proofs.YtomggdeinjediaaDoor
