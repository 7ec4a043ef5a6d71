/-
  A row of acts, its cells; one more act behind it.
-/
import Derived.Test.YtjbjgceblanhpaaDoorSpMade
namespace Go.Proofs.YtjbjgceblanhpaaDoor
open Go.RowKit
namespace Sp
open Dt
/-- an act with its slices -/
structure OV where
  x : O
  vm : Value
  vl : Value
  vt : Value
  um : Value
  ul : Value
  ut : Value
def OV.cells (v : OV) : List Value := [.int .i64 v.x.d, .int .i64 v.x.s, .int .i64 v.x.t, .int .i64 v.x.id.k, .int .i64 v.x.id.n, .string v.x.id.s, v.vm, v.vl, v.vt, .int .i64 v.x.nd.k, .int .i64 v.x.nd.n, .string v.x.nd.s, v.um, v.ul, v.ut, .int .i64 v.x.n]
def flatO (l : List OV) : List Value := l.flatMap OV.cells
theorem flatO_app (l m : List OV) : flatO (l ++ m) = flatO l ++ flatO m := by unfold flatO; simp
theorem flatO_cons (p : OV) (l : List OV) : flatO (p :: l) = p.cells ++ flatO l := rfl
theorem flatO_one (p : OV) : flatO [p] = p.cells := by unfold flatO; simp
theorem flatO_length (l : List OV) : (flatO l).length = l.length * 16 := by
  induction l with
  | nil => rfl
  | cons a l ih =>
    rw [flatO_cons, List.length_append, ih, List.length_cons]
    have : a.cells.length = 16 := rfl
    omega
theorem flatO_at : ∀ (l : List OV) (j : Nat) (h : j < l.length) (i : Nat), i < 16 → (flatO l)[j * 16 + i]? = l[j].cells[i]?
  | [], j, h, i, hi => absurd h (by simp)
  | a :: l, 0, h, i, hi => by
    rw [flatO_cons, List.getElem?_append_left (by rw [show a.cells.length = 16 from rfl]; omega)]
    simp
  | a :: l, j + 1, h, i, hi => by
    rw [flatO_cons, List.getElem?_append_right (by rw [show a.cells.length = 16 from rfl]; omega), show (j + 1) * 16 + i - a.cells.length = j * 16 + i from by rw [show a.cells.length = 16 from rfl]; omega, flatO_at l j (by simpa using h) i hi]
    simp
/-- it is what it seems -/
structure OV.Good (F : Nat → Prop) (w : World) (v : OV) : Prop where
  r1 : Rep F w v.x.id v.vm v.vl v.vt
  r2 : Rep F w v.x.nd v.um v.ul v.ut
  w1 : Wf v.x.id
  w2 : Wf v.x.nd
theorem OV.Good.one {F : Nat → Prop} {w : World} {v : OV} (h : v.Good F w) : ∀ u ∈ v.cells, u.oneCell' = true := by
  obtain ⟨a1, n1, c1, a2, n2, c2, a3, n3, c3, e1, e2, e3⟩ := h.r1.forms
  obtain ⟨b1, m1, d1, b2, m2, d2, b3, m3, d3, g1, g2, g3⟩ := h.r2.forms
  unfold OV.cells
  rw [e1, e2, e3, g1, g2, g3]
  intro u hu
  simp only [List.mem_cons, List.not_mem_nil, or_false] at hu
  rcases hu with rfl | rfl | rfl | rfl | rfl | rfl | rfl | rfl | rfl | rfl | rfl | rfl | rfl | rfl | rfl | rfl <;> rfl
theorem flat_one {F : Nat → Prop} {w : World} {l : List OV} (h : ∀ v ∈ l, v.Good F w) : ∀ u ∈ flatO l, u.oneCell' = true := by
  intro u hu
  obtain ⟨v, hv, hu'⟩ := List.mem_flatMap.1 hu
  exact (h v hv).one u hu'
theorem OV.Good.below {F : Nat → Prop} {w w' : World} {v : OV} (h : v.Good F w) (hb : Below w.heap.size w w') : v.Good F w' := ⟨h.r1.below hb, h.r2.below hb, h.w1, h.w2⟩
/-- a row's acts, with their slices -/
theorem ORow.split {F : Nat → Prop} {w : World} {b o : Nat} {l : List O} (h : ∀ j, (hj : j < l.length) → OAt F w b (o + j * 16) l[j]) : ∃ vs : List OV, vs.map OV.x = l ∧ (∀ v ∈ vs, v.Good F w) ∧ ∀ i u, (flatO vs)[i]? = some u → w.cell? ⟨b, o + i, none⟩ = some u := by
  obtain ⟨vs, hl, hq⟩ := gather (fun i (v : OV) => ∃ hi : i < l.length, v.x = l[i] ∧ v.Good F w ∧ ∀ r, r < 16 → w.cell? ⟨b, o + i * 16 + r, none⟩ = v.cells[r]?) l.length (fun i hi => by
    obtain ⟨⟨h0, h1, h2, h3⟩, ⟨vm, vl, vt, s1, r1⟩, ⟨um, ul, ut, s2, r2⟩, w1, w2⟩ := h i hi
    refine ⟨⟨l[i], vm, vl, vt, um, ul, ut⟩, hi, rfl, ⟨r1, r2, w1, w2⟩, fun r hr => ?_⟩
    rcases r with _ | _ | _ | _ | _ | _ | _ | _ | _ | _ | _ | _ | _ | _ | _ | _ | r
    · exact h0
    · exact h1
    · exact h2
    · exact s1.c0
    · exact s1.c1
    · exact s1.c2
    · exact s1.c3
    · exact s1.c4
    · exact s1.c5
    · exact s2.c0
    · exact s2.c1
    · exact s2.c2
    · exact s2.c3
    · exact s2.c4
    · exact s2.c5
    · exact h3
    · omega)
  refine ⟨vs, ?_, fun v hv => ?_, fun i u hu => ?_⟩
  · apply List.ext_getElem
    · rw [List.length_map, hl]
    · intro j h1 h2
      rw [List.getElem_map]
      obtain ⟨_, e, _⟩ := hq j (by rw [List.length_map] at h1; exact h1)
      exact e
  · obtain ⟨j, hj, rfl⟩ := List.getElem_of_mem hv
    obtain ⟨_, _, g, _⟩ := hq j hj
    exact g
  · have hlt := (List.getElem?_eq_some_iff.1 hu).1
    rw [flatO_length] at hlt
    have hj : i / 16 < vs.length := by omega
    obtain ⟨_, _, _, hc⟩ := hq (i / 16) hj
    have h9 := hc (i % 16) (by omega)
    have e : i / 16 * 16 + i % 16 = i := by omega
    have h8 := flatO_at vs (i / 16) hj (i % 16) (by omega)
    rw [e] at h8
    rw [← h8, hu] at h9
    rw [← h9]
    congr 2
    omega
/-- an own row of acts -/
theorem ORow.of_own {w : World} {base n g c : Nat} {vs : List OV} (h : w.ownsRow base 30 16 (.slice (some ⟨g, 0, none⟩) n c) n (flatO vs)) (hn : n = vs.length) (hg : ∀ v ∈ vs, v.Good (fun _ => True) w) : ORow (fun _ => True) w (.slice (some ⟨g, 0, none⟩) (vs.map OV.x).length c) (vs.map OV.x) := by
  rcases h.2 with ⟨e, _⟩ | ⟨g', cap, cur, e, _, hh, hnc, _⟩
  · cases e
  obtain ⟨e1, _, e3⟩ := slice_inj e
  have eg : g = g' := by cases e1; rfl
  subst eg
  subst e3
  refine ⟨some ⟨g, 0, none⟩, c, rfl, by rw [List.length_map]; omega, fun hne => ⟨g, 0, rfl, trivial, (Array.getElem?_eq_some_iff.1 hh).1, fun j hj => ?_⟩⟩
  have hj' : j < vs.length := by rw [List.length_map] at hj; exact hj
  have cc : ∀ r, r < 16 → w.cell? ⟨g, 0 + j * 16 + r, none⟩ = vs[j].cells[r]? := fun r hr => by
    have h1 := flatO_at vs j hj' r hr
    have hlt : r < vs[j].cells.length := by rw [show vs[j].cells.length = 16 from rfl]; exact hr
    rw [List.getElem?_eq_getElem hlt] at h1 ⊢
    have := h.cells (g := g) rfl (j * 16 + r) _ h1
    rw [show (⟨g, 0, none⟩ : Addr).add (j * 16 + r) = ⟨g, 0 + (j * 16 + r), none⟩ from add_none] at this
    rw [Nat.add_assoc]
    exact this
  rw [List.getElem_map]
  have hG := hg vs[j] (List.getElem_mem _)
  exact ⟨⟨cc 0 (by omega), cc 1 (by omega), cc 2 (by omega), cc 15 (by omega)⟩, ⟨_, _, _, ⟨cc 3 (by omega), cc 4 (by omega), cc 5 (by omega), cc 6 (by omega), cc 7 (by omega), cc 8 (by omega)⟩, hG.r1⟩, ⟨_, _, _, ⟨cc 9 (by omega), cc 10 (by omega), cc 11 (by omega), cc 12 (by omega), cc 13 (by omega), cc 14 (by omega)⟩, hG.r2⟩, hG.w1, hG.w2⟩
theorem ORow.pre {F : Nat → Prop} {w : World} {a : Option Addr} {c : Nat} {l : List O} (h : ORow F w (.slice a l.length c) l) (k : Nat) (hk : k ≤ l.length) : ORow F w (.slice a (l.take k).length c) (l.take k) := by
  obtain ⟨a', c', e, hc, h⟩ := h
  obtain ⟨rfl, -, rfl⟩ := slice_inj e
  refine ⟨a, c, rfl, by rw [List.length_take]; omega, fun hn => ?_⟩
  obtain ⟨b, o, e1, hF, hb, hj⟩ := h (by intro e; rw [e] at hn; simp at hn)
  exact ⟨b, o, e1, hF, hb, fun j hjl => by rw [List.getElem_take]; exact hj j (by rw [List.length_take] at hjl; omega)⟩
theorem infoO : (Tryd.prog.info? 30).map (fun i => (i.zero, i.size, i.bytes)) = some (some (.agg #[.int .i64 0, .int .i64 0, .int .i64 0, .int .i64 0, .int .i64 0, .string ⟨#[]⟩, .slice none 0 0, .slice none 0 0, .slice none 0 0, .int .i64 0, .int .i64 0, .string ⟨#[]⟩, .slice none 0 0, .slice none 0 0, .slice none 0 0, .int .i64 0]), 16, 240) := by kernel_rfl
/-- what a call takes: a row of acts that came in -/
structure InRow (w : World) (a : Option Addr) (c : Nat) (l : List O) : Prop where
  row : ORow (fun _ => True) w (.slice a l.length c) l
  nil : a = none → c = 0
  len : l.length ≤ 140737488355328
/-- its first acts, to be copied -/
theorem InRow.src {w : World} {a : Option Addr} {c : Nat} {l : List O} (h : InRow w a c l) (k : Nat) (hk : k ≤ l.length) : ∃ vs : List OV, vs.map OV.x = l.take k ∧ vs.length = k ∧ (∀ v ∈ vs, v.Good (fun _ => True) w) ∧ Ap.Src w (.slice a k c) k (flatO vs) := by
  have hp := h.row.pre k hk
  have hlk : (l.take k).length = k := by rw [List.length_take]; omega
  obtain ⟨a', c', e, hc, hh⟩ := hp
  obtain ⟨rfl, -, rfl⟩ := slice_inj e
  by_cases hn : l.take k = []
  · have hk0 : k = 0 := by rw [hn] at hlk; simpa using hlk.symm
    subst hk0
    refine ⟨[], by simp, rfl, by simp, ?_⟩
    cases a with
    | none => exact .inl ⟨by rw [h.nil rfl], rfl, rfl⟩
    | some ad => exact .inr ⟨ad, c, rfl, fun j u hu => by simp [flatO] at hu⟩
  · obtain ⟨b, o, rfl, _, hb, hj⟩ := hh hn
    obtain ⟨vs, h1, h2, h3⟩ := ORow.split hj
    refine ⟨vs, h1, by rw [← hlk, ← h1, List.length_map], h2, .inr ⟨⟨b, o, none⟩, c, rfl, fun j u hu => ?_⟩⟩
    rw [add_none]
    exact h3 j u hu
end Sp
end Go.Proofs.YtjbjgceblanhpaaDoor
