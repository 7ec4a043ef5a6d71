/-
  Programs: the plain model, and how a program lies in memory.
-/
import Derived.Test.YtlckjphnbfahgaaGreatDoorCdFlow
import Derived.Test.YtlckjphnbfahgaaGreatDoorDtSame
namespace Go.Proofs.YtlckjphnbfahgaaGreatDoor
open Go.RowKit
namespace Cd
open Dt
structure Code where
  params : Int
  rest : Int
  caps : Int
  max : Int
  ins : List Ins
structure Prog where
  codes : List Code
  consts : List D
  names : List ByteArray
/-- a code's instructions as they lie -/
def InsRow (F : Nat → Prop) (w : World) (v : Value) (l : List Ins) : Prop :=
  ∃ (a : Option Addr) (c : Nat), v = .slice a l.length c ∧ l.length ≤ c ∧ (l ≠ [] → ∃ b o, a = some ⟨b, o, none⟩ ∧ F b ∧ b < w.heap.size ∧ ∀ j, (h : j < l.length) → w.cell? ⟨b, o + j * 3, none⟩ = some (.int .i64 l[j].o) ∧ w.cell? ⟨b, o + j * 3 + 1, none⟩ = some (.int .i64 l[j].a) ∧ w.cell? ⟨b, o + j * 3 + 2, none⟩ = some (.int .i64 l[j].b))
/-- a code as it lies -/
def CodeAt (F : Nat → Prop) (w : World) (b o : Nat) (c : Code) : Prop :=
  w.cell? ⟨b, o, none⟩ = some (.int .i64 c.params) ∧ w.cell? ⟨b, o + 1, none⟩ = some (.int .i64 c.rest) ∧ w.cell? ⟨b, o + 2, none⟩ = some (.int .i64 c.caps) ∧ w.cell? ⟨b, o + 3, none⟩ = some (.int .i64 c.max) ∧ ∃ v, w.cell? ⟨b, o + 4, none⟩ = some v ∧ InsRow F w v c.ins
def CodeRow (F : Nat → Prop) (w : World) (v : Value) (l : List Code) : Prop :=
  ∃ (a : Option Addr) (c : Nat), v = .slice a l.length c ∧ l.length ≤ c ∧ (l ≠ [] → ∃ b o, a = some ⟨b, o, none⟩ ∧ F b ∧ b < w.heap.size ∧ ∀ j, (h : j < l.length) → CodeAt F w b (o + j * 5) l[j])
def NameRow (F : Nat → Prop) (w : World) (v : Value) (l : List ByteArray) : Prop :=
  ∃ (a : Option Addr) (c : Nat), v = .slice a l.length c ∧ l.length ≤ c ∧ (l ≠ [] → ∃ b o, a = some ⟨b, o, none⟩ ∧ F b ∧ b < w.heap.size ∧ ∀ j, (h : j < l.length) → w.cell? ⟨b, o + j, none⟩ = some (.string l[j]))
/-- a program as it lies -/
structure PRep (F : Nat → Prop) (w : World) (p : Prog) (vc vk vn : Value) : Prop where
  codes : CodeRow F w vc p.codes
  consts : Row F w vk p.consts
  names : NameRow F w vn p.names
def I64 (n : Int) : Prop := -9223372036854775808 ≤ n ∧ n ≤ 9223372036854775807
/-- what can be held at all -/
structure PWf (p : Prog) : Prop where
  lc : p.codes.length ≤ 140737488355328
  lk : p.consts.length ≤ 140737488355328
  ln : p.names.length ≤ 140737488355328
  wk : Wfs p.consts
  wn : ∀ s ∈ p.names, s.size ≤ 140737488355328
  wc : ∀ c ∈ p.codes, I64 c.params ∧ I64 c.rest ∧ I64 c.caps ∧ I64 c.max ∧ c.ins.length ≤ 140737488355328 ∧ ∀ x ∈ c.ins, I64 x.o ∧ I64 x.a ∧ I64 x.b
theorem InsRow.keep {F S : Nat → Prop} {w w' : World} {v : Value} {l : List Ins} (h : InsRow F w v l) (hk : Keep S w w') (hS : ∀ b, F b → b < w.heap.size → ¬ S b) : InsRow F w' v l := by
  obtain ⟨a, c, h1, h2, h3⟩ := h
  refine ⟨a, c, h1, h2, fun hn => ?_⟩
  obtain ⟨b, o, h4, h5, h6, h7⟩ := h3 hn
  exact ⟨b, o, h4, h5, Nat.lt_of_lt_of_le h6 hk.size, fun j hj => ⟨(hk.cell _ h6 (hS b h5 h6)).trans (h7 j hj).1, (hk.cell _ h6 (hS b h5 h6)).trans (h7 j hj).2.1, (hk.cell _ h6 (hS b h5 h6)).trans (h7 j hj).2.2⟩⟩
theorem CodeAt.keep {F S : Nat → Prop} {w w' : World} {b o : Nat} {c : Code} (h : CodeAt F w b o c) (hk : Keep S w w') (hS : ∀ b, F b → b < w.heap.size → ¬ S b) (hb : b < w.heap.size) (hF : F b) : CodeAt F w' b o c := by
  obtain ⟨h0, h1, h2, h3, v, h4, h5⟩ := h
  have hn := hS b hF hb
  exact ⟨(hk.cell _ hb hn).trans h0, (hk.cell _ hb hn).trans h1, (hk.cell _ hb hn).trans h2, (hk.cell _ hb hn).trans h3, v, (hk.cell _ hb hn).trans h4, h5.keep hk hS⟩
theorem CodeRow.keep {F S : Nat → Prop} {w w' : World} {v : Value} {l : List Code} (h : CodeRow F w v l) (hk : Keep S w w') (hS : ∀ b, F b → b < w.heap.size → ¬ S b) : CodeRow F w' v l := by
  obtain ⟨a, c, h1, h2, h3⟩ := h
  refine ⟨a, c, h1, h2, fun hn => ?_⟩
  obtain ⟨b, o, h4, h5, h6, h7⟩ := h3 hn
  exact ⟨b, o, h4, h5, Nat.lt_of_lt_of_le h6 hk.size, fun j hj => (h7 j hj).keep hk hS h6 h5⟩
theorem NameRow.keep {F S : Nat → Prop} {w w' : World} {v : Value} {l : List ByteArray} (h : NameRow F w v l) (hk : Keep S w w') (hS : ∀ b, F b → b < w.heap.size → ¬ S b) : NameRow F w' v l := by
  obtain ⟨a, c, h1, h2, h3⟩ := h
  refine ⟨a, c, h1, h2, fun hn => ?_⟩
  obtain ⟨b, o, h4, h5, h6, h7⟩ := h3 hn
  exact ⟨b, o, h4, h5, Nat.lt_of_lt_of_le h6 hk.size, fun j hj => (hk.cell _ h6 (hS b h5 h6)).trans (h7 j hj)⟩
theorem PRep.keep {F S : Nat → Prop} {w w' : World} {p : Prog} {vc vk vn : Value} (h : PRep F w p vc vk vn) (hk : Keep S w w') (hS : ∀ b, F b → b < w.heap.size → ¬ S b) : PRep F w' p vc vk vn :=
  ⟨h.codes.keep hk hS, h.consts.keep hk hS, h.names.keep hk hS⟩
theorem PRep.below {F : Nat → Prop} {w w' : World} {p : Prog} {vc vk vn : Value} (h : PRep F w p vc vk vn) (hb : Below w.heap.size w w') : PRep F w' p vc vk vn :=
  h.keep (S := fun _ => False) ((Keep.refl _ w).below hb) (fun _ _ _ h => h)
theorem CodeRow.below {F : Nat → Prop} {w w' : World} {v : Value} {l : List Code} (h : CodeRow F w v l) (hb : Below w.heap.size w w') : CodeRow F w' v l :=
  h.keep (S := fun _ => False) ((Keep.refl _ w).below hb) (fun _ _ _ h => h)
theorem InsRow.below {F : Nat → Prop} {w w' : World} {v : Value} {l : List Ins} (h : InsRow F w v l) (hb : Below w.heap.size w w') : InsRow F w' v l :=
  h.keep (S := fun _ => False) ((Keep.refl _ w).below hb) (fun _ _ _ h => h)
theorem NameRow.below {F : Nat → Prop} {w w' : World} {v : Value} {l : List ByteArray} (h : NameRow F w v l) (hb : Below w.heap.size w w') : NameRow F w' v l :=
  h.keep (S := fun _ => False) ((Keep.refl _ w).below hb) (fun _ _ _ h => h)
theorem PRep.forms {F : Nat → Prop} {w : World} {p : Prog} {vc vk vn : Value} (h : PRep F w p vc vk vn) : ∃ a1 c1 a2 c2 a3 c3, vc = .slice a1 p.codes.length c1 ∧ vk = .slice a2 p.consts.length c2 ∧ vn = .slice a3 p.names.length c3 := by
  obtain ⟨⟨a1, c1, h1, _⟩, ⟨a2, c2, h2, _⟩, ⟨a3, c3, h3, _⟩⟩ := h
  exact ⟨a1, c1, a2, c2, a3, c3, h1, h2, h3⟩
/-! what may be -/
/-- between which numbers A lies -/
def lim (p : Prog) (c : Code) (j : Nat) : Nat → Int × Int
  | 0 => (0, 1)
  | 1 => (0, p.consts.length)
  | 2 => (0, c.params)
  | 3 => (0, c.caps)
  | 4 => (0, p.names.length)
  | 5 => ((j : Int) + 1, c.ins.length)
  | 6 => (1, p.codes.length)
  | _ => (0, 33)
def capsOf (p : Prog) (k : Int) : Int := match p.codes[k.toNat]? with
  | some c => c.caps
  | none => 0
def okIns (p : Prog) (c : Code) (j : Nat) (x : Ins) : Bool :=
  (opT x.o).isSome && decide ((lim p c j (op x.o).a).1 ≤ x.a) && decide (x.a < (lim p c j (op x.o).a).2) && (if (op x.o).pb then decide (x.b = capsOf p x.a) else decide (x.b = 0))
def allIns (p : Prog) (c : Code) : Bool := (List.range c.ins.length).all fun j => okIns p c j (c.ins.getD j ⟨0, 0, 0⟩)
def within (n most : Int) : Bool := decide (0 ≤ n) && decide (n ≤ most)
def good (p : Prog) (c : Code) : Bool :=
  within c.params 32 && within c.rest (min c.params 1) && within c.caps 64 && decide (c.ins.length ≠ 0) && decide (c.ins.length ≤ 4096) && allIns p c &&
    (match flowW c.ins 0 (start c.ins.length) 0 with
    | some (_, most) => decide (most = c.max) && decide (most ≤ 256)
    | none => false)
def plainD (d : D) : Bool := decide (check d = 0) && (pre d).all fun x => x.m.isEmpty
/-- Check -/
def checkP (p : Prog) : Int :=
  if p.codes.length = 0 ∨ 1024 < p.codes.length ∨ 1024 < p.consts.length ∨ 1024 < p.names.length ∨ (p.codes.head?.elim true fun c => decide (c.params ≠ 0 ∨ c.caps ≠ 0)) = true then 90
  else if ((List.range p.consts.length).all fun i => plainD (p.consts.getD i (.mk 0 0 ⟨#[]⟩ [] [] [])) && !((p.consts.take i).any fun x => decide (check x = 0) && decide (check (p.consts.getD i (.mk 0 0 ⟨#[]⟩ [] [] [])) = 0) && eqD x (p.consts.getD i (.mk 0 0 ⟨#[]⟩ [] [] [])))) = false then 90
  else if ((List.range p.names.length).all fun i => Lx.symbol (p.names.getD i ⟨#[]⟩).data.toList && !((p.names.take i).contains (p.names.getD i ⟨#[]⟩))) = false then 90
  else if p.codes.all (good p) = false then 90
  else 0
end Cd
end Go.Proofs.YtlckjphnbfahgaaGreatDoor
