/-
  Plain: what the reading of a script's text computes, on lists of bytes. No program in sight.
-/
import Derived.Test.YtomggdeinjediaaDoorFixBackPlain
namespace Go.Proofs.YtomggdeinjediaaDoor.Sc
open Go.RowKit
/-- a script -/
structure Scr where
  c : Int
  s : Int
  w : Int
  q : Int
  t : Int
  p : List UInt8
  x : List UInt8
def zero : Scr := ⟨0, 0, 0, 0, 0, [], []⟩
/-- a line, and what is behind it -/
def line (t : List UInt8) : Option (List UInt8 × List UInt8) :=
  if t.contains 10 then some (t.takeWhile (· != 10), (t.dropWhile (· != 10)).tail) else none
/-- what stands behind a beginning -/
def strip (p t : List UInt8) : Option (List UInt8) := if p.isPrefixOf t then some (t.drop p.length) else none
/-- what digits say -/
def value (s : List UInt8) : Option Int :=
  if (Fx.parse s).2 = 0 ∧ 0 ≤ (Fx.parse s).1 ∧ (Fx.parse s).1 ≤ 131072 then some (Fx.parse s).1 else none
def nm : Nat → List UInt8
  | 0 => [99, 101, 108, 108, 115]
  | 1 => [115, 104, 97, 114, 100, 115]
  | 2 => [119, 111, 114, 107, 101, 114, 115]
  | 3 => [113, 117, 97, 110, 116, 117, 109]
  | _ => [115, 116, 101, 112, 115]
def low : Nat → Int
  | 4 => 0
  | _ => 1
def top : Nat → Int
  | 0 => 65536
  | 1 => 16
  | 2 => 16
  | 3 => 1024
  | _ => 65536
def may (k : Nat) (n : Int) : Bool := decide (low k ≤ n) && decide (n ≤ top k)
/-- a line with a number -/
def reads (k : Nat) (t : List UInt8) : Option (Int × List UInt8) :=
  match line t with
  | none => none
  | some (l, r) => match strip (nm k ++ [32]) l with
    | none => none
    | some w => match value w with
      | none => none
      | some n => if may k n then some (n, r) else none
/-- the words between blanks -/
def cuts : List UInt8 → List (List UInt8)
  | [] => [[]]
  | c :: t => if c = 32 then [] :: cuts t else match cuts t with
    | [] => [[c]]
    | h :: r => (c :: h) :: r
/-- a pick -/
def pick (w : Int) (s : List UInt8) : Option UInt8 :=
  match value s with
  | none => none
  | some n => if n < w then some (UInt8.ofNat n.toNat) else none
/-- picks, so many of which there are -/
def picks (w : Int) : Nat → List (List UInt8) → Option (List UInt8)
  | _, [] => some []
  | k, s :: r => match pick w s with
    | none => none
    | some b => if 400 ≤ k then none else (picks w (k + 1) r).map (b :: ·)
inductive Res where
  | ok (s : Scr)
  | err (n e : Int)
def program : List UInt8 := [112, 114, 111, 103, 114, 97, 109]
def picksW : List UInt8 := [112, 105, 99, 107, 115, 32]
/-- the last line, and the text -/
def last (n : Int) (s : Scr) (l r : List UInt8) : Res := if l = program ∧ r.length ≤ 16384 then .ok { s with x := r } else .err n 250
/-- behind the numbers -/
def tailP (s : Scr) (t : List UInt8) : Res :=
  match line t with
  | none => .err 6 250
  | some (l, r) => match strip picksW l with
    | none => last 6 s l r
    | some ws => match picks s.w 0 (cuts ws) with
      | none => .err 6 250
      | some ps => match line r with
        | none => .err 7 250
        | some (l2, r2) => last 7 { s with p := ps } l2 r2
def mk (v : List Int) : Scr := ⟨v.getD 0 0, v.getD 1 0, v.getD 2 0, v.getD 3 0, v.getD 4 0, [], []⟩
/-- the numbers from one on -/
def nums : Nat → Nat → List Int → List UInt8 → Res
  | 0, _, v, t => tailP (mk v) t
  | f + 1, k, v, t => match reads k t with
    | none => .err ((k : Int) + 1) 250
    | some (n, r) => nums f (k + 1) (v ++ [n]) r
/-- the script of a text -/
def parse (t : List UInt8) : Res := if 20000 < t.length then .err 0 3 else nums 5 0 [] t
end Go.Proofs.YtomggdeinjediaaDoor.Sc
