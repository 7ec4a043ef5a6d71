/-
 The plain text of a word: what datum it stands for may be, its bytes; several words' text.
-/
import Derived.Test.YtcopdfihaheplaaFixText
import Derived.Test.YtcopdfihaheplaaLexBase
namespace Go.Proofs.Ytcopdfihaheplaa
open Go.RowKit
namespace Tx
def digits : ByteArray := ⟨#[48, 49, 50, 51, 52, 53, 54, 55, 56, 57, 97, 98, 99, 100, 101, 102]⟩
def two (c : Nat) : ByteArray := (⟨#[120]⟩ : ByteArray) ++ digits.extract (c / 16) (c / 16 + 1) ++ digits.extract (c % 16) (c % 16 + 1)
def kind (k : Int) : Int := if k = 9 then 1 else if k = 10 then 2 else if k = 11 then 3 else if k = 12 then 4 else if k = 13 then 5 else 0
def fig (d : Nat) : UInt8 := if d < 10 then UInt8.ofNat (48 + d) else UInt8.ofNat (87 + d)
def pairL (c : Nat) : List UInt8 := [fig (c / 16), fig (c % 16)]
def escL (c : UInt8) : List UInt8 :=
 if c == 10 then [92, 110] else if c == 9 then [92, 116] else if c == 34 then [92, 34] else if c == 92 then [92, 92]
 else if decide (32 ≤ c.toNat) && decide (c.toNat < 127) then [c] else 92 :: 120 :: pairL c.toNat
def escsL (l : List UInt8) : List UInt8 := l.flatMap escL
def quotL (l : List UInt8) : List UInt8 := 34 :: (escsL l ++ [34])
def letL (n : Nat) : List UInt8 :=
 if n = 32 then [115, 112, 97, 99, 101] else if n = 10 then [110, 101, 119, 108, 105, 110, 101] else if n = 9 then [116, 97, 98] else if n = 0 then [110, 117, 108]
 else if 32 < n ∧ n < 127 then [UInt8.ofNat n] else 120 :: pairL n
def ok (k n : Int) (s : List UInt8) : Bool :=
 if k = 1 then Fx.isF n && decide (s = [])
 else if k = 2 then (decide (n = 0) || decide (n = 1)) && decide (s = [])
 else if k = 3 then (decide (0 ≤ n) && decide (n ≤ 127)) && decide (s = [])
 else if k = 4 then decide (n = 0) && (decide (s.length ≤ 256) && s.all (fun c => decide (c.toNat < 128)))
 else if k = 5 then decide (n = 0) && Lx.symbol s
 else false
def signL (k : Int) : List UInt8 :=
 if k = 1 then [40] else if k = 2 then [41] else if k = 3 then [35, 40] else if k = 4 then [39] else if k = 5 then [96] else if k = 6 then [44] else if k = 7 then [44, 64] else [46]
def datL (k n : Int) (s : List UInt8) : List UInt8 :=
 if k = 1 then Fx.textL n else if k = 2 then (if n = 1 then [35, 116] else [35, 102]) else if k = 3 then 35 :: 92 :: letL n.toNat else if k = 4 then quotL s else s
def text (k n : Int) (s : List UInt8) : Option (List UInt8) :=
 if kind k ≠ 0 then (if ok (kind k) n s = true then some (datL (kind k) n s) else none)
 else if 1 ≤ k ∧ k ≤ 8 then (if n = 0 ∧ s = [] then some (signL k) else none) else none
def V : Option (List UInt8) → Value
 | some t => .tuple #[.string ⟨t.toArray⟩, .int .i64 0]
 | none => .tuple #[.string ⟨#[]⟩, .int .i64 30]
end Tx
end Go.Proofs.Ytcopdfihaheplaa
