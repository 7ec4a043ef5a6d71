/-
  The walk of the laws' awake.
-/
import Derived.Test.YtihfflinkmceaabLexWords
namespace Go.Proofs.Ytihfflinkmceaab
open Go.RowKit Go.Sort
namespace Lx
def awakeS : ByteArray := ⟨#[40, 97, 32, 46, 32, 34, 98, 92, 110, 34, 41, 32, 45, 53]⟩
def awakeL : List PTok := [⟨0, 1, ⟨1, 0, []⟩⟩, ⟨1, 2, ⟨13, 0, [97]⟩⟩, ⟨3, 4, ⟨8, 0, []⟩⟩, ⟨5, 10, ⟨12, 0, [98, 10]⟩⟩, ⟨10, 11, ⟨2, 0, []⟩⟩, ⟨12, 14, ⟨9, -5, []⟩⟩]
theorem strEnd_w : strEnd [98, 92, 110, 34, 41, 32, 45, 53] = some ([98, 92, 110], [41, 32, 45, 53]) := by
  simp [strEnd]
theorem quoted_w : quoted [98, 92, 110] = some [98, 10] := by
  simp [quoted, white]
theorem str_w : str [34, 98, 92, 110, 34, 41, 32, 45, 53] = .tok ⟨12, 0, [98, 10]⟩ [41, 32, 45, 53] := by
  unfold str
  rw [List.tail_cons, strEnd_w]
  simp only [quoted_w]
  rfl
theorem words_tok (N f c : Nat) (t g rest : List UInt8) (k : Tok) (r : List PTok) (hg : gap t.length t = (g, true)) (hne : g ≠ []) (hc : c ≠ 4096) (hw : word g = .tok k rest) (hr : words N f (c + 1) rest = (r, 0, 0)) :
    words N (f + 1) c t = (⟨N - g.length, N - rest.length, k⟩ :: r, 0, 0) := by
  rw [words_step, hg]
  simp only []
  rw [if_neg (by simp), if_neg hne, if_neg hc, hw]
  simp only [hr]
  rfl
theorem awake_words : words 14 15 0 [40, 97, 32, 46, 32, 34, 98, 92, 110, 34, 41, 32, 45, 53] = (awakeL, 0, 0) :=
  words_tok 14 14 0 _ [40, 97, 32, 46, 32, 34, 98, 92, 110, 34, 41, 32, 45, 53] [97, 32, 46, 32, 34, 98, 92, 110, 34, 41, 32, 45, 53] _ _ rfl (by simp) (by decide) rfl
  (words_tok 14 13 1 _ [97, 32, 46, 32, 34, 98, 92, 110, 34, 41, 32, 45, 53] [32, 46, 32, 34, 98, 92, 110, 34, 41, 32, 45, 53] _ _ rfl (by simp) (by decide) rfl
  (words_tok 14 12 2 _ [46, 32, 34, 98, 92, 110, 34, 41, 32, 45, 53] [32, 34, 98, 92, 110, 34, 41, 32, 45, 53] _ _ rfl (by simp) (by decide) rfl
  (words_tok 14 11 3 _ [34, 98, 92, 110, 34, 41, 32, 45, 53] [41, 32, 45, 53] _ _ rfl (by simp) (by decide) str_w
  (words_tok 14 10 4 _ [41, 32, 45, 53] [32, 45, 53] _ _ rfl (by simp) (by decide) rfl
  (words_tok 14 9 5 _ [45, 53] [] _ _ rfl (by simp) (by decide) rfl rfl)))))
theorem awake_lex : lex awakeS.data.toList = (awakeL, 0, 0) := by
  unfold lex
  rw [if_neg (by decide), if_neg (by decide)]
  exact awake_words
end Lx
set_option maxRecDepth 100000 in
set_option maxHeartbeats 2000000 in
theorem awake_any (w : World) :
    Calls Try.prog 6 #[] w fun e w' => e = .returned (.bool true) ∧ Below w.heap.size w w' := by
  have hW := Words_any Lx.awakeS w (by decide)
  rw [Lx.awake_lex] at hW
  go_enter Try.func6, Try.ntmps6
  go_wp2_with fail
  refine hW.mono ?_
  rintro e w1 ⟨hb, h⟩
  rcases h with ⟨_, v, rfl, hO⟩ | ⟨h, _⟩
  case inr => exact absurd rfl h
  rcases Joins.ownsRow_forms hO with ⟨rfl, hz⟩ | ⟨g, cap, rfl, _⟩
  · exact absurd hz (by decide)
  have k15 : w1.cell? ⟨g, 15, none⟩ = some (.int .i64 12) := (hO.cellAt 15 (by decide)).trans rfl
  have k16 : w1.cell? ⟨g, 16, none⟩ = some (.int .i64 5) := (hO.cellAt 16 (by decide)).trans rfl
  have k17 : w1.cell? ⟨g, 17, none⟩ = some (.int .i64 10) := (hO.cellAt 17 (by decide)).trans rfl
  have k18 : w1.cell? ⟨g, 18, none⟩ = some (.int .i64 0) := (hO.cellAt 18 (by decide)).trans rfl
  have k19 : w1.cell? ⟨g, 19, none⟩ = some (.string ⟨#[98, 10]⟩) := (hO.cellAt 19 (by decide)).trans rfl
  have k28 : w1.cell? ⟨g, 28, none⟩ = some (.int .i64 (-5)) := (hO.cellAt 28 (by decide)).trans rfl
  have HB := Lib.hid hb
  clear hO hb hW
  have hlen : Lx.awakeL.length = 6 := rfl
  rw [hlen]
  go_wp2
  go_ret
  exact ⟨rfl, HB.out⟩
end Go.Proofs.Ytihfflinkmceaab
