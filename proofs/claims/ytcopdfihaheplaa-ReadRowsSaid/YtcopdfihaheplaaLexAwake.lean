/-
 The walk of the laws' awake.
-/
import Derived.Test.YtcopdfihaheplaaLexWords
namespace Go.Proofs.Ytcopdfihaheplaa
open Go.RowKit Go.Sort
namespace Lx
theorem words_tok (N f c : Nat) (t g rest : List UInt8) (k : Tok) (r : List PTok) (hg : gap t.length t = (g, true)) (hne : g ≠ []) (hc : c ≠ 4096) (hw : word g = .tok k rest) (hr : words N f (c + 1) rest = (r, 0, 0)) :
  words N (f + 1) c t = (⟨N - g.length, N - rest.length, k⟩ :: r, 0, 0) := by
 rw [words_step, hg]
 simp only []
 rw [if_neg (by simp), if_neg hne, if_neg hc, hw]
 simp only [hr]
 rfl
end Lx
end Go.Proofs.Ytcopdfihaheplaa
