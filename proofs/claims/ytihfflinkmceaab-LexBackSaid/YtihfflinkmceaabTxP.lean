/-
  The text of any word, by both.
-/
import Derived.Test.YtihfflinkmceaabTxO
import Derived.Test.YtihfflinkmceaabTxK
import Derived.Test.YtihfflinkmceaabTxL
import Derived.Test.YtihfflinkmceaabTxN
namespace Go.Proofs.Ytihfflinkmceaab
open Go.RowKit
theorem Tx.kcase (k : Int) : (k < 1 ∨ 13 < k) ∨ k = 1 ∨ k = 2 ∨ k = 3 ∨ k = 4 ∨ k = 5 ∨ k = 6 ∨ k = 7 ∨ k = 8 ∨ k = 9 ∨ k = 10 ∨ k = 11 ∨ k = 12 ∨ k = 13 := by omega
theorem Text_w (t : Tx.W) (w : World) (h : t.ok) :
    Calls Try.prog 13 #[.agg #[.int .i64 t.k, .int .i64 t.a, .int .i64 t.z, .int .i64 t.n, .string t.s]] w fun e w' => e = .returned (Tx.V t.txt) ∧ Below w.heap.size w w' := by
  obtain ⟨hs, hn⟩ := h
  obtain ⟨k, a, z, n, s⟩ := t
  simp only at hs hn ⊢
  unfold Tx.W.txt
  rcases Tx.kcase k with h | rfl | rfl | rfl | rfl | rfl | rfl | rfl | rfl | rfl | rfl | rfl | rfl | rfl
  · exact TextOut_any k a z n s w h
  · exact Text1_any a z n s w
  · exact Text2_any a z n s w
  · exact Text3_any a z n s w
  · exact Text4_any a z n s w
  · exact Text5_any a z n s w
  · exact Text6_any a z n s w
  · exact Text7_any a z n s w
  · exact Text8_any a z n s w
  · exact Text9_any a z n s w hs hn
  · exact Text10_any a z n s w hs hn
  · exact Text11_any a z n s w hs hn
  · exact Text12_any a z n s w hs hn
  · exact Text13_any a z n s w hs hn
theorem TextR_w (t : Tx.W) (w : World) (h : t.ok) :
    Calls Try.prog 14 #[.agg #[.int .i64 t.k, .int .i64 t.a, .int .i64 t.z, .int .i64 t.n, .string t.s]] w fun e w' => e = .returned (Tx.V t.txt) ∧ Below w.heap.size w w' := by
  obtain ⟨hs, _⟩ := h
  obtain ⟨k, a, z, n, s⟩ := t
  simp only at hs ⊢
  unfold Tx.W.txt
  rcases Tx.kcase k with h | rfl | rfl | rfl | rfl | rfl | rfl | rfl | rfl | rfl | rfl | rfl | rfl | rfl
  · exact TextROut_any k a z n s w h
  · exact TextR1_any a z n s w
  · exact TextR2_any a z n s w
  · exact TextR3_any a z n s w
  · exact TextR4_any a z n s w
  · exact TextR5_any a z n s w
  · exact TextR6_any a z n s w
  · exact TextR7_any a z n s w
  · exact TextR8_any a z n s w
  · exact TextR9_any a z n s w hs
  · exact TextR10_any a z n s w hs
  · exact TextR11_any a z n s w hs
  · exact TextR12_any a z n s w hs
  · exact TextR13_any a z n s w hs
end Go.Proofs.Ytihfflinkmceaab
