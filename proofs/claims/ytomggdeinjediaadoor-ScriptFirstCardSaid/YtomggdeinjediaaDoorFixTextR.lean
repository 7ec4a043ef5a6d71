/-
  The walk of shuttleref01.Text.
-/
import Derived.Test.YtomggdeinjediaaDoorFixParse
import Derived.Test.YtomggdeinjediaaDoorFixRef
import Derived.Laws.Concat
namespace Go.Proofs.YtomggdeinjediaaDoor
open Go.RowKit
namespace Fx
theorem digF_len : ∀ (f n : Nat), (digF f n).length ≤ f + 1
  | 0, n => by simp [digF]
  | f + 1, n => by
    unfold digF
    split
    · simp
    · have := digF_len f (n / 10)
      simp only [List.length_append, List.length_singleton]
      omega
theorem cat (x y : List UInt8) (hx : x.length ≤ 1000) (hy : y.length ≤ 1000) (w : World) : (Op.stringOp .add ⟨x.toArray⟩ ⟨y.toArray⟩).run Tryd.prog w = .ok (.string ⟨(x ++ y).toArray⟩) w :=
  run_string_add_lists w x y (by omega) (by omega)
theorem digU_int (n : Nat) : UInt8.ofNat ((48 : Int) + (n : Int) % 10).toNat = digU n := by
  unfold digU
  congr 1
theorem conv1 (n : Nat) (w : World) :
    (convert 23 9 (.slice (some ⟨w.heap.size, 0, none⟩) 1 1)).run Tryd.prog (w.alloc (.cells #[.int .u8 (48 + (n : Int) % 10)] 5)) = .ok (.string ⟨#[digU n]⟩) (w.alloc (.cells #[.int .u8 (48 + (n : Int) % 10)] 5)) := by
  have h := run_convert_bytes_arg (P := Tryd.prog) (w.alloc (.cells #[.int .u8 (48 + (n : Int) % 10)] 5)) 23 5 Tryd.underlying23 Tryd.underlying5 w.heap.size 0 1 1 [48 + (n : Int) % 10] rfl (fun i hi => by
    obtain rfl : i = 0 := by omega
    simp [World.cell?_alloc_new]) 9 Tryd.underlying9
  rw [h]
  simp only [strOfNums, List.map_cons, List.map_nil, digU_int]
end Fx
end Go.Proofs.YtomggdeinjediaaDoor
