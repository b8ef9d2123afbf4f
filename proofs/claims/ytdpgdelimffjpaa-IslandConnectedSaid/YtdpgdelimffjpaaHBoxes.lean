import Derived.Test.YtdpgdelimffjpaaHIter
import Derived.Test.YtdpgdelimffjpaaHPure1
import Derived.Test.YtdpgdelimffjpaaHWide
import Derived.Test.YtdpgdelimffjpaaHTr
namespace Go.Proofs.Ytdpgdelimffjpaa.P
open Go.RowKit Go.Proofs.YtdpgdelimffjpaaW.PrintWords Go.Proofs.YtdpgdelimffjpaaW.PrintLast Go.Proofs.YtdpgdelimffjpaaW.PrintMore
attribute [local go_sem] max2_int min2_int max_two min_two max_three min_three max_four min_four
set_option linter.unusedVariables false
set_option linter.unusedSimpArgs false
theorem insF_inn (L : List S37) (out : List Int) : insF (fun k => out.contains (k : Int)) L L.length = (inn L out).map (fun (k : Nat) => (k, rd_T37 L (k : Int))) := rfl
theorem boxes3 {w w4 : World} {c0 c1 c2 : Array Value} {t0 t1 t2 : TypeId} (h : Below (((w.alloc (.cells c0 t0)).alloc (.cells c1 t1)).alloc (.cells c2 t2)).heap.size (((w.alloc (.cells c0 t0)).alloc (.cells c1 t1)).alloc (.cells c2 t2)) w4) :
    w4.heap[w.heap.size]? = some (.cells c0 t0 (0, 0)) ∧ w4.heap[w.heap.size + 1]? = some (.cells c1 t1 (0, 0)) ∧ w4.heap[w.heap.size + 1 + 1]? = some (.cells c2 t2 (0, 0)) ∧ w.heap.size + 3 ≤ w4.heap.size ∧ Below w.heap.size w w4 := by
  have b0 := heap_alloc_new w (.cells c0 t0)
  have z0 : (w.alloc (.cells c0 t0)).heap.size = w.heap.size + 1 := by simp
  generalize hA : w.alloc (.cells c0 t0) = wA at *
  have hbA : Below w.heap.size w wA := by rw [← hA]; exact (Below.refl _ _).alloc (Nat.le_refl _) _
  have b1 := heap_alloc_new wA (.cells c1 t1)
  have b01 := blk_alloc b0 (.cells c1 t1)
  have hbB : Below w.heap.size w (wA.alloc (.cells c1 t1)) := hbA.alloc (by omega) _
  have z1 : (wA.alloc (.cells c1 t1)).heap.size = w.heap.size + 1 + 1 := by simp [z0]
  rw [z0] at b1
  generalize hB : wA.alloc (.cells c1 t1) = wB at *
  have b2 := heap_alloc_new wB (.cells c2 t2)
  have b02 := blk_alloc b01 (.cells c2 t2)
  have b12 := blk_alloc b1 (.cells c2 t2)
  have z2 : (wB.alloc (.cells c2 t2)).heap.size = w.heap.size + 1 + 1 + 1 := by simp [z1]
  have hbC : Below w.heap.size w (wB.alloc (.cells c2 t2)) := hbB.alloc (by omega) _
  rw [z1] at b2
  generalize wB.alloc (.cells c2 t2) = wC at *
  exact ⟨(h.block _ (by omega)).trans b02, (h.block _ (by omega)).trans b12, (h.block _ (by omega)).trans b2, by have := h.size; omega, hbC.trans (h.mono (by omega))⟩
end Go.Proofs.Ytdpgdelimffjpaa.P
