import Derived.Test.YtdpgdelimffjpaaHBoxes
namespace Go.Proofs.Ytdpgdelimffjpaa.P
open Go.RowKit Go.Proofs.YtdpgdelimffjpaaW.PrintWords Go.Proofs.YtdpgdelimffjpaaW.PrintLast Go.Proofs.YtdpgdelimffjpaaW.PrintMore
attribute [local go_sem] max2_int min2_int max_two min_two max_three min_three max_four min_four
set_option linter.unusedVariables false
set_option linter.unusedSimpArgs false
section
/-- A fresh block of ints, read as a slice. -/
theorem C_lit (w : World) (xs : List Int) (t : TypeId) (h : xs.length ≤ 9223372036854775807) : Kd.C (Kd.int .i64) (w.alloc (.cells (xs.map (Value.int .i64)).toArray t)) (some ⟨w.heap.size, 0, none⟩) xs.length xs := by
  refine Kd.C_of_reads (d := (0 : Int)) ⟨rfl, h, fun _ => ⟨_, rfl, fun j hj => ?_⟩⟩
  have e := blk_cell (heap_alloc_new w (.cells (xs.map (Value.int .i64)).toArray t)) j
  have e2 : (xs.map (Value.int .i64)).toArray[j]? = some (Value.int .i64 (xs.getD j 0)) := by
    rw [List.getElem?_toArray, List.getElem?_map, List.getElem?_eq_getElem hj, List.getD_eq_getElem?_getD, List.getElem?_eq_getElem hj]; rfl
  rw [e2] at e
  have ea : ((⟨w.heap.size, 0, none⟩ : Addr).add j) = ⟨w.heap.size, j, none⟩ := by simp [Addr.add]; omega
  rw [ea]
  exact e
end
section
theorem C_litS (W : World) (s : Nat) (hs : W.heap.size = s) (xs : List Int) (t : TypeId) (h : xs.length ≤ 9223372036854775807) : Kd.C (Kd.int .i64) (W.alloc (.cells (xs.map (Value.int .i64)).toArray t)) (some ⟨s, 0, none⟩) xs.length xs := by
  subst hs; exact C_lit W xs t h
theorem blk_newS (W : World) (s : Nat) (hs : W.heap.size = s) (o : Obj) : (W.alloc o).heap[s]? = some o := by
  subst hs; exact heap_alloc_new W o
end
end Go.Proofs.Ytdpgdelimffjpaa.P
