import Derived.Test.YtdpgdelimffjpaaHWide
import Derived.Test.YtdpgdelimffjpaaHIter
import Derived.RangeFuncNested
import Derived.RangeFuncCalls
namespace Go.Proofs.Ytdpgdelimffjpaa.P
open Go.RowKit Go.Proofs.YtdpgdelimffjpaaW.PrintWords Go.Proofs.YtdpgdelimffjpaaW.PrintLast Go.Proofs.YtdpgdelimffjpaaW.PrintMore
attribute [local go_sem] max2_int min2_int max_two min_two max_three min_three max_four min_four
set_option linter.unusedVariables false
set_option linter.unusedSimpArgs false
/-- What a round of a loop over an iterator may turn: two boxes H1, H2, and rows of its own from B on. -/
structure Tr (H B H1 H2 : Nat) (W W' : World) : Prop where
  kf : KeepsFrom B W W'
  kp : KpS (fun i => i < B ∧ i ≠ H1 ∧ i ≠ H2) W W'
  bl : Below H W W'
section
variable {H B H1 H2 : Nat} {X Y Z : World}
theorem Tr.refl (X : World) : Tr H B H1 H2 X X := ⟨KeepsFrom.refl _ _, fun _ _ => rfl, Below.refl _ _⟩
theorem Tr.trans (h : Tr H B H1 H2 X Y) (k : Tr H B H1 H2 Y Z) : Tr H B H1 H2 X Z := ⟨h.kf.trans k.kf, fun i hi => (k.kp i hi).trans (h.kp i hi), h.bl.trans k.bl⟩
theorem Tr.alloc (h : Tr H B H1 H2 X Y) (o : Obj) (hs : B ≤ Y.heap.size) (hH : H ≤ B) : Tr H B H1 H2 X (Y.alloc o) :=
  h.trans ⟨(KeepsOthers.alloc _ _).from _, fun i hi => (below_alloc (Below.refl _ _) o).block i (by omega), (Below.refl _ _).alloc (by omega) _⟩
theorem Tr.drew (h : Tr H B H1 H2 X Y) : Tr H B H1 H2 X Y.drew := h.trans ⟨(KeepsOthers.drew _).from _, fun _ _ => rfl, (Below.refl _ _).drew⟩
theorem Tr.grown {α : Type} {d : Kd α} {e : Nat} {ok : Nat → Prop} {v : Value} {xs : List α} (h : Tr H B H1 H2 X Y) (hr : d.R e Y B ok v xs) (hg : Y.grownBy Z v.ownBlock) (hs : B ≤ Y.heap.size) (hH : H ≤ B) : Tr H B H1 H2 X Z := by
  refine h.trans ⟨(KeepsOthers.of_grownBy hg (fun j o e' ho => ?_)).from _, fun i hi => hg.block i (by omega) (fun e' => ?_), (Below.refl _ _).grown hg (by omega) (fun k e' => ?_)⟩
  · obtain ⟨cells, hc⟩ := Kd.R_typed hr j e'
    rw [hc] at ho; cases ho; rfl
  · have := Kd.R_base hr i e'.symm; omega
  · have := Kd.R_base hr k e'; omega
theorem Tr.set (h : Tr H B H1 H2 X Y) (g i : Nat) (hg : g = H1 ∨ g = H2) (hH1 : H ≤ H1) (hH2 : H ≤ H2) (v : Value) : Tr H B H1 H2 X (Y.setCell ⟨g, i, none⟩ v) :=
  h.trans ⟨(KeepsOthers.setCell _ _ _).from _, fun j hj => Below.heap_setCell _ _ _ j (by have h1 := hj.2.1; have h2 := hj.2.2; show j ≠ g; omega), (Below.refl _ _).setCell (p := ⟨g, i, none⟩) (by simp; omega) _⟩
end
end Go.Proofs.Ytdpgdelimffjpaa.P
