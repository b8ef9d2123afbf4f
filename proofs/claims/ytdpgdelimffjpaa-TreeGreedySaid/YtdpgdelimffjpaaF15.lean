-- Written by wip/drive.py (a prover's driver over the kit's print.py); hand-proved contracts stand among the printed ones. Lean checks it.
import Derived.Test.YtdpgdelimffjpaaFBase
import Derived.Test.YtdpgdelimffjpaaF31
import Derived.Test.YtdpgdelimffjpaaF33
import Derived.Test.YtdpgdelimffjpaaF51
import Derived.Test.YtdpgdelimffjpaaF56
import Derived.Test.YtdpgdelimffjpaaF59
import Derived.Test.YtdpgdelimffjpaaFA
import Derived.Test.YtdpgdelimffjpaaFB
namespace Go.Proofs.Ytdpgdelimffjpaa.P
open Go.RowKit Go.Proofs.YtdpgdelimffjpaaW.PrintWords Go.Proofs.YtdpgdelimffjpaaW.PrintLast Go.Proofs.YtdpgdelimffjpaaW.PrintMore
attribute [local go_sem] max2_int min2_int max_two min_two max_three min_three max_four min_four   -- for this text's walks alone
set_option linter.unusedVariables false
set_option linter.unusedSimpArgs false

/-! ### pylonlaw16_TreeGreedy: function 15 -/
mutual
def pylonlaw16_TreeGreedy.j0 : Nat → List Int → Bool → Int → List (S37) → Option (Bool)
 | 0, _, _, _, _ => none
 | k + 1, x1, x28, x892000, x892001 => if x28 = true then ((pylonlaw16_awake.f).bind fun t898 => (some t898)) else ((tree_Tree.f k x892000 x892001 x1).bind fun bt899 => ((net_In.f x892000 x892001 x1).bind fun bt903 => (if bt899.2 = 0 then (pylonlaw16_TreeGreedy.j1 k bt899.1 bt903.1 (bt903.2 != 0) x892000 x892001) else (pylonlaw16_TreeGreedy.j1 k bt899.1 bt903.1 true x892000 x892001))))
def pylonlaw16_TreeGreedy.j1 : Nat → List Int → List Int → Bool → Int → List (S37) → Option (Bool)
 | 0, _, _, _, _, _ => none
 | k + 1, x5, x7, x47, x892000, x892001 => if x47 = true then (some false) else (pylonlaw16_TreeGreedy.l0 k x5 x7 0 x892000 x892001)
def pylonlaw16_TreeGreedy.l0 : Nat → List Int → List Int → Int → Int → List (S37) → Option (Bool)
 | 0, _, _, _, _, _ => none
 | k + 1, x5, x7, x9, x892000, x892001 => if x9 < (x7.length : Int) then (if 0 ≤ x9 then (if (rd x7 x9) < 0 then (pylonlaw16_TreeGreedy.j3 k x5 x7 x9 true x892000 x892001) else (pylonlaw16_TreeGreedy.j3 k x5 x7 x9 (decide ((rd x7 x9) ≥ (x892001.length : Int))) x892000 x892001)) else (none)) else (some true)
def pylonlaw16_TreeGreedy.j3 : Nat → List Int → List Int → Int → Bool → Int → List (S37) → Option (Bool)
 | 0, _, _, _, _, _, _ => none
 | k + 1, x5, x7, x9, x68, x892000, x892001 => if x68 = true then (some false) else (pylonlaw16_TreeGreedy.l1 k x5 x7 x9 ([] : List Int) 0 x892000 x892001)
def pylonlaw16_TreeGreedy.l1 : Nat → List Int → List Int → Int → List Int → Int → Int → List (S37) → Option (Bool)
 | 0, _, _, _, _, _, _, _ => none
 | k + 1, x5, x7, x9, x10, x11, x892000, x892001 => if x11 < (x5.length : Int) then (if 0 ≤ x11 then (if 0 ≤ x9 then (if x9 < (x7.length : Int) then (if (rd x5 x11) < (rd x7 x9) then (if x10.length < 17592186044416 then (pylonlaw16_TreeGreedy.l1 k x5 x7 x9 (x10 ++ [rd x5 x11]) (wrap64 (x11 + 1)) x892000 x892001) else (none)) else (pylonlaw16_TreeGreedy.l1 k x5 x7 x9 x10 (wrap64 (x11 + 1)) x892000 x892001)) else (none)) else (none)) else (none)) else (if 0 ≤ x9 then (if x9 < (x7.length : Int) then (if 0 ≤ (rd x7 x9) then (if (rd x7 x9) < (x892001.length : Int) then ((pylonlaw16_rest.f k x892000 x892001 x10).bind fun t918 => ((island_Connected.f x892000 x892001 t918 ((rd_T37 x892001 (rd x7 x9)).f0) ((rd_T37 x892001 (rd x7 x9)).f1)).bind fun bt921 => (if bt921.2 = 0 then ((pylonlaw16_has.f k x5 (rd x7 x9)).bind fun t924 => (if (bt921.1 == t924) = true then (some false) else (pylonlaw16_TreeGreedy.l0 k x5 x7 (wrap64 (x9 + 1)) x892000 x892001))) else (some false)))) else (none)) else (none)) else (none)) else (none))
end
def pylonlaw16_TreeGreedy.f (k : Nat) (a0_0 : Int) (l0_1 : List (S37)) (l1 : List Int) : Option (Bool) := (pylonlaw14_Long.f k a0_0 l0_1 (([l1] : List (List Int)))).bind fun t895 => (if t895 = true then (pylonlaw16_TreeGreedy.j0 k l1 true a0_0 l0_1) else ((pylonlaw16_awake.f).bind fun t896 => (if t896 = true then ((net_Outs.f k a0_0 l0_1 l1).bind fun t897 => (pylonlaw16_TreeGreedy.j0 k l1 (t897 != 0) a0_0 l0_1)) else (pylonlaw16_TreeGreedy.j0 k l1 true a0_0 l0_1))))
theorem pylonlaw16_TreeGreedy.mono_l : ∀ k, (∀ y0 y1 y2 y3, LeO (pylonlaw16_TreeGreedy.j0 k y0 y1 y2 y3) (pylonlaw16_TreeGreedy.j0 (k + 1) y0 y1 y2 y3)) ∧ (∀ y0 y1 y2 y3 y4, LeO (pylonlaw16_TreeGreedy.j1 k y0 y1 y2 y3 y4) (pylonlaw16_TreeGreedy.j1 (k + 1) y0 y1 y2 y3 y4)) ∧ (∀ y0 y1 y2 y3 y4, LeO (pylonlaw16_TreeGreedy.l0 k y0 y1 y2 y3 y4) (pylonlaw16_TreeGreedy.l0 (k + 1) y0 y1 y2 y3 y4)) ∧ (∀ y0 y1 y2 y3 y4 y5, LeO (pylonlaw16_TreeGreedy.j3 k y0 y1 y2 y3 y4 y5) (pylonlaw16_TreeGreedy.j3 (k + 1) y0 y1 y2 y3 y4 y5)) ∧ (∀ y0 y1 y2 y3 y4 y5 y6, LeO (pylonlaw16_TreeGreedy.l1 k y0 y1 y2 y3 y4 y5 y6) (pylonlaw16_TreeGreedy.l1 (k + 1) y0 y1 y2 y3 y4 y5 y6))
 | 0 => ⟨fun _ _ _ _ r h => by simp [pylonlaw16_TreeGreedy.j0] at h, fun _ _ _ _ _ r h => by simp [pylonlaw16_TreeGreedy.j1] at h, fun _ _ _ _ _ r h => by simp [pylonlaw16_TreeGreedy.l0] at h, fun _ _ _ _ _ _ r h => by simp [pylonlaw16_TreeGreedy.j3] at h, fun _ _ _ _ _ _ _ r h => by simp [pylonlaw16_TreeGreedy.l1] at h⟩
 | k + 1 => by
  obtain ⟨ih0, ih1, ih2, ih3, ih4⟩ := pylonlaw16_TreeGreedy.mono_l k
  refine ⟨?_, ?_, ?_, ?_, ?_⟩
  ·intro y0 y1 y2 y3
   unfold pylonlaw16_TreeGreedy.j0
   repeat' first
   | (with_reducible exact ih0 _ _ _ _)
   | (with_reducible exact ih1 _ _ _ _ _)
   | (with_reducible exact ih2 _ _ _ _ _)
   | (with_reducible exact ih3 _ _ _ _ _ _)
   | (with_reducible exact ih4 _ _ _ _ _ _ _)
   | (with_reducible exact net_Outs.mono _ _ _ _)
   | (with_reducible exact pylonlaw14_Long.mono _ _ _ _)
   | (with_reducible exact pylonlaw16_has.mono _ _ _)
   | (with_reducible exact pylonlaw16_rest.mono _ _ _ _)
   | (with_reducible exact tree_Tree.mono _ _ _ _)
   | (with_reducible exact LeO.refl _)
   | (with_reducible exact LeO.none _)
   | (with_reducible refine LeO.ite ?_ ?_)
   | (with_reducible refine LeO.bind ?_ (fun _ => ?_))
   | exact ih0 _ _ _ _
   | exact ih1 _ _ _ _ _
   | exact ih2 _ _ _ _ _
   | exact ih3 _ _ _ _ _ _
   | exact ih4 _ _ _ _ _ _ _
   | exact net_Outs.mono _ _ _ _
   | exact pylonlaw14_Long.mono _ _ _ _
   | exact pylonlaw16_has.mono _ _ _
   | exact pylonlaw16_rest.mono _ _ _ _
   | exact tree_Tree.mono _ _ _ _
   | exact LeO.none _
   | refine LeO.ite ?_ ?_
   | refine LeO.bind ?_ (fun _ => ?_)
  ·intro y0 y1 y2 y3 y4
   unfold pylonlaw16_TreeGreedy.j1
   repeat' first
   | (with_reducible exact ih0 _ _ _ _)
   | (with_reducible exact ih1 _ _ _ _ _)
   | (with_reducible exact ih2 _ _ _ _ _)
   | (with_reducible exact ih3 _ _ _ _ _ _)
   | (with_reducible exact ih4 _ _ _ _ _ _ _)
   | (with_reducible exact net_Outs.mono _ _ _ _)
   | (with_reducible exact pylonlaw14_Long.mono _ _ _ _)
   | (with_reducible exact pylonlaw16_has.mono _ _ _)
   | (with_reducible exact pylonlaw16_rest.mono _ _ _ _)
   | (with_reducible exact tree_Tree.mono _ _ _ _)
   | (with_reducible exact LeO.refl _)
   | (with_reducible exact LeO.none _)
   | (with_reducible refine LeO.ite ?_ ?_)
   | (with_reducible refine LeO.bind ?_ (fun _ => ?_))
   | exact ih0 _ _ _ _
   | exact ih1 _ _ _ _ _
   | exact ih2 _ _ _ _ _
   | exact ih3 _ _ _ _ _ _
   | exact ih4 _ _ _ _ _ _ _
   | exact net_Outs.mono _ _ _ _
   | exact pylonlaw14_Long.mono _ _ _ _
   | exact pylonlaw16_has.mono _ _ _
   | exact pylonlaw16_rest.mono _ _ _ _
   | exact tree_Tree.mono _ _ _ _
   | exact LeO.none _
   | refine LeO.ite ?_ ?_
   | refine LeO.bind ?_ (fun _ => ?_)
  ·intro y0 y1 y2 y3 y4
   unfold pylonlaw16_TreeGreedy.l0
   repeat' first
   | (with_reducible exact ih0 _ _ _ _)
   | (with_reducible exact ih1 _ _ _ _ _)
   | (with_reducible exact ih2 _ _ _ _ _)
   | (with_reducible exact ih3 _ _ _ _ _ _)
   | (with_reducible exact ih4 _ _ _ _ _ _ _)
   | (with_reducible exact net_Outs.mono _ _ _ _)
   | (with_reducible exact pylonlaw14_Long.mono _ _ _ _)
   | (with_reducible exact pylonlaw16_has.mono _ _ _)
   | (with_reducible exact pylonlaw16_rest.mono _ _ _ _)
   | (with_reducible exact tree_Tree.mono _ _ _ _)
   | (with_reducible exact LeO.refl _)
   | (with_reducible exact LeO.none _)
   | (with_reducible refine LeO.ite ?_ ?_)
   | (with_reducible refine LeO.bind ?_ (fun _ => ?_))
   | exact ih0 _ _ _ _
   | exact ih1 _ _ _ _ _
   | exact ih2 _ _ _ _ _
   | exact ih3 _ _ _ _ _ _
   | exact ih4 _ _ _ _ _ _ _
   | exact net_Outs.mono _ _ _ _
   | exact pylonlaw14_Long.mono _ _ _ _
   | exact pylonlaw16_has.mono _ _ _
   | exact pylonlaw16_rest.mono _ _ _ _
   | exact tree_Tree.mono _ _ _ _
   | exact LeO.none _
   | refine LeO.ite ?_ ?_
   | refine LeO.bind ?_ (fun _ => ?_)
  ·intro y0 y1 y2 y3 y4 y5
   unfold pylonlaw16_TreeGreedy.j3
   repeat' first
   | (with_reducible exact ih0 _ _ _ _)
   | (with_reducible exact ih1 _ _ _ _ _)
   | (with_reducible exact ih2 _ _ _ _ _)
   | (with_reducible exact ih3 _ _ _ _ _ _)
   | (with_reducible exact ih4 _ _ _ _ _ _ _)
   | (with_reducible exact net_Outs.mono _ _ _ _)
   | (with_reducible exact pylonlaw14_Long.mono _ _ _ _)
   | (with_reducible exact pylonlaw16_has.mono _ _ _)
   | (with_reducible exact pylonlaw16_rest.mono _ _ _ _)
   | (with_reducible exact tree_Tree.mono _ _ _ _)
   | (with_reducible exact LeO.refl _)
   | (with_reducible exact LeO.none _)
   | (with_reducible refine LeO.ite ?_ ?_)
   | (with_reducible refine LeO.bind ?_ (fun _ => ?_))
   | exact ih0 _ _ _ _
   | exact ih1 _ _ _ _ _
   | exact ih2 _ _ _ _ _
   | exact ih3 _ _ _ _ _ _
   | exact ih4 _ _ _ _ _ _ _
   | exact net_Outs.mono _ _ _ _
   | exact pylonlaw14_Long.mono _ _ _ _
   | exact pylonlaw16_has.mono _ _ _
   | exact pylonlaw16_rest.mono _ _ _ _
   | exact tree_Tree.mono _ _ _ _
   | exact LeO.none _
   | refine LeO.ite ?_ ?_
   | refine LeO.bind ?_ (fun _ => ?_)
  ·intro y0 y1 y2 y3 y4 y5 y6
   unfold pylonlaw16_TreeGreedy.l1
   repeat' first
   | (with_reducible exact ih0 _ _ _ _)
   | (with_reducible exact ih1 _ _ _ _ _)
   | (with_reducible exact ih2 _ _ _ _ _)
   | (with_reducible exact ih3 _ _ _ _ _ _)
   | (with_reducible exact ih4 _ _ _ _ _ _ _)
   | (with_reducible exact net_Outs.mono _ _ _ _)
   | (with_reducible exact pylonlaw14_Long.mono _ _ _ _)
   | (with_reducible exact pylonlaw16_has.mono _ _ _)
   | (with_reducible exact pylonlaw16_rest.mono _ _ _ _)
   | (with_reducible exact tree_Tree.mono _ _ _ _)
   | (with_reducible exact LeO.refl _)
   | (with_reducible exact LeO.none _)
   | (with_reducible refine LeO.ite ?_ ?_)
   | (with_reducible refine LeO.bind ?_ (fun _ => ?_))
   | exact ih0 _ _ _ _
   | exact ih1 _ _ _ _ _
   | exact ih2 _ _ _ _ _
   | exact ih3 _ _ _ _ _ _
   | exact ih4 _ _ _ _ _ _ _
   | exact net_Outs.mono _ _ _ _
   | exact pylonlaw14_Long.mono _ _ _ _
   | exact pylonlaw16_has.mono _ _ _
   | exact pylonlaw16_rest.mono _ _ _ _
   | exact tree_Tree.mono _ _ _ _
   | exact LeO.none _
   | refine LeO.ite ?_ ?_
   | refine LeO.bind ?_ (fun _ => ?_)
theorem pylonlaw16_TreeGreedy.mono : ∀ a0 a1 a2 k, LeO (pylonlaw16_TreeGreedy.f k a0 a1 a2) (pylonlaw16_TreeGreedy.f (k + 1) a0 a1 a2) := by
 intro a0 a1 a2 k
 obtain ⟨ih0, ih1, ih2, ih3, ih4⟩ := pylonlaw16_TreeGreedy.mono_l k
 unfold pylonlaw16_TreeGreedy.f
 repeat' first
   | (with_reducible exact ih0 _ _ _ _)
   | (with_reducible exact ih1 _ _ _ _ _)
   | (with_reducible exact ih2 _ _ _ _ _)
   | (with_reducible exact ih3 _ _ _ _ _ _)
   | (with_reducible exact ih4 _ _ _ _ _ _ _)
   | (with_reducible exact net_Outs.mono _ _ _ _)
   | (with_reducible exact pylonlaw14_Long.mono _ _ _ _)
   | (with_reducible exact pylonlaw16_has.mono _ _ _)
   | (with_reducible exact pylonlaw16_rest.mono _ _ _ _)
   | (with_reducible exact tree_Tree.mono _ _ _ _)
   | (with_reducible exact LeO.refl _)
   | (with_reducible exact LeO.none _)
   | (with_reducible refine LeO.ite ?_ ?_)
   | (with_reducible refine LeO.bind ?_ (fun _ => ?_))
   | exact ih0 _ _ _ _
   | exact ih1 _ _ _ _ _
   | exact ih2 _ _ _ _ _
   | exact ih3 _ _ _ _ _ _
   | exact ih4 _ _ _ _ _ _ _
   | exact net_Outs.mono _ _ _ _
   | exact pylonlaw14_Long.mono _ _ _ _
   | exact pylonlaw16_has.mono _ _ _
   | exact pylonlaw16_rest.mono _ _ _ _
   | exact tree_Tree.mono _ _ _ _
   | exact LeO.none _
   | refine LeO.ite ?_ ?_
   | refine LeO.bind ?_ (fun _ => ?_)
def pylonlaw16_TreeGreedy.T10 : Bool × List (List Nat × List Nat) := (true, [([], []), ([], []), ([0, 1], [0, 1]), ([2], [2]), ([3], [3]), ([4], [4]), ([5], [5]), ([5], [5]), ([6, 7, 5], [5, 6, 7]), ([8, 5], [5, 8]), ([5], [5]), ([10, 5], [5, 10]), ([11, 5], [5, 11]), ([9, 12, 5], [5, 9, 12]), ([5, 13], [5, 13])])
def pylonlaw16_TreeGreedy.B10 : List Nat := [0, 0, 3, 7, 15, 31, 63, 63, 255, 511, 63, 1087, 3135, 8191, 16383]
theorem pylonlaw16_TreeGreedy.tab10 : rtab .any (opsOf Try.f15 10) = pylonlaw16_TreeGreedy.T10 := by kernel_rfl
theorem pylonlaw16_TreeGreedy.bits10 : waitsOk pylonlaw16_TreeGreedy.T10.2 pylonlaw16_TreeGreedy.B10 = true := by kernel_rfl
def pylonlaw16_TreeGreedy.T16 : Bool × List (List Nat × List Nat) := (true, [([], []), ([], []), ([0, 1], [0, 1]), ([2], [2]), ([], []), ([], []), ([4, 5], [4, 5]), ([6], [6]), ([3, 7], [3, 7])])
def pylonlaw16_TreeGreedy.B16 : List Nat := [0, 0, 3, 7, 0, 0, 48, 112, 255]
theorem pylonlaw16_TreeGreedy.tab16 : rtab .any (opsOf Try.f15 16) = pylonlaw16_TreeGreedy.T16 := by kernel_rfl
theorem pylonlaw16_TreeGreedy.bits16 : waitsOk pylonlaw16_TreeGreedy.T16.2 pylonlaw16_TreeGreedy.B16 = true := by kernel_rfl
def pylonlaw16_TreeGreedy.T18 : Bool × List (List Nat × List Nat) := (true, [([], []), ([0], [0]), ([], []), ([], []), ([2, 3], [2, 3]), ([4], [4]), ([1, 5], [1, 5]), ([6], [6]), ([], []), ([8, 7, 0, 1, 2, 3, 4, 5, 6, 7, 8], [7, 8])])
def pylonlaw16_TreeGreedy.B18 : List Nat := [0, 1, 0, 0, 12, 28, 63, 127, 0, 511]
theorem pylonlaw16_TreeGreedy.tab18 : rtab .any (opsOf Try.f15 18) = pylonlaw16_TreeGreedy.T18 := by kernel_rfl
theorem pylonlaw16_TreeGreedy.bits18 : waitsOk pylonlaw16_TreeGreedy.T18.2 pylonlaw16_TreeGreedy.B18 = true := by kernel_rfl
def pylonlaw16_TreeGreedy.T19 : Bool × List (List Nat × List Nat) := (true, [([], []), ([], []), ([], []), ([1, 2], [1, 2]), ([], []), ([4], [4]), ([], []), ([6], [6]), ([0, 3, 5, 7, 3], [0, 3, 5, 7]), ([8], [8]), ([9], [9]), ([9], [9]), ([10, 8, 0, 1, 2, 3, 4, 5, 6, 7, 8, 9, 10], [10]), ([11, 12, 0, 1, 2, 3, 4, 5, 6, 7, 8, 9, 10, 11, 12], [11])])
def pylonlaw16_TreeGreedy.B19 : List Nat := [0, 0, 0, 6, 0, 16, 0, 64, 255, 511, 1023, 1023, 2047, 8191]
theorem pylonlaw16_TreeGreedy.tab19 : rtab .any (opsOf Try.f15 19) = pylonlaw16_TreeGreedy.T19 := by kernel_rfl
theorem pylonlaw16_TreeGreedy.bits19 : waitsOk pylonlaw16_TreeGreedy.T19.2 pylonlaw16_TreeGreedy.B19 = true := by kernel_rfl
set_option maxHeartbeats 8000000 in
set_option maxRecDepth 100000 in
theorem pylonlaw16_TreeGreedy.calls (k : Nat) (a0_0 : Int) (A0_1 : Option Addr) (c0_1 : Nat) (l0_1 : List (S37)) (P1_ : Nat → Prop) (A1 : Option Addr) (c1 : Nat) (l1 : List Int) (r : Bool) (w : World) (hr0_1 : Kd.C k37 w A0_1 l0_1.length l0_1) (hc0_1 : l0_1.length ≤ c0_1) (hs1 : Kd.V (Kd.int .i64) 3 w w.heap.size (fun k_ => P1_ k_) (.slice A1 l1.length c1) l1) (h : pylonlaw16_TreeGreedy.f k a0_0 l0_1 l1 = some r) :
  Calls Try.prog 15 #[.agg #[.int .i64 a0_0, .slice A0_1 l0_1.length c0_1], .slice A1 l1.length c1] w fun e w' => e = .returned (.bool r) ∧ Below w.heap.size w w' := by
 have hu24 := Try.underlying24
 have hu37 := Try.underlying37
 have HR0_1 := Aside0.mk hr0_1
 have HC0_1 := Aside0.mk hc0_1
 clear hr0_1 hc0_1
 have HO1 := Aside0.mk (show Kd.V (Kd.int .i64) 3 w w.heap.size (fun k_ => (P1_ k_ ∨ w.heap.size ≤ k_)) (.slice A1 l1.length c1) l1 from Kd.V_mono hs1 (fun k_ hk => .inl hk))
 have HB := Aside0.mk (Below.refl w.heap.size w)
 have H : ((pylonlaw14_Long.f k a0_0 l0_1 (([l1] : List (List Int)))).bind fun t895 => (if t895 = true then (pylonlaw16_TreeGreedy.j0 k l1 true a0_0 l0_1) else ((pylonlaw16_awake.f).bind fun t896 => (if t896 = true then ((net_Outs.f k a0_0 l0_1 l1).bind fun t897 => (pylonlaw16_TreeGreedy.j0 k l1 (t897 != 0) a0_0 l0_1)) else (pylonlaw16_TreeGreedy.j0 k l1 true a0_0 l0_1))))) = some r := h
 clear h
 have HC3 := Aside0.mk H
 clear H
 go_enter Try.func15, Try.ntmps15
 go_upto_region 1 with (first | ((with_reducible refine gate_dst (N := 2) rfl ?_); (try (refine gate_guard (by rfl) ?_; dsimp only)); refine box_event ?hg (N := 2) ?hd (cs := #[.int .i64 a0_0, .slice A0_1 l0_1.length c0_1]) (t := 24) ?hr ?_; (case hd => rfl); (case hg => rfl); (case hr => first | (go_simp; done) | (go_simp; rfl)); intro gb891 hg w4 hbox hb; have n0_ := Aside0.mk (Kd.V_below (Kd.V_elderB (by (with_reducible repeat (first | apply Kd.V_alloc | apply Kd.V_drewN | apply Kd.V_drew)); exact HO1.out) gb891 (Nat.le_of_eq hg.symm)) hb); have n1_ := Aside0.mk (below_step (by repeat (first | (with_reducible first | exact HB.out | apply below_alloc | apply pw_below_drewN | apply below_drew1) | exact HB.out)) hb); have n2_ := Aside0.mk (hbox); have n3_ := Aside0.mk ((by rw [hg]; exact (below_size (by repeat (first | (with_reducible first | exact HB.out | apply below_alloc | apply pw_below_drewN | apply below_drew1) | exact HB.out))) : w.heap.size ≤ gb891)); have n4_ := Aside0.mk ((by rw [hg]; exact (below_size (by repeat (first | (with_reducible first | exact HB.out | apply below_alloc | apply pw_below_drewN | apply below_drew1) | exact HB.out))) : w.heap.size ≤ gb891)); clear HO1; clear HB; have HO1 := n0_; have HB := n1_; have BK891 := n2_; have GW891 := n3_; have GE891 := n4_; clear n0_ n1_ n2_ n3_ n4_; clear hb hbox hg))
 (try simp only [Act.put, List.setIfInBounds_toArray, List.set_cons_zero, List.set_cons_succ])
 go_cut [28] (fun v28 wc => ∃ (kq : Nat) (x28_2 : Bool), v28 = .bool x28_2 ∧ Aside0 (pylonlaw16_TreeGreedy.j0 kq l1 x28_2 a0_0 l0_1 = some r) ∧ Aside0 (kq ≤ k) ∧ Aside0 (Kd.V (Kd.int .i64) 3 wc w.heap.size (fun k_ => (P1_ k_ ∨ w.heap.size ≤ k_) ∧ k_ ≠ gb891) (.slice A1 l1.length c1) l1) ∧ Aside0 (wc.heap[gb891]? = some (.cells #[.int .i64 a0_0, (.slice A0_1 l0_1.length c0_1)] 24 (0, 0))) ∧ Aside0 (Below w.heap.size w wc))
 case first =>
  have H := HC3.out
  clear HC3
  obtain ⟨y892, hy892⟩ : ∃ y_ : List (List Int), y_ = (([l1] : List (List Int))) := ⟨_, rfl⟩
  replace H : ((pylonlaw14_Long.f k a0_0 l0_1 y892).bind fun t895 => (if t895 = true then (pylonlaw16_TreeGreedy.j0 k l1 true a0_0 l0_1) else ((pylonlaw16_awake.f).bind fun t896 => (if t896 = true then ((net_Outs.f k a0_0 l0_1 l1).bind fun t897 => (pylonlaw16_TreeGreedy.j0 k l1 (t897 != 0) a0_0 l0_1)) else (pylonlaw16_TreeGreedy.j0 k l1 true a0_0 l0_1))))) = some r := by first | (rw [hy892]; with_reducible exact H) | (have H2_ := (Option.bind_some _ _).symm.trans H; rw [hy892]; with_reducible exact H2_) | (have H2_ := (Option.bind_some _ _).symm.trans H; with_reducible exact H2_) | with_reducible exact H | (rw [hy892]; exact H) | exact H
  have Ny892 := Aside0.mk hy892
  clear hy892
  replace H := Option.bind_eq_some_iff.mp H
  obtain ⟨t895, A50, H⟩ := H
  replace H : (if t895 = true then (pylonlaw16_TreeGreedy.j0 k l1 true a0_0 l0_1) else ((pylonlaw16_awake.f).bind fun t896 => (if t896 = true then ((net_Outs.f k a0_0 l0_1 l1).bind fun t897 => (pylonlaw16_TreeGreedy.j0 k l1 (t897 != 0) a0_0 l0_1)) else (pylonlaw16_TreeGreedy.j0 k l1 true a0_0 l0_1)))) = some r := H
  have A5 := Aside0.mk A50
  clear A50
  by_cases c6 : t895 = true
  ·as_aux_lemma =>
   subst c6
   have H1 : (pylonlaw16_TreeGreedy.j0 k l1 true a0_0 l0_1) = some r := by rw [if_pos rfl] at H; exact H
   clear H
   have H := H1
   clear H1
   have H' := Aside0.mk H
   clear H
   have hcz7_0 : w4.cell? ⟨gb891, 0, none⟩ = some (.int .i64 a0_0) := (blk_cell BK891.out 0).trans rfl
   have hcz7_1 : w4.cell? ⟨gb891, 1, none⟩ = some (.slice A0_1 l0_1.length c0_1) := (blk_cell BK891.out 1).trans rfl
   have hfz7_0 := blk_frozen BK891.out 0
   have hfz7_1 := blk_frozen BK891.out 1
   go_wp2_with (first | ((with_reducible refine gate_dst (N := 17) rfl ?_); (try (refine gate_guard (by rfl) ?_; dsimp only)); refine Kd.N_lit (Kd.slice 3 (Kd.int .i64)) _ 25 ?hg (N' := 17) ?hd (xs := ([l1] : List (List Int))) (inner := [.slice A1 l1.length c1]) (ok := (fun k_ => (P1_ k_ ∨ w.heap.size ≤ k_) ∧ k_ ≠ gb891)) (okp := (fun k_ => (P1_ k_ ∨ w.heap.size ≤ k_) ∧ k_ ≠ gb891)) ?hr ?hp (fun _ hk => hk) ((show ∀ k_, w4.heap.size ≤ k_ → (fun k_ => (P1_ k_ ∨ w.heap.size ≤ k_) ∧ k_ ≠ gb891) k_ from fun k_ hk => ⟨(.inr (Nat.le_trans (below_size (by repeat (first | (with_reducible first | exact HB.out | apply below_alloc | apply pw_below_drewN | apply below_drew1 | refine below_set ?_ GE891.out) | exact HB.out))) hk)), Kd.freshB (g := gb891) (o := .cells #[.int .i64 a0_0, .slice A0_1 l0_1.length c0_1] 24 (0, 0)) (by (with_reducible repeat (first | refine blk_drewN ?_ _ | refine blk_drew ?_ | refine blk_alloc ?_ _)); exact BK891.out) k_ hk⟩) _ (Nat.le_refl _)) (Below.refl _ _) (Nat.le_refl _) (by simp) ?_; (case hd => rfl); (case hg => rfl); (case hr => first | (go_simp; done) | (go_simp; rfl)); (case hp => exact (Reps.one (show Kd.FK (Kd.slice 3 (Kd.int .i64)) _ _ l1 [.slice A1 l1.length c1] from (Kd.FK_slice_mk (Kd.V_reads' (Kd.V_mono (ok' := (fun k_ => (P1_ k_ ∨ w.heap.size ≤ k_) ∧ k_ ≠ gb891)) (HO1.out) (fun k_ hk => ⟨hk.1, hk.2⟩))).2.1 (Kd.V_F (Kd.V_mono (ok' := (fun k_ => (P1_ k_ ∨ w.heap.size ≤ k_) ∧ k_ ≠ gb891)) (HO1.out) (fun k_ hk => ⟨hk.1, hk.2⟩))))) (Reps.none _ _))); intro v893 w8 ho9 hb hg_ hnew_; clear hg_ hnew_; (first | rw [← Ny892.out] at ho9 | (simp only [Int.reduceToNat] at ho9; rw [← Ny892.out] at ho9)); have n0_ := Aside0.mk (Kd.V_elder' (by (with_reducible repeat (first | apply Kd.V_alloc | apply Kd.V_drewN | apply Kd.V_drew)); exact HO1.out) (Kd.N_base ho9) hb); have n1_ := Aside0.mk (Kd.N_lower ho9 (below_size (by repeat (first | (with_reducible first | exact HB.out | apply below_alloc | apply pw_below_drewN | apply below_drew1 | refine below_set ?_ GE891.out) | exact HB.out)))); have n2_ := Aside0.mk (blk_below (g := gb891) (o := .cells #[.int .i64 a0_0, .slice A0_1 l0_1.length c0_1] 24 (0, 0)) (by (with_reducible repeat (first | refine blk_drewN ?_ _ | refine blk_drew ?_ | refine blk_alloc ?_ _)); exact BK891.out) hb); have n3_ := Aside0.mk (below_step (by repeat (first | (with_reducible first | exact HB.out | apply below_alloc | apply pw_below_drewN | apply below_drew1 | refine below_set ?_ GE891.out) | exact HB.out)) hb); clear HO1; clear BK891; clear HB; have HO1 := n0_; have HO894 := n1_; have BK891 := n2_; have HB := n3_; clear n0_ n1_ n2_ n3_; clear hb ho9; obtain ⟨Ao10, co10, eo10⟩ := Kd.N_slice HO894.out; subst eo10) | ((with_reducible refine gate_callee (f := 28) rfl ?_); refine goesL_ (some 18) rfl rfl Try.func28 (by kernel_rfl) rfl #[.agg #[.int .i64 a0_0, .slice A0_1 l0_1.length c0_1], .slice Ao10 y892.length co10] rfl (by (try simp only [List.map_toArray, List.map_cons, List.map_nil]); first | done | rfl | (simp only [List.length_drop, List.length_take]; rfl)) ?_; (with_reducible refine (pylonlaw14_Long.calls k a0_0 _ _ l0_1 _ _ y892 true _ ?side1 ?side2 ?side3 ?side4 A5.out).mono ?_); (case side1 => repeat (first | exact (Kd.C_below HR0_1.out HB.out) | (with_reducible refine Kd.C_alloc ?_ _) | (with_reducible refine Kd.C_drewN ?_ _) | (with_reducible refine Kd.C_drew ?_))); (case side2 => exact HC0_1.out); (case side3 => repeat (first | exact (Kd.N_reads' HO894.out).2.2 | (with_reducible refine Kd.C_alloc ?_ _) | (with_reducible refine Kd.C_drewN ?_ _) | (with_reducible refine Kd.C_drew ?_))); (case side4 => exact (Kd.N_reads' HO894.out).2.1); rintro e w11 ⟨rfl, hb⟩; refine ⟨_, rfl, ?_⟩; have n0_ := Aside0.mk (Kd.V_below (by (with_reducible repeat (first | apply Kd.V_alloc | apply Kd.V_drewN | apply Kd.V_drew)); exact HO1.out) hb); have n1_ := Aside0.mk (Kd.N_below (by (with_reducible repeat (first | apply Kd.N_alloc | apply Kd.N_drewN | apply Kd.N_drew)); exact HO894.out) hb); have n2_ := Aside0.mk (blk_below (g := gb891) (o := .cells #[.int .i64 a0_0, .slice A0_1 l0_1.length c0_1] 24 (0, 0)) (by (with_reducible repeat (first | refine blk_drewN ?_ _ | refine blk_drew ?_ | refine blk_alloc ?_ _)); exact BK891.out) hb); have n3_ := Aside0.mk (below_step (by repeat (first | (with_reducible first | exact HB.out | apply below_alloc | apply pw_below_drewN | apply below_drew1 | refine below_set ?_ GE891.out) | exact HB.out)) hb); clear HO1; clear HO894; clear BK891; clear HB; have HO1 := n0_; have HO894 := n1_; have BK891 := n2_; have HB := n3_; clear n0_ n1_ n2_ n3_; (try clear hb); (try clear hb2); (try clear hk); (try clear hi)))
   go_meet
   case rel => exact ⟨_, (true), (by first | rfl | (simp; done) | (simp [*]; done)), H', ⟨by first | omega | exact Nat.le_refl _⟩, ⟨by (with_reducible repeat (first | apply Kd.V_alloc | apply Kd.V_drewN | apply Kd.V_drew)); exact Kd.V_mono HO1.out (fun _ hk => ⟨hk.1.1, hk.1.2⟩)⟩, ⟨by (with_reducible repeat (first | refine blk_drewN ?_ _ | refine blk_drew ?_ | refine blk_alloc ?_ _)); exact BK891.out⟩, ⟨by repeat (first | (with_reducible first | exact HB.out | apply below_alloc | apply pw_below_drewN | apply below_drew1 | refine below_set ?_ GE891.out) | exact HB.out)⟩⟩
  ·as_aux_lemma =>
   replace c6 := Bool.eq_false_iff.mpr c6
   subst c6
   have H1 : ((pylonlaw16_awake.f).bind fun t896 => (if t896 = true then ((net_Outs.f k a0_0 l0_1 l1).bind fun t897 => (pylonlaw16_TreeGreedy.j0 k l1 (t897 != 0) a0_0 l0_1)) else (pylonlaw16_TreeGreedy.j0 k l1 true a0_0 l0_1))) = some r := by rw [if_neg (show ¬ (false = true) by decide)] at H; exact H
   clear H
   have H := H1
   clear H1
   replace H := Option.bind_eq_some_iff.mp H
   obtain ⟨t896, A120, H⟩ := H
   replace H : (if t896 = true then ((net_Outs.f k a0_0 l0_1 l1).bind fun t897 => (pylonlaw16_TreeGreedy.j0 k l1 (t897 != 0) a0_0 l0_1)) else (pylonlaw16_TreeGreedy.j0 k l1 true a0_0 l0_1)) = some r := H
   have A12 := Aside0.mk A120
   clear A120
   by_cases c13 : t896 = true
   ·as_aux_lemma =>
    subst c13
    have H1 : ((net_Outs.f k a0_0 l0_1 l1).bind fun t897 => (pylonlaw16_TreeGreedy.j0 k l1 (t897 != 0) a0_0 l0_1)) = some r := by rw [if_pos rfl] at H; exact H
    clear H
    have H := H1
    clear H1
    replace H := Option.bind_eq_some_iff.mp H
    obtain ⟨t897, A140, H⟩ := H
    replace H : (pylonlaw16_TreeGreedy.j0 k l1 (t897 != 0) a0_0 l0_1) = some r := H
    have A14 := Aside0.mk A140
    clear A140
    have H' := Aside0.mk H
    clear H
    have hcz15_0 : w4.cell? ⟨gb891, 0, none⟩ = some (.int .i64 a0_0) := (blk_cell BK891.out 0).trans rfl
    have hcz15_1 : w4.cell? ⟨gb891, 1, none⟩ = some (.slice A0_1 l0_1.length c0_1) := (blk_cell BK891.out 1).trans rfl
    have hfz15_0 := blk_frozen BK891.out 0
    have hfz15_1 := blk_frozen BK891.out 1
    go_wp2_with (first | ((with_reducible refine gate_dst (N := 17) rfl ?_); (try (refine gate_guard (by rfl) ?_; dsimp only)); refine Kd.N_lit (Kd.slice 3 (Kd.int .i64)) _ 25 ?hg (N' := 17) ?hd (xs := ([l1] : List (List Int))) (inner := [.slice A1 l1.length c1]) (ok := (fun k_ => (P1_ k_ ∨ w.heap.size ≤ k_) ∧ k_ ≠ gb891)) (okp := (fun k_ => (P1_ k_ ∨ w.heap.size ≤ k_) ∧ k_ ≠ gb891)) ?hr ?hp (fun _ hk => hk) ((show ∀ k_, w4.heap.size ≤ k_ → (fun k_ => (P1_ k_ ∨ w.heap.size ≤ k_) ∧ k_ ≠ gb891) k_ from fun k_ hk => ⟨(.inr (Nat.le_trans (below_size (by repeat (first | (with_reducible first | exact HB.out | apply below_alloc | apply pw_below_drewN | apply below_drew1 | refine below_set ?_ GE891.out) | exact HB.out))) hk)), Kd.freshB (g := gb891) (o := .cells #[.int .i64 a0_0, .slice A0_1 l0_1.length c0_1] 24 (0, 0)) (by (with_reducible repeat (first | refine blk_drewN ?_ _ | refine blk_drew ?_ | refine blk_alloc ?_ _)); exact BK891.out) k_ hk⟩) _ (Nat.le_refl _)) (Below.refl _ _) (Nat.le_refl _) (by simp) ?_; (case hd => rfl); (case hg => rfl); (case hr => first | (go_simp; done) | (go_simp; rfl)); (case hp => exact (Reps.one (show Kd.FK (Kd.slice 3 (Kd.int .i64)) _ _ l1 [.slice A1 l1.length c1] from (Kd.FK_slice_mk (Kd.V_reads' (Kd.V_mono (ok' := (fun k_ => (P1_ k_ ∨ w.heap.size ≤ k_) ∧ k_ ≠ gb891)) (HO1.out) (fun k_ hk => ⟨hk.1, hk.2⟩))).2.1 (Kd.V_F (Kd.V_mono (ok' := (fun k_ => (P1_ k_ ∨ w.heap.size ≤ k_) ∧ k_ ≠ gb891)) (HO1.out) (fun k_ hk => ⟨hk.1, hk.2⟩))))) (Reps.none _ _))); intro v893 w16 ho17 hb hg_ hnew_; clear hg_ hnew_; (first | rw [← Ny892.out] at ho17 | (simp only [Int.reduceToNat] at ho17; rw [← Ny892.out] at ho17)); have n0_ := Aside0.mk (Kd.V_elder' (by (with_reducible repeat (first | apply Kd.V_alloc | apply Kd.V_drewN | apply Kd.V_drew)); exact HO1.out) (Kd.N_base ho17) hb); have n1_ := Aside0.mk (Kd.N_lower ho17 (below_size (by repeat (first | (with_reducible first | exact HB.out | apply below_alloc | apply pw_below_drewN | apply below_drew1 | refine below_set ?_ GE891.out) | exact HB.out)))); have n2_ := Aside0.mk (blk_below (g := gb891) (o := .cells #[.int .i64 a0_0, .slice A0_1 l0_1.length c0_1] 24 (0, 0)) (by (with_reducible repeat (first | refine blk_drewN ?_ _ | refine blk_drew ?_ | refine blk_alloc ?_ _)); exact BK891.out) hb); have n3_ := Aside0.mk (below_step (by repeat (first | (with_reducible first | exact HB.out | apply below_alloc | apply pw_below_drewN | apply below_drew1 | refine below_set ?_ GE891.out) | exact HB.out)) hb); clear HO1; clear BK891; clear HB; have HO1 := n0_; have HO894 := n1_; have BK891 := n2_; have HB := n3_; clear n0_ n1_ n2_ n3_; clear hb ho17; obtain ⟨Ao18, co18, eo18⟩ := Kd.N_slice HO894.out; subst eo18) | ((with_reducible refine gate_callee (f := 28) rfl ?_); refine goesL_ (some 18) rfl rfl Try.func28 (by kernel_rfl) rfl #[.agg #[.int .i64 a0_0, .slice A0_1 l0_1.length c0_1], .slice Ao18 y892.length co18] rfl (by (try simp only [List.map_toArray, List.map_cons, List.map_nil]); first | done | rfl | (simp only [List.length_drop, List.length_take]; rfl)) ?_; (with_reducible refine (pylonlaw14_Long.calls k a0_0 _ _ l0_1 _ _ y892 false _ ?side1 ?side2 ?side3 ?side4 A5.out).mono ?_); (case side1 => repeat (first | exact (Kd.C_below HR0_1.out HB.out) | (with_reducible refine Kd.C_alloc ?_ _) | (with_reducible refine Kd.C_drewN ?_ _) | (with_reducible refine Kd.C_drew ?_))); (case side2 => exact HC0_1.out); (case side3 => repeat (first | exact (Kd.N_reads' HO894.out).2.2 | (with_reducible refine Kd.C_alloc ?_ _) | (with_reducible refine Kd.C_drewN ?_ _) | (with_reducible refine Kd.C_drew ?_))); (case side4 => exact (Kd.N_reads' HO894.out).2.1); rintro e w19 ⟨rfl, hb⟩; refine ⟨_, rfl, ?_⟩; have n0_ := Aside0.mk (Kd.V_below (by (with_reducible repeat (first | apply Kd.V_alloc | apply Kd.V_drewN | apply Kd.V_drew)); exact HO1.out) hb); have n1_ := Aside0.mk (Kd.N_below (by (with_reducible repeat (first | apply Kd.N_alloc | apply Kd.N_drewN | apply Kd.N_drew)); exact HO894.out) hb); have n2_ := Aside0.mk (blk_below (g := gb891) (o := .cells #[.int .i64 a0_0, .slice A0_1 l0_1.length c0_1] 24 (0, 0)) (by (with_reducible repeat (first | refine blk_drewN ?_ _ | refine blk_drew ?_ | refine blk_alloc ?_ _)); exact BK891.out) hb); have n3_ := Aside0.mk (below_step (by repeat (first | (with_reducible first | exact HB.out | apply below_alloc | apply pw_below_drewN | apply below_drew1 | refine below_set ?_ GE891.out) | exact HB.out)) hb); clear HO1; clear HO894; clear BK891; clear HB; have HO1 := n0_; have HO894 := n1_; have BK891 := n2_; have HB := n3_; clear n0_ n1_ n2_ n3_; (try clear hb); (try clear hb2); (try clear hk); (try clear hi)) | (go_at_call 51; (with_reducible refine (pylonlaw16_awake.calls  true _ A12.out).mono ?_); rintro e w20 ⟨rfl, hb⟩; have n0_ := Aside0.mk (Kd.V_below (by (with_reducible repeat (first | apply Kd.V_alloc | apply Kd.V_drewN | apply Kd.V_drew)); exact HO1.out) hb); have n1_ := Aside0.mk (Kd.N_below (by (with_reducible repeat (first | apply Kd.N_alloc | apply Kd.N_drewN | apply Kd.N_drew)); exact HO894.out) hb); have n2_ := Aside0.mk (blk_below (g := gb891) (o := .cells #[.int .i64 a0_0, .slice A0_1 l0_1.length c0_1] 24 (0, 0)) (by (with_reducible repeat (first | refine blk_drewN ?_ _ | refine blk_drew ?_ | refine blk_alloc ?_ _)); exact BK891.out) hb); have n3_ := Aside0.mk (below_step (by repeat (first | (with_reducible first | exact HB.out | apply below_alloc | apply pw_below_drewN | apply below_drew1 | refine below_set ?_ GE891.out) | exact HB.out)) hb); clear HO1; clear HO894; clear BK891; clear HB; have HO1 := n0_; have HO894 := n1_; have BK891 := n2_; have HB := n3_; clear n0_ n1_ n2_ n3_; (try clear hb); (try clear hb2); (try clear hk); (try clear hi); have hcz21_0 : w20.cell? ⟨gb891, 0, none⟩ = some (.int .i64 a0_0) := (blk_cell BK891.out 0).trans rfl; have hcz21_1 : w20.cell? ⟨gb891, 1, none⟩ = some (.slice A0_1 l0_1.length c0_1) := (blk_cell BK891.out 1).trans rfl; have hfz21_0 := blk_frozen BK891.out 0; have hfz21_1 := blk_frozen BK891.out 1) | (go_at_call 31; (with_reducible refine (net_Outs.calls k a0_0 _ _ l0_1 _ _ l1 t897 _ ?side1 ?side2 ?side3 ?side4 A14.out).mono ?_); (case side1 => repeat (first | exact (Kd.C_below HR0_1.out HB.out) | (with_reducible refine Kd.C_alloc ?_ _) | (with_reducible refine Kd.C_drewN ?_ _) | (with_reducible refine Kd.C_drew ?_))); (case side2 => exact HC0_1.out); (case side3 => repeat (first | exact (Kd.V_reads' HO1.out).2.2 | (with_reducible refine Kd.C_alloc ?_ _) | (with_reducible refine Kd.C_drewN ?_ _) | (with_reducible refine Kd.C_drew ?_))); (case side4 => exact (Kd.V_reads' HO1.out).2.1); rintro e w22 ⟨rfl, hb⟩; have n0_ := Aside0.mk (Kd.V_below (by (with_reducible repeat (first | apply Kd.V_alloc | apply Kd.V_drewN | apply Kd.V_drew)); exact HO1.out) hb); have n1_ := Aside0.mk (Kd.N_below (by (with_reducible repeat (first | apply Kd.N_alloc | apply Kd.N_drewN | apply Kd.N_drew)); exact HO894.out) hb); have n2_ := Aside0.mk (blk_below (g := gb891) (o := .cells #[.int .i64 a0_0, .slice A0_1 l0_1.length c0_1] 24 (0, 0)) (by (with_reducible repeat (first | refine blk_drewN ?_ _ | refine blk_drew ?_ | refine blk_alloc ?_ _)); exact BK891.out) hb); have n3_ := Aside0.mk (below_step (by repeat (first | (with_reducible first | exact HB.out | apply below_alloc | apply pw_below_drewN | apply below_drew1 | refine below_set ?_ GE891.out) | exact HB.out)) hb); clear HO1; clear HO894; clear BK891; clear HB; have HO1 := n0_; have HO894 := n1_; have BK891 := n2_; have HB := n3_; clear n0_ n1_ n2_ n3_; (try clear hb); (try clear hb2); (try clear hk); (try clear hi)))
    go_meet
    case rel => exact ⟨_, ((t897 != 0)), (by first | rfl | (simp; done) | (simp [*]; done)), H', ⟨by first | omega | exact Nat.le_refl _⟩, ⟨by (with_reducible repeat (first | apply Kd.V_alloc | apply Kd.V_drewN | apply Kd.V_drew)); exact Kd.V_mono HO1.out (fun _ hk => ⟨hk.1.1, hk.1.2⟩)⟩, ⟨by (with_reducible repeat (first | refine blk_drewN ?_ _ | refine blk_drew ?_ | refine blk_alloc ?_ _)); exact BK891.out⟩, ⟨by repeat (first | (with_reducible first | exact HB.out | apply below_alloc | apply pw_below_drewN | apply below_drew1 | refine below_set ?_ GE891.out) | exact HB.out)⟩⟩
   ·as_aux_lemma =>
    replace c13 := Bool.eq_false_iff.mpr c13
    subst c13
    have H1 : (pylonlaw16_TreeGreedy.j0 k l1 true a0_0 l0_1) = some r := by rw [if_neg (show ¬ (false = true) by decide)] at H; exact H
    clear H
    have H := H1
    clear H1
    have H' := Aside0.mk H
    clear H
    have hcz23_0 : w4.cell? ⟨gb891, 0, none⟩ = some (.int .i64 a0_0) := (blk_cell BK891.out 0).trans rfl
    have hcz23_1 : w4.cell? ⟨gb891, 1, none⟩ = some (.slice A0_1 l0_1.length c0_1) := (blk_cell BK891.out 1).trans rfl
    have hfz23_0 := blk_frozen BK891.out 0
    have hfz23_1 := blk_frozen BK891.out 1
    go_wp2_with (first | ((with_reducible refine gate_dst (N := 17) rfl ?_); (try (refine gate_guard (by rfl) ?_; dsimp only)); refine Kd.N_lit (Kd.slice 3 (Kd.int .i64)) _ 25 ?hg (N' := 17) ?hd (xs := ([l1] : List (List Int))) (inner := [.slice A1 l1.length c1]) (ok := (fun k_ => (P1_ k_ ∨ w.heap.size ≤ k_) ∧ k_ ≠ gb891)) (okp := (fun k_ => (P1_ k_ ∨ w.heap.size ≤ k_) ∧ k_ ≠ gb891)) ?hr ?hp (fun _ hk => hk) ((show ∀ k_, w4.heap.size ≤ k_ → (fun k_ => (P1_ k_ ∨ w.heap.size ≤ k_) ∧ k_ ≠ gb891) k_ from fun k_ hk => ⟨(.inr (Nat.le_trans (below_size (by repeat (first | (with_reducible first | exact HB.out | apply below_alloc | apply pw_below_drewN | apply below_drew1 | refine below_set ?_ GE891.out) | exact HB.out))) hk)), Kd.freshB (g := gb891) (o := .cells #[.int .i64 a0_0, .slice A0_1 l0_1.length c0_1] 24 (0, 0)) (by (with_reducible repeat (first | refine blk_drewN ?_ _ | refine blk_drew ?_ | refine blk_alloc ?_ _)); exact BK891.out) k_ hk⟩) _ (Nat.le_refl _)) (Below.refl _ _) (Nat.le_refl _) (by simp) ?_; (case hd => rfl); (case hg => rfl); (case hr => first | (go_simp; done) | (go_simp; rfl)); (case hp => exact (Reps.one (show Kd.FK (Kd.slice 3 (Kd.int .i64)) _ _ l1 [.slice A1 l1.length c1] from (Kd.FK_slice_mk (Kd.V_reads' (Kd.V_mono (ok' := (fun k_ => (P1_ k_ ∨ w.heap.size ≤ k_) ∧ k_ ≠ gb891)) (HO1.out) (fun k_ hk => ⟨hk.1, hk.2⟩))).2.1 (Kd.V_F (Kd.V_mono (ok' := (fun k_ => (P1_ k_ ∨ w.heap.size ≤ k_) ∧ k_ ≠ gb891)) (HO1.out) (fun k_ hk => ⟨hk.1, hk.2⟩))))) (Reps.none _ _))); intro v893 w24 ho25 hb hg_ hnew_; clear hg_ hnew_; (first | rw [← Ny892.out] at ho25 | (simp only [Int.reduceToNat] at ho25; rw [← Ny892.out] at ho25)); have n0_ := Aside0.mk (Kd.V_elder' (by (with_reducible repeat (first | apply Kd.V_alloc | apply Kd.V_drewN | apply Kd.V_drew)); exact HO1.out) (Kd.N_base ho25) hb); have n1_ := Aside0.mk (Kd.N_lower ho25 (below_size (by repeat (first | (with_reducible first | exact HB.out | apply below_alloc | apply pw_below_drewN | apply below_drew1 | refine below_set ?_ GE891.out) | exact HB.out)))); have n2_ := Aside0.mk (blk_below (g := gb891) (o := .cells #[.int .i64 a0_0, .slice A0_1 l0_1.length c0_1] 24 (0, 0)) (by (with_reducible repeat (first | refine blk_drewN ?_ _ | refine blk_drew ?_ | refine blk_alloc ?_ _)); exact BK891.out) hb); have n3_ := Aside0.mk (below_step (by repeat (first | (with_reducible first | exact HB.out | apply below_alloc | apply pw_below_drewN | apply below_drew1 | refine below_set ?_ GE891.out) | exact HB.out)) hb); clear HO1; clear BK891; clear HB; have HO1 := n0_; have HO894 := n1_; have BK891 := n2_; have HB := n3_; clear n0_ n1_ n2_ n3_; clear hb ho25; obtain ⟨Ao26, co26, eo26⟩ := Kd.N_slice HO894.out; subst eo26) | ((with_reducible refine gate_callee (f := 28) rfl ?_); refine goesL_ (some 18) rfl rfl Try.func28 (by kernel_rfl) rfl #[.agg #[.int .i64 a0_0, .slice A0_1 l0_1.length c0_1], .slice Ao26 y892.length co26] rfl (by (try simp only [List.map_toArray, List.map_cons, List.map_nil]); first | done | rfl | (simp only [List.length_drop, List.length_take]; rfl)) ?_; (with_reducible refine (pylonlaw14_Long.calls k a0_0 _ _ l0_1 _ _ y892 false _ ?side1 ?side2 ?side3 ?side4 A5.out).mono ?_); (case side1 => repeat (first | exact (Kd.C_below HR0_1.out HB.out) | (with_reducible refine Kd.C_alloc ?_ _) | (with_reducible refine Kd.C_drewN ?_ _) | (with_reducible refine Kd.C_drew ?_))); (case side2 => exact HC0_1.out); (case side3 => repeat (first | exact (Kd.N_reads' HO894.out).2.2 | (with_reducible refine Kd.C_alloc ?_ _) | (with_reducible refine Kd.C_drewN ?_ _) | (with_reducible refine Kd.C_drew ?_))); (case side4 => exact (Kd.N_reads' HO894.out).2.1); rintro e w27 ⟨rfl, hb⟩; refine ⟨_, rfl, ?_⟩; have n0_ := Aside0.mk (Kd.V_below (by (with_reducible repeat (first | apply Kd.V_alloc | apply Kd.V_drewN | apply Kd.V_drew)); exact HO1.out) hb); have n1_ := Aside0.mk (Kd.N_below (by (with_reducible repeat (first | apply Kd.N_alloc | apply Kd.N_drewN | apply Kd.N_drew)); exact HO894.out) hb); have n2_ := Aside0.mk (blk_below (g := gb891) (o := .cells #[.int .i64 a0_0, .slice A0_1 l0_1.length c0_1] 24 (0, 0)) (by (with_reducible repeat (first | refine blk_drewN ?_ _ | refine blk_drew ?_ | refine blk_alloc ?_ _)); exact BK891.out) hb); have n3_ := Aside0.mk (below_step (by repeat (first | (with_reducible first | exact HB.out | apply below_alloc | apply pw_below_drewN | apply below_drew1 | refine below_set ?_ GE891.out) | exact HB.out)) hb); clear HO1; clear HO894; clear BK891; clear HB; have HO1 := n0_; have HO894 := n1_; have BK891 := n2_; have HB := n3_; clear n0_ n1_ n2_ n3_; (try clear hb); (try clear hb2); (try clear hk); (try clear hi)) | (go_at_call 51; (with_reducible refine (pylonlaw16_awake.calls  false _ A12.out).mono ?_); rintro e w28 ⟨rfl, hb⟩; have n0_ := Aside0.mk (Kd.V_below (by (with_reducible repeat (first | apply Kd.V_alloc | apply Kd.V_drewN | apply Kd.V_drew)); exact HO1.out) hb); have n1_ := Aside0.mk (Kd.N_below (by (with_reducible repeat (first | apply Kd.N_alloc | apply Kd.N_drewN | apply Kd.N_drew)); exact HO894.out) hb); have n2_ := Aside0.mk (blk_below (g := gb891) (o := .cells #[.int .i64 a0_0, .slice A0_1 l0_1.length c0_1] 24 (0, 0)) (by (with_reducible repeat (first | refine blk_drewN ?_ _ | refine blk_drew ?_ | refine blk_alloc ?_ _)); exact BK891.out) hb); have n3_ := Aside0.mk (below_step (by repeat (first | (with_reducible first | exact HB.out | apply below_alloc | apply pw_below_drewN | apply below_drew1 | refine below_set ?_ GE891.out) | exact HB.out)) hb); clear HO1; clear HO894; clear BK891; clear HB; have HO1 := n0_; have HO894 := n1_; have BK891 := n2_; have HB := n3_; clear n0_ n1_ n2_ n3_; (try clear hb); (try clear hb2); (try clear hk); (try clear hi)))
    go_meet
    case rel => exact ⟨_, (true), (by first | rfl | (simp; done) | (simp [*]; done)), H', ⟨by first | omega | exact Nat.le_refl _⟩, ⟨by (with_reducible repeat (first | apply Kd.V_alloc | apply Kd.V_drewN | apply Kd.V_drew)); exact Kd.V_mono HO1.out (fun _ hk => ⟨hk.1.1, hk.1.2⟩)⟩, ⟨by (with_reducible repeat (first | refine blk_drewN ?_ _ | refine blk_drew ?_ | refine blk_alloc ?_ _)); exact BK891.out⟩, ⟨by repeat (first | (with_reducible first | exact HB.out | apply below_alloc | apply pw_below_drewN | apply below_drew1 | refine below_set ?_ GE891.out) | exact HB.out)⟩⟩
 case rest =>
  clear HC3; (try clear c1); (try clear c2); (try clear p2); (try clear c6); (try clear c13); (try clear c15); (try clear c28); (try clear hcz15_0); (try clear hcz15_1); (try clear hcz21_0); (try clear hcz21_1); (try clear hcz23_0); (try clear hcz23_1); (try clear hcz7_0); (try clear hcz7_1); (try clear hfz15_0); (try clear hfz15_1); (try clear hfz21_0); (try clear hfz21_1); (try clear hfz23_0); (try clear hfz23_1); (try clear hfz7_0); (try clear hfz7_1)
  obtain ⟨kq, x28_2, rfl, HA, HJ2, HO_1, BK891, HB⟩ := hcut
  cases kq with
  | zero => exact absurd HA.out (by simp [pylonlaw16_TreeGreedy.j0])
  | succ kj2 =>
   have H := HA.out
   clear HA
   simp only [pylonlaw16_TreeGreedy.j0] at H
   by_cases c29 : x28_2 = true
   ·as_aux_lemma =>
    subst c29
    have H1 : ((pylonlaw16_awake.f).bind fun t898 => (some t898)) = some r := by rw [if_pos rfl] at H; exact H
    clear H
    have H := H1
    clear H1
    replace H := Option.bind_eq_some_iff.mp H
    obtain ⟨t898, A300, H⟩ := H
    replace H : (some t898) = some r := H
    have A30 := Aside0.mk A300
    clear A300
    obtain rfl := Option.some.inj H
    go_wp2_with (first | ((with_reducible refine gate_callee (f := 51) rfl ?_); refine goesL_ (some 29) rfl rfl Try.func51 (by kernel_rfl) rfl #[] rfl (by (try simp only [List.map_toArray, List.map_cons, List.map_nil]); first | done | rfl | (simp only [List.length_drop, List.length_take]; rfl)) ?_; (with_reducible refine (pylonlaw16_awake.calls  t898 _ A30.out).mono ?_); rintro e w31 ⟨rfl, hb⟩; refine ⟨_, rfl, ?_⟩; have n0_ := Aside0.mk (Kd.V_below (by (with_reducible repeat (first | apply Kd.V_alloc | apply Kd.V_drewN | apply Kd.V_drew)); exact HO_1.out) hb); have n1_ := Aside0.mk (blk_below (g := gb891) (o := .cells #[.int .i64 a0_0, .slice A0_1 l0_1.length c0_1] 24 (0, 0)) (by (with_reducible repeat (first | refine blk_drewN ?_ _ | refine blk_drew ?_ | refine blk_alloc ?_ _)); exact BK891.out) hb); have n2_ := Aside0.mk (below_step (by repeat (first | (with_reducible first | exact HB.out | apply below_alloc | apply pw_below_drewN | apply below_drew1 | refine below_set ?_ GE891.out) | exact HB.out)) hb); clear HO_1; clear BK891; clear HB; have HO_1 := n0_; have BK891 := n1_; have HB := n2_; clear n0_ n1_ n2_; (try clear hb); (try clear hb2); (try clear hk); (try clear hi)))
    go_ret
    exact ⟨by first | rfl | (simp [errW_none, errW_some] <;> rfl) | (simp [*, errW_none, errW_some] <;> rfl), by repeat (first | (with_reducible first | exact HB.out | apply below_alloc | apply pw_below_drewN | apply below_drew1 | refine below_set ?_ GE891.out) | exact HB.out)⟩
   ·as_aux_lemma =>
    replace c29 := Bool.eq_false_iff.mpr c29
    subst c29
    have H1 : ((tree_Tree.f kj2 a0_0 l0_1 l1).bind fun bt899 => ((net_In.f a0_0 l0_1 l1).bind fun bt903 => (if bt899.2 = 0 then (pylonlaw16_TreeGreedy.j1 kj2 bt899.1 bt903.1 (bt903.2 != 0) a0_0 l0_1) else (pylonlaw16_TreeGreedy.j1 kj2 bt899.1 bt903.1 true a0_0 l0_1)))) = some r := by rw [if_neg (show ¬ (false = true) by decide)] at H; exact H
    clear H
    have H := H1
    clear H1
    replace H := Option.bind_eq_some_iff.mp H
    obtain ⟨⟨t899, t902⟩, A320, H⟩ := H
    replace H : ((net_In.f a0_0 l0_1 l1).bind fun bt903 => (if t902 = 0 then (pylonlaw16_TreeGreedy.j1 kj2 t899 bt903.1 (bt903.2 != 0) a0_0 l0_1) else (pylonlaw16_TreeGreedy.j1 kj2 t899 bt903.1 true a0_0 l0_1))) = some r := H
    have A32 := Aside0.mk A320
    clear A320
    replace H := Option.bind_eq_some_iff.mp H
    obtain ⟨⟨t903, t906⟩, A330, H⟩ := H
    replace H : (if t902 = 0 then (pylonlaw16_TreeGreedy.j1 kj2 t899 t903 (t906 != 0) a0_0 l0_1) else (pylonlaw16_TreeGreedy.j1 kj2 t899 t903 true a0_0 l0_1)) = some r := H
    have A33 := Aside0.mk A330
    clear A330
    have HC34 := Aside0.mk H
    clear H
    have hcz35_0 : wc.cell? ⟨gb891, 0, none⟩ = some (.int .i64 a0_0) := (blk_cell BK891.out 0).trans rfl
    have hcz35_1 : wc.cell? ⟨gb891, 1, none⟩ = some (.slice A0_1 l0_1.length c0_1) := (blk_cell BK891.out 1).trans rfl
    have hfz35_0 := blk_frozen BK891.out 0
    have hfz35_1 := blk_frozen BK891.out 1
    go_upto_region 5 with (first | ((with_reducible refine gate_callee (f := 56) rfl ?_); refine goesL_ (some 33) rfl rfl Try.func56 (by kernel_rfl) rfl #[.agg #[.int .i64 a0_0, .slice A0_1 l0_1.length c0_1], .slice A1 l1.length c1] rfl (by (try simp only [List.map_toArray, List.map_cons, List.map_nil]); first | done | rfl | (simp only [List.length_drop, List.length_take]; rfl)) ?_; (with_reducible refine (tree_Tree.calls kj2 a0_0 _ _ l0_1 _ _ l1 t899 t902 _ ?side1 ?side2 ?side3 ?side4 A32.out).mono ?_); (case side1 => repeat (first | exact (Kd.C_below HR0_1.out HB.out) | (with_reducible refine Kd.C_alloc ?_ _) | (with_reducible refine Kd.C_drewN ?_ _) | (with_reducible refine Kd.C_drew ?_))); (case side2 => exact HC0_1.out); (case side3 => repeat (first | exact (Kd.V_reads' HO_1.out).2.2 | (with_reducible refine Kd.C_alloc ?_ _) | (with_reducible refine Kd.C_drewN ?_ _) | (with_reducible refine Kd.C_drew ?_))); (case side4 => exact (Kd.V_reads' HO_1.out).2.1); rintro e w36 ⟨v900, rfl, ho0, hb⟩; refine ⟨_, rfl, ?_⟩; have n0_ := Aside0.mk (Kd.V_elder' (by (with_reducible repeat (first | apply Kd.V_alloc | apply Kd.V_drewN | apply Kd.V_drew)); exact HO_1.out) (Kd.R_base ho0) hb); have n1_ := Aside0.mk (Kd.R_lower (Kd.R_newM (M := fun k_ => (w.heap.size ≤ k_)) ho0 (below_size (by repeat (first | (with_reducible first | exact HB.out | apply below_alloc | apply pw_below_drewN | apply below_drew1 | refine below_set ?_ GE891.out) | exact HB.out))) (fun k_ h_ => h_)) (below_size (by repeat (first | (with_reducible first | exact HB.out | apply below_alloc | apply pw_below_drewN | apply below_drew1 | refine below_set ?_ GE891.out) | exact HB.out)))); have n2_ := Aside0.mk (blk_below (g := gb891) (o := .cells #[.int .i64 a0_0, .slice A0_1 l0_1.length c0_1] 24 (0, 0)) (by (with_reducible repeat (first | refine blk_drewN ?_ _ | refine blk_drew ?_ | refine blk_alloc ?_ _)); exact BK891.out) hb); have n3_ := Aside0.mk (below_step (by repeat (first | (with_reducible first | exact HB.out | apply below_alloc | apply pw_below_drewN | apply below_drew1 | refine below_set ?_ GE891.out) | exact HB.out)) hb); clear HO_1; clear BK891; clear HB; have HO_1 := n0_; have HO901 := n1_; have BK891 := n2_; have HB := n3_; clear n0_ n1_ n2_ n3_; (try clear hb); (try clear hb2); (try clear hk); (try clear hi); (try clear ho0); have hcz37_0 : w36.cell? ⟨gb891, 0, none⟩ = some (.int .i64 a0_0) := (blk_cell BK891.out 0).trans rfl; have hcz37_1 : w36.cell? ⟨gb891, 1, none⟩ = some (.slice A0_1 l0_1.length c0_1) := (blk_cell BK891.out 1).trans rfl; have hfz37_0 := blk_frozen BK891.out 0; have hfz37_1 := blk_frozen BK891.out 1) | ((with_reducible refine gate_callee (f := 59) rfl ?_); refine goesL_ (some 39) rfl rfl Try.func59 (by kernel_rfl) rfl #[.agg #[.int .i64 a0_0, .slice A0_1 l0_1.length c0_1], .slice A1 l1.length c1] rfl (by (try simp only [List.map_toArray, List.map_cons, List.map_nil]); first | done | rfl | (simp only [List.length_drop, List.length_take]; rfl)) ?_; (with_reducible refine (net_In.calls a0_0 _ _ l0_1 _ _ l1 t903 t906 _ ?side1 ?side2 ?side3 ?side4 A33.out).mono ?_); (case side1 => repeat (first | exact (Kd.C_below HR0_1.out HB.out) | (with_reducible refine Kd.C_alloc ?_ _) | (with_reducible refine Kd.C_drewN ?_ _) | (with_reducible refine Kd.C_drew ?_))); (case side2 => exact HC0_1.out); (case side3 => repeat (first | exact (Kd.V_reads' HO_1.out).2.2 | (with_reducible refine Kd.C_alloc ?_ _) | (with_reducible refine Kd.C_drewN ?_ _) | (with_reducible refine Kd.C_drew ?_))); (case side4 => exact (Kd.V_reads' HO_1.out).2.1); rintro e w38 ⟨v904, rfl, ho0, hb⟩; refine ⟨_, rfl, ?_⟩; have n0_ := Aside0.mk (Kd.V_elder' (by (with_reducible repeat (first | apply Kd.V_alloc | apply Kd.V_drewN | apply Kd.V_drew)); exact HO_1.out) (Kd.R_base ho0) hb); have n1_ := Aside0.mk (Kd.R_elder' (by (with_reducible repeat (first | apply Kd.R_alloc | apply Kd.R_drewN | apply Kd.R_drew)); exact HO901.out) (Kd.R_base ho0) hb); have n2_ := Aside0.mk (Kd.R_lower (Kd.R_new' (Kd.R_newM (M := fun k_ => (w.heap.size ≤ k_)) ho0 (below_size (by repeat (first | (with_reducible first | exact HB.out | apply below_alloc | apply pw_below_drewN | apply below_drew1 | refine below_set ?_ GE891.out) | exact HB.out))) (fun k_ h_ => h_)) (Kd.R_lt (by (with_reducible repeat (first | apply Kd.R_alloc | apply Kd.R_drewN | apply Kd.R_drew)); exact HO901.out))) (below_size (by repeat (first | (with_reducible first | exact HB.out | apply below_alloc | apply pw_below_drewN | apply below_drew1 | refine below_set ?_ GE891.out) | exact HB.out)))); have n3_ := Aside0.mk (blk_below (g := gb891) (o := .cells #[.int .i64 a0_0, .slice A0_1 l0_1.length c0_1] 24 (0, 0)) (by (with_reducible repeat (first | refine blk_drewN ?_ _ | refine blk_drew ?_ | refine blk_alloc ?_ _)); exact BK891.out) hb); have n4_ := Aside0.mk (below_step (by repeat (first | (with_reducible first | exact HB.out | apply below_alloc | apply pw_below_drewN | apply below_drew1 | refine below_set ?_ GE891.out) | exact HB.out)) hb); clear HO_1; clear HO901; clear BK891; clear HB; have HO_1 := n0_; have HO901 := n1_; have HO905 := n2_; have BK891 := n3_; have HB := n4_; clear n0_ n1_ n2_ n3_ n4_; (try clear hb); (try clear hb2); (try clear hk); (try clear hi); (try clear ho0)))
    (try simp only [Act.put, List.setIfInBounds_toArray, List.set_cons_zero, List.set_cons_succ])
    go_cut [47] (fun v47 wc => ∃ (kq : Nat) (x47_33 : Bool), v47 = .bool x47_33 ∧ Aside0 (pylonlaw16_TreeGreedy.j1 kq t899 t903 x47_33 a0_0 l0_1 = some r) ∧ Aside0 (kq ≤ kj2) ∧ Aside0 (Kd.R (Kd.int .i64) 3 wc w.heap.size (fun k_ => (w.heap.size ≤ k_) ∧ some k_ ≠ (v904 : Value).ownBlock) v900 t899) ∧ Aside0 (Kd.R (Kd.int .i64) 3 wc w.heap.size (fun k_ => (w.heap.size ≤ k_) ∧ some k_ ≠ (v900 : Value).ownBlock) v904 t903) ∧ Aside0 (wc.heap[gb891]? = some (.cells #[.int .i64 a0_0, (.slice A0_1 l0_1.length c0_1)] 24 (0, 0))) ∧ Aside0 (Below w.heap.size w wc))
    case first =>
     have H := HC34.out
     clear HC34
     by_cases c39 : t902 = 0
     ·rw [if_pos c39] at H
      have c39b0 : (t902 == 0) = true := beq_iff_eq.mpr c39
      have c39b1 : (t902 != 0) = false := bne_eq_false_iff_eq.mpr c39
      clear c39
      (first | rw [c39b0] | (simp only [i64_w, i32_w]; rw [c39b0]) | skip)
      have H' := Aside0.mk H
      clear H
      go_wp2
      go_meet
      case rel => exact ⟨_, ((t906 != 0)), (by first | rfl | (simp; done) | (simp [*]; done)), H', ⟨by have := HJ2.out; first | omega | exact Nat.le_refl _⟩, ⟨by (with_reducible repeat (first | apply Kd.R_alloc | apply Kd.R_drewN | apply Kd.R_drew)); exact Kd.R_mono HO901.out (fun _ hk => ⟨hk.1.1, hk.2⟩)⟩, ⟨by (with_reducible repeat (first | apply Kd.R_alloc | apply Kd.R_drewN | apply Kd.R_drew)); exact Kd.R_mono HO905.out (fun _ hk => ⟨hk.1.1, hk.2⟩)⟩, ⟨by (with_reducible repeat (first | refine blk_drewN ?_ _ | refine blk_drew ?_ | refine blk_alloc ?_ _)); exact BK891.out⟩, ⟨by repeat (first | (with_reducible first | exact HB.out | apply below_alloc | apply pw_below_drewN | apply below_drew1 | refine below_set ?_ GE891.out) | exact HB.out)⟩⟩
     ·rw [if_neg c39] at H
      have c39b0 : (t902 == 0) = false := beq_eq_false_iff_ne.mpr c39
      have c39b1 : (t902 != 0) = true := bne_iff_ne.mpr c39
      (first | rw [c39b0] | (simp only [i64_w, i32_w]; rw [c39b0]) | skip)
      have H' := Aside0.mk H
      clear H
      go_wp2
      go_meet
      case rel => exact ⟨_, (true), (by first | rfl | (simp; done) | (simp [*]; done)), H', ⟨by have := HJ2.out; first | omega | exact Nat.le_refl _⟩, ⟨by (with_reducible repeat (first | apply Kd.R_alloc | apply Kd.R_drewN | apply Kd.R_drew)); exact Kd.R_mono HO901.out (fun _ hk => ⟨hk.1.1, hk.2⟩)⟩, ⟨by (with_reducible repeat (first | apply Kd.R_alloc | apply Kd.R_drewN | apply Kd.R_drew)); exact Kd.R_mono HO905.out (fun _ hk => ⟨hk.1.1, hk.2⟩)⟩, ⟨by (with_reducible repeat (first | refine blk_drewN ?_ _ | refine blk_drew ?_ | refine blk_alloc ?_ _)); exact BK891.out⟩, ⟨by repeat (first | (with_reducible first | exact HB.out | apply below_alloc | apply pw_below_drewN | apply below_drew1 | refine below_set ?_ GE891.out) | exact HB.out)⟩⟩
    case rest =>
     clear HC34; (try clear c1); (try clear c2); (try clear p2); (try clear c3); (try clear c5); (try clear c6); (try clear c13); (try clear c15); (try clear c28); (try clear c29); (try clear c39); (try clear c39b0); (try clear c39b1); (try clear hcz15_0); (try clear hcz15_1); (try clear hcz21_0); (try clear hcz21_1); (try clear hcz23_0); (try clear hcz23_1); (try clear hcz35_0); (try clear hcz35_1); (try clear hcz37_0); (try clear hcz37_1); (try clear hcz7_0); (try clear hcz7_1); (try clear hfz15_0); (try clear hfz15_1); (try clear hfz21_0); (try clear hfz21_1); (try clear hfz23_0); (try clear hfz23_1); (try clear hfz35_0); (try clear hfz35_1); (try clear hfz37_0); (try clear hfz37_1); (try clear hfz7_0); (try clear hfz7_1); (try clear p2)
     obtain ⟨kq, x47_33, rfl, HA, HJ33, HO_5, HO_7, BK891, HB⟩ := hcut
     cases kq with
     | zero => exact absurd HA.out (by simp [pylonlaw16_TreeGreedy.j1])
     | succ kj33 =>
      have H := HA.out
      clear HA
      simp only [pylonlaw16_TreeGreedy.j1] at H
      by_cases c40 : x47_33 = true
      ·as_aux_lemma =>
       subst c40
       have H1 : (some false) = some r := by rw [if_pos rfl] at H; exact H
       clear H
       have H := H1
       clear H1
       obtain rfl := Option.some.inj H
       go_wp2
       go_ret
       exact ⟨by first | rfl | (simp [errW_none, errW_some] <;> rfl) | (simp [*, errW_none, errW_some] <;> rfl), by repeat (first | (with_reducible first | exact HB.out | apply below_alloc | apply pw_below_drewN | apply below_drew1 | refine below_set ?_ GE891.out) | exact HB.out)⟩
      ·as_aux_lemma =>
       replace c40 := Bool.eq_false_iff.mpr c40
       subst c40
       have H1 : (pylonlaw16_TreeGreedy.l0 kj33 t899 t903 0 a0_0 l0_1) = some r := by rw [if_neg (show ¬ (false = true) by decide)] at H; exact H
       clear H
       have H := H1
       clear H1
       have H' := Aside0.mk H
       clear H
       go_wp2
       go_loopg [9] kj33 (fun kq v9 w' => ∃ (x9_3 : Int), v9 = .int .i64 x9_3 ∧ Aside0 (pylonlaw16_TreeGreedy.l0 kq t899 t903 x9_3 a0_0 l0_1 = some r) ∧ Aside0 (kq ≤ kj33) ∧ Aside0 (Kd.R (Kd.int .i64) 3 w' w.heap.size (fun k_ => (w.heap.size ≤ k_) ∧ some k_ ≠ (v904 : Value).ownBlock) v900 t899) ∧ Aside0 (Kd.R (Kd.int .i64) 3 w' w.heap.size (fun k_ => (w.heap.size ≤ k_) ∧ some k_ ≠ (v900 : Value).ownBlock) v904 t903) ∧ Aside0 (w'.heap[gb891]? = some (.cells #[.int .i64 a0_0, (.slice A0_1 l0_1.length c0_1)] 24 (0, 0))) ∧ Aside0 (Below w.heap.size w w'))
       case atStart => exact ⟨(0), (by first | rfl | (simp; done) | (simp [*]; done)), H', ⟨Nat.le_refl _⟩, ⟨by (with_reducible repeat (first | apply Kd.R_alloc | apply Kd.R_drewN | apply Kd.R_drew)); exact HO_5.out⟩, ⟨by (with_reducible repeat (first | apply Kd.R_alloc | apply Kd.R_drewN | apply Kd.R_drew)); exact HO_7.out⟩, ⟨by (with_reducible repeat (first | refine blk_drewN ?_ _ | refine blk_drew ?_ | refine blk_alloc ?_ _)); exact BK891.out⟩, ⟨by repeat (first | (with_reducible first | exact HB.out | apply below_alloc | apply pw_below_drewN | apply below_drew1 | refine below_set ?_ GE891.out) | exact HB.out)⟩⟩
       case round => as_aux_lemma =>
        clear H'; (try clear c1); (try clear c2); (try clear p2); (try clear c3); (try clear c4); (try clear c5); (try clear c6); (try clear c13); (try clear c15); (try clear c28); (try clear c29); (try clear c39); (try clear c39b0); (try clear c39b1); (try clear c40); (try clear hcz15_0); (try clear hcz15_1); (try clear hcz21_0); (try clear hcz21_1); (try clear hcz23_0); (try clear hcz23_1); (try clear hcz35_0); (try clear hcz35_1); (try clear hcz37_0); (try clear hcz37_1); (try clear hcz7_0); (try clear hcz7_1); (try clear hfz15_0); (try clear hfz15_1); (try clear hfz21_0); (try clear hfz21_1); (try clear hfz23_0); (try clear hfz23_1); (try clear hfz35_0); (try clear hfz35_1); (try clear hfz37_0); (try clear hfz37_1); (try clear hfz7_0); (try clear hfz7_1); (try clear p2)
        obtain ⟨x9_3, rfl, HA, HK3, HO_5, HO_7, BK891, HB⟩ := hrel
        cases gk with
        | zero => exact absurd HA.out (by simp [pylonlaw16_TreeGreedy.l0])
        | succ k3 =>
         have H := HA.out
         clear HA
         simp only [pylonlaw16_TreeGreedy.l0] at H
         by_cases c41 : x9_3 < (t903.length : Int)
         ·rw [if_pos c41] at H
          have c41b0 : decide (x9_3 < (t903.length : Int)) = true := decide_eq_true c41
          clear c41
          have HC42 := Aside0.mk H
          clear H
          obtain ⟨Ao43, co43, eo43⟩ := Kd.R_slice HO_7.out
          subst eo43
          go_upto_region 10 with (fail)
          go_cut [68] (fun v68 wc => ∃ (kq : Nat) (x68_41 : Bool), v68 = .bool x68_41 ∧ Aside0 (pylonlaw16_TreeGreedy.j3 kq t899 t903 x9_3 x68_41 a0_0 l0_1 = some r) ∧ Aside0 (kq ≤ k3) ∧ Aside0 (Kd.R (Kd.int .i64) 3 wc w.heap.size (fun k_ => (w.heap.size ≤ k_) ∧ some k_ ≠ ((.slice Ao43 t903.length co43) : Value).ownBlock) v900 t899) ∧ Aside0 (Kd.R (Kd.int .i64) 3 wc w.heap.size (fun k_ => (w.heap.size ≤ k_) ∧ some k_ ≠ (v900 : Value).ownBlock) (.slice Ao43 t903.length co43) t903) ∧ Aside0 (wc.heap[gb891]? = some (.cells #[.int .i64 a0_0, (.slice A0_1 l0_1.length c0_1)] 24 (0, 0))) ∧ Aside0 (Below w.heap.size w wc))
          case first =>
           have H := HC42.out
           clear HC42
           by_cases c44 : 0 ≤ x9_3
           ·rw [if_pos c44] at H
            have c44b0 : decide (0 ≤ x9_3) = true := decide_eq_true c44
            clear c44
            (first | rw [c44b0] | (simp only [i64_w, i32_w]; rw [c44b0]) | skip)
            by_cases c45 : (rd t903 x9_3) < 0
            ·rw [if_pos c45] at H
             have c45b0 : decide ((rd t903 x9_3) < 0) = true := decide_eq_true c45
             clear c45
             have H' := Aside0.mk H
             clear H
             try go_wp2
             have n0_ := Aside0.mk (Kd.R_drew HO_5.out)
             have n1_ := Aside0.mk (Kd.R_drew HO_7.out)
             have n2_ := Aside0.mk (blk_drew BK891.out)
             have n3_ := Aside0.mk (below_drew1 HB.out)
             clear HO_5; clear HO_7; clear BK891; clear HB
             have HO_5 := n0_
             have HO_7 := n1_
             have BK891 := n2_
             have HB := n3_
             clear n0_ n1_ n2_ n3_
             have p907 : 0 ≤ (x9_3 : Int) := of_decide_eq_true (by first | (with_reducible assumption) | assumption)
             have q907 : x9_3 < (t903.length : Int) := of_decide_eq_true (by first | (with_reducible assumption) | assumption)
             obtain ⟨ad907, e907, hx907_0⟩ := Kd.at_int (Kd.R_reads' HO_7.out).2.2 x9_3 p907 q907
             cases e907
             replace p907 := eq_true p907
             replace q907 := eq_true q907
             refine start_ (n := 15) (S := fun w' => w'.cell? (ad907.add (x9_3).toNat) = some (.int .i64 (rd t903 x9_3))) (ds := []) #[false, false, false, false, false, false, false, false, false, false, false, false, false, false, false] (by kernel_rfl) rfl rfl (hx907_0) (fun hHeld => ?_); refine with_tabW pylonlaw16_TreeGreedy.tab10 pylonlaw16_TreeGreedy.bits10 (fun HT_ HW_ => ?_)
             generalize wr.drew = w46 at HO_5 HO_7 BK891 HB hx907_0 hHeld ⊢
             refine pure_ (i := 0) (N := some 54) (v := ?_) (a' := ?_) #[true, false, false, false, false, false, false, false, false, false, false, false, false, false, false] rfl rfl (any_of HT_.out (by kernel_rfl)) (fun _ _ _ h => h) (Or.inl ⟨by rfl, ?_⟩) ?_ ?_
             rotate_left; (intro w'; go_simp; with_reducible rfl); rotate_left; (simp only [Act.put, List.setIfInBounds_toArray, List.set_cons_zero, List.set_cons_succ, i64_w, i32_w]; rfl)
             refine pure_ (i := 1) (N := some 55) (v := ?_) (a' := ?_) #[true, true, false, false, false, false, false, false, false, false, false, false, false, false, false] rfl rfl (any_of HT_.out (by kernel_rfl)) (fun _ _ _ h => h) (Or.inl ⟨by rfl, ?_⟩) ?_ ?_
             rotate_left; (intro w'; go_simp; with_reducible rfl); rotate_left; (simp only [Act.put, List.setIfInBounds_toArray, List.set_cons_zero, List.set_cons_succ, i64_w, i32_w]; rfl)
             refine pure_ (i := 2) (N := some 56) (v := ?_) (a' := ?_) #[true, true, true, false, false, false, false, false, false, false, false, false, false, false, false] rfl rfl (any_of HT_.out (by kernel_rfl)) (fun _ _ _ h => h) (Or.inl ⟨by rfl, ?_⟩) ?_ ?_
             rotate_left; (intro w'; go_simp; with_reducible rfl); rotate_left; (simp only [Act.put, List.setIfInBounds_toArray, List.set_cons_zero, List.set_cons_succ, i64_w, i32_w]; rfl)
             refine take_ (i := 3) (N := some 57) (v := ?_) (a' := ?_) #[true, true, true, true, false, false, false, false, false, false, false, false, false, false, false] rfl rfl (take_ofW HT_.out HW_.out (by kernel_rfl)) (fun _ _ _ h => h) (Or.inl ⟨by rfl, ?_⟩) hHeld ?_ ?_
             rotate_left; (intro w' s0; go_simp; with_reducible rfl); rotate_left; (simp only [Act.put, List.setIfInBounds_toArray, List.set_cons_zero, List.set_cons_succ, i64_w, i32_w]; rfl)
             refine pure_ (i := 4) (N := some 58) (v := ?_) (a' := ?_) #[true, true, true, true, true, false, false, false, false, false, false, false, false, false, false] rfl rfl (any_of HT_.out (by kernel_rfl)) (fun _ _ _ h => h) (Or.inl ⟨by rfl, ?_⟩) ?_ ?_
             rotate_left; (intro w'; go_simp; with_reducible rfl); rotate_left; (simp only [Act.put, List.setIfInBounds_toArray, List.set_cons_zero, List.set_cons_succ, i64_w, i32_w]; rfl)
             refine pure_ (i := 5) (N := some 59) (v := ?_) (a' := ?_) #[true, true, true, true, true, true, false, false, false, false, false, false, false, false, false] rfl rfl (any_of HT_.out (by kernel_rfl)) (fun _ _ _ h => h) (Or.inl ⟨by rfl, ?_⟩) ?_ ?_
             rotate_left; (intro w'; go_simp; with_reducible rfl); rotate_left; (simp only [Act.put, List.setIfInBounds_toArray, List.set_cons_zero, List.set_cons_succ, i64_w, i32_w]; rfl)
             refine pure_ (i := 6) (N := some 60) (v := undef) (a' := ?_) #[true, true, true, true, true, true, true, false, false, false, false, false, false, false, false] rfl rfl (any_of HT_.out (by kernel_rfl)) (fun _ _ _ h => h) (Or.inr ⟨by rfl, rfl⟩) ?_ ?_
             rotate_left
             ·simp only [Act.put, List.setIfInBounds_toArray, List.set_cons_zero, List.set_cons_succ, i64_w, i32_w]
              rfl
             refine pure_ (i := 7) (N := some 61) (v := undef) (a' := ?_) #[true, true, true, true, true, true, true, true, false, false, false, false, false, false, false] rfl rfl (any_of HT_.out (by kernel_rfl)) (fun _ _ _ h => h) (Or.inr ⟨by rfl, rfl⟩) ?_ ?_
             rotate_left
             ·simp only [Act.put, List.setIfInBounds_toArray, List.set_cons_zero, List.set_cons_succ, i64_w, i32_w]
              rfl
             refine pure_ (i := 8) (N := some 62) (v := undef) (a' := ?_) #[true, true, true, true, true, true, true, true, true, false, false, false, false, false, false] rfl rfl (any_of HT_.out (by kernel_rfl)) (fun _ _ _ h => h) (Or.inr ⟨by rfl, rfl⟩) ?_ ?_
             rotate_left
             ·simp only [Act.put, List.setIfInBounds_toArray, List.set_cons_zero, List.set_cons_succ, i64_w, i32_w]
              rfl
             refine pure_ (i := 9) (N := some 63) (v := undef) (a' := ?_) #[true, true, true, true, true, true, true, true, true, true, false, false, false, false, false] rfl rfl (any_of HT_.out (by kernel_rfl)) (fun _ _ _ h => h) (Or.inr ⟨by rfl, rfl⟩) ?_ ?_
             rotate_left
             ·simp only [Act.put, List.setIfInBounds_toArray, List.set_cons_zero, List.set_cons_succ, i64_w, i32_w]
              rfl
             refine pure_ (i := 10) (N := some 64) (v := undef) (a' := ?_) #[true, true, true, true, true, true, true, true, true, true, true, false, false, false, false] rfl rfl (any_of HT_.out (by kernel_rfl)) (fun _ _ _ h => h) (Or.inr ⟨by rfl, rfl⟩) ?_ ?_
             rotate_left
             ·simp only [Act.put, List.setIfInBounds_toArray, List.set_cons_zero, List.set_cons_succ, i64_w, i32_w]
              rfl
             refine pure_ (i := 11) (N := some 65) (v := undef) (a' := ?_) #[true, true, true, true, true, true, true, true, true, true, true, true, false, false, false] rfl rfl (any_of HT_.out (by kernel_rfl)) (fun _ _ _ h => h) (Or.inr ⟨by rfl, rfl⟩) ?_ ?_
             rotate_left
             ·simp only [Act.put, List.setIfInBounds_toArray, List.set_cons_zero, List.set_cons_succ, i64_w, i32_w]
              rfl
             refine pure_ (i := 12) (N := some 66) (v := undef) (a' := ?_) #[true, true, true, true, true, true, true, true, true, true, true, true, true, false, false] rfl rfl (any_of HT_.out (by kernel_rfl)) (fun _ _ _ h => h) (Or.inr ⟨by rfl, rfl⟩) ?_ ?_
             rotate_left
             ·simp only [Act.put, List.setIfInBounds_toArray, List.set_cons_zero, List.set_cons_succ, i64_w, i32_w]
              rfl
             refine pure_ (i := 13) (N := some 67) (v := undef) (a' := ?_) #[true, true, true, true, true, true, true, true, true, true, true, true, true, true, false] rfl rfl (any_of HT_.out (by kernel_rfl)) (fun _ _ _ h => h) (Or.inr ⟨by rfl, rfl⟩) ?_ ?_
             rotate_left
             ·simp only [Act.put, List.setIfInBounds_toArray, List.set_cons_zero, List.set_cons_succ, i64_w, i32_w]
              rfl
             refine pure_ (i := 14) (N := some 68) (v := ?_) (a' := ?_) #[true, true, true, true, true, true, true, true, true, true, true, true, true, true, true] rfl rfl (any_of HT_.out (by kernel_rfl)) (fun _ _ _ h => h) (Or.inl ⟨by rfl, ?_⟩) ?_ ?_
             rotate_left; (intro w'; go_simp; with_reducible rfl); rotate_left; (simp only [Act.put, List.setIfInBounds_toArray, List.set_cons_zero, List.set_cons_succ, i64_w, i32_w]; rfl)
             refine done_ (done_of HT_.out (by kernel_rfl)) ?_
             try go_wp2
             go_meet
             case rel => exact ⟨_, (true), (by first | rfl | (simp; done) | (simp [*]; done)), H', ⟨by have := HJ2.out; have := HJ33.out; have := HK3.out; first | omega | exact Nat.le_refl _⟩, ⟨by (with_reducible repeat (first | apply Kd.R_alloc | apply Kd.R_drewN | apply Kd.R_drew)); exact HO_5.out⟩, ⟨by (with_reducible repeat (first | apply Kd.R_alloc | apply Kd.R_drewN | apply Kd.R_drew)); exact HO_7.out⟩, ⟨by (with_reducible repeat (first | refine blk_drewN ?_ _ | refine blk_drew ?_ | refine blk_alloc ?_ _)); exact BK891.out⟩, ⟨by repeat (first | (with_reducible first | exact HB.out | apply below_alloc | apply pw_below_drewN | apply below_drew1 | refine below_set ?_ GE891.out) | exact HB.out)⟩⟩
            ·rw [if_neg c45] at H
             have c45b0 : decide ((rd t903 x9_3) < 0) = false := decide_eq_false c45
             clear c45
             have H' := Aside0.mk H
             clear H
             try go_wp2
             have n0_ := Aside0.mk (Kd.R_drew HO_5.out)
             have n1_ := Aside0.mk (Kd.R_drew HO_7.out)
             have n2_ := Aside0.mk (blk_drew BK891.out)
             have n3_ := Aside0.mk (below_drew1 HB.out)
             clear HO_5; clear HO_7; clear BK891; clear HB
             have HO_5 := n0_
             have HO_7 := n1_
             have BK891 := n2_
             have HB := n3_
             clear n0_ n1_ n2_ n3_
             have p907 : 0 ≤ (x9_3 : Int) := of_decide_eq_true (by first | (with_reducible assumption) | assumption)
             have q907 : x9_3 < (t903.length : Int) := of_decide_eq_true (by first | (with_reducible assumption) | assumption)
             obtain ⟨ad907, e907, hx907_0⟩ := Kd.at_int (Kd.R_reads' HO_7.out).2.2 x9_3 p907 q907
             cases e907
             replace p907 := eq_true p907
             replace q907 := eq_true q907
             have p908 : 0 ≤ (x9_3 : Int) := of_decide_eq_true (by first | (with_reducible assumption) | assumption)
             have q908 : x9_3 < (t903.length : Int) := of_decide_eq_true (by first | (with_reducible assumption) | assumption)
             obtain ⟨ad908, e908, hx908_0⟩ := Kd.at_int (Kd.R_reads' HO_7.out).2.2 x9_3 p908 q908
             obtain rfl : ad907 = ad908 := (by injection e908)
             replace p908 := eq_true p908
             replace q908 := eq_true q908
             refine start_ (n := 15) (S := fun w' => w'.cell? ⟨gb891, 0, none⟩ = some (.int .i64 a0_0) ∧ w'.cell? ⟨gb891, 1, none⟩ = some (.slice A0_1 l0_1.length c0_1) ∧ w'.cell? (ad907.add (x9_3).toNat) = some (.int .i64 (rd t903 x9_3)) ∧ w'.cell? (ad907.add (x9_3).toNat) = some (.int .i64 (rd t903 x9_3))) (ds := []) #[false, false, false, false, false, false, false, false, false, false, false, false, false, false, false] (by kernel_rfl) rfl rfl ⟨(blk_cell BK891.out 0).trans rfl, (blk_cell BK891.out 1).trans rfl, hx907_0, hx908_0⟩ (fun hHeld => ?_); refine with_tabW pylonlaw16_TreeGreedy.tab10 pylonlaw16_TreeGreedy.bits10 (fun HT_ HW_ => ?_)
             generalize wr.drew = w47 at HO_5 HO_7 BK891 HB hx907_0 hx908_0 hHeld ⊢
             refine pure_ (i := 0) (N := some 54) (v := ?_) (a' := ?_) #[true, false, false, false, false, false, false, false, false, false, false, false, false, false, false] rfl rfl (any_of HT_.out (by kernel_rfl)) (fun _ _ _ h => h) (Or.inl ⟨by rfl, ?_⟩) ?_ ?_
             rotate_left; (intro w'; go_simp; with_reducible rfl); rotate_left; (simp only [Act.put, List.setIfInBounds_toArray, List.set_cons_zero, List.set_cons_succ, i64_w, i32_w]; rfl)
             refine pure_ (i := 1) (N := some 55) (v := ?_) (a' := ?_) #[true, true, false, false, false, false, false, false, false, false, false, false, false, false, false] rfl rfl (any_of HT_.out (by kernel_rfl)) (fun _ _ _ h => h) (Or.inl ⟨by rfl, ?_⟩) ?_ ?_
             rotate_left; (intro w'; go_simp; with_reducible rfl); rotate_left; (simp only [Act.put, List.setIfInBounds_toArray, List.set_cons_zero, List.set_cons_succ, i64_w, i32_w]; rfl)
             refine pure_ (i := 2) (N := some 56) (v := ?_) (a' := ?_) #[true, true, true, false, false, false, false, false, false, false, false, false, false, false, false] rfl rfl (any_of HT_.out (by kernel_rfl)) (fun _ _ _ h => h) (Or.inl ⟨by rfl, ?_⟩) ?_ ?_
             rotate_left; (intro w'; go_simp; with_reducible rfl); rotate_left; (simp only [Act.put, List.setIfInBounds_toArray, List.set_cons_zero, List.set_cons_succ, i64_w, i32_w]; rfl)
             refine take_ (i := 3) (N := some 57) (v := ?_) (a' := ?_) #[true, true, true, true, false, false, false, false, false, false, false, false, false, false, false] rfl rfl (take_ofW HT_.out HW_.out (by kernel_rfl)) (fun _ _ _ h => h) (Or.inl ⟨by rfl, ?_⟩) hHeld ?_ ?_
             rotate_left; (rintro w' ⟨s0, s1, s2, s3⟩; go_simp; with_reducible rfl); rotate_left; (simp only [Act.put, List.setIfInBounds_toArray, List.set_cons_zero, List.set_cons_succ, i64_w, i32_w]; rfl)
             refine pure_ (i := 4) (N := some 58) (v := ?_) (a' := ?_) #[true, true, true, true, true, false, false, false, false, false, false, false, false, false, false] rfl rfl (any_of HT_.out (by kernel_rfl)) (fun _ _ _ h => h) (Or.inl ⟨by rfl, ?_⟩) ?_ ?_
             rotate_left; (intro w'; go_simp; with_reducible rfl); rotate_left; (simp only [Act.put, List.setIfInBounds_toArray, List.set_cons_zero, List.set_cons_succ, i64_w, i32_w]; rfl)
             refine pure_ (i := 5) (N := some 59) (v := ?_) (a' := ?_) #[true, true, true, true, true, true, false, false, false, false, false, false, false, false, false] rfl rfl (any_of HT_.out (by kernel_rfl)) (fun _ _ _ h => h) (Or.inl ⟨by rfl, ?_⟩) ?_ ?_
             rotate_left; (intro w'; go_simp; with_reducible rfl); rotate_left; (simp only [Act.put, List.setIfInBounds_toArray, List.set_cons_zero, List.set_cons_succ, i64_w, i32_w]; rfl)
             refine pure_ (i := 6) (N := some 60) (v := ?_) (a' := ?_) #[true, true, true, true, true, true, true, false, false, false, false, false, false, false, false] rfl rfl (any_of HT_.out (by kernel_rfl)) (fun _ _ _ h => h) (Or.inl ⟨by rfl, ?_⟩) ?_ ?_
             rotate_left; (intro w'; go_simp; with_reducible rfl); rotate_left; (simp only [Act.put, List.setIfInBounds_toArray, List.set_cons_zero, List.set_cons_succ, i64_w, i32_w]; rfl)
             refine pure_ (i := 7) (N := some 61) (v := ?_) (a' := ?_) #[true, true, true, true, true, true, true, true, false, false, false, false, false, false, false] rfl rfl (any_of HT_.out (by kernel_rfl)) (fun _ _ _ h => h) (Or.inl ⟨by rfl, ?_⟩) ?_ ?_
             rotate_left; (intro w'; go_simp; with_reducible rfl); rotate_left; (simp only [Act.put, List.setIfInBounds_toArray, List.set_cons_zero, List.set_cons_succ, i64_w, i32_w]; rfl)
             refine pure_ (i := 8) (N := some 62) (v := ?_) (a' := ?_) #[true, true, true, true, true, true, true, true, true, false, false, false, false, false, false] rfl rfl (any_of HT_.out (by kernel_rfl)) (fun _ _ _ h => h) (Or.inl ⟨by rfl, ?_⟩) ?_ ?_
             rotate_left; (intro w'; go_simp; with_reducible rfl); rotate_left; (simp only [Act.put, List.setIfInBounds_toArray, List.set_cons_zero, List.set_cons_succ, i64_w, i32_w]; rfl)
             refine pure_ (i := 10) (N := some 64) (v := ?_) (a' := ?_) #[true, true, true, true, true, true, true, true, true, false, true, false, false, false, false] rfl rfl (any_of HT_.out (by kernel_rfl)) (fun _ _ _ h => h) (Or.inl ⟨by rfl, ?_⟩) ?_ ?_
             rotate_left; (intro w'; go_simp; with_reducible rfl); rotate_left; (simp only [Act.put, List.setIfInBounds_toArray, List.set_cons_zero, List.set_cons_succ, i64_w, i32_w]; rfl)
             refine take_ (i := 9) (N := some 63) (v := ?_) (a' := ?_) #[true, true, true, true, true, true, true, true, true, true, true, false, false, false, false] rfl rfl (take_ofW HT_.out HW_.out (by kernel_rfl)) (fun _ _ _ h => h) (Or.inl ⟨by rfl, ?_⟩) hHeld ?_ ?_
             rotate_left; (rintro w' ⟨s0, s1, s2, s3⟩; go_simp; with_reducible rfl); rotate_left; (simp only [Act.put, List.setIfInBounds_toArray, List.set_cons_zero, List.set_cons_succ, i64_w, i32_w]; rfl)
             refine take_ (i := 11) (N := some 65) (v := ?_) (a' := ?_) #[true, true, true, true, true, true, true, true, true, true, true, true, false, false, false] rfl rfl (take_ofW HT_.out HW_.out (by kernel_rfl)) (fun _ _ _ h => h) (Or.inl ⟨by rfl, ?_⟩) hHeld ?_ ?_
             rotate_left; (rintro w' ⟨s0, s1, s2, s3⟩; go_simp; with_reducible rfl); rotate_left; (simp only [Act.put, List.setIfInBounds_toArray, List.set_cons_zero, List.set_cons_succ, i64_w, i32_w]; rfl)
             refine pure_ (i := 12) (N := some 66) (v := ?_) (a' := ?_) #[true, true, true, true, true, true, true, true, true, true, true, true, true, false, false] rfl rfl (any_of HT_.out (by kernel_rfl)) (fun _ _ _ h => h) (Or.inl ⟨by rfl, ?_⟩) ?_ ?_
             rotate_left; (intro w'; go_simp; with_reducible rfl); rotate_left; (simp only [Act.put, List.setIfInBounds_toArray, List.set_cons_zero, List.set_cons_succ, i64_w, i32_w]; rfl)
             refine pure_ (i := 13) (N := some 67) (v := ?_) (a' := ?_) #[true, true, true, true, true, true, true, true, true, true, true, true, true, true, false] rfl rfl (any_of HT_.out (by kernel_rfl)) (fun _ _ _ h => h) (Or.inl ⟨by rfl, ?_⟩) ?_ ?_
             rotate_left; (intro w'; go_simp; with_reducible rfl); rotate_left; (simp only [Act.put, List.setIfInBounds_toArray, List.set_cons_zero, List.set_cons_succ, i64_w, i32_w]; rfl)
             refine pure_ (i := 14) (N := some 68) (v := ?_) (a' := ?_) #[true, true, true, true, true, true, true, true, true, true, true, true, true, true, true] rfl rfl (any_of HT_.out (by kernel_rfl)) (fun _ _ _ h => h) (Or.inl ⟨by rfl, ?_⟩) ?_ ?_
             rotate_left; (intro w'; go_simp; with_reducible rfl); rotate_left; (simp only [Act.put, List.setIfInBounds_toArray, List.set_cons_zero, List.set_cons_succ, i64_w, i32_w]; rfl)
             refine done_ (done_of HT_.out (by kernel_rfl)) ?_
             try go_wp2
             go_meet
             case rel => exact ⟨_, (decide ((rd t903 x9_3) ≥ (l0_1.length : Int))), (by first | rfl | (simp; done) | (simp [*]; done)), H', ⟨by have := HJ2.out; have := HJ33.out; have := HK3.out; first | omega | exact Nat.le_refl _⟩, ⟨by (with_reducible repeat (first | apply Kd.R_alloc | apply Kd.R_drewN | apply Kd.R_drew)); exact HO_5.out⟩, ⟨by (with_reducible repeat (first | apply Kd.R_alloc | apply Kd.R_drewN | apply Kd.R_drew)); exact HO_7.out⟩, ⟨by (with_reducible repeat (first | refine blk_drewN ?_ _ | refine blk_drew ?_ | refine blk_alloc ?_ _)); exact BK891.out⟩, ⟨by repeat (first | (with_reducible first | exact HB.out | apply below_alloc | apply pw_below_drewN | apply below_drew1 | refine below_set ?_ GE891.out) | exact HB.out)⟩⟩
           ·rw [if_neg c44] at H
            exact absurd H (by simp)
          case rest =>
           clear HC42; (try clear c1); (try clear c2); (try clear p2); (try clear c3); (try clear c4); (try clear c5); (try clear c6); (try clear p9); (try clear q9); (try clear hx9); (try clear c13); (try clear c15); (try clear c28); (try clear c29); (try clear c39); (try clear c39b0); (try clear c39b1); (try clear c40); (try clear c41); (try clear c41b0); (try clear c44); (try clear c44b0); (try clear c45); (try clear c45b0); (try clear hcz15_0); (try clear hcz15_1); (try clear hcz21_0); (try clear hcz21_1); (try clear hcz23_0); (try clear hcz23_1); (try clear hcz35_0); (try clear hcz35_1); (try clear hcz37_0); (try clear hcz37_1); (try clear hcz7_0); (try clear hcz7_1); (try clear hfz15_0); (try clear hfz15_1); (try clear hfz21_0); (try clear hfz21_1); (try clear hfz23_0); (try clear hfz23_1); (try clear hfz35_0); (try clear hfz35_1); (try clear hfz37_0); (try clear hfz37_1); (try clear hfz7_0); (try clear hfz7_1); (try clear hx907_0); (try clear hx908_0); (try clear p2); (try clear p907); (try clear p908); (try clear q907); (try clear q908)
           obtain ⟨kq, x68_41, rfl, HA, HJ41, HO_5, HO_7, BK891, HB⟩ := hcut
           cases kq with
           | zero => exact absurd HA.out (by simp [pylonlaw16_TreeGreedy.j3])
           | succ kj41 =>
            have H := HA.out
            clear HA
            simp only [pylonlaw16_TreeGreedy.j3] at H
            by_cases c48 : x68_41 = true
            ·as_aux_lemma =>
             subst c48
             have H1 : (some false) = some r := by rw [if_pos rfl] at H; exact H
             clear H
             have H := H1
             clear H1
             obtain rfl := Option.some.inj H
             go_wp2
             go_ret
             exact ⟨by first | rfl | (simp [errW_none, errW_some] <;> rfl) | (simp [*, errW_none, errW_some] <;> rfl), by repeat (first | (with_reducible first | exact HB.out | apply below_alloc | apply pw_below_drewN | apply below_drew1 | refine below_set ?_ GE891.out) | exact HB.out)⟩
            ·as_aux_lemma =>
             replace c48 := Bool.eq_false_iff.mpr c48
             subst c48
             have H1 : (pylonlaw16_TreeGreedy.l1 kj41 t899 t903 x9_3 ([] : List Int) 0 a0_0 l0_1) = some r := by rw [if_neg (show ¬ (false = true) by decide)] at H; exact H
             clear H
             have H := H1
             clear H1
             have H' := Aside0.mk H
             clear H
             go_wp2
             go_loopg [10, 11] kj41 (fun kq v10 v11 w' => ∃ (x10_5 : List Int) (x11_5 : Int), v11 = .int .i64 x11_5 ∧ Aside0 (pylonlaw16_TreeGreedy.l1 kq t899 t903 x9_3 x10_5 x11_5 a0_0 l0_1 = some r) ∧ Aside0 (kq ≤ kj41) ∧ Aside0 (Kd.R (Kd.int .i64) 3 w' w.heap.size (fun k_ => (w.heap.size ≤ k_) ∧ some k_ ≠ ((.slice Ao43 t903.length co43) : Value).ownBlock ∧ some k_ ≠ (v10 : Value).ownBlock) v900 t899) ∧ Aside0 (Kd.R (Kd.int .i64) 3 w' w.heap.size (fun k_ => (w.heap.size ≤ k_) ∧ some k_ ≠ (v900 : Value).ownBlock ∧ some k_ ≠ (v10 : Value).ownBlock) (.slice Ao43 t903.length co43) t903) ∧ Aside0 (Kd.R (Kd.int .i64) 3 w' w.heap.size (fun k_ => (w.heap.size ≤ k_) ∧ some k_ ≠ (v900 : Value).ownBlock ∧ some k_ ≠ ((.slice Ao43 t903.length co43) : Value).ownBlock) v10 x10_5) ∧ Aside0 (w'.heap[gb891]? = some (.cells #[.int .i64 a0_0, (.slice A0_1 l0_1.length c0_1)] 24 (0, 0))) ∧ Aside0 (Below w.heap.size w w'))
             case atStart => exact ⟨(([] : List Int)), (0), (by first | rfl | (simp; done) | (simp [*]; done)), H', ⟨Nat.le_refl _⟩, ⟨by (with_reducible repeat (first | apply Kd.R_alloc | apply Kd.R_drewN | apply Kd.R_drew)); exact Kd.R_mono HO_5.out (fun _ hk => ⟨hk.1, ⟨hk.2, (by simp [Value.ownBlock])⟩⟩)⟩, ⟨by (with_reducible repeat (first | apply Kd.R_alloc | apply Kd.R_drewN | apply Kd.R_drew)); exact Kd.R_mono HO_7.out (fun _ hk => ⟨hk.1, ⟨hk.2, (by simp [Value.ownBlock])⟩⟩)⟩, ⟨by first | exact Kd.R_nil _ _ _ _ _ | exact Kd.N_nil _ _ _ _ _ | exact Kd.V_nil _ _ _ _ _ | exact Kd.Q_nil _ _ _ _ _ | exact Kd.S_nil _ _ _ _ _⟩, ⟨by (with_reducible repeat (first | refine blk_drewN ?_ _ | refine blk_drew ?_ | refine blk_alloc ?_ _)); exact BK891.out⟩, ⟨by repeat (first | (with_reducible first | exact HB.out | apply below_alloc | apply pw_below_drewN | apply below_drew1 | refine below_set ?_ GE891.out) | exact HB.out)⟩⟩
             case round => as_aux_lemma =>
              clear H'; (try clear c1); (try clear c2); (try clear p2); (try clear c3); (try clear c4); (try clear c5); (try clear c6); (try clear p9); (try clear q9); (try clear hx9); (try clear c13); (try clear c15); (try clear c28); (try clear c29); (try clear c39); (try clear c39b0); (try clear c39b1); (try clear c40); (try clear c41); (try clear c41b0); (try clear c44); (try clear c44b0); (try clear c45); (try clear c45b0); (try clear c48); (try clear hcz15_0); (try clear hcz15_1); (try clear hcz21_0); (try clear hcz21_1); (try clear hcz23_0); (try clear hcz23_1); (try clear hcz35_0); (try clear hcz35_1); (try clear hcz37_0); (try clear hcz37_1); (try clear hcz7_0); (try clear hcz7_1); (try clear hfz15_0); (try clear hfz15_1); (try clear hfz21_0); (try clear hfz21_1); (try clear hfz23_0); (try clear hfz23_1); (try clear hfz35_0); (try clear hfz35_1); (try clear hfz37_0); (try clear hfz37_1); (try clear hfz7_0); (try clear hfz7_1); (try clear hx907_0); (try clear hx908_0); (try clear p2); (try clear p9); (try clear p907); (try clear p908); (try clear q9); (try clear q907); (try clear q908)
              obtain ⟨x10_5, x11_5, rfl, HA, HK5, HO_5, HO_7, HO_10, BK891, HB⟩ := hrel
              cases gk with
              | zero => exact absurd HA.out (by simp [pylonlaw16_TreeGreedy.l1])
              | succ k5 =>
               have H := HA.out
               clear HA
               simp only [pylonlaw16_TreeGreedy.l1] at H
               by_cases c49 : x11_5 < (t899.length : Int)
               ·rw [if_pos c49] at H
                have c49b0 : decide (x11_5 < (t899.length : Int)) = true := decide_eq_true c49
                clear c49
                by_cases c50 : 0 ≤ x11_5
                ·rw [if_pos c50] at H
                 have c50b0 : decide (0 ≤ x11_5) = true := decide_eq_true c50
                 clear c50
                 by_cases c51 : 0 ≤ x9_3
                 ·rw [if_pos c51] at H
                  have c51b0 : decide (0 ≤ x9_3) = true := decide_eq_true c51
                  clear c51
                  by_cases c52 : x9_3 < (t903.length : Int)
                  ·rw [if_pos c52] at H
                   have c52b0 : decide (x9_3 < (t903.length : Int)) = true := decide_eq_true c52
                   clear c52
                   by_cases c53 : (rd t899 x11_5) < (rd t903 x9_3)
                   ·rw [if_pos c53] at H
                    have c53b0 : decide ((rd t899 x11_5) < (rd t903 x9_3)) = true := decide_eq_true c53
                    clear c53
                    by_cases c54 : x10_5.length < 17592186044416
                    ·rw [if_pos c54] at H
                     have LMc54 := Aside0.mk c54
                     clear c54
                     obtain ⟨y912, hy912⟩ : ∃ y_ : List Int, y_ = (x10_5 ++ [rd t899 x11_5]) := ⟨_, rfl⟩
                     replace H : (pylonlaw16_TreeGreedy.l1 k5 t899 t903 x9_3 y912 (wrap64 (x11_5 + 1)) a0_0 l0_1) = some r := by first | (rw [hy912]; with_reducible exact H) | (have H2_ := (Option.bind_some _ _).symm.trans H; rw [hy912]; with_reducible exact H2_) | (have H2_ := (Option.bind_some _ _).symm.trans H; with_reducible exact H2_) | with_reducible exact H | (rw [hy912]; exact H) | exact H
                     have Ny912 := Aside0.mk hy912
                     clear hy912
                     have H' := Aside0.mk H
                     clear H
                     obtain ⟨Ao55, co55, eo55⟩ := Kd.R_slice HO_5.out
                     subst eo55
                     try go_wp2
                     have n0_ := Aside0.mk (Kd.R_drew HO_5.out)
                     have n1_ := Aside0.mk (Kd.R_drew HO_7.out)
                     have n2_ := Aside0.mk (Kd.R_drew HO_10.out)
                     have n3_ := Aside0.mk (blk_drew BK891.out)
                     have n4_ := Aside0.mk (below_drew1 HB.out)
                     clear HO_5; clear HO_7; clear HO_10; clear BK891; clear HB
                     have HO_5 := n0_
                     have HO_7 := n1_
                     have HO_10 := n2_
                     have BK891 := n3_
                     have HB := n4_
                     clear n0_ n1_ n2_ n3_ n4_
                     have p909 : 0 ≤ (x11_5 : Int) := of_decide_eq_true (by first | (with_reducible assumption) | assumption)
                     have q909 : x11_5 < (t899.length : Int) := of_decide_eq_true (by first | (with_reducible assumption) | assumption)
                     obtain ⟨ad909, e909, hx909_0⟩ := Kd.at_int (Kd.R_reads' HO_5.out).2.2 x11_5 p909 q909
                     cases e909
                     replace p909 := eq_true p909
                     replace q909 := eq_true q909
                     have p910 : 0 ≤ (x9_3 : Int) := of_decide_eq_true (by first | (with_reducible assumption) | assumption)
                     have q910 : x9_3 < (t903.length : Int) := of_decide_eq_true (by first | (with_reducible assumption) | assumption)
                     obtain ⟨ad910, e910, hx910_0⟩ := Kd.at_int (Kd.R_reads' HO_7.out).2.2 x9_3 p910 q910
                     cases e910
                     replace p910 := eq_true p910
                     replace q910 := eq_true q910
                     refine start_ (n := 9) (S := fun w' => w'.cell? (ad909.add (x11_5).toNat) = some (.int .i64 (rd t899 x11_5)) ∧ w'.cell? (ad910.add (x9_3).toNat) = some (.int .i64 (rd t903 x9_3))) (ds := []) #[false, false, false, false, false, false, false, false, false] (by kernel_rfl) rfl rfl ⟨hx909_0, hx910_0⟩ (fun hHeld => ?_); refine with_tabW pylonlaw16_TreeGreedy.tab16 pylonlaw16_TreeGreedy.bits16 (fun HT_ HW_ => ?_)
                     generalize wr.drew = w56 at HO_5 HO_7 HO_10 BK891 HB hx909_0 hx910_0 hHeld ⊢
                     refine pure_ (i := 0) (N := some 75) (v := ?_) (a' := ?_) #[true, false, false, false, false, false, false, false, false] rfl rfl (any_of HT_.out (by kernel_rfl)) (fun _ _ _ h => h) (Or.inl ⟨by rfl, ?_⟩) ?_ ?_
                     rotate_left; (intro w'; go_simp; with_reducible rfl); rotate_left; (simp only [Act.put, List.setIfInBounds_toArray, List.set_cons_zero, List.set_cons_succ, i64_w, i32_w]; rfl)
                     refine pure_ (i := 1) (N := some 76) (v := ?_) (a' := ?_) #[true, true, false, false, false, false, false, false, false] rfl rfl (any_of HT_.out (by kernel_rfl)) (fun _ _ _ h => h) (Or.inl ⟨by rfl, ?_⟩) ?_ ?_
                     rotate_left; (intro w'; go_simp; with_reducible rfl); rotate_left; (simp only [Act.put, List.setIfInBounds_toArray, List.set_cons_zero, List.set_cons_succ, i64_w, i32_w]; rfl)
                     refine pure_ (i := 2) (N := some 77) (v := ?_) (a' := ?_) #[true, true, true, false, false, false, false, false, false] rfl rfl (any_of HT_.out (by kernel_rfl)) (fun _ _ _ h => h) (Or.inl ⟨by rfl, ?_⟩) ?_ ?_
                     rotate_left; (intro w'; go_simp; with_reducible rfl); rotate_left; (simp only [Act.put, List.setIfInBounds_toArray, List.set_cons_zero, List.set_cons_succ, i64_w, i32_w]; rfl)
                     refine pure_ (i := 4) (N := some 79) (v := ?_) (a' := ?_) #[true, true, true, false, true, false, false, false, false] rfl rfl (any_of HT_.out (by kernel_rfl)) (fun _ _ _ h => h) (Or.inl ⟨by rfl, ?_⟩) ?_ ?_
                     rotate_left; (intro w'; go_simp; with_reducible rfl); rotate_left; (simp only [Act.put, List.setIfInBounds_toArray, List.set_cons_zero, List.set_cons_succ, i64_w, i32_w]; rfl)
                     refine pure_ (i := 5) (N := some 80) (v := ?_) (a' := ?_) #[true, true, true, false, true, true, false, false, false] rfl rfl (any_of HT_.out (by kernel_rfl)) (fun _ _ _ h => h) (Or.inl ⟨by rfl, ?_⟩) ?_ ?_
                     rotate_left; (intro w'; go_simp; with_reducible rfl); rotate_left; (simp only [Act.put, List.setIfInBounds_toArray, List.set_cons_zero, List.set_cons_succ, i64_w, i32_w]; rfl)
                     refine pure_ (i := 6) (N := some 81) (v := ?_) (a' := ?_) #[true, true, true, false, true, true, true, false, false] rfl rfl (any_of HT_.out (by kernel_rfl)) (fun _ _ _ h => h) (Or.inl ⟨by rfl, ?_⟩) ?_ ?_
                     rotate_left; (intro w'; go_simp; with_reducible rfl); rotate_left; (simp only [Act.put, List.setIfInBounds_toArray, List.set_cons_zero, List.set_cons_succ, i64_w, i32_w]; rfl)
                     refine take_ (i := 3) (N := some 78) (v := ?_) (a' := ?_) #[true, true, true, true, true, true, true, false, false] rfl rfl (take_ofW HT_.out HW_.out (by kernel_rfl)) (fun _ _ _ h => h) (Or.inl ⟨by rfl, ?_⟩) hHeld ?_ ?_
                     rotate_left; (rintro w' ⟨s0, s1⟩; go_simp; with_reducible rfl); rotate_left; (simp only [Act.put, List.setIfInBounds_toArray, List.set_cons_zero, List.set_cons_succ, i64_w, i32_w]; rfl)
                     refine take_ (i := 7) (N := some 82) (v := ?_) (a' := ?_) #[true, true, true, true, true, true, true, true, false] rfl rfl (take_ofW HT_.out HW_.out (by kernel_rfl)) (fun _ _ _ h => h) (Or.inl ⟨by rfl, ?_⟩) hHeld ?_ ?_
                     rotate_left; (rintro w' ⟨s0, s1⟩; go_simp; with_reducible rfl); rotate_left; (simp only [Act.put, List.setIfInBounds_toArray, List.set_cons_zero, List.set_cons_succ, i64_w, i32_w]; rfl)
                     refine pure_ (i := 8) (N := some 83) (v := ?_) (a' := ?_) #[true, true, true, true, true, true, true, true, true] rfl rfl (any_of HT_.out (by kernel_rfl)) (fun _ _ _ h => h) (Or.inl ⟨by rfl, ?_⟩) ?_ ?_
                     rotate_left; (intro w'; go_simp; with_reducible rfl); rotate_left; (simp only [Act.put, List.setIfInBounds_toArray, List.set_cons_zero, List.set_cons_succ, i64_w, i32_w]; rfl)
                     refine done_ (done_of HT_.out (by kernel_rfl)) ?_
                     have p911 : 0 ≤ (x11_5 : Int) := of_decide_eq_true (by first | (with_reducible assumption) | assumption)
                     have q911 : x11_5 < (t899.length : Int) := of_decide_eq_true (by first | (with_reducible assumption) | assumption)
                     obtain ⟨ad911, e911, hx911_0⟩ := Kd.at_int (Kd.R_reads' HO_5.out).2.2 x11_5 p911 q911
                     obtain rfl : ad909 = ad911 := (by injection e911)
                     replace p911 := eq_true p911
                     replace q911 := eq_true q911
                     try go_wp2_with (first | ((with_reducible refine gate_builtin (b := .append) (xs := #[.tmp 84, .tmp 89]) rfl ?_); (try (refine gate_guard (by rfl) ?_; dsimp only)); at_builtin; refine Kd.R_append (Kd.int .i64) (w0 := w) w.heap.size rfl (.tmp 84) (.tmp 89) 25 3 (.int .i64 0) 8 rfl Try.underlying25 info3 rfl (by decide) (by omega) u10 x10_5 (rd t899 x11_5) [.int .i64 (rd t899 x11_5)] (fun k_ => (w.heap.size ≤ k_) ∧ some k_ ≠ (.slice (some ad909) t899.length co55 : Value).ownBlock ∧ some k_ ≠ (.slice (some ad910) t903.length co43 : Value).ownBlock) (fun _ => False) rfl rfl ?aP (fun _ hk => hk.elim) ?aF ?aO ?aB ?aS ?aL ?_; (case aP => exact rfl); (case aB => exact (by repeat (first | (with_reducible first | exact HB.out | apply below_alloc | apply pw_below_drewN | apply below_drew1 | refine below_set ?_ GE891.out) | exact HB.out))); (case aF => exact (fun k_ hk => ⟨(Nat.le_trans (below_size (by repeat (first | (with_reducible first | exact HB.out | apply below_alloc | apply pw_below_drewN | apply below_drew1 | refine below_set ?_ GE891.out) | exact HB.out))) hk), Kd.fresh' (Kd.R_lt (by (with_reducible repeat (first | apply Kd.R_alloc | apply Kd.R_drewN | apply Kd.R_drew)); exact HO_5.out)) k_ hk, Kd.fresh' (Kd.R_lt (by (with_reducible repeat (first | apply Kd.R_alloc | apply Kd.R_drewN | apply Kd.R_drew)); exact HO_7.out)) k_ hk⟩)); (case aO => exact (by (with_reducible repeat (first | apply Kd.R_alloc | apply Kd.R_drewN | apply Kd.R_drew)); exact HO_10.out)); (case aS => exact (below_size (by repeat (first | (with_reducible first | exact HB.out | apply below_alloc | apply pw_below_drewN | apply below_drew1 | refine below_set ?_ GE891.out) | exact HB.out)))); (case aL => have := LMc54.out; omega); intro v913 w57 ho hb hg hat; rw [← Ny912.out] at ho; have n0_ := Aside0.mk (Kd.R_after (ok := (fun k_ => (w.heap.size ≤ k_) ∧ some k_ ≠ (.slice (some ad910) t903.length co43 : Value).ownBlock)) (by (with_reducible repeat (first | apply Kd.R_alloc | apply Kd.R_drewN | apply Kd.R_drew)); exact Kd.R_mono HO_5.out (fun _ hk => ⟨⟨hk.1, hk.2.1⟩, hk.2.2⟩)) hg hat); have n1_ := Aside0.mk (Kd.R_after (ok := (fun k_ => (w.heap.size ≤ k_) ∧ some k_ ≠ (.slice (some ad909) t899.length co55 : Value).ownBlock)) (by (with_reducible repeat (first | apply Kd.R_alloc | apply Kd.R_drewN | apply Kd.R_drew)); exact Kd.R_mono HO_7.out (fun _ hk => ⟨⟨hk.1, hk.2.1⟩, hk.2.2⟩)) hg hat); have n2_ := Aside0.mk (blk_grown (g := gb891) (o := .cells #[.int .i64 a0_0, .slice A0_1 l0_1.length c0_1] 24 (0, 0)) (by (with_reducible repeat (first | refine blk_drewN ?_ _ | refine blk_drew ?_ | refine blk_alloc ?_ _)); exact BK891.out) hg (Kd.R_ne HO_10.out BK891.out (by decide))); have n3_ := Aside0.mk (hb); have n4_ := Aside0.mk (ho); clear HO_5; clear HO_7; clear BK891; clear HB; clear HO_10; have HO_5 := n0_; have HO_7 := n1_; have BK891 := n2_; have HB := n3_; have HO914 := n4_; clear n0_ n1_ n2_ n3_ n4_; clear ho hb hg hat))
                     go_roundg k5
                     case measure => have := HJ2.out; have := HJ33.out; have := HK3.out; have := HJ41.out; have := HK5.out; omega
                     case rel => exact ⟨(y912), (wrap64 (x11_5 + 1)), (by first | rfl | (simp; done) | (simp [*]; done)), H', ⟨by have := HJ2.out; have := HJ33.out; have := HK3.out; have := HJ41.out; have := HK5.out; omega⟩, ⟨by (with_reducible repeat (first | apply Kd.R_alloc | apply Kd.R_drewN | apply Kd.R_drew)); exact Kd.R_mono HO_5.out (fun _ hk => ⟨hk.1.1, ⟨hk.1.2, hk.2⟩⟩)⟩, ⟨by (with_reducible repeat (first | apply Kd.R_alloc | apply Kd.R_drewN | apply Kd.R_drew)); exact Kd.R_mono HO_7.out (fun _ hk => ⟨hk.1.1, ⟨hk.1.2, hk.2⟩⟩)⟩, ⟨by (with_reducible repeat (first | apply Kd.R_alloc | apply Kd.R_drewN | apply Kd.R_drew)); exact HO914.out⟩, ⟨by (with_reducible repeat (first | refine blk_drewN ?_ _ | refine blk_drew ?_ | refine blk_alloc ?_ _)); exact BK891.out⟩, ⟨by repeat (first | (with_reducible first | exact HB.out | apply below_alloc | apply pw_below_drewN | apply below_drew1 | refine below_set ?_ GE891.out) | exact HB.out)⟩⟩
                    ·rw [if_neg c54] at H
                     exact absurd H (by simp)
                   ·rw [if_neg c53] at H
                    have c53b0 : decide ((rd t899 x11_5) < (rd t903 x9_3)) = false := decide_eq_false c53
                    clear c53
                    have H' := Aside0.mk H
                    clear H
                    obtain ⟨Ao58, co58, eo58⟩ := Kd.R_slice HO_5.out
                    subst eo58
                    try go_wp2
                    have n0_ := Aside0.mk (Kd.R_drew HO_5.out)
                    have n1_ := Aside0.mk (Kd.R_drew HO_7.out)
                    have n2_ := Aside0.mk (Kd.R_drew HO_10.out)
                    have n3_ := Aside0.mk (blk_drew BK891.out)
                    have n4_ := Aside0.mk (below_drew1 HB.out)
                    clear HO_5; clear HO_7; clear HO_10; clear BK891; clear HB
                    have HO_5 := n0_
                    have HO_7 := n1_
                    have HO_10 := n2_
                    have BK891 := n3_
                    have HB := n4_
                    clear n0_ n1_ n2_ n3_ n4_
                    have p909 : 0 ≤ (x11_5 : Int) := of_decide_eq_true (by first | (with_reducible assumption) | assumption)
                    have q909 : x11_5 < (t899.length : Int) := of_decide_eq_true (by first | (with_reducible assumption) | assumption)
                    obtain ⟨ad909, e909, hx909_0⟩ := Kd.at_int (Kd.R_reads' HO_5.out).2.2 x11_5 p909 q909
                    cases e909
                    replace p909 := eq_true p909
                    replace q909 := eq_true q909
                    have p910 : 0 ≤ (x9_3 : Int) := of_decide_eq_true (by first | (with_reducible assumption) | assumption)
                    have q910 : x9_3 < (t903.length : Int) := of_decide_eq_true (by first | (with_reducible assumption) | assumption)
                    obtain ⟨ad910, e910, hx910_0⟩ := Kd.at_int (Kd.R_reads' HO_7.out).2.2 x9_3 p910 q910
                    cases e910
                    replace p910 := eq_true p910
                    replace q910 := eq_true q910
                    refine start_ (n := 9) (S := fun w' => w'.cell? (ad909.add (x11_5).toNat) = some (.int .i64 (rd t899 x11_5)) ∧ w'.cell? (ad910.add (x9_3).toNat) = some (.int .i64 (rd t903 x9_3))) (ds := []) #[false, false, false, false, false, false, false, false, false] (by kernel_rfl) rfl rfl ⟨hx909_0, hx910_0⟩ (fun hHeld => ?_); refine with_tabW pylonlaw16_TreeGreedy.tab16 pylonlaw16_TreeGreedy.bits16 (fun HT_ HW_ => ?_)
                    generalize wr.drew = w59 at HO_5 HO_7 HO_10 BK891 HB hx909_0 hx910_0 hHeld ⊢
                    refine pure_ (i := 0) (N := some 75) (v := ?_) (a' := ?_) #[true, false, false, false, false, false, false, false, false] rfl rfl (any_of HT_.out (by kernel_rfl)) (fun _ _ _ h => h) (Or.inl ⟨by rfl, ?_⟩) ?_ ?_
                    rotate_left; (intro w'; go_simp; with_reducible rfl); rotate_left; (simp only [Act.put, List.setIfInBounds_toArray, List.set_cons_zero, List.set_cons_succ, i64_w, i32_w]; rfl)
                    refine pure_ (i := 1) (N := some 76) (v := ?_) (a' := ?_) #[true, true, false, false, false, false, false, false, false] rfl rfl (any_of HT_.out (by kernel_rfl)) (fun _ _ _ h => h) (Or.inl ⟨by rfl, ?_⟩) ?_ ?_
                    rotate_left; (intro w'; go_simp; with_reducible rfl); rotate_left; (simp only [Act.put, List.setIfInBounds_toArray, List.set_cons_zero, List.set_cons_succ, i64_w, i32_w]; rfl)
                    refine pure_ (i := 2) (N := some 77) (v := ?_) (a' := ?_) #[true, true, true, false, false, false, false, false, false] rfl rfl (any_of HT_.out (by kernel_rfl)) (fun _ _ _ h => h) (Or.inl ⟨by rfl, ?_⟩) ?_ ?_
                    rotate_left; (intro w'; go_simp; with_reducible rfl); rotate_left; (simp only [Act.put, List.setIfInBounds_toArray, List.set_cons_zero, List.set_cons_succ, i64_w, i32_w]; rfl)
                    refine pure_ (i := 4) (N := some 79) (v := ?_) (a' := ?_) #[true, true, true, false, true, false, false, false, false] rfl rfl (any_of HT_.out (by kernel_rfl)) (fun _ _ _ h => h) (Or.inl ⟨by rfl, ?_⟩) ?_ ?_
                    rotate_left; (intro w'; go_simp; with_reducible rfl); rotate_left; (simp only [Act.put, List.setIfInBounds_toArray, List.set_cons_zero, List.set_cons_succ, i64_w, i32_w]; rfl)
                    refine pure_ (i := 5) (N := some 80) (v := ?_) (a' := ?_) #[true, true, true, false, true, true, false, false, false] rfl rfl (any_of HT_.out (by kernel_rfl)) (fun _ _ _ h => h) (Or.inl ⟨by rfl, ?_⟩) ?_ ?_
                    rotate_left; (intro w'; go_simp; with_reducible rfl); rotate_left; (simp only [Act.put, List.setIfInBounds_toArray, List.set_cons_zero, List.set_cons_succ, i64_w, i32_w]; rfl)
                    refine pure_ (i := 6) (N := some 81) (v := ?_) (a' := ?_) #[true, true, true, false, true, true, true, false, false] rfl rfl (any_of HT_.out (by kernel_rfl)) (fun _ _ _ h => h) (Or.inl ⟨by rfl, ?_⟩) ?_ ?_
                    rotate_left; (intro w'; go_simp; with_reducible rfl); rotate_left; (simp only [Act.put, List.setIfInBounds_toArray, List.set_cons_zero, List.set_cons_succ, i64_w, i32_w]; rfl)
                    refine take_ (i := 3) (N := some 78) (v := ?_) (a' := ?_) #[true, true, true, true, true, true, true, false, false] rfl rfl (take_ofW HT_.out HW_.out (by kernel_rfl)) (fun _ _ _ h => h) (Or.inl ⟨by rfl, ?_⟩) hHeld ?_ ?_
                    rotate_left; (rintro w' ⟨s0, s1⟩; go_simp; with_reducible rfl); rotate_left; (simp only [Act.put, List.setIfInBounds_toArray, List.set_cons_zero, List.set_cons_succ, i64_w, i32_w]; rfl)
                    refine take_ (i := 7) (N := some 82) (v := ?_) (a' := ?_) #[true, true, true, true, true, true, true, true, false] rfl rfl (take_ofW HT_.out HW_.out (by kernel_rfl)) (fun _ _ _ h => h) (Or.inl ⟨by rfl, ?_⟩) hHeld ?_ ?_
                    rotate_left; (rintro w' ⟨s0, s1⟩; go_simp; with_reducible rfl); rotate_left; (simp only [Act.put, List.setIfInBounds_toArray, List.set_cons_zero, List.set_cons_succ, i64_w, i32_w]; rfl)
                    refine pure_ (i := 8) (N := some 83) (v := ?_) (a' := ?_) #[true, true, true, true, true, true, true, true, true] rfl rfl (any_of HT_.out (by kernel_rfl)) (fun _ _ _ h => h) (Or.inl ⟨by rfl, ?_⟩) ?_ ?_
                    rotate_left; (intro w'; go_simp; with_reducible rfl); rotate_left; (simp only [Act.put, List.setIfInBounds_toArray, List.set_cons_zero, List.set_cons_succ, i64_w, i32_w]; rfl)
                    refine done_ (done_of HT_.out (by kernel_rfl)) ?_
                    try go_wp2
                    go_roundg k5
                    case measure => have := HJ2.out; have := HJ33.out; have := HK3.out; have := HJ41.out; have := HK5.out; omega
                    case rel => exact ⟨(x10_5), (wrap64 (x11_5 + 1)), (by first | rfl | (simp; done) | (simp [*]; done)), H', ⟨by have := HJ2.out; have := HJ33.out; have := HK3.out; have := HJ41.out; have := HK5.out; omega⟩, ⟨by (with_reducible repeat (first | apply Kd.R_alloc | apply Kd.R_drewN | apply Kd.R_drew)); exact HO_5.out⟩, ⟨by (with_reducible repeat (first | apply Kd.R_alloc | apply Kd.R_drewN | apply Kd.R_drew)); exact HO_7.out⟩, ⟨by (with_reducible repeat (first | apply Kd.R_alloc | apply Kd.R_drewN | apply Kd.R_drew)); exact HO_10.out⟩, ⟨by (with_reducible repeat (first | refine blk_drewN ?_ _ | refine blk_drew ?_ | refine blk_alloc ?_ _)); exact BK891.out⟩, ⟨by repeat (first | (with_reducible first | exact HB.out | apply below_alloc | apply pw_below_drewN | apply below_drew1 | refine below_set ?_ GE891.out) | exact HB.out)⟩⟩
                  ·rw [if_neg c52] at H
                   exact absurd H (by simp)
                 ·rw [if_neg c51] at H
                  exact absurd H (by simp)
                ·rw [if_neg c50] at H
                 exact absurd H (by simp)
               ·rw [if_neg c49] at H
                have c49b0 : decide (x11_5 < (t899.length : Int)) = false := decide_eq_false c49
                clear c49
                by_cases c60 : 0 ≤ x9_3
                ·rw [if_pos c60] at H
                 have c60b0 : decide (0 ≤ x9_3) = true := decide_eq_true c60
                 clear c60
                 by_cases c61 : x9_3 < (t903.length : Int)
                 ·rw [if_pos c61] at H
                  have c61b0 : decide (x9_3 < (t903.length : Int)) = true := decide_eq_true c61
                  clear c61
                  by_cases c62 : 0 ≤ (rd t903 x9_3)
                  ·rw [if_pos c62] at H
                   have c62b0 : decide (0 ≤ (rd t903 x9_3)) = true := decide_eq_true c62
                   clear c62
                   by_cases c63 : (rd t903 x9_3) < (l0_1.length : Int)
                   ·rw [if_pos c63] at H
                    have c63b0 : decide ((rd t903 x9_3) < (l0_1.length : Int)) = true := decide_eq_true c63
                    clear c63
                    replace H := Option.bind_eq_some_iff.mp H
                    obtain ⟨t918, A640, H⟩ := H
                    replace H : ((island_Connected.f a0_0 l0_1 t918 ((rd_T37 l0_1 (rd t903 x9_3)).f0) ((rd_T37 l0_1 (rd t903 x9_3)).f1)).bind fun bt921 => (if bt921.2 = 0 then ((pylonlaw16_has.f k5 t899 (rd t903 x9_3)).bind fun t924 => (if (bt921.1 == t924) = true then (some false) else (pylonlaw16_TreeGreedy.l0 k5 t899 t903 (wrap64 (x9_3 + 1)) a0_0 l0_1))) else (some false))) = some r := H
                    have A64 := Aside0.mk A640
                    clear A640
                    replace H := Option.bind_eq_some_iff.mp H
                    obtain ⟨⟨t921, t922⟩, A650, H⟩ := H
                    replace H : (if t922 = 0 then ((pylonlaw16_has.f k5 t899 (rd t903 x9_3)).bind fun t924 => (if (t921 == t924) = true then (some false) else (pylonlaw16_TreeGreedy.l0 k5 t899 t903 (wrap64 (x9_3 + 1)) a0_0 l0_1))) else (some false)) = some r := H
                    have A65 := Aside0.mk A650
                    clear A650
                    by_cases c66 : t922 = 0
                    ·rw [if_pos c66] at H
                     have c66b0 : (t922 == 0) = true := beq_iff_eq.mpr c66
                     have c66b1 : (t922 != 0) = false := bne_eq_false_iff_eq.mpr c66
                     clear c66
                     replace H := Option.bind_eq_some_iff.mp H
                     obtain ⟨t924, A670, H⟩ := H
                     replace H : (if (t921 == t924) = true then (some false) else (pylonlaw16_TreeGreedy.l0 k5 t899 t903 (wrap64 (x9_3 + 1)) a0_0 l0_1)) = some r := H
                     have A67 := Aside0.mk A670
                     clear A670
                     by_cases c68 : (t921 == t924) = true
                     ·rw [if_pos c68] at H
                      have c68b0 : (t921 == t924) = true := c68
                      (try (have c68b1 : decide (t921 = t924) = true := by simpa using c68))
                      (try (have c68b2 : (t921 == t924) = true := by simpa using c68))
                      clear c68
                      obtain rfl := Option.some.inj H
                      obtain ⟨Ao69, co69, eo69⟩ := Kd.R_slice HO_5.out
                      subst eo69
                      try go_wp2
                      have n0_ := Aside0.mk (Kd.R_drew HO_5.out)
                      have n1_ := Aside0.mk (Kd.R_drew HO_7.out)
                      have n2_ := Aside0.mk (Kd.R_drew HO_10.out)
                      have n3_ := Aside0.mk (blk_drew BK891.out)
                      have n4_ := Aside0.mk (below_drew1 HB.out)
                      clear HO_5; clear HO_7; clear HO_10; clear BK891; clear HB
                      have HO_5 := n0_
                      have HO_7 := n1_
                      have HO_10 := n2_
                      have BK891 := n3_
                      have HB := n4_
                      clear n0_ n1_ n2_ n3_ n4_
                      have p915 : 0 ≤ (x9_3 : Int) := of_decide_eq_true (by first | (with_reducible assumption) | assumption)
                      have q915 : x9_3 < (t903.length : Int) := of_decide_eq_true (by first | (with_reducible assumption) | assumption)
                      obtain ⟨ad915, e915, hx915_0⟩ := Kd.at_int (Kd.R_reads' HO_7.out).2.2 x9_3 p915 q915
                      cases e915
                      replace p915 := eq_true p915
                      replace q915 := eq_true q915
                      have p916 : 0 ≤ ((rd t903 x9_3) : Int) := of_decide_eq_true (by first | (with_reducible assumption) | assumption)
                      have q916 : (rd t903 x9_3) < (l0_1.length : Int) := of_decide_eq_true (by first | (with_reducible assumption) | assumption)
                      obtain ⟨ad916, e916, hx916_0, hx916_1, hx916_2, hx916_3⟩ := at_T37 HR0_1.out (rd t903 x9_3) p916 q916
                      have hw916_3 := hx916_3
                      have hw916_2 := hx916_2
                      have hw916_1 := hx916_1
                      have hw916_0 := hx916_0
                      cases e916
                      replace hx916_0 := (HB.out.cell (World.block_lt_of_cell? w _ hx916_0)).trans hx916_0
                      replace hx916_1 := (HB.out.cell (World.block_lt_of_cell? w _ hx916_1)).trans hx916_1
                      replace hx916_2 := (HB.out.cell (World.block_lt_of_cell? w _ hx916_2)).trans hx916_2
                      replace hx916_3 := (HB.out.cell (World.block_lt_of_cell? w _ hx916_3)).trans hx916_3
                      replace p916 := eq_true p916
                      replace q916 := eq_true q916
                      refine start_ (n := 10) (S := fun w' => w'.cell? ⟨gb891, 0, none⟩ = some (.int .i64 a0_0) ∧ w'.cell? ⟨gb891, 1, none⟩ = some (.slice (some ad916) l0_1.length c0_1) ∧ w'.cell? (ad915.add (x9_3).toNat) = some (.int .i64 (rd t903 x9_3)) ∧ w'.cell? (ad916.add (((rd t903 x9_3)).toNat * 4)) = some (.int .i64 ((rd_T37 l0_1 (rd t903 x9_3)).f0)) ∧ w'.cell? ⟨(ad916.add (((rd t903 x9_3)).toNat * 4)).block, (ad916.add (((rd t903 x9_3)).toNat * 4)).off + 1, none⟩ = some (.int .i64 ((rd_T37 l0_1 (rd t903 x9_3)).f1)) ∧ w'.cell? ⟨(ad916.add (((rd t903 x9_3)).toNat * 4)).block, (ad916.add (((rd t903 x9_3)).toNat * 4)).off + 2, none⟩ = some (.int .i64 ((rd_T37 l0_1 (rd t903 x9_3)).f2)) ∧ w'.cell? ⟨(ad916.add (((rd t903 x9_3)).toNat * 4)).block, (ad916.add (((rd t903 x9_3)).toNat * 4)).off + 3, none⟩ = some (.int .i64 ((rd_T37 l0_1 (rd t903 x9_3)).f3))) (ds := []) #[false, false, false, false, false, false, false, false, false, false] (by kernel_rfl) rfl rfl ⟨(blk_cell BK891.out 0).trans rfl, (blk_cell BK891.out 1).trans rfl, hx915_0, ((HB.out.cell (World.block_lt_of_cell? w _ hw916_0)).trans hw916_0), ((HB.out.cell (World.block_lt_of_cell? w _ hw916_1)).trans hw916_1), ((HB.out.cell (World.block_lt_of_cell? w _ hw916_2)).trans hw916_2), ((HB.out.cell (World.block_lt_of_cell? w _ hw916_3)).trans hw916_3)⟩ (fun hHeld => ?_); refine with_tabW pylonlaw16_TreeGreedy.tab18 pylonlaw16_TreeGreedy.bits18 (fun HT_ HW_ => ?_)
                      generalize wr.drew = w70 at HO_5 HO_7 HO_10 BK891 HB hx915_0 hx916_0 hx916_1 hx916_2 hx916_3 hHeld ⊢
                      refine pure_ (i := 0) (N := some 91) (v := ?_) (a' := ?_) #[true, false, false, false, false, false, false, false, false, false] rfl rfl (any_of HT_.out (by kernel_rfl)) (fun _ _ _ h => h) (Or.inl ⟨by rfl, ?_⟩) ?_ ?_
                      rotate_left; (intro w'; go_simp; with_reducible rfl); rotate_left; (simp only [Act.put, List.setIfInBounds_toArray, List.set_cons_zero, List.set_cons_succ, i64_w, i32_w]; rfl)
                      refine pure_ (i := 2) (N := some 93) (v := ?_) (a' := ?_) #[true, false, true, false, false, false, false, false, false, false] rfl rfl (any_of HT_.out (by kernel_rfl)) (fun _ _ _ h => h) (Or.inl ⟨by rfl, ?_⟩) ?_ ?_
                      rotate_left; (intro w'; go_simp; with_reducible rfl); rotate_left; (simp only [Act.put, List.setIfInBounds_toArray, List.set_cons_zero, List.set_cons_succ, i64_w, i32_w]; rfl)
                      refine pure_ (i := 3) (N := some 94) (v := ?_) (a' := ?_) #[true, false, true, true, false, false, false, false, false, false] rfl rfl (any_of HT_.out (by kernel_rfl)) (fun _ _ _ h => h) (Or.inl ⟨by rfl, ?_⟩) ?_ ?_
                      rotate_left; (intro w'; go_simp; with_reducible rfl); rotate_left; (simp only [Act.put, List.setIfInBounds_toArray, List.set_cons_zero, List.set_cons_succ, i64_w, i32_w]; rfl)
                      refine pure_ (i := 4) (N := some 95) (v := ?_) (a' := ?_) #[true, false, true, true, true, false, false, false, false, false] rfl rfl (any_of HT_.out (by kernel_rfl)) (fun _ _ _ h => h) (Or.inl ⟨by rfl, ?_⟩) ?_ ?_
                      rotate_left; (intro w'; go_simp; with_reducible rfl); rotate_left; (simp only [Act.put, List.setIfInBounds_toArray, List.set_cons_zero, List.set_cons_succ, i64_w, i32_w]; rfl)
                      refine take_ (i := 1) (N := some 92) (v := ?_) (a' := ?_) #[true, true, true, true, true, false, false, false, false, false] rfl rfl (take_ofW HT_.out HW_.out (by kernel_rfl)) (fun _ _ _ h => h) (Or.inl ⟨by rfl, ?_⟩) hHeld ?_ ?_
                      rotate_left; (rintro w' ⟨s0, s1, s2, s3, s4, s5, s6⟩; go_simp; with_reducible rfl); rotate_left; (simp only [Act.put, List.setIfInBounds_toArray, List.set_cons_zero, List.set_cons_succ, i64_w, i32_w]; rfl)
                      refine take_ (i := 5) (N := some 96) (v := ?_) (a' := ?_) #[true, true, true, true, true, true, false, false, false, false] rfl rfl (take_ofW HT_.out HW_.out (by kernel_rfl)) (fun _ _ _ h => h) (Or.inl ⟨by rfl, ?_⟩) hHeld ?_ ?_
                      rotate_left; (rintro w' ⟨s0, s1, s2, s3, s4, s5, s6⟩; go_simp; with_reducible rfl); rotate_left; (simp only [Act.put, List.setIfInBounds_toArray, List.set_cons_zero, List.set_cons_succ, i64_w, i32_w]; rfl)
                      refine pure_ (i := 6) (N := some 97) (v := ?_) (a' := ?_) #[true, true, true, true, true, true, true, false, false, false] rfl rfl (any_of HT_.out (by kernel_rfl)) (fun _ _ _ h => h) (Or.inl ⟨by rfl, ?_⟩) ?_ ?_
                      rotate_left; (intro w'; go_simp; with_reducible rfl); rotate_left; (simp only [Act.put, List.setIfInBounds_toArray, List.set_cons_zero, List.set_cons_succ, i64_w, i32_w]; rfl)
                      refine take_ (i := 7) (N := some 98) (v := ?_) (a' := ?_) #[true, true, true, true, true, true, true, true, false, false] rfl rfl (take_ofW HT_.out HW_.out (by kernel_rfl)) (fun _ _ _ h => h) (Or.inl ⟨by rfl, ?_⟩) hHeld ?_ ?_
                      rotate_left; (rintro w' ⟨s0, s1, s2, s3, s4, s5, s6⟩; go_simp; with_reducible rfl); rotate_left; (simp only [Act.put, List.setIfInBounds_toArray, List.set_cons_zero, List.set_cons_succ, i64_w, i32_w]; rfl)
                      refine one_ (i := 8) (N := some 12) #[true, true, true, true, true, true, true, true, true, false] rfl rfl (one_of HT_.out (by kernel_rfl)) (by decide) (fun K hK => ?_)
                      refine box_step ?hg (N := 12) ?hd (cs := #[.int .i64 0, .int .i64 0, .int .i64 0, .int .i64 0]) (t := 37) ?hr ?_; (case hd => rfl); (case hg => rfl); (case hr => first | (go_simp; done) | (go_simp; rfl))
                      intro gb917 hg w71 hbox hb
                      have HS2_ := (hb.cell (World.block_lt_of_cell? _ _ (hHeld.2.2.1))).trans (hHeld.2.2.1)
                      have n0_ := Aside0.mk (Kd.R_below (by (with_reducible repeat (first | apply Kd.R_alloc | apply Kd.R_drewN | apply Kd.R_drew)); exact HO_5.out) hb)
                      have n1_ := Aside0.mk (Kd.R_below (by (with_reducible repeat (first | apply Kd.R_alloc | apply Kd.R_drewN | apply Kd.R_drew)); exact HO_7.out) hb)
                      have n2_ := Aside0.mk (Kd.R_below (by (with_reducible repeat (first | apply Kd.R_alloc | apply Kd.R_drewN | apply Kd.R_drew)); exact HO_10.out) hb)
                      have n3_ := Aside0.mk (blk_below (g := gb891) (o := .cells #[.int .i64 a0_0, .slice (some ad916) l0_1.length c0_1] 24 (0, 0)) (by (with_reducible repeat (first | refine blk_drewN ?_ _ | refine blk_drew ?_ | refine blk_alloc ?_ _)); exact BK891.out) hb)
                      have n4_ := Aside0.mk (below_step (by repeat (first | (with_reducible first | exact HB.out | apply below_alloc | apply pw_below_drewN | apply below_drew1 | refine below_set ?_ GE891.out) | exact HB.out)) hb)
                      have n5_ := Aside0.mk (hbox)
                      have n6_ := Aside0.mk ((by rw [hg]; exact (below_size (by repeat (first | (with_reducible first | exact HB.out | apply below_alloc | apply pw_below_drewN | apply below_drew1 | refine below_set ?_ GE891.out) | exact HB.out))) : w.heap.size ≤ gb917))
                      have n7_ := Aside0.mk ((by rw [hg]; exact (below_size (by repeat (first | (with_reducible first | exact HB.out | apply below_alloc | apply pw_below_drewN | apply below_drew1 | refine below_set ?_ GE891.out) | exact HB.out))) : w.heap.size ≤ gb917))
                      have n8_ := Aside0.mk ((by rw [hg]; exact Nat.ne_of_lt (blk_lt (g := gb891) (o := .cells #[.int .i64 a0_0, .slice (some ad916) l0_1.length c0_1] 24 (0, 0)) (by (with_reducible repeat (first | refine blk_drewN ?_ _ | refine blk_drew ?_ | refine blk_alloc ?_ _)); exact BK891.out)) : gb891 ≠ gb917))
                      have n9_ := Aside0.mk ((by rw [hg]; exact Nat.ne_of_gt (blk_lt (g := gb891) (o := .cells #[.int .i64 a0_0, .slice (some ad916) l0_1.length c0_1] 24 (0, 0)) (by (with_reducible repeat (first | refine blk_drewN ?_ _ | refine blk_drew ?_ | refine blk_alloc ?_ _)); exact BK891.out)) : gb917 ≠ gb891))
                      clear HO_5; clear HO_7; clear HO_10; clear BK891; clear HB
                      have HO_5 := n0_
                      have HO_7 := n1_
                      have HO_10 := n2_
                      have BK891 := n3_
                      have HB := n4_
                      have BK917 := n5_
                      have GW917 := n6_
                      have GE917 := n7_
                      have NB891_917 := n8_
                      have NB917_891 := n9_
                      clear n0_ n1_ n2_ n3_ n4_ n5_ n6_ n7_ n8_ n9_; clear hb hbox hg
                      refine hK.out _ _ ⟨(blk_cell BK891.out 0).trans rfl, (blk_cell BK891.out 1).trans rfl, HS2_, ((HB.out.cell (World.block_lt_of_cell? w _ hw916_0)).trans hw916_0), ((HB.out.cell (World.block_lt_of_cell? w _ hw916_1)).trans hw916_1), ((HB.out.cell (World.block_lt_of_cell? w _ hw916_2)).trans hw916_2), ((HB.out.cell (World.block_lt_of_cell? w _ hw916_3)).trans hw916_3)⟩ (fun hHeld => ?_)
                      clear hK K
                      refine norm_ (a' := ?_) ?_ ?_
                      rotate_left
                      ·show Act.put _ (some 12) _ = _
                       simp only [Act.put, List.setIfInBounds_toArray, List.set_cons_zero, List.set_cons_succ, i64_w, i32_w]
                       rfl
                      refine one_ (i := 9) (N := none) #[true, true, true, true, true, true, true, true, true, true] rfl rfl (one_of HT_.out (by kernel_rfl)) (by decide) (fun K hK => ?_)
                      have hs72 : w71.cell? ⟨gb917, 0, none⟩ = some (.int .i64 0) := (blk_cell BK917.out 0).trans rfl
                      have hfs72 := blk_frozen BK917.out 0
                      have hns72_0 := NB891_917.out
                      have hms72_0 := NB917_891.out
                      have hs73 : w71.cell? ⟨gb917, 1, none⟩ = some (.int .i64 0) := (blk_cell BK917.out 1).trans rfl
                      have hfs73 := blk_frozen BK917.out 1
                      have hns73_0 := NB891_917.out
                      have hms73_0 := NB917_891.out
                      have hs74 : w71.cell? ⟨gb917, 2, none⟩ = some (.int .i64 0) := (blk_cell BK917.out 2).trans rfl
                      have hfs74 := blk_frozen BK917.out 2
                      have hns74_0 := NB891_917.out
                      have hms74_0 := NB917_891.out
                      have hs75 : w71.cell? ⟨gb917, 3, none⟩ = some (.int .i64 0) := (blk_cell BK917.out 3).trans rfl
                      have hfs75 := blk_frozen BK917.out 3
                      have hns75_0 := NB891_917.out
                      have hms75_0 := NB917_891.out
                      refine skip_ (w1 := ?_) (by rfl) rfl ?_ ?_
                      rotate_left
                      ·go_simp
                       rfl
                      refine hK.out _ _ ⟨((cell_far (p := ⟨gb917, _, none⟩) NB891_917.out _).trans (((cell_far (p := ⟨gb917, _, none⟩) NB891_917.out _).trans (((cell_far (p := ⟨gb917, _, none⟩) NB891_917.out _).trans (((cell_far (p := ⟨gb917, _, none⟩) NB891_917.out _).trans (hHeld.1)))))))), ((cell_far (p := ⟨gb917, _, none⟩) NB891_917.out _).trans (((cell_far (p := ⟨gb917, _, none⟩) NB891_917.out _).trans (((cell_far (p := ⟨gb917, _, none⟩) NB891_917.out _).trans (((cell_far (p := ⟨gb917, _, none⟩) NB891_917.out _).trans (hHeld.2.1)))))))), ((cell_far (p := ⟨gb917, _, none⟩) (by first | exact Kd.own_blk (Kd.R_ne HO_7.out BK917.out (by decide)) | (rw [add_block]; exact Kd.own_blk (Kd.R_ne HO_7.out BK917.out (by decide))) | (show (Addr.add _ _).block ≠ _; rw [add_block]; exact Kd.own_blk (Kd.R_ne HO_7.out BK917.out (by decide))) | (dsimp only; exact Kd.own_blk (Kd.R_ne HO_7.out BK917.out (by decide)))) _).trans (((cell_far (p := ⟨gb917, _, none⟩) (by first | exact Kd.own_blk (Kd.R_ne HO_7.out BK917.out (by decide)) | (rw [add_block]; exact Kd.own_blk (Kd.R_ne HO_7.out BK917.out (by decide))) | (show (Addr.add _ _).block ≠ _; rw [add_block]; exact Kd.own_blk (Kd.R_ne HO_7.out BK917.out (by decide))) | (dsimp only; exact Kd.own_blk (Kd.R_ne HO_7.out BK917.out (by decide)))) _).trans (((cell_far (p := ⟨gb917, _, none⟩) (by first | exact Kd.own_blk (Kd.R_ne HO_7.out BK917.out (by decide)) | (rw [add_block]; exact Kd.own_blk (Kd.R_ne HO_7.out BK917.out (by decide))) | (show (Addr.add _ _).block ≠ _; rw [add_block]; exact Kd.own_blk (Kd.R_ne HO_7.out BK917.out (by decide))) | (dsimp only; exact Kd.own_blk (Kd.R_ne HO_7.out BK917.out (by decide)))) _).trans (((cell_far (p := ⟨gb917, _, none⟩) (by first | exact Kd.own_blk (Kd.R_ne HO_7.out BK917.out (by decide)) | (rw [add_block]; exact Kd.own_blk (Kd.R_ne HO_7.out BK917.out (by decide))) | (show (Addr.add _ _).block ≠ _; rw [add_block]; exact Kd.own_blk (Kd.R_ne HO_7.out BK917.out (by decide))) | (dsimp only; exact Kd.own_blk (Kd.R_ne HO_7.out BK917.out (by decide)))) _).trans (hHeld.2.2.1)))))))), ((cell_far (p := ⟨gb917, _, none⟩) (by first | exact Nat.ne_of_lt (Nat.lt_of_lt_of_le (by have := World.block_lt_of_cell? _ _ hw916_0; first | rwa [add_block] at this | exact this) GW917.out) | (rw [add_block]; exact Nat.ne_of_lt (Nat.lt_of_lt_of_le (by have := World.block_lt_of_cell? _ _ hw916_0; first | rwa [add_block] at this | exact this) GW917.out)) | (show (Addr.add _ _).block ≠ _; rw [add_block]; exact Nat.ne_of_lt (Nat.lt_of_lt_of_le (by have := World.block_lt_of_cell? _ _ hw916_0; first | rwa [add_block] at this | exact this) GW917.out)) | (dsimp only; exact Nat.ne_of_lt (Nat.lt_of_lt_of_le (by have := World.block_lt_of_cell? _ _ hw916_0; first | rwa [add_block] at this | exact this) GW917.out))) _).trans (((cell_far (p := ⟨gb917, _, none⟩) (by first | exact Nat.ne_of_lt (Nat.lt_of_lt_of_le (by have := World.block_lt_of_cell? _ _ hw916_0; first | rwa [add_block] at this | exact this) GW917.out) | (rw [add_block]; exact Nat.ne_of_lt (Nat.lt_of_lt_of_le (by have := World.block_lt_of_cell? _ _ hw916_0; first | rwa [add_block] at this | exact this) GW917.out)) | (show (Addr.add _ _).block ≠ _; rw [add_block]; exact Nat.ne_of_lt (Nat.lt_of_lt_of_le (by have := World.block_lt_of_cell? _ _ hw916_0; first | rwa [add_block] at this | exact this) GW917.out)) | (dsimp only; exact Nat.ne_of_lt (Nat.lt_of_lt_of_le (by have := World.block_lt_of_cell? _ _ hw916_0; first | rwa [add_block] at this | exact this) GW917.out))) _).trans (((cell_far (p := ⟨gb917, _, none⟩) (by first | exact Nat.ne_of_lt (Nat.lt_of_lt_of_le (by have := World.block_lt_of_cell? _ _ hw916_0; first | rwa [add_block] at this | exact this) GW917.out) | (rw [add_block]; exact Nat.ne_of_lt (Nat.lt_of_lt_of_le (by have := World.block_lt_of_cell? _ _ hw916_0; first | rwa [add_block] at this | exact this) GW917.out)) | (show (Addr.add _ _).block ≠ _; rw [add_block]; exact Nat.ne_of_lt (Nat.lt_of_lt_of_le (by have := World.block_lt_of_cell? _ _ hw916_0; first | rwa [add_block] at this | exact this) GW917.out)) | (dsimp only; exact Nat.ne_of_lt (Nat.lt_of_lt_of_le (by have := World.block_lt_of_cell? _ _ hw916_0; first | rwa [add_block] at this | exact this) GW917.out))) _).trans (((cell_far (p := ⟨gb917, _, none⟩) (by first | exact Nat.ne_of_lt (Nat.lt_of_lt_of_le (by have := World.block_lt_of_cell? _ _ hw916_0; first | rwa [add_block] at this | exact this) GW917.out) | (rw [add_block]; exact Nat.ne_of_lt (Nat.lt_of_lt_of_le (by have := World.block_lt_of_cell? _ _ hw916_0; first | rwa [add_block] at this | exact this) GW917.out)) | (show (Addr.add _ _).block ≠ _; rw [add_block]; exact Nat.ne_of_lt (Nat.lt_of_lt_of_le (by have := World.block_lt_of_cell? _ _ hw916_0; first | rwa [add_block] at this | exact this) GW917.out)) | (dsimp only; exact Nat.ne_of_lt (Nat.lt_of_lt_of_le (by have := World.block_lt_of_cell? _ _ hw916_0; first | rwa [add_block] at this | exact this) GW917.out))) _).trans (hHeld.2.2.2.1)))))))), ((cell_far (p := ⟨gb917, _, none⟩) (by first | exact Nat.ne_of_lt (Nat.lt_of_lt_of_le (by have := World.block_lt_of_cell? _ _ hw916_1; first | rwa [add_block] at this | exact this) GW917.out) | (rw [add_block]; exact Nat.ne_of_lt (Nat.lt_of_lt_of_le (by have := World.block_lt_of_cell? _ _ hw916_1; first | rwa [add_block] at this | exact this) GW917.out)) | (show (Addr.add _ _).block ≠ _; rw [add_block]; exact Nat.ne_of_lt (Nat.lt_of_lt_of_le (by have := World.block_lt_of_cell? _ _ hw916_1; first | rwa [add_block] at this | exact this) GW917.out)) | (dsimp only; exact Nat.ne_of_lt (Nat.lt_of_lt_of_le (by have := World.block_lt_of_cell? _ _ hw916_1; first | rwa [add_block] at this | exact this) GW917.out))) _).trans (((cell_far (p := ⟨gb917, _, none⟩) (by first | exact Nat.ne_of_lt (Nat.lt_of_lt_of_le (by have := World.block_lt_of_cell? _ _ hw916_1; first | rwa [add_block] at this | exact this) GW917.out) | (rw [add_block]; exact Nat.ne_of_lt (Nat.lt_of_lt_of_le (by have := World.block_lt_of_cell? _ _ hw916_1; first | rwa [add_block] at this | exact this) GW917.out)) | (show (Addr.add _ _).block ≠ _; rw [add_block]; exact Nat.ne_of_lt (Nat.lt_of_lt_of_le (by have := World.block_lt_of_cell? _ _ hw916_1; first | rwa [add_block] at this | exact this) GW917.out)) | (dsimp only; exact Nat.ne_of_lt (Nat.lt_of_lt_of_le (by have := World.block_lt_of_cell? _ _ hw916_1; first | rwa [add_block] at this | exact this) GW917.out))) _).trans (((cell_far (p := ⟨gb917, _, none⟩) (by first | exact Nat.ne_of_lt (Nat.lt_of_lt_of_le (by have := World.block_lt_of_cell? _ _ hw916_1; first | rwa [add_block] at this | exact this) GW917.out) | (rw [add_block]; exact Nat.ne_of_lt (Nat.lt_of_lt_of_le (by have := World.block_lt_of_cell? _ _ hw916_1; first | rwa [add_block] at this | exact this) GW917.out)) | (show (Addr.add _ _).block ≠ _; rw [add_block]; exact Nat.ne_of_lt (Nat.lt_of_lt_of_le (by have := World.block_lt_of_cell? _ _ hw916_1; first | rwa [add_block] at this | exact this) GW917.out)) | (dsimp only; exact Nat.ne_of_lt (Nat.lt_of_lt_of_le (by have := World.block_lt_of_cell? _ _ hw916_1; first | rwa [add_block] at this | exact this) GW917.out))) _).trans (((cell_far (p := ⟨gb917, _, none⟩) (by first | exact Nat.ne_of_lt (Nat.lt_of_lt_of_le (by have := World.block_lt_of_cell? _ _ hw916_1; first | rwa [add_block] at this | exact this) GW917.out) | (rw [add_block]; exact Nat.ne_of_lt (Nat.lt_of_lt_of_le (by have := World.block_lt_of_cell? _ _ hw916_1; first | rwa [add_block] at this | exact this) GW917.out)) | (show (Addr.add _ _).block ≠ _; rw [add_block]; exact Nat.ne_of_lt (Nat.lt_of_lt_of_le (by have := World.block_lt_of_cell? _ _ hw916_1; first | rwa [add_block] at this | exact this) GW917.out)) | (dsimp only; exact Nat.ne_of_lt (Nat.lt_of_lt_of_le (by have := World.block_lt_of_cell? _ _ hw916_1; first | rwa [add_block] at this | exact this) GW917.out))) _).trans (hHeld.2.2.2.2.1)))))))), ((cell_far (p := ⟨gb917, _, none⟩) (by first | exact Nat.ne_of_lt (Nat.lt_of_lt_of_le (by have := World.block_lt_of_cell? _ _ hw916_2; first | rwa [add_block] at this | exact this) GW917.out) | (rw [add_block]; exact Nat.ne_of_lt (Nat.lt_of_lt_of_le (by have := World.block_lt_of_cell? _ _ hw916_2; first | rwa [add_block] at this | exact this) GW917.out)) | (show (Addr.add _ _).block ≠ _; rw [add_block]; exact Nat.ne_of_lt (Nat.lt_of_lt_of_le (by have := World.block_lt_of_cell? _ _ hw916_2; first | rwa [add_block] at this | exact this) GW917.out)) | (dsimp only; exact Nat.ne_of_lt (Nat.lt_of_lt_of_le (by have := World.block_lt_of_cell? _ _ hw916_2; first | rwa [add_block] at this | exact this) GW917.out))) _).trans (((cell_far (p := ⟨gb917, _, none⟩) (by first | exact Nat.ne_of_lt (Nat.lt_of_lt_of_le (by have := World.block_lt_of_cell? _ _ hw916_2; first | rwa [add_block] at this | exact this) GW917.out) | (rw [add_block]; exact Nat.ne_of_lt (Nat.lt_of_lt_of_le (by have := World.block_lt_of_cell? _ _ hw916_2; first | rwa [add_block] at this | exact this) GW917.out)) | (show (Addr.add _ _).block ≠ _; rw [add_block]; exact Nat.ne_of_lt (Nat.lt_of_lt_of_le (by have := World.block_lt_of_cell? _ _ hw916_2; first | rwa [add_block] at this | exact this) GW917.out)) | (dsimp only; exact Nat.ne_of_lt (Nat.lt_of_lt_of_le (by have := World.block_lt_of_cell? _ _ hw916_2; first | rwa [add_block] at this | exact this) GW917.out))) _).trans (((cell_far (p := ⟨gb917, _, none⟩) (by first | exact Nat.ne_of_lt (Nat.lt_of_lt_of_le (by have := World.block_lt_of_cell? _ _ hw916_2; first | rwa [add_block] at this | exact this) GW917.out) | (rw [add_block]; exact Nat.ne_of_lt (Nat.lt_of_lt_of_le (by have := World.block_lt_of_cell? _ _ hw916_2; first | rwa [add_block] at this | exact this) GW917.out)) | (show (Addr.add _ _).block ≠ _; rw [add_block]; exact Nat.ne_of_lt (Nat.lt_of_lt_of_le (by have := World.block_lt_of_cell? _ _ hw916_2; first | rwa [add_block] at this | exact this) GW917.out)) | (dsimp only; exact Nat.ne_of_lt (Nat.lt_of_lt_of_le (by have := World.block_lt_of_cell? _ _ hw916_2; first | rwa [add_block] at this | exact this) GW917.out))) _).trans (((cell_far (p := ⟨gb917, _, none⟩) (by first | exact Nat.ne_of_lt (Nat.lt_of_lt_of_le (by have := World.block_lt_of_cell? _ _ hw916_2; first | rwa [add_block] at this | exact this) GW917.out) | (rw [add_block]; exact Nat.ne_of_lt (Nat.lt_of_lt_of_le (by have := World.block_lt_of_cell? _ _ hw916_2; first | rwa [add_block] at this | exact this) GW917.out)) | (show (Addr.add _ _).block ≠ _; rw [add_block]; exact Nat.ne_of_lt (Nat.lt_of_lt_of_le (by have := World.block_lt_of_cell? _ _ hw916_2; first | rwa [add_block] at this | exact this) GW917.out)) | (dsimp only; exact Nat.ne_of_lt (Nat.lt_of_lt_of_le (by have := World.block_lt_of_cell? _ _ hw916_2; first | rwa [add_block] at this | exact this) GW917.out))) _).trans (hHeld.2.2.2.2.2.1)))))))), ((cell_far (p := ⟨gb917, _, none⟩) (by first | exact Nat.ne_of_lt (Nat.lt_of_lt_of_le (by have := World.block_lt_of_cell? _ _ hw916_3; first | rwa [add_block] at this | exact this) GW917.out) | (rw [add_block]; exact Nat.ne_of_lt (Nat.lt_of_lt_of_le (by have := World.block_lt_of_cell? _ _ hw916_3; first | rwa [add_block] at this | exact this) GW917.out)) | (show (Addr.add _ _).block ≠ _; rw [add_block]; exact Nat.ne_of_lt (Nat.lt_of_lt_of_le (by have := World.block_lt_of_cell? _ _ hw916_3; first | rwa [add_block] at this | exact this) GW917.out)) | (dsimp only; exact Nat.ne_of_lt (Nat.lt_of_lt_of_le (by have := World.block_lt_of_cell? _ _ hw916_3; first | rwa [add_block] at this | exact this) GW917.out))) _).trans (((cell_far (p := ⟨gb917, _, none⟩) (by first | exact Nat.ne_of_lt (Nat.lt_of_lt_of_le (by have := World.block_lt_of_cell? _ _ hw916_3; first | rwa [add_block] at this | exact this) GW917.out) | (rw [add_block]; exact Nat.ne_of_lt (Nat.lt_of_lt_of_le (by have := World.block_lt_of_cell? _ _ hw916_3; first | rwa [add_block] at this | exact this) GW917.out)) | (show (Addr.add _ _).block ≠ _; rw [add_block]; exact Nat.ne_of_lt (Nat.lt_of_lt_of_le (by have := World.block_lt_of_cell? _ _ hw916_3; first | rwa [add_block] at this | exact this) GW917.out)) | (dsimp only; exact Nat.ne_of_lt (Nat.lt_of_lt_of_le (by have := World.block_lt_of_cell? _ _ hw916_3; first | rwa [add_block] at this | exact this) GW917.out))) _).trans (((cell_far (p := ⟨gb917, _, none⟩) (by first | exact Nat.ne_of_lt (Nat.lt_of_lt_of_le (by have := World.block_lt_of_cell? _ _ hw916_3; first | rwa [add_block] at this | exact this) GW917.out) | (rw [add_block]; exact Nat.ne_of_lt (Nat.lt_of_lt_of_le (by have := World.block_lt_of_cell? _ _ hw916_3; first | rwa [add_block] at this | exact this) GW917.out)) | (show (Addr.add _ _).block ≠ _; rw [add_block]; exact Nat.ne_of_lt (Nat.lt_of_lt_of_le (by have := World.block_lt_of_cell? _ _ hw916_3; first | rwa [add_block] at this | exact this) GW917.out)) | (dsimp only; exact Nat.ne_of_lt (Nat.lt_of_lt_of_le (by have := World.block_lt_of_cell? _ _ hw916_3; first | rwa [add_block] at this | exact this) GW917.out))) _).trans (((cell_far (p := ⟨gb917, _, none⟩) (by first | exact Nat.ne_of_lt (Nat.lt_of_lt_of_le (by have := World.block_lt_of_cell? _ _ hw916_3; first | rwa [add_block] at this | exact this) GW917.out) | (rw [add_block]; exact Nat.ne_of_lt (Nat.lt_of_lt_of_le (by have := World.block_lt_of_cell? _ _ hw916_3; first | rwa [add_block] at this | exact this) GW917.out)) | (show (Addr.add _ _).block ≠ _; rw [add_block]; exact Nat.ne_of_lt (Nat.lt_of_lt_of_le (by have := World.block_lt_of_cell? _ _ hw916_3; first | rwa [add_block] at this | exact this) GW917.out)) | (dsimp only; exact Nat.ne_of_lt (Nat.lt_of_lt_of_le (by have := World.block_lt_of_cell? _ _ hw916_3; first | rwa [add_block] at this | exact this) GW917.out))) _).trans (hHeld.2.2.2.2.2.2))))))))⟩ (fun hHeld => ?_)
                      clear hK K
                      refine done_ (done_of HT_.out (by kernel_rfl)) ?_
                      try go_wp2
                      have n0_ : Aside0 (Kd.R (Kd.int .i64) 3 ((((w71.setCell ⟨gb917, 0, none⟩ (.int .i64 ((rd_T37 l0_1 (rd t903 x9_3)).f0))).setCell ⟨gb917, 1, none⟩ (.int .i64 ((rd_T37 l0_1 (rd t903 x9_3)).f1))).setCell ⟨gb917, 2, none⟩ (.int .i64 ((rd_T37 l0_1 (rd t903 x9_3)).f2))).setCell ⟨gb917, 3, none⟩ (.int .i64 ((rd_T37 l0_1 (rd t903 x9_3)).f3))) w.heap.size (fun k_ => (w.heap.size ≤ k_) ∧ some k_ ≠ (.slice (some ad915) t903.length co43 : Value).ownBlock ∧ some k_ ≠ (u10 : Value).ownBlock) (.slice Ao69 t899.length co69) t899) := ⟨by (with_reducible repeat (first | apply Kd.R_alloc | apply Kd.R_drewN | apply Kd.R_drew)); exact Kd.R_mono (Kd.R_far (p := ⟨gb917, 3, none⟩) (Kd.R_far (p := ⟨gb917, 2, none⟩) (Kd.R_far (p := ⟨gb917, 1, none⟩) (Kd.R_far (p := ⟨gb917, 0, none⟩) (Kd.R_types HO_5.out BK917.out (by decide)) (fun _ hk => hk.2) (.int .i64 ((rd_T37 l0_1 (rd t903 x9_3)).f0))) (fun _ hk => hk.2) (.int .i64 ((rd_T37 l0_1 (rd t903 x9_3)).f1))) (fun _ hk => hk.2) (.int .i64 ((rd_T37 l0_1 (rd t903 x9_3)).f2))) (fun _ hk => hk.2) (.int .i64 ((rd_T37 l0_1 (rd t903 x9_3)).f3))) (fun _ hk => ⟨hk.1.1, ⟨hk.1.2.1, hk.1.2.2⟩⟩)⟩
                      have n1_ : Aside0 (Kd.R (Kd.int .i64) 3 ((((w71.setCell ⟨gb917, 0, none⟩ (.int .i64 ((rd_T37 l0_1 (rd t903 x9_3)).f0))).setCell ⟨gb917, 1, none⟩ (.int .i64 ((rd_T37 l0_1 (rd t903 x9_3)).f1))).setCell ⟨gb917, 2, none⟩ (.int .i64 ((rd_T37 l0_1 (rd t903 x9_3)).f2))).setCell ⟨gb917, 3, none⟩ (.int .i64 ((rd_T37 l0_1 (rd t903 x9_3)).f3))) w.heap.size (fun k_ => (w.heap.size ≤ k_) ∧ some k_ ≠ (.slice Ao69 t899.length co69 : Value).ownBlock ∧ some k_ ≠ (u10 : Value).ownBlock) (.slice (some ad915) t903.length co43) t903) := ⟨by (with_reducible repeat (first | apply Kd.R_alloc | apply Kd.R_drewN | apply Kd.R_drew)); exact Kd.R_mono (Kd.R_far (p := ⟨gb917, 3, none⟩) (Kd.R_far (p := ⟨gb917, 2, none⟩) (Kd.R_far (p := ⟨gb917, 1, none⟩) (Kd.R_far (p := ⟨gb917, 0, none⟩) (Kd.R_types HO_7.out BK917.out (by decide)) (fun _ hk => hk.2) (.int .i64 ((rd_T37 l0_1 (rd t903 x9_3)).f0))) (fun _ hk => hk.2) (.int .i64 ((rd_T37 l0_1 (rd t903 x9_3)).f1))) (fun _ hk => hk.2) (.int .i64 ((rd_T37 l0_1 (rd t903 x9_3)).f2))) (fun _ hk => hk.2) (.int .i64 ((rd_T37 l0_1 (rd t903 x9_3)).f3))) (fun _ hk => ⟨hk.1.1, ⟨hk.1.2.1, hk.1.2.2⟩⟩)⟩
                      have n2_ : Aside0 (Kd.R (Kd.int .i64) 3 ((((w71.setCell ⟨gb917, 0, none⟩ (.int .i64 ((rd_T37 l0_1 (rd t903 x9_3)).f0))).setCell ⟨gb917, 1, none⟩ (.int .i64 ((rd_T37 l0_1 (rd t903 x9_3)).f1))).setCell ⟨gb917, 2, none⟩ (.int .i64 ((rd_T37 l0_1 (rd t903 x9_3)).f2))).setCell ⟨gb917, 3, none⟩ (.int .i64 ((rd_T37 l0_1 (rd t903 x9_3)).f3))) w.heap.size (fun k_ => (w.heap.size ≤ k_) ∧ some k_ ≠ (.slice Ao69 t899.length co69 : Value).ownBlock ∧ some k_ ≠ (.slice (some ad915) t903.length co43 : Value).ownBlock) u10 x10_5) := ⟨by (with_reducible repeat (first | apply Kd.R_alloc | apply Kd.R_drewN | apply Kd.R_drew)); exact Kd.R_mono (Kd.R_far (p := ⟨gb917, 3, none⟩) (Kd.R_far (p := ⟨gb917, 2, none⟩) (Kd.R_far (p := ⟨gb917, 1, none⟩) (Kd.R_far (p := ⟨gb917, 0, none⟩) (Kd.R_types HO_10.out BK917.out (by decide)) (fun _ hk => hk.2) (.int .i64 ((rd_T37 l0_1 (rd t903 x9_3)).f0))) (fun _ hk => hk.2) (.int .i64 ((rd_T37 l0_1 (rd t903 x9_3)).f1))) (fun _ hk => hk.2) (.int .i64 ((rd_T37 l0_1 (rd t903 x9_3)).f2))) (fun _ hk => hk.2) (.int .i64 ((rd_T37 l0_1 (rd t903 x9_3)).f3))) (fun _ hk => ⟨hk.1.1, ⟨hk.1.2.1, hk.1.2.2⟩⟩)⟩
                      have n3_ : Aside0 (((((w71.setCell ⟨gb917, 0, none⟩ (.int .i64 ((rd_T37 l0_1 (rd t903 x9_3)).f0))).setCell ⟨gb917, 1, none⟩ (.int .i64 ((rd_T37 l0_1 (rd t903 x9_3)).f1))).setCell ⟨gb917, 2, none⟩ (.int .i64 ((rd_T37 l0_1 (rd t903 x9_3)).f2))).setCell ⟨gb917, 3, none⟩ (.int .i64 ((rd_T37 l0_1 (rd t903 x9_3)).f3))).heap[gb891]? = some (.cells #[.int .i64 a0_0, .slice (some ad916) l0_1.length c0_1] 24 (0, 0))) := ⟨by (with_reducible repeat (first | refine blk_drewN ?_ _ | refine blk_drew ?_ | refine blk_alloc ?_ _)); refine blk_far ?_ NB891_917.out _; (with_reducible repeat (first | refine blk_drewN ?_ _ | refine blk_drew ?_ | refine blk_alloc ?_ _)); refine blk_far ?_ NB891_917.out _; (with_reducible repeat (first | refine blk_drewN ?_ _ | refine blk_drew ?_ | refine blk_alloc ?_ _)); refine blk_far ?_ NB891_917.out _; (with_reducible repeat (first | refine blk_drewN ?_ _ | refine blk_drew ?_ | refine blk_alloc ?_ _)); refine blk_far ?_ NB891_917.out _; (with_reducible repeat (first | refine blk_drewN ?_ _ | refine blk_drew ?_ | refine blk_alloc ?_ _)); exact BK891.out⟩
                      have n4_ : Aside0 (((((w71.setCell ⟨gb917, 0, none⟩ (.int .i64 ((rd_T37 l0_1 (rd t903 x9_3)).f0))).setCell ⟨gb917, 1, none⟩ (.int .i64 ((rd_T37 l0_1 (rd t903 x9_3)).f1))).setCell ⟨gb917, 2, none⟩ (.int .i64 ((rd_T37 l0_1 (rd t903 x9_3)).f2))).setCell ⟨gb917, 3, none⟩ (.int .i64 ((rd_T37 l0_1 (rd t903 x9_3)).f3))).heap[gb917]? = some (.cells #[.int .i64 ((rd_T37 l0_1 (rd t903 x9_3)).f0), .int .i64 ((rd_T37 l0_1 (rd t903 x9_3)).f1), .int .i64 ((rd_T37 l0_1 (rd t903 x9_3)).f2), .int .i64 ((rd_T37 l0_1 (rd t903 x9_3)).f3)] 37 (0, 0))) := ⟨by (with_reducible repeat (first | refine blk_drewN ?_ _ | refine blk_drew ?_ | refine blk_alloc ?_ _)); refine blk_put (cs := #[.int .i64 ((rd_T37 l0_1 (rd t903 x9_3)).f0), .int .i64 ((rd_T37 l0_1 (rd t903 x9_3)).f1), .int .i64 ((rd_T37 l0_1 (rd t903 x9_3)).f2), .int .i64 0]) ?_ 3 _ rfl; (with_reducible repeat (first | refine blk_drewN ?_ _ | refine blk_drew ?_ | refine blk_alloc ?_ _)); refine blk_put (cs := #[.int .i64 ((rd_T37 l0_1 (rd t903 x9_3)).f0), .int .i64 ((rd_T37 l0_1 (rd t903 x9_3)).f1), .int .i64 0, .int .i64 0]) ?_ 2 _ rfl; (with_reducible repeat (first | refine blk_drewN ?_ _ | refine blk_drew ?_ | refine blk_alloc ?_ _)); refine blk_put (cs := #[.int .i64 ((rd_T37 l0_1 (rd t903 x9_3)).f0), .int .i64 0, .int .i64 0, .int .i64 0]) ?_ 1 _ rfl; (with_reducible repeat (first | refine blk_drewN ?_ _ | refine blk_drew ?_ | refine blk_alloc ?_ _)); refine blk_put (cs := #[.int .i64 0, .int .i64 0, .int .i64 0, .int .i64 0]) ?_ 0 _ rfl; (with_reducible repeat (first | refine blk_drewN ?_ _ | refine blk_drew ?_ | refine blk_alloc ?_ _)); exact BK917.out⟩
                      have n5_ : Aside0 (Below w.heap.size w ((((w71.setCell ⟨gb917, 0, none⟩ (.int .i64 ((rd_T37 l0_1 (rd t903 x9_3)).f0))).setCell ⟨gb917, 1, none⟩ (.int .i64 ((rd_T37 l0_1 (rd t903 x9_3)).f1))).setCell ⟨gb917, 2, none⟩ (.int .i64 ((rd_T37 l0_1 (rd t903 x9_3)).f2))).setCell ⟨gb917, 3, none⟩ (.int .i64 ((rd_T37 l0_1 (rd t903 x9_3)).f3)))) := ⟨by repeat (first | (with_reducible first | exact HB.out | apply below_alloc | apply pw_below_drewN | apply below_drew1 | refine below_set ?_ GE891.out | refine below_set ?_ GE917.out) | exact HB.out)⟩
                      (try clear HO_5)
                      (try clear HO_7)
                      (try clear HO_10)
                      (try clear BK891)
                      (try clear BK917)
                      (try clear HB)
                      generalize ((((w71.setCell ⟨gb917, 0, none⟩ (.int .i64 ((rd_T37 l0_1 (rd t903 x9_3)).f0))).setCell ⟨gb917, 1, none⟩ (.int .i64 ((rd_T37 l0_1 (rd t903 x9_3)).f1))).setCell ⟨gb917, 2, none⟩ (.int .i64 ((rd_T37 l0_1 (rd t903 x9_3)).f2))).setCell ⟨gb917, 3, none⟩ (.int .i64 ((rd_T37 l0_1 (rd t903 x9_3)).f3))) = w76 at n0_ n1_ n2_ n3_ n4_ n5_ ⊢
                      have HO_5 := n0_
                      have HO_7 := n1_
                      have HO_10 := n2_
                      have BK891 := n3_
                      have BK917 := n4_
                      have HB := n5_
                      clear n0_ n1_ n2_ n3_ n4_ n5_
                      have n0_ := Aside0.mk (Kd.R_drew HO_5.out)
                      have n1_ := Aside0.mk (Kd.R_drew HO_7.out)
                      have n2_ := Aside0.mk (Kd.R_drew HO_10.out)
                      have n3_ := Aside0.mk (blk_drew BK891.out)
                      have n4_ := Aside0.mk (blk_drew BK917.out)
                      have n5_ := Aside0.mk (below_drew1 HB.out)
                      clear HO_5; clear HO_7; clear HO_10; clear BK891; clear BK917; clear HB
                      have HO_5 := n0_
                      have HO_7 := n1_
                      have HO_10 := n2_
                      have BK891 := n3_
                      have BK917 := n4_
                      have HB := n5_
                      clear n0_ n1_ n2_ n3_ n4_ n5_
                      obtain ⟨Ao78, co78, eo78⟩ := Kd.R_slice HO_10.out
                      (first | subst eo78 | (injection eo78 with f1_ f2_ f3_; have f4_ := f1_.symm; have f5_ := f3_.symm; clear f1_ f2_ f3_; subst f4_; subst f5_))
                      refine start_ (n := 14) (S := fun w' => w'.cell? ⟨gb891, 0, none⟩ = some (.int .i64 a0_0) ∧ w'.cell? ⟨gb891, 1, none⟩ = some (.slice (some ad916) l0_1.length c0_1) ∧ w'.cell? ⟨gb917, 0, none⟩ = some (.int .i64 ((rd_T37 l0_1 (rd t903 x9_3)).f0)) ∧ w'.cell? ⟨gb917, 1, none⟩ = some (.int .i64 ((rd_T37 l0_1 (rd t903 x9_3)).f1)) ∧ w'.cell? ⟨gb917, 2, none⟩ = some (.int .i64 ((rd_T37 l0_1 (rd t903 x9_3)).f2)) ∧ w'.cell? ⟨gb917, 3, none⟩ = some (.int .i64 ((rd_T37 l0_1 (rd t903 x9_3)).f3))) (ds := []) #[false, false, false, false, false, false, false, false, false, false, false, false, false, false] (by kernel_rfl) rfl rfl ⟨(blk_cell BK891.out 0).trans rfl, (blk_cell BK891.out 1).trans rfl, (blk_cell BK917.out 0).trans rfl, (blk_cell BK917.out 1).trans rfl, (blk_cell BK917.out 2).trans rfl, (blk_cell BK917.out 3).trans rfl⟩ (fun hHeld => ?_); refine with_tabW pylonlaw16_TreeGreedy.tab19 pylonlaw16_TreeGreedy.bits19 (fun HT_ HW_ => ?_)
                      generalize w76.drew = w77 at HO_5 HO_7 HO_10 BK891 BK917 HB hHeld ⊢
                      refine pure_ (i := 2) (N := some 102) (v := ?_) (a' := ?_) #[false, false, true, false, false, false, false, false, false, false, false, false, false, false] rfl rfl (any_of HT_.out (by kernel_rfl)) (fun _ _ _ h => h) (Or.inl ⟨by rfl, ?_⟩) ?_ ?_
                      rotate_left; (intro w'; go_simp; with_reducible rfl); rotate_left; (simp only [Act.put, List.setIfInBounds_toArray, List.set_cons_zero, List.set_cons_succ, i64_w, i32_w]; rfl)
                      refine pure_ (i := 4) (N := some 104) (v := ?_) (a' := ?_) #[false, false, true, false, true, false, false, false, false, false, false, false, false, false] rfl rfl (any_of HT_.out (by kernel_rfl)) (fun _ _ _ h => h) (Or.inl ⟨by rfl, ?_⟩) ?_ ?_
                      rotate_left; (intro w'; go_simp; with_reducible rfl); rotate_left; (simp only [Act.put, List.setIfInBounds_toArray, List.set_cons_zero, List.set_cons_succ, i64_w, i32_w]; rfl)
                      refine pure_ (i := 6) (N := some 106) (v := ?_) (a' := ?_) #[false, false, true, false, true, false, true, false, false, false, false, false, false, false] rfl rfl (any_of HT_.out (by kernel_rfl)) (fun _ _ _ h => h) (Or.inl ⟨by rfl, ?_⟩) ?_ ?_
                      rotate_left; (intro w'; go_simp; with_reducible rfl); rotate_left; (simp only [Act.put, List.setIfInBounds_toArray, List.set_cons_zero, List.set_cons_succ, i64_w, i32_w]; rfl)
                      refine take_ (i := 0) (N := some 100) (v := ?_) (a' := ?_) #[true, false, true, false, true, false, true, false, false, false, false, false, false, false] rfl rfl (take_ofW HT_.out HW_.out (by kernel_rfl)) (fun _ _ _ h => h) (Or.inl ⟨by rfl, ?_⟩) hHeld ?_ ?_
                      rotate_left; (rintro w' ⟨s0, s1, s2, s3, s4, s5⟩; go_simp; with_reducible rfl); rotate_left; (simp only [Act.put, List.setIfInBounds_toArray, List.set_cons_zero, List.set_cons_succ, i64_w, i32_w]; rfl)
                      refine take_ (i := 1) (N := some 101) (v := ?_) (a' := ?_) #[true, true, true, false, true, false, true, false, false, false, false, false, false, false] rfl rfl (take_ofW HT_.out HW_.out (by kernel_rfl)) (fun _ _ _ h => h) (Or.inl ⟨by rfl, ?_⟩) hHeld ?_ ?_
                      rotate_left; (rintro w' ⟨s0, s1, s2, s3, s4, s5⟩; go_simp; with_reducible rfl); rotate_left; (simp only [Act.put, List.setIfInBounds_toArray, List.set_cons_zero, List.set_cons_succ, i64_w, i32_w]; rfl)
                      refine take_ (i := 5) (N := some 105) (v := ?_) (a' := ?_) #[true, true, true, false, true, true, true, false, false, false, false, false, false, false] rfl rfl (take_ofW HT_.out HW_.out (by kernel_rfl)) (fun _ _ _ h => h) (Or.inl ⟨by rfl, ?_⟩) hHeld ?_ ?_
                      rotate_left; (rintro w' ⟨s0, s1, s2, s3, s4, s5⟩; go_simp; with_reducible rfl); rotate_left; (simp only [Act.put, List.setIfInBounds_toArray, List.set_cons_zero, List.set_cons_succ, i64_w, i32_w]; rfl)
                      refine take_ (i := 7) (N := some 107) (v := ?_) (a' := ?_) #[true, true, true, false, true, true, true, true, false, false, false, false, false, false] rfl rfl (take_ofW HT_.out HW_.out (by kernel_rfl)) (fun _ _ _ h => h) (Or.inl ⟨by rfl, ?_⟩) hHeld ?_ ?_
                      rotate_left; (rintro w' ⟨s0, s1, s2, s3, s4, s5⟩; go_simp; with_reducible rfl); rotate_left; (simp only [Act.put, List.setIfInBounds_toArray, List.set_cons_zero, List.set_cons_succ, i64_w, i32_w]; rfl)
                      refine one_ (i := 3) (N := some 103) #[true, true, true, true, true, true, true, true, false, false, false, false, false, false] rfl rfl (one_of HT_.out (by kernel_rfl)) (by decide) (fun K hK => ?_)
                      refine goes_ Try.func64 (by kernel_rfl) rfl #[.agg #[.int .i64 a0_0, .slice (some ad916) l0_1.length c0_1], .slice Ao78 x10_5.length co78] (by rfl) rfl rfl (by (try simp only [List.map_toArray, List.map_cons, List.map_nil]); first | done | rfl | (simp only [List.length_drop, List.length_take]; rfl)) ?_
                      with_reducible refine (pylonlaw16_rest.calls k5 a0_0 _ _ l0_1 _ _ x10_5 t918 _ ?side1 ?side2 ?side3 ?side4 A64.out).mono ?_
                      (case side1 => repeat (first | exact (Kd.C_below HR0_1.out HB.out) | (with_reducible refine Kd.C_alloc ?_ _) | (with_reducible refine Kd.C_drewN ?_ _) | (with_reducible refine Kd.C_drew ?_)))
                      (case side2 => exact HC0_1.out)
                      (case side3 => repeat (first | exact (Kd.R_reads' HO_10.out).2.2 | (with_reducible refine Kd.C_alloc ?_ _) | (with_reducible refine Kd.C_drewN ?_ _) | (with_reducible refine Kd.C_drew ?_)))
                      (case side4 => exact (Kd.R_reads' HO_10.out).2.1)
                      rintro e w79 ⟨v919, rfl, ho0, hb⟩
                      refine ⟨_, rfl, ?_⟩
                      have n0_ := Aside0.mk (Kd.R_elder' (by (with_reducible repeat (first | apply Kd.R_alloc | apply Kd.R_drewN | apply Kd.R_drew)); exact HO_5.out) (Kd.R_base ho0) hb)
                      have n1_ := Aside0.mk (Kd.R_elder' (by (with_reducible repeat (first | apply Kd.R_alloc | apply Kd.R_drewN | apply Kd.R_drew)); exact HO_7.out) (Kd.R_base ho0) hb)
                      have n2_ := Aside0.mk (Kd.R_elder' (by (with_reducible repeat (first | apply Kd.R_alloc | apply Kd.R_drewN | apply Kd.R_drew)); exact HO_10.out) (Kd.R_base ho0) hb)
                      have n3_ := Aside0.mk (Kd.R_lower (Kd.R_new' (Kd.R_new' (Kd.R_new' (Kd.R_newM (M := fun k_ => (w.heap.size ≤ k_)) ho0 (below_size (by repeat (first | (with_reducible first | exact HB.out | apply below_alloc | apply pw_below_drewN | apply below_drew1 | refine below_set ?_ GE891.out | refine below_set ?_ GE917.out) | exact HB.out))) (fun k_ h_ => h_)) (Kd.R_lt (by (with_reducible repeat (first | apply Kd.R_alloc | apply Kd.R_drewN | apply Kd.R_drew)); exact HO_5.out))) (Kd.R_lt (by (with_reducible repeat (first | apply Kd.R_alloc | apply Kd.R_drewN | apply Kd.R_drew)); exact HO_7.out))) (Kd.R_lt (by (with_reducible repeat (first | apply Kd.R_alloc | apply Kd.R_drewN | apply Kd.R_drew)); exact HO_10.out))) (below_size (by repeat (first | (with_reducible first | exact HB.out | apply below_alloc | apply pw_below_drewN | apply below_drew1 | refine below_set ?_ GE891.out | refine below_set ?_ GE917.out) | exact HB.out))))
                      have n4_ := Aside0.mk (blk_below (g := gb891) (o := .cells #[.int .i64 a0_0, .slice (some ad916) l0_1.length c0_1] 24 (0, 0)) (by (with_reducible repeat (first | refine blk_drewN ?_ _ | refine blk_drew ?_ | refine blk_alloc ?_ _)); exact BK891.out) hb)
                      have n5_ := Aside0.mk (blk_below (g := gb917) (o := .cells #[.int .i64 ((rd_T37 l0_1 (rd t903 x9_3)).f0), .int .i64 ((rd_T37 l0_1 (rd t903 x9_3)).f1), .int .i64 ((rd_T37 l0_1 (rd t903 x9_3)).f2), .int .i64 ((rd_T37 l0_1 (rd t903 x9_3)).f3)] 37 (0, 0)) (by (with_reducible repeat (first | refine blk_drewN ?_ _ | refine blk_drew ?_ | refine blk_alloc ?_ _)); exact BK917.out) hb)
                      have n6_ := Aside0.mk (below_step (by repeat (first | (with_reducible first | exact HB.out | apply below_alloc | apply pw_below_drewN | apply below_drew1 | refine below_set ?_ GE891.out | refine below_set ?_ GE917.out) | exact HB.out)) hb)
                      clear HO_5; clear HO_7; clear HO_10; clear BK891; clear BK917; clear HB
                      have HO_5 := n0_
                      have HO_7 := n1_
                      have HO_10 := n2_
                      have HO920 := n3_
                      have BK891 := n4_
                      have BK917 := n5_
                      have HB := n6_
                      clear n0_ n1_ n2_ n3_ n4_ n5_ n6_
                      (try clear hb)
                      (try clear hb2)
                      (try clear hk)
                      (try clear hi)
                      (try clear ho0)
                      obtain ⟨Ao80, co80, eo80⟩ := Kd.R_slice HO920.out
                      (first | subst eo80 | (injection eo80 with f1_ f2_ f3_; have f4_ := f1_.symm; have f5_ := f3_.symm; clear f1_ f2_ f3_; subst f4_; subst f5_))
                      refine hK.out _ _ ⟨(blk_cell BK891.out 0).trans rfl, (blk_cell BK891.out 1).trans rfl, (blk_cell BK917.out 0).trans rfl, (blk_cell BK917.out 1).trans rfl, (blk_cell BK917.out 2).trans rfl, (blk_cell BK917.out 3).trans rfl⟩ (fun hHeld => ?_)
                      clear hK K
                      refine norm_ (a' := ?_) ?_ ?_
                      rotate_left
                      ·show Act.put _ (some 103) _ = _
                       simp only [Act.put, List.setIfInBounds_toArray, List.set_cons_zero, List.set_cons_succ, i64_w, i32_w]
                       rfl
                      refine one_ (i := 8) (N := some 108) #[true, true, true, true, true, true, true, true, true, false, false, false, false, false] rfl rfl (one_of HT_.out (by kernel_rfl)) (by decide) (fun K hK => ?_)
                      refine goes_ Try.func33 (by kernel_rfl) rfl #[.agg #[.int .i64 a0_0, .slice (some ad916) l0_1.length c0_1], .slice Ao80 t918.length co80, .int .i64 ((rd_T37 l0_1 (rd t903 x9_3)).f0), .int .i64 ((rd_T37 l0_1 (rd t903 x9_3)).f1)] (by rfl) rfl rfl (by (try simp only [List.map_toArray, List.map_cons, List.map_nil]); first | done | rfl | (simp only [List.length_drop, List.length_take]; rfl)) ?_
                      with_reducible refine (island_Connected.calls a0_0 _ _ l0_1 _ _ t918 ((rd_T37 l0_1 (rd t903 x9_3)).f0) ((rd_T37 l0_1 (rd t903 x9_3)).f1) t921 t922 _ ?side1 ?side2 ?side3 ?side4 A65.out).mono ?_
                      (case side1 => repeat (first | exact (Kd.C_below HR0_1.out HB.out) | (with_reducible refine Kd.C_alloc ?_ _) | (with_reducible refine Kd.C_drewN ?_ _) | (with_reducible refine Kd.C_drew ?_)))
                      (case side2 => exact HC0_1.out)
                      (case side3 => repeat (first | exact (Kd.R_reads' HO920.out).2.2 | (with_reducible refine Kd.C_alloc ?_ _) | (with_reducible refine Kd.C_drewN ?_ _) | (with_reducible refine Kd.C_drew ?_)))
                      (case side4 => exact (Kd.R_reads' HO920.out).2.1)
                      rintro e w81 ⟨rfl, hb⟩
                      refine ⟨_, rfl, ?_⟩
                      have n0_ := Aside0.mk (Kd.R_below (by (with_reducible repeat (first | apply Kd.R_alloc | apply Kd.R_drewN | apply Kd.R_drew)); exact HO_5.out) hb)
                      have n1_ := Aside0.mk (Kd.R_below (by (with_reducible repeat (first | apply Kd.R_alloc | apply Kd.R_drewN | apply Kd.R_drew)); exact HO_7.out) hb)
                      have n2_ := Aside0.mk (Kd.R_below (by (with_reducible repeat (first | apply Kd.R_alloc | apply Kd.R_drewN | apply Kd.R_drew)); exact HO_10.out) hb)
                      have n3_ := Aside0.mk (Kd.R_below (by (with_reducible repeat (first | apply Kd.R_alloc | apply Kd.R_drewN | apply Kd.R_drew)); exact HO920.out) hb)
                      have n4_ := Aside0.mk (blk_below (g := gb891) (o := .cells #[.int .i64 a0_0, .slice (some ad916) l0_1.length c0_1] 24 (0, 0)) (by (with_reducible repeat (first | refine blk_drewN ?_ _ | refine blk_drew ?_ | refine blk_alloc ?_ _)); exact BK891.out) hb)
                      have n5_ := Aside0.mk (blk_below (g := gb917) (o := .cells #[.int .i64 ((rd_T37 l0_1 (rd t903 x9_3)).f0), .int .i64 ((rd_T37 l0_1 (rd t903 x9_3)).f1), .int .i64 ((rd_T37 l0_1 (rd t903 x9_3)).f2), .int .i64 ((rd_T37 l0_1 (rd t903 x9_3)).f3)] 37 (0, 0)) (by (with_reducible repeat (first | refine blk_drewN ?_ _ | refine blk_drew ?_ | refine blk_alloc ?_ _)); exact BK917.out) hb)
                      have n6_ := Aside0.mk (below_step (by repeat (first | (with_reducible first | exact HB.out | apply below_alloc | apply pw_below_drewN | apply below_drew1 | refine below_set ?_ GE891.out | refine below_set ?_ GE917.out) | exact HB.out)) hb)
                      clear HO_5; clear HO_7; clear HO_10; clear HO920; clear BK891; clear BK917; clear HB
                      have HO_5 := n0_
                      have HO_7 := n1_
                      have HO_10 := n2_
                      have HO920 := n3_
                      have BK891 := n4_
                      have BK917 := n5_
                      have HB := n6_
                      clear n0_ n1_ n2_ n3_ n4_ n5_ n6_
                      (try clear hb)
                      (try clear hb2)
                      (try clear hk)
                      (try clear hi)
                      refine hK.out _ _ ⟨(blk_cell BK891.out 0).trans rfl, (blk_cell BK891.out 1).trans rfl, (blk_cell BK917.out 0).trans rfl, (blk_cell BK917.out 1).trans rfl, (blk_cell BK917.out 2).trans rfl, (blk_cell BK917.out 3).trans rfl⟩ (fun hHeld => ?_)
                      clear hK K
                      refine norm_ (a' := ?_) ?_ ?_
                      rotate_left
                      ·show Act.put _ (some 108) _ = _
                       simp only [Act.put, List.setIfInBounds_toArray, List.set_cons_zero, List.set_cons_succ, i64_w, i32_w]
                       rfl
                      refine pure_ (i := 9) (N := some 99) (v := ?_) (a' := ?_) #[true, true, true, true, true, true, true, true, true, true, false, false, false, false] rfl rfl (any_of HT_.out (by kernel_rfl)) (fun _ _ _ h => h) (Or.inl ⟨by rfl, ?_⟩) ?_ ?_
                      rotate_left; (intro w'; go_simp; with_reducible rfl); rotate_left; (simp only [Act.put, List.setIfInBounds_toArray, List.set_cons_zero, List.set_cons_succ, i64_w, i32_w]; rfl)
                      refine pure_ (i := 10) (N := some 109) (v := ?_) (a' := ?_) #[true, true, true, true, true, true, true, true, true, true, true, false, false, false] rfl rfl (any_of HT_.out (by kernel_rfl)) (fun _ _ _ h => h) (Or.inl ⟨by rfl, ?_⟩) ?_ ?_
                      rotate_left; (intro w'; go_simp; with_reducible rfl); rotate_left; (simp only [Act.put, List.setIfInBounds_toArray, List.set_cons_zero, List.set_cons_succ, i64_w, i32_w]; rfl)
                      refine pure_ (i := 11) (N := some 110) (v := ?_) (a' := ?_) #[true, true, true, true, true, true, true, true, true, true, true, true, false, false] rfl rfl (any_of HT_.out (by kernel_rfl)) (fun _ _ _ h => h) (Or.inl ⟨by rfl, ?_⟩) ?_ ?_
                      rotate_left; (intro w'; go_simp; with_reducible rfl); rotate_left; (simp only [Act.put, List.setIfInBounds_toArray, List.set_cons_zero, List.set_cons_succ, i64_w, i32_w]; rfl)
                      refine pure_ (i := 12) (N := some 13) (v := ?_) (a' := ?_) #[true, true, true, true, true, true, true, true, true, true, true, true, true, false] rfl rfl (any_of HT_.out (by kernel_rfl)) (fun _ _ _ h => h) (Or.inl ⟨by rfl, ?_⟩) ?_ ?_
                      rotate_left; (intro w'; go_simp; with_reducible rfl); rotate_left; (simp only [Act.put, List.setIfInBounds_toArray, List.set_cons_zero, List.set_cons_succ, i64_w, i32_w]; rfl)
                      refine pure_ (i := 13) (N := some 14) (v := ?_) (a' := ?_) #[true, true, true, true, true, true, true, true, true, true, true, true, true, true] rfl rfl (any_of HT_.out (by kernel_rfl)) (fun _ _ _ h => h) (Or.inl ⟨by rfl, ?_⟩) ?_ ?_
                      rotate_left; (intro w'; go_simp; with_reducible rfl); rotate_left; (simp only [Act.put, List.setIfInBounds_toArray, List.set_cons_zero, List.set_cons_succ, i64_w, i32_w]; rfl)
                      refine done_ (done_of HT_.out (by kernel_rfl)) ?_
                      have p923 : 0 ≤ (x9_3 : Int) := of_decide_eq_true (by first | (with_reducible assumption) | assumption)
                      have q923 : x9_3 < (t903.length : Int) := of_decide_eq_true (by first | (with_reducible assumption) | assumption)
                      obtain ⟨ad923, e923, hx923_0⟩ := Kd.at_int (Kd.R_reads' HO_7.out).2.2 x9_3 p923 q923
                      obtain rfl : ad915 = ad923 := (by injection e923)
                      replace p923 := eq_true p923
                      replace q923 := eq_true q923
                      try go_wp2_with (first | (go_at_call 60; (with_reducible refine (pylonlaw16_has.calls k5 _ _ t899 (rd t903 x9_3) t924 _ ?side1 ?side2 A67.out).mono ?_); (case side1 => repeat (first | exact (Kd.R_reads' HO_5.out).2.2 | (with_reducible refine Kd.C_alloc ?_ _) | (with_reducible refine Kd.C_drewN ?_ _) | (with_reducible refine Kd.C_drew ?_))); (case side2 => exact (Kd.R_reads' HO_5.out).2.1); rintro e w' ⟨rfl, ⟨nd, rfl⟩⟩))
                      go_ret
                      exact ⟨by first | rfl | (simp [errW_none, errW_some] <;> rfl) | (simp [*, errW_none, errW_some] <;> rfl), by repeat (first | (with_reducible first | exact HB.out | apply below_alloc | apply pw_below_drewN | apply below_drew1 | refine below_set ?_ GE891.out | refine below_set ?_ GE917.out) | exact HB.out)⟩
                     ·rw [if_neg c68] at H
                      have c68b0 : (t921 == t924) = false := by simpa using c68
                      (try (have c68b1 : decide (t921 = t924) = false := by simpa using c68))
                      (try (have c68b2 : (t921 == t924) = false := by simpa using c68))
                      (try (have c68b3 : ¬ (t921 = t924) := by simpa using c68))
                      clear c68
                      have H' := Aside0.mk H
                      clear H
                      obtain ⟨Ao82, co82, eo82⟩ := Kd.R_slice HO_5.out
                      subst eo82
                      try go_wp2
                      have n0_ := Aside0.mk (Kd.R_drew HO_5.out)
                      have n1_ := Aside0.mk (Kd.R_drew HO_7.out)
                      have n2_ := Aside0.mk (Kd.R_drew HO_10.out)
                      have n3_ := Aside0.mk (blk_drew BK891.out)
                      have n4_ := Aside0.mk (below_drew1 HB.out)
                      clear HO_5; clear HO_7; clear HO_10; clear BK891; clear HB
                      have HO_5 := n0_
                      have HO_7 := n1_
                      have HO_10 := n2_
                      have BK891 := n3_
                      have HB := n4_
                      clear n0_ n1_ n2_ n3_ n4_
                      have p915 : 0 ≤ (x9_3 : Int) := of_decide_eq_true (by first | (with_reducible assumption) | assumption)
                      have q915 : x9_3 < (t903.length : Int) := of_decide_eq_true (by first | (with_reducible assumption) | assumption)
                      obtain ⟨ad915, e915, hx915_0⟩ := Kd.at_int (Kd.R_reads' HO_7.out).2.2 x9_3 p915 q915
                      cases e915
                      replace p915 := eq_true p915
                      replace q915 := eq_true q915
                      have p916 : 0 ≤ ((rd t903 x9_3) : Int) := of_decide_eq_true (by first | (with_reducible assumption) | assumption)
                      have q916 : (rd t903 x9_3) < (l0_1.length : Int) := of_decide_eq_true (by first | (with_reducible assumption) | assumption)
                      obtain ⟨ad916, e916, hx916_0, hx916_1, hx916_2, hx916_3⟩ := at_T37 HR0_1.out (rd t903 x9_3) p916 q916
                      have hw916_3 := hx916_3
                      have hw916_2 := hx916_2
                      have hw916_1 := hx916_1
                      have hw916_0 := hx916_0
                      cases e916
                      replace hx916_0 := (HB.out.cell (World.block_lt_of_cell? w _ hx916_0)).trans hx916_0
                      replace hx916_1 := (HB.out.cell (World.block_lt_of_cell? w _ hx916_1)).trans hx916_1
                      replace hx916_2 := (HB.out.cell (World.block_lt_of_cell? w _ hx916_2)).trans hx916_2
                      replace hx916_3 := (HB.out.cell (World.block_lt_of_cell? w _ hx916_3)).trans hx916_3
                      replace p916 := eq_true p916
                      replace q916 := eq_true q916
                      refine start_ (n := 10) (S := fun w' => w'.cell? ⟨gb891, 0, none⟩ = some (.int .i64 a0_0) ∧ w'.cell? ⟨gb891, 1, none⟩ = some (.slice (some ad916) l0_1.length c0_1) ∧ w'.cell? (ad915.add (x9_3).toNat) = some (.int .i64 (rd t903 x9_3)) ∧ w'.cell? (ad916.add (((rd t903 x9_3)).toNat * 4)) = some (.int .i64 ((rd_T37 l0_1 (rd t903 x9_3)).f0)) ∧ w'.cell? ⟨(ad916.add (((rd t903 x9_3)).toNat * 4)).block, (ad916.add (((rd t903 x9_3)).toNat * 4)).off + 1, none⟩ = some (.int .i64 ((rd_T37 l0_1 (rd t903 x9_3)).f1)) ∧ w'.cell? ⟨(ad916.add (((rd t903 x9_3)).toNat * 4)).block, (ad916.add (((rd t903 x9_3)).toNat * 4)).off + 2, none⟩ = some (.int .i64 ((rd_T37 l0_1 (rd t903 x9_3)).f2)) ∧ w'.cell? ⟨(ad916.add (((rd t903 x9_3)).toNat * 4)).block, (ad916.add (((rd t903 x9_3)).toNat * 4)).off + 3, none⟩ = some (.int .i64 ((rd_T37 l0_1 (rd t903 x9_3)).f3))) (ds := []) #[false, false, false, false, false, false, false, false, false, false] (by kernel_rfl) rfl rfl ⟨(blk_cell BK891.out 0).trans rfl, (blk_cell BK891.out 1).trans rfl, hx915_0, ((HB.out.cell (World.block_lt_of_cell? w _ hw916_0)).trans hw916_0), ((HB.out.cell (World.block_lt_of_cell? w _ hw916_1)).trans hw916_1), ((HB.out.cell (World.block_lt_of_cell? w _ hw916_2)).trans hw916_2), ((HB.out.cell (World.block_lt_of_cell? w _ hw916_3)).trans hw916_3)⟩ (fun hHeld => ?_); refine with_tabW pylonlaw16_TreeGreedy.tab18 pylonlaw16_TreeGreedy.bits18 (fun HT_ HW_ => ?_)
                      generalize wr.drew = w83 at HO_5 HO_7 HO_10 BK891 HB hx915_0 hx916_0 hx916_1 hx916_2 hx916_3 hHeld ⊢
                      refine pure_ (i := 0) (N := some 91) (v := ?_) (a' := ?_) #[true, false, false, false, false, false, false, false, false, false] rfl rfl (any_of HT_.out (by kernel_rfl)) (fun _ _ _ h => h) (Or.inl ⟨by rfl, ?_⟩) ?_ ?_
                      rotate_left; (intro w'; go_simp; with_reducible rfl); rotate_left; (simp only [Act.put, List.setIfInBounds_toArray, List.set_cons_zero, List.set_cons_succ, i64_w, i32_w]; rfl)
                      refine pure_ (i := 2) (N := some 93) (v := ?_) (a' := ?_) #[true, false, true, false, false, false, false, false, false, false] rfl rfl (any_of HT_.out (by kernel_rfl)) (fun _ _ _ h => h) (Or.inl ⟨by rfl, ?_⟩) ?_ ?_
                      rotate_left; (intro w'; go_simp; with_reducible rfl); rotate_left; (simp only [Act.put, List.setIfInBounds_toArray, List.set_cons_zero, List.set_cons_succ, i64_w, i32_w]; rfl)
                      refine pure_ (i := 3) (N := some 94) (v := ?_) (a' := ?_) #[true, false, true, true, false, false, false, false, false, false] rfl rfl (any_of HT_.out (by kernel_rfl)) (fun _ _ _ h => h) (Or.inl ⟨by rfl, ?_⟩) ?_ ?_
                      rotate_left; (intro w'; go_simp; with_reducible rfl); rotate_left; (simp only [Act.put, List.setIfInBounds_toArray, List.set_cons_zero, List.set_cons_succ, i64_w, i32_w]; rfl)
                      refine pure_ (i := 4) (N := some 95) (v := ?_) (a' := ?_) #[true, false, true, true, true, false, false, false, false, false] rfl rfl (any_of HT_.out (by kernel_rfl)) (fun _ _ _ h => h) (Or.inl ⟨by rfl, ?_⟩) ?_ ?_
                      rotate_left; (intro w'; go_simp; with_reducible rfl); rotate_left; (simp only [Act.put, List.setIfInBounds_toArray, List.set_cons_zero, List.set_cons_succ, i64_w, i32_w]; rfl)
                      refine take_ (i := 1) (N := some 92) (v := ?_) (a' := ?_) #[true, true, true, true, true, false, false, false, false, false] rfl rfl (take_ofW HT_.out HW_.out (by kernel_rfl)) (fun _ _ _ h => h) (Or.inl ⟨by rfl, ?_⟩) hHeld ?_ ?_
                      rotate_left; (rintro w' ⟨s0, s1, s2, s3, s4, s5, s6⟩; go_simp; with_reducible rfl); rotate_left; (simp only [Act.put, List.setIfInBounds_toArray, List.set_cons_zero, List.set_cons_succ, i64_w, i32_w]; rfl)
                      refine take_ (i := 5) (N := some 96) (v := ?_) (a' := ?_) #[true, true, true, true, true, true, false, false, false, false] rfl rfl (take_ofW HT_.out HW_.out (by kernel_rfl)) (fun _ _ _ h => h) (Or.inl ⟨by rfl, ?_⟩) hHeld ?_ ?_
                      rotate_left; (rintro w' ⟨s0, s1, s2, s3, s4, s5, s6⟩; go_simp; with_reducible rfl); rotate_left; (simp only [Act.put, List.setIfInBounds_toArray, List.set_cons_zero, List.set_cons_succ, i64_w, i32_w]; rfl)
                      refine pure_ (i := 6) (N := some 97) (v := ?_) (a' := ?_) #[true, true, true, true, true, true, true, false, false, false] rfl rfl (any_of HT_.out (by kernel_rfl)) (fun _ _ _ h => h) (Or.inl ⟨by rfl, ?_⟩) ?_ ?_
                      rotate_left; (intro w'; go_simp; with_reducible rfl); rotate_left; (simp only [Act.put, List.setIfInBounds_toArray, List.set_cons_zero, List.set_cons_succ, i64_w, i32_w]; rfl)
                      refine take_ (i := 7) (N := some 98) (v := ?_) (a' := ?_) #[true, true, true, true, true, true, true, true, false, false] rfl rfl (take_ofW HT_.out HW_.out (by kernel_rfl)) (fun _ _ _ h => h) (Or.inl ⟨by rfl, ?_⟩) hHeld ?_ ?_
                      rotate_left; (rintro w' ⟨s0, s1, s2, s3, s4, s5, s6⟩; go_simp; with_reducible rfl); rotate_left; (simp only [Act.put, List.setIfInBounds_toArray, List.set_cons_zero, List.set_cons_succ, i64_w, i32_w]; rfl)
                      refine one_ (i := 8) (N := some 12) #[true, true, true, true, true, true, true, true, true, false] rfl rfl (one_of HT_.out (by kernel_rfl)) (by decide) (fun K hK => ?_)
                      refine box_step ?hg (N := 12) ?hd (cs := #[.int .i64 0, .int .i64 0, .int .i64 0, .int .i64 0]) (t := 37) ?hr ?_; (case hd => rfl); (case hg => rfl); (case hr => first | (go_simp; done) | (go_simp; rfl))
                      intro gb917 hg w84 hbox hb
                      have HS2_ := (hb.cell (World.block_lt_of_cell? _ _ (hHeld.2.2.1))).trans (hHeld.2.2.1)
                      have n0_ := Aside0.mk (Kd.R_below (by (with_reducible repeat (first | apply Kd.R_alloc | apply Kd.R_drewN | apply Kd.R_drew)); exact HO_5.out) hb)
                      have n1_ := Aside0.mk (Kd.R_below (by (with_reducible repeat (first | apply Kd.R_alloc | apply Kd.R_drewN | apply Kd.R_drew)); exact HO_7.out) hb)
                      have n2_ := Aside0.mk (Kd.R_below (by (with_reducible repeat (first | apply Kd.R_alloc | apply Kd.R_drewN | apply Kd.R_drew)); exact HO_10.out) hb)
                      have n3_ := Aside0.mk (blk_below (g := gb891) (o := .cells #[.int .i64 a0_0, .slice (some ad916) l0_1.length c0_1] 24 (0, 0)) (by (with_reducible repeat (first | refine blk_drewN ?_ _ | refine blk_drew ?_ | refine blk_alloc ?_ _)); exact BK891.out) hb)
                      have n4_ := Aside0.mk (below_step (by repeat (first | (with_reducible first | exact HB.out | apply below_alloc | apply pw_below_drewN | apply below_drew1 | refine below_set ?_ GE891.out) | exact HB.out)) hb)
                      have n5_ := Aside0.mk (hbox)
                      have n6_ := Aside0.mk ((by rw [hg]; exact (below_size (by repeat (first | (with_reducible first | exact HB.out | apply below_alloc | apply pw_below_drewN | apply below_drew1 | refine below_set ?_ GE891.out) | exact HB.out))) : w.heap.size ≤ gb917))
                      have n7_ := Aside0.mk ((by rw [hg]; exact (below_size (by repeat (first | (with_reducible first | exact HB.out | apply below_alloc | apply pw_below_drewN | apply below_drew1 | refine below_set ?_ GE891.out) | exact HB.out))) : w.heap.size ≤ gb917))
                      have n8_ := Aside0.mk ((by rw [hg]; exact Nat.ne_of_lt (blk_lt (g := gb891) (o := .cells #[.int .i64 a0_0, .slice (some ad916) l0_1.length c0_1] 24 (0, 0)) (by (with_reducible repeat (first | refine blk_drewN ?_ _ | refine blk_drew ?_ | refine blk_alloc ?_ _)); exact BK891.out)) : gb891 ≠ gb917))
                      have n9_ := Aside0.mk ((by rw [hg]; exact Nat.ne_of_gt (blk_lt (g := gb891) (o := .cells #[.int .i64 a0_0, .slice (some ad916) l0_1.length c0_1] 24 (0, 0)) (by (with_reducible repeat (first | refine blk_drewN ?_ _ | refine blk_drew ?_ | refine blk_alloc ?_ _)); exact BK891.out)) : gb917 ≠ gb891))
                      clear HO_5; clear HO_7; clear HO_10; clear BK891; clear HB
                      have HO_5 := n0_
                      have HO_7 := n1_
                      have HO_10 := n2_
                      have BK891 := n3_
                      have HB := n4_
                      have BK917 := n5_
                      have GW917 := n6_
                      have GE917 := n7_
                      have NB891_917 := n8_
                      have NB917_891 := n9_
                      clear n0_ n1_ n2_ n3_ n4_ n5_ n6_ n7_ n8_ n9_; clear hb hbox hg
                      refine hK.out _ _ ⟨(blk_cell BK891.out 0).trans rfl, (blk_cell BK891.out 1).trans rfl, HS2_, ((HB.out.cell (World.block_lt_of_cell? w _ hw916_0)).trans hw916_0), ((HB.out.cell (World.block_lt_of_cell? w _ hw916_1)).trans hw916_1), ((HB.out.cell (World.block_lt_of_cell? w _ hw916_2)).trans hw916_2), ((HB.out.cell (World.block_lt_of_cell? w _ hw916_3)).trans hw916_3)⟩ (fun hHeld => ?_)
                      clear hK K
                      refine norm_ (a' := ?_) ?_ ?_
                      rotate_left
                      ·show Act.put _ (some 12) _ = _
                       simp only [Act.put, List.setIfInBounds_toArray, List.set_cons_zero, List.set_cons_succ, i64_w, i32_w]
                       rfl
                      refine one_ (i := 9) (N := none) #[true, true, true, true, true, true, true, true, true, true] rfl rfl (one_of HT_.out (by kernel_rfl)) (by decide) (fun K hK => ?_)
                      have hs85 : w84.cell? ⟨gb917, 0, none⟩ = some (.int .i64 0) := (blk_cell BK917.out 0).trans rfl
                      have hfs85 := blk_frozen BK917.out 0
                      have hns85_0 := NB891_917.out
                      have hms85_0 := NB917_891.out
                      have hs86 : w84.cell? ⟨gb917, 1, none⟩ = some (.int .i64 0) := (blk_cell BK917.out 1).trans rfl
                      have hfs86 := blk_frozen BK917.out 1
                      have hns86_0 := NB891_917.out
                      have hms86_0 := NB917_891.out
                      have hs87 : w84.cell? ⟨gb917, 2, none⟩ = some (.int .i64 0) := (blk_cell BK917.out 2).trans rfl
                      have hfs87 := blk_frozen BK917.out 2
                      have hns87_0 := NB891_917.out
                      have hms87_0 := NB917_891.out
                      have hs88 : w84.cell? ⟨gb917, 3, none⟩ = some (.int .i64 0) := (blk_cell BK917.out 3).trans rfl
                      have hfs88 := blk_frozen BK917.out 3
                      have hns88_0 := NB891_917.out
                      have hms88_0 := NB917_891.out
                      refine skip_ (w1 := ?_) (by rfl) rfl ?_ ?_
                      rotate_left
                      ·go_simp
                       rfl
                      refine hK.out _ _ ⟨((cell_far (p := ⟨gb917, _, none⟩) NB891_917.out _).trans (((cell_far (p := ⟨gb917, _, none⟩) NB891_917.out _).trans (((cell_far (p := ⟨gb917, _, none⟩) NB891_917.out _).trans (((cell_far (p := ⟨gb917, _, none⟩) NB891_917.out _).trans (hHeld.1)))))))), ((cell_far (p := ⟨gb917, _, none⟩) NB891_917.out _).trans (((cell_far (p := ⟨gb917, _, none⟩) NB891_917.out _).trans (((cell_far (p := ⟨gb917, _, none⟩) NB891_917.out _).trans (((cell_far (p := ⟨gb917, _, none⟩) NB891_917.out _).trans (hHeld.2.1)))))))), ((cell_far (p := ⟨gb917, _, none⟩) (by first | exact Kd.own_blk (Kd.R_ne HO_7.out BK917.out (by decide)) | (rw [add_block]; exact Kd.own_blk (Kd.R_ne HO_7.out BK917.out (by decide))) | (show (Addr.add _ _).block ≠ _; rw [add_block]; exact Kd.own_blk (Kd.R_ne HO_7.out BK917.out (by decide))) | (dsimp only; exact Kd.own_blk (Kd.R_ne HO_7.out BK917.out (by decide)))) _).trans (((cell_far (p := ⟨gb917, _, none⟩) (by first | exact Kd.own_blk (Kd.R_ne HO_7.out BK917.out (by decide)) | (rw [add_block]; exact Kd.own_blk (Kd.R_ne HO_7.out BK917.out (by decide))) | (show (Addr.add _ _).block ≠ _; rw [add_block]; exact Kd.own_blk (Kd.R_ne HO_7.out BK917.out (by decide))) | (dsimp only; exact Kd.own_blk (Kd.R_ne HO_7.out BK917.out (by decide)))) _).trans (((cell_far (p := ⟨gb917, _, none⟩) (by first | exact Kd.own_blk (Kd.R_ne HO_7.out BK917.out (by decide)) | (rw [add_block]; exact Kd.own_blk (Kd.R_ne HO_7.out BK917.out (by decide))) | (show (Addr.add _ _).block ≠ _; rw [add_block]; exact Kd.own_blk (Kd.R_ne HO_7.out BK917.out (by decide))) | (dsimp only; exact Kd.own_blk (Kd.R_ne HO_7.out BK917.out (by decide)))) _).trans (((cell_far (p := ⟨gb917, _, none⟩) (by first | exact Kd.own_blk (Kd.R_ne HO_7.out BK917.out (by decide)) | (rw [add_block]; exact Kd.own_blk (Kd.R_ne HO_7.out BK917.out (by decide))) | (show (Addr.add _ _).block ≠ _; rw [add_block]; exact Kd.own_blk (Kd.R_ne HO_7.out BK917.out (by decide))) | (dsimp only; exact Kd.own_blk (Kd.R_ne HO_7.out BK917.out (by decide)))) _).trans (hHeld.2.2.1)))))))), ((cell_far (p := ⟨gb917, _, none⟩) (by first | exact Nat.ne_of_lt (Nat.lt_of_lt_of_le (by have := World.block_lt_of_cell? _ _ hw916_0; first | rwa [add_block] at this | exact this) GW917.out) | (rw [add_block]; exact Nat.ne_of_lt (Nat.lt_of_lt_of_le (by have := World.block_lt_of_cell? _ _ hw916_0; first | rwa [add_block] at this | exact this) GW917.out)) | (show (Addr.add _ _).block ≠ _; rw [add_block]; exact Nat.ne_of_lt (Nat.lt_of_lt_of_le (by have := World.block_lt_of_cell? _ _ hw916_0; first | rwa [add_block] at this | exact this) GW917.out)) | (dsimp only; exact Nat.ne_of_lt (Nat.lt_of_lt_of_le (by have := World.block_lt_of_cell? _ _ hw916_0; first | rwa [add_block] at this | exact this) GW917.out))) _).trans (((cell_far (p := ⟨gb917, _, none⟩) (by first | exact Nat.ne_of_lt (Nat.lt_of_lt_of_le (by have := World.block_lt_of_cell? _ _ hw916_0; first | rwa [add_block] at this | exact this) GW917.out) | (rw [add_block]; exact Nat.ne_of_lt (Nat.lt_of_lt_of_le (by have := World.block_lt_of_cell? _ _ hw916_0; first | rwa [add_block] at this | exact this) GW917.out)) | (show (Addr.add _ _).block ≠ _; rw [add_block]; exact Nat.ne_of_lt (Nat.lt_of_lt_of_le (by have := World.block_lt_of_cell? _ _ hw916_0; first | rwa [add_block] at this | exact this) GW917.out)) | (dsimp only; exact Nat.ne_of_lt (Nat.lt_of_lt_of_le (by have := World.block_lt_of_cell? _ _ hw916_0; first | rwa [add_block] at this | exact this) GW917.out))) _).trans (((cell_far (p := ⟨gb917, _, none⟩) (by first | exact Nat.ne_of_lt (Nat.lt_of_lt_of_le (by have := World.block_lt_of_cell? _ _ hw916_0; first | rwa [add_block] at this | exact this) GW917.out) | (rw [add_block]; exact Nat.ne_of_lt (Nat.lt_of_lt_of_le (by have := World.block_lt_of_cell? _ _ hw916_0; first | rwa [add_block] at this | exact this) GW917.out)) | (show (Addr.add _ _).block ≠ _; rw [add_block]; exact Nat.ne_of_lt (Nat.lt_of_lt_of_le (by have := World.block_lt_of_cell? _ _ hw916_0; first | rwa [add_block] at this | exact this) GW917.out)) | (dsimp only; exact Nat.ne_of_lt (Nat.lt_of_lt_of_le (by have := World.block_lt_of_cell? _ _ hw916_0; first | rwa [add_block] at this | exact this) GW917.out))) _).trans (((cell_far (p := ⟨gb917, _, none⟩) (by first | exact Nat.ne_of_lt (Nat.lt_of_lt_of_le (by have := World.block_lt_of_cell? _ _ hw916_0; first | rwa [add_block] at this | exact this) GW917.out) | (rw [add_block]; exact Nat.ne_of_lt (Nat.lt_of_lt_of_le (by have := World.block_lt_of_cell? _ _ hw916_0; first | rwa [add_block] at this | exact this) GW917.out)) | (show (Addr.add _ _).block ≠ _; rw [add_block]; exact Nat.ne_of_lt (Nat.lt_of_lt_of_le (by have := World.block_lt_of_cell? _ _ hw916_0; first | rwa [add_block] at this | exact this) GW917.out)) | (dsimp only; exact Nat.ne_of_lt (Nat.lt_of_lt_of_le (by have := World.block_lt_of_cell? _ _ hw916_0; first | rwa [add_block] at this | exact this) GW917.out))) _).trans (hHeld.2.2.2.1)))))))), ((cell_far (p := ⟨gb917, _, none⟩) (by first | exact Nat.ne_of_lt (Nat.lt_of_lt_of_le (by have := World.block_lt_of_cell? _ _ hw916_1; first | rwa [add_block] at this | exact this) GW917.out) | (rw [add_block]; exact Nat.ne_of_lt (Nat.lt_of_lt_of_le (by have := World.block_lt_of_cell? _ _ hw916_1; first | rwa [add_block] at this | exact this) GW917.out)) | (show (Addr.add _ _).block ≠ _; rw [add_block]; exact Nat.ne_of_lt (Nat.lt_of_lt_of_le (by have := World.block_lt_of_cell? _ _ hw916_1; first | rwa [add_block] at this | exact this) GW917.out)) | (dsimp only; exact Nat.ne_of_lt (Nat.lt_of_lt_of_le (by have := World.block_lt_of_cell? _ _ hw916_1; first | rwa [add_block] at this | exact this) GW917.out))) _).trans (((cell_far (p := ⟨gb917, _, none⟩) (by first | exact Nat.ne_of_lt (Nat.lt_of_lt_of_le (by have := World.block_lt_of_cell? _ _ hw916_1; first | rwa [add_block] at this | exact this) GW917.out) | (rw [add_block]; exact Nat.ne_of_lt (Nat.lt_of_lt_of_le (by have := World.block_lt_of_cell? _ _ hw916_1; first | rwa [add_block] at this | exact this) GW917.out)) | (show (Addr.add _ _).block ≠ _; rw [add_block]; exact Nat.ne_of_lt (Nat.lt_of_lt_of_le (by have := World.block_lt_of_cell? _ _ hw916_1; first | rwa [add_block] at this | exact this) GW917.out)) | (dsimp only; exact Nat.ne_of_lt (Nat.lt_of_lt_of_le (by have := World.block_lt_of_cell? _ _ hw916_1; first | rwa [add_block] at this | exact this) GW917.out))) _).trans (((cell_far (p := ⟨gb917, _, none⟩) (by first | exact Nat.ne_of_lt (Nat.lt_of_lt_of_le (by have := World.block_lt_of_cell? _ _ hw916_1; first | rwa [add_block] at this | exact this) GW917.out) | (rw [add_block]; exact Nat.ne_of_lt (Nat.lt_of_lt_of_le (by have := World.block_lt_of_cell? _ _ hw916_1; first | rwa [add_block] at this | exact this) GW917.out)) | (show (Addr.add _ _).block ≠ _; rw [add_block]; exact Nat.ne_of_lt (Nat.lt_of_lt_of_le (by have := World.block_lt_of_cell? _ _ hw916_1; first | rwa [add_block] at this | exact this) GW917.out)) | (dsimp only; exact Nat.ne_of_lt (Nat.lt_of_lt_of_le (by have := World.block_lt_of_cell? _ _ hw916_1; first | rwa [add_block] at this | exact this) GW917.out))) _).trans (((cell_far (p := ⟨gb917, _, none⟩) (by first | exact Nat.ne_of_lt (Nat.lt_of_lt_of_le (by have := World.block_lt_of_cell? _ _ hw916_1; first | rwa [add_block] at this | exact this) GW917.out) | (rw [add_block]; exact Nat.ne_of_lt (Nat.lt_of_lt_of_le (by have := World.block_lt_of_cell? _ _ hw916_1; first | rwa [add_block] at this | exact this) GW917.out)) | (show (Addr.add _ _).block ≠ _; rw [add_block]; exact Nat.ne_of_lt (Nat.lt_of_lt_of_le (by have := World.block_lt_of_cell? _ _ hw916_1; first | rwa [add_block] at this | exact this) GW917.out)) | (dsimp only; exact Nat.ne_of_lt (Nat.lt_of_lt_of_le (by have := World.block_lt_of_cell? _ _ hw916_1; first | rwa [add_block] at this | exact this) GW917.out))) _).trans (hHeld.2.2.2.2.1)))))))), ((cell_far (p := ⟨gb917, _, none⟩) (by first | exact Nat.ne_of_lt (Nat.lt_of_lt_of_le (by have := World.block_lt_of_cell? _ _ hw916_2; first | rwa [add_block] at this | exact this) GW917.out) | (rw [add_block]; exact Nat.ne_of_lt (Nat.lt_of_lt_of_le (by have := World.block_lt_of_cell? _ _ hw916_2; first | rwa [add_block] at this | exact this) GW917.out)) | (show (Addr.add _ _).block ≠ _; rw [add_block]; exact Nat.ne_of_lt (Nat.lt_of_lt_of_le (by have := World.block_lt_of_cell? _ _ hw916_2; first | rwa [add_block] at this | exact this) GW917.out)) | (dsimp only; exact Nat.ne_of_lt (Nat.lt_of_lt_of_le (by have := World.block_lt_of_cell? _ _ hw916_2; first | rwa [add_block] at this | exact this) GW917.out))) _).trans (((cell_far (p := ⟨gb917, _, none⟩) (by first | exact Nat.ne_of_lt (Nat.lt_of_lt_of_le (by have := World.block_lt_of_cell? _ _ hw916_2; first | rwa [add_block] at this | exact this) GW917.out) | (rw [add_block]; exact Nat.ne_of_lt (Nat.lt_of_lt_of_le (by have := World.block_lt_of_cell? _ _ hw916_2; first | rwa [add_block] at this | exact this) GW917.out)) | (show (Addr.add _ _).block ≠ _; rw [add_block]; exact Nat.ne_of_lt (Nat.lt_of_lt_of_le (by have := World.block_lt_of_cell? _ _ hw916_2; first | rwa [add_block] at this | exact this) GW917.out)) | (dsimp only; exact Nat.ne_of_lt (Nat.lt_of_lt_of_le (by have := World.block_lt_of_cell? _ _ hw916_2; first | rwa [add_block] at this | exact this) GW917.out))) _).trans (((cell_far (p := ⟨gb917, _, none⟩) (by first | exact Nat.ne_of_lt (Nat.lt_of_lt_of_le (by have := World.block_lt_of_cell? _ _ hw916_2; first | rwa [add_block] at this | exact this) GW917.out) | (rw [add_block]; exact Nat.ne_of_lt (Nat.lt_of_lt_of_le (by have := World.block_lt_of_cell? _ _ hw916_2; first | rwa [add_block] at this | exact this) GW917.out)) | (show (Addr.add _ _).block ≠ _; rw [add_block]; exact Nat.ne_of_lt (Nat.lt_of_lt_of_le (by have := World.block_lt_of_cell? _ _ hw916_2; first | rwa [add_block] at this | exact this) GW917.out)) | (dsimp only; exact Nat.ne_of_lt (Nat.lt_of_lt_of_le (by have := World.block_lt_of_cell? _ _ hw916_2; first | rwa [add_block] at this | exact this) GW917.out))) _).trans (((cell_far (p := ⟨gb917, _, none⟩) (by first | exact Nat.ne_of_lt (Nat.lt_of_lt_of_le (by have := World.block_lt_of_cell? _ _ hw916_2; first | rwa [add_block] at this | exact this) GW917.out) | (rw [add_block]; exact Nat.ne_of_lt (Nat.lt_of_lt_of_le (by have := World.block_lt_of_cell? _ _ hw916_2; first | rwa [add_block] at this | exact this) GW917.out)) | (show (Addr.add _ _).block ≠ _; rw [add_block]; exact Nat.ne_of_lt (Nat.lt_of_lt_of_le (by have := World.block_lt_of_cell? _ _ hw916_2; first | rwa [add_block] at this | exact this) GW917.out)) | (dsimp only; exact Nat.ne_of_lt (Nat.lt_of_lt_of_le (by have := World.block_lt_of_cell? _ _ hw916_2; first | rwa [add_block] at this | exact this) GW917.out))) _).trans (hHeld.2.2.2.2.2.1)))))))), ((cell_far (p := ⟨gb917, _, none⟩) (by first | exact Nat.ne_of_lt (Nat.lt_of_lt_of_le (by have := World.block_lt_of_cell? _ _ hw916_3; first | rwa [add_block] at this | exact this) GW917.out) | (rw [add_block]; exact Nat.ne_of_lt (Nat.lt_of_lt_of_le (by have := World.block_lt_of_cell? _ _ hw916_3; first | rwa [add_block] at this | exact this) GW917.out)) | (show (Addr.add _ _).block ≠ _; rw [add_block]; exact Nat.ne_of_lt (Nat.lt_of_lt_of_le (by have := World.block_lt_of_cell? _ _ hw916_3; first | rwa [add_block] at this | exact this) GW917.out)) | (dsimp only; exact Nat.ne_of_lt (Nat.lt_of_lt_of_le (by have := World.block_lt_of_cell? _ _ hw916_3; first | rwa [add_block] at this | exact this) GW917.out))) _).trans (((cell_far (p := ⟨gb917, _, none⟩) (by first | exact Nat.ne_of_lt (Nat.lt_of_lt_of_le (by have := World.block_lt_of_cell? _ _ hw916_3; first | rwa [add_block] at this | exact this) GW917.out) | (rw [add_block]; exact Nat.ne_of_lt (Nat.lt_of_lt_of_le (by have := World.block_lt_of_cell? _ _ hw916_3; first | rwa [add_block] at this | exact this) GW917.out)) | (show (Addr.add _ _).block ≠ _; rw [add_block]; exact Nat.ne_of_lt (Nat.lt_of_lt_of_le (by have := World.block_lt_of_cell? _ _ hw916_3; first | rwa [add_block] at this | exact this) GW917.out)) | (dsimp only; exact Nat.ne_of_lt (Nat.lt_of_lt_of_le (by have := World.block_lt_of_cell? _ _ hw916_3; first | rwa [add_block] at this | exact this) GW917.out))) _).trans (((cell_far (p := ⟨gb917, _, none⟩) (by first | exact Nat.ne_of_lt (Nat.lt_of_lt_of_le (by have := World.block_lt_of_cell? _ _ hw916_3; first | rwa [add_block] at this | exact this) GW917.out) | (rw [add_block]; exact Nat.ne_of_lt (Nat.lt_of_lt_of_le (by have := World.block_lt_of_cell? _ _ hw916_3; first | rwa [add_block] at this | exact this) GW917.out)) | (show (Addr.add _ _).block ≠ _; rw [add_block]; exact Nat.ne_of_lt (Nat.lt_of_lt_of_le (by have := World.block_lt_of_cell? _ _ hw916_3; first | rwa [add_block] at this | exact this) GW917.out)) | (dsimp only; exact Nat.ne_of_lt (Nat.lt_of_lt_of_le (by have := World.block_lt_of_cell? _ _ hw916_3; first | rwa [add_block] at this | exact this) GW917.out))) _).trans (((cell_far (p := ⟨gb917, _, none⟩) (by first | exact Nat.ne_of_lt (Nat.lt_of_lt_of_le (by have := World.block_lt_of_cell? _ _ hw916_3; first | rwa [add_block] at this | exact this) GW917.out) | (rw [add_block]; exact Nat.ne_of_lt (Nat.lt_of_lt_of_le (by have := World.block_lt_of_cell? _ _ hw916_3; first | rwa [add_block] at this | exact this) GW917.out)) | (show (Addr.add _ _).block ≠ _; rw [add_block]; exact Nat.ne_of_lt (Nat.lt_of_lt_of_le (by have := World.block_lt_of_cell? _ _ hw916_3; first | rwa [add_block] at this | exact this) GW917.out)) | (dsimp only; exact Nat.ne_of_lt (Nat.lt_of_lt_of_le (by have := World.block_lt_of_cell? _ _ hw916_3; first | rwa [add_block] at this | exact this) GW917.out))) _).trans (hHeld.2.2.2.2.2.2))))))))⟩ (fun hHeld => ?_)
                      clear hK K
                      refine done_ (done_of HT_.out (by kernel_rfl)) ?_
                      try go_wp2
                      have n0_ : Aside0 (Kd.R (Kd.int .i64) 3 ((((w84.setCell ⟨gb917, 0, none⟩ (.int .i64 ((rd_T37 l0_1 (rd t903 x9_3)).f0))).setCell ⟨gb917, 1, none⟩ (.int .i64 ((rd_T37 l0_1 (rd t903 x9_3)).f1))).setCell ⟨gb917, 2, none⟩ (.int .i64 ((rd_T37 l0_1 (rd t903 x9_3)).f2))).setCell ⟨gb917, 3, none⟩ (.int .i64 ((rd_T37 l0_1 (rd t903 x9_3)).f3))) w.heap.size (fun k_ => (w.heap.size ≤ k_) ∧ some k_ ≠ (.slice (some ad915) t903.length co43 : Value).ownBlock ∧ some k_ ≠ (u10 : Value).ownBlock) (.slice Ao82 t899.length co82) t899) := ⟨by (with_reducible repeat (first | apply Kd.R_alloc | apply Kd.R_drewN | apply Kd.R_drew)); exact Kd.R_mono (Kd.R_far (p := ⟨gb917, 3, none⟩) (Kd.R_far (p := ⟨gb917, 2, none⟩) (Kd.R_far (p := ⟨gb917, 1, none⟩) (Kd.R_far (p := ⟨gb917, 0, none⟩) (Kd.R_types HO_5.out BK917.out (by decide)) (fun _ hk => hk.2) (.int .i64 ((rd_T37 l0_1 (rd t903 x9_3)).f0))) (fun _ hk => hk.2) (.int .i64 ((rd_T37 l0_1 (rd t903 x9_3)).f1))) (fun _ hk => hk.2) (.int .i64 ((rd_T37 l0_1 (rd t903 x9_3)).f2))) (fun _ hk => hk.2) (.int .i64 ((rd_T37 l0_1 (rd t903 x9_3)).f3))) (fun _ hk => ⟨hk.1.1, ⟨hk.1.2.1, hk.1.2.2⟩⟩)⟩
                      have n1_ : Aside0 (Kd.R (Kd.int .i64) 3 ((((w84.setCell ⟨gb917, 0, none⟩ (.int .i64 ((rd_T37 l0_1 (rd t903 x9_3)).f0))).setCell ⟨gb917, 1, none⟩ (.int .i64 ((rd_T37 l0_1 (rd t903 x9_3)).f1))).setCell ⟨gb917, 2, none⟩ (.int .i64 ((rd_T37 l0_1 (rd t903 x9_3)).f2))).setCell ⟨gb917, 3, none⟩ (.int .i64 ((rd_T37 l0_1 (rd t903 x9_3)).f3))) w.heap.size (fun k_ => (w.heap.size ≤ k_) ∧ some k_ ≠ (.slice Ao82 t899.length co82 : Value).ownBlock ∧ some k_ ≠ (u10 : Value).ownBlock) (.slice (some ad915) t903.length co43) t903) := ⟨by (with_reducible repeat (first | apply Kd.R_alloc | apply Kd.R_drewN | apply Kd.R_drew)); exact Kd.R_mono (Kd.R_far (p := ⟨gb917, 3, none⟩) (Kd.R_far (p := ⟨gb917, 2, none⟩) (Kd.R_far (p := ⟨gb917, 1, none⟩) (Kd.R_far (p := ⟨gb917, 0, none⟩) (Kd.R_types HO_7.out BK917.out (by decide)) (fun _ hk => hk.2) (.int .i64 ((rd_T37 l0_1 (rd t903 x9_3)).f0))) (fun _ hk => hk.2) (.int .i64 ((rd_T37 l0_1 (rd t903 x9_3)).f1))) (fun _ hk => hk.2) (.int .i64 ((rd_T37 l0_1 (rd t903 x9_3)).f2))) (fun _ hk => hk.2) (.int .i64 ((rd_T37 l0_1 (rd t903 x9_3)).f3))) (fun _ hk => ⟨hk.1.1, ⟨hk.1.2.1, hk.1.2.2⟩⟩)⟩
                      have n2_ : Aside0 (Kd.R (Kd.int .i64) 3 ((((w84.setCell ⟨gb917, 0, none⟩ (.int .i64 ((rd_T37 l0_1 (rd t903 x9_3)).f0))).setCell ⟨gb917, 1, none⟩ (.int .i64 ((rd_T37 l0_1 (rd t903 x9_3)).f1))).setCell ⟨gb917, 2, none⟩ (.int .i64 ((rd_T37 l0_1 (rd t903 x9_3)).f2))).setCell ⟨gb917, 3, none⟩ (.int .i64 ((rd_T37 l0_1 (rd t903 x9_3)).f3))) w.heap.size (fun k_ => (w.heap.size ≤ k_) ∧ some k_ ≠ (.slice Ao82 t899.length co82 : Value).ownBlock ∧ some k_ ≠ (.slice (some ad915) t903.length co43 : Value).ownBlock) u10 x10_5) := ⟨by (with_reducible repeat (first | apply Kd.R_alloc | apply Kd.R_drewN | apply Kd.R_drew)); exact Kd.R_mono (Kd.R_far (p := ⟨gb917, 3, none⟩) (Kd.R_far (p := ⟨gb917, 2, none⟩) (Kd.R_far (p := ⟨gb917, 1, none⟩) (Kd.R_far (p := ⟨gb917, 0, none⟩) (Kd.R_types HO_10.out BK917.out (by decide)) (fun _ hk => hk.2) (.int .i64 ((rd_T37 l0_1 (rd t903 x9_3)).f0))) (fun _ hk => hk.2) (.int .i64 ((rd_T37 l0_1 (rd t903 x9_3)).f1))) (fun _ hk => hk.2) (.int .i64 ((rd_T37 l0_1 (rd t903 x9_3)).f2))) (fun _ hk => hk.2) (.int .i64 ((rd_T37 l0_1 (rd t903 x9_3)).f3))) (fun _ hk => ⟨hk.1.1, ⟨hk.1.2.1, hk.1.2.2⟩⟩)⟩
                      have n3_ : Aside0 (((((w84.setCell ⟨gb917, 0, none⟩ (.int .i64 ((rd_T37 l0_1 (rd t903 x9_3)).f0))).setCell ⟨gb917, 1, none⟩ (.int .i64 ((rd_T37 l0_1 (rd t903 x9_3)).f1))).setCell ⟨gb917, 2, none⟩ (.int .i64 ((rd_T37 l0_1 (rd t903 x9_3)).f2))).setCell ⟨gb917, 3, none⟩ (.int .i64 ((rd_T37 l0_1 (rd t903 x9_3)).f3))).heap[gb891]? = some (.cells #[.int .i64 a0_0, .slice (some ad916) l0_1.length c0_1] 24 (0, 0))) := ⟨by (with_reducible repeat (first | refine blk_drewN ?_ _ | refine blk_drew ?_ | refine blk_alloc ?_ _)); refine blk_far ?_ NB891_917.out _; (with_reducible repeat (first | refine blk_drewN ?_ _ | refine blk_drew ?_ | refine blk_alloc ?_ _)); refine blk_far ?_ NB891_917.out _; (with_reducible repeat (first | refine blk_drewN ?_ _ | refine blk_drew ?_ | refine blk_alloc ?_ _)); refine blk_far ?_ NB891_917.out _; (with_reducible repeat (first | refine blk_drewN ?_ _ | refine blk_drew ?_ | refine blk_alloc ?_ _)); refine blk_far ?_ NB891_917.out _; (with_reducible repeat (first | refine blk_drewN ?_ _ | refine blk_drew ?_ | refine blk_alloc ?_ _)); exact BK891.out⟩
                      have n4_ : Aside0 (((((w84.setCell ⟨gb917, 0, none⟩ (.int .i64 ((rd_T37 l0_1 (rd t903 x9_3)).f0))).setCell ⟨gb917, 1, none⟩ (.int .i64 ((rd_T37 l0_1 (rd t903 x9_3)).f1))).setCell ⟨gb917, 2, none⟩ (.int .i64 ((rd_T37 l0_1 (rd t903 x9_3)).f2))).setCell ⟨gb917, 3, none⟩ (.int .i64 ((rd_T37 l0_1 (rd t903 x9_3)).f3))).heap[gb917]? = some (.cells #[.int .i64 ((rd_T37 l0_1 (rd t903 x9_3)).f0), .int .i64 ((rd_T37 l0_1 (rd t903 x9_3)).f1), .int .i64 ((rd_T37 l0_1 (rd t903 x9_3)).f2), .int .i64 ((rd_T37 l0_1 (rd t903 x9_3)).f3)] 37 (0, 0))) := ⟨by (with_reducible repeat (first | refine blk_drewN ?_ _ | refine blk_drew ?_ | refine blk_alloc ?_ _)); refine blk_put (cs := #[.int .i64 ((rd_T37 l0_1 (rd t903 x9_3)).f0), .int .i64 ((rd_T37 l0_1 (rd t903 x9_3)).f1), .int .i64 ((rd_T37 l0_1 (rd t903 x9_3)).f2), .int .i64 0]) ?_ 3 _ rfl; (with_reducible repeat (first | refine blk_drewN ?_ _ | refine blk_drew ?_ | refine blk_alloc ?_ _)); refine blk_put (cs := #[.int .i64 ((rd_T37 l0_1 (rd t903 x9_3)).f0), .int .i64 ((rd_T37 l0_1 (rd t903 x9_3)).f1), .int .i64 0, .int .i64 0]) ?_ 2 _ rfl; (with_reducible repeat (first | refine blk_drewN ?_ _ | refine blk_drew ?_ | refine blk_alloc ?_ _)); refine blk_put (cs := #[.int .i64 ((rd_T37 l0_1 (rd t903 x9_3)).f0), .int .i64 0, .int .i64 0, .int .i64 0]) ?_ 1 _ rfl; (with_reducible repeat (first | refine blk_drewN ?_ _ | refine blk_drew ?_ | refine blk_alloc ?_ _)); refine blk_put (cs := #[.int .i64 0, .int .i64 0, .int .i64 0, .int .i64 0]) ?_ 0 _ rfl; (with_reducible repeat (first | refine blk_drewN ?_ _ | refine blk_drew ?_ | refine blk_alloc ?_ _)); exact BK917.out⟩
                      have n5_ : Aside0 (Below w.heap.size w ((((w84.setCell ⟨gb917, 0, none⟩ (.int .i64 ((rd_T37 l0_1 (rd t903 x9_3)).f0))).setCell ⟨gb917, 1, none⟩ (.int .i64 ((rd_T37 l0_1 (rd t903 x9_3)).f1))).setCell ⟨gb917, 2, none⟩ (.int .i64 ((rd_T37 l0_1 (rd t903 x9_3)).f2))).setCell ⟨gb917, 3, none⟩ (.int .i64 ((rd_T37 l0_1 (rd t903 x9_3)).f3)))) := ⟨by repeat (first | (with_reducible first | exact HB.out | apply below_alloc | apply pw_below_drewN | apply below_drew1 | refine below_set ?_ GE891.out | refine below_set ?_ GE917.out) | exact HB.out)⟩
                      (try clear HO_5)
                      (try clear HO_7)
                      (try clear HO_10)
                      (try clear BK891)
                      (try clear BK917)
                      (try clear HB)
                      generalize ((((w84.setCell ⟨gb917, 0, none⟩ (.int .i64 ((rd_T37 l0_1 (rd t903 x9_3)).f0))).setCell ⟨gb917, 1, none⟩ (.int .i64 ((rd_T37 l0_1 (rd t903 x9_3)).f1))).setCell ⟨gb917, 2, none⟩ (.int .i64 ((rd_T37 l0_1 (rd t903 x9_3)).f2))).setCell ⟨gb917, 3, none⟩ (.int .i64 ((rd_T37 l0_1 (rd t903 x9_3)).f3))) = w89 at n0_ n1_ n2_ n3_ n4_ n5_ ⊢
                      have HO_5 := n0_
                      have HO_7 := n1_
                      have HO_10 := n2_
                      have BK891 := n3_
                      have BK917 := n4_
                      have HB := n5_
                      clear n0_ n1_ n2_ n3_ n4_ n5_
                      have n0_ := Aside0.mk (Kd.R_drew HO_5.out)
                      have n1_ := Aside0.mk (Kd.R_drew HO_7.out)
                      have n2_ := Aside0.mk (Kd.R_drew HO_10.out)
                      have n3_ := Aside0.mk (blk_drew BK891.out)
                      have n4_ := Aside0.mk (blk_drew BK917.out)
                      have n5_ := Aside0.mk (below_drew1 HB.out)
                      clear HO_5; clear HO_7; clear HO_10; clear BK891; clear BK917; clear HB
                      have HO_5 := n0_
                      have HO_7 := n1_
                      have HO_10 := n2_
                      have BK891 := n3_
                      have BK917 := n4_
                      have HB := n5_
                      clear n0_ n1_ n2_ n3_ n4_ n5_
                      obtain ⟨Ao91, co91, eo91⟩ := Kd.R_slice HO_10.out
                      (first | subst eo91 | (injection eo91 with f1_ f2_ f3_; have f4_ := f1_.symm; have f5_ := f3_.symm; clear f1_ f2_ f3_; subst f4_; subst f5_))
                      refine start_ (n := 14) (S := fun w' => w'.cell? ⟨gb891, 0, none⟩ = some (.int .i64 a0_0) ∧ w'.cell? ⟨gb891, 1, none⟩ = some (.slice (some ad916) l0_1.length c0_1) ∧ w'.cell? ⟨gb917, 0, none⟩ = some (.int .i64 ((rd_T37 l0_1 (rd t903 x9_3)).f0)) ∧ w'.cell? ⟨gb917, 1, none⟩ = some (.int .i64 ((rd_T37 l0_1 (rd t903 x9_3)).f1)) ∧ w'.cell? ⟨gb917, 2, none⟩ = some (.int .i64 ((rd_T37 l0_1 (rd t903 x9_3)).f2)) ∧ w'.cell? ⟨gb917, 3, none⟩ = some (.int .i64 ((rd_T37 l0_1 (rd t903 x9_3)).f3))) (ds := []) #[false, false, false, false, false, false, false, false, false, false, false, false, false, false] (by kernel_rfl) rfl rfl ⟨(blk_cell BK891.out 0).trans rfl, (blk_cell BK891.out 1).trans rfl, (blk_cell BK917.out 0).trans rfl, (blk_cell BK917.out 1).trans rfl, (blk_cell BK917.out 2).trans rfl, (blk_cell BK917.out 3).trans rfl⟩ (fun hHeld => ?_); refine with_tabW pylonlaw16_TreeGreedy.tab19 pylonlaw16_TreeGreedy.bits19 (fun HT_ HW_ => ?_)
                      generalize w89.drew = w90 at HO_5 HO_7 HO_10 BK891 BK917 HB hHeld ⊢
                      refine pure_ (i := 2) (N := some 102) (v := ?_) (a' := ?_) #[false, false, true, false, false, false, false, false, false, false, false, false, false, false] rfl rfl (any_of HT_.out (by kernel_rfl)) (fun _ _ _ h => h) (Or.inl ⟨by rfl, ?_⟩) ?_ ?_
                      rotate_left; (intro w'; go_simp; with_reducible rfl); rotate_left; (simp only [Act.put, List.setIfInBounds_toArray, List.set_cons_zero, List.set_cons_succ, i64_w, i32_w]; rfl)
                      refine pure_ (i := 4) (N := some 104) (v := ?_) (a' := ?_) #[false, false, true, false, true, false, false, false, false, false, false, false, false, false] rfl rfl (any_of HT_.out (by kernel_rfl)) (fun _ _ _ h => h) (Or.inl ⟨by rfl, ?_⟩) ?_ ?_
                      rotate_left; (intro w'; go_simp; with_reducible rfl); rotate_left; (simp only [Act.put, List.setIfInBounds_toArray, List.set_cons_zero, List.set_cons_succ, i64_w, i32_w]; rfl)
                      refine pure_ (i := 6) (N := some 106) (v := ?_) (a' := ?_) #[false, false, true, false, true, false, true, false, false, false, false, false, false, false] rfl rfl (any_of HT_.out (by kernel_rfl)) (fun _ _ _ h => h) (Or.inl ⟨by rfl, ?_⟩) ?_ ?_
                      rotate_left; (intro w'; go_simp; with_reducible rfl); rotate_left; (simp only [Act.put, List.setIfInBounds_toArray, List.set_cons_zero, List.set_cons_succ, i64_w, i32_w]; rfl)
                      refine take_ (i := 0) (N := some 100) (v := ?_) (a' := ?_) #[true, false, true, false, true, false, true, false, false, false, false, false, false, false] rfl rfl (take_ofW HT_.out HW_.out (by kernel_rfl)) (fun _ _ _ h => h) (Or.inl ⟨by rfl, ?_⟩) hHeld ?_ ?_
                      rotate_left; (rintro w' ⟨s0, s1, s2, s3, s4, s5⟩; go_simp; with_reducible rfl); rotate_left; (simp only [Act.put, List.setIfInBounds_toArray, List.set_cons_zero, List.set_cons_succ, i64_w, i32_w]; rfl)
                      refine take_ (i := 1) (N := some 101) (v := ?_) (a' := ?_) #[true, true, true, false, true, false, true, false, false, false, false, false, false, false] rfl rfl (take_ofW HT_.out HW_.out (by kernel_rfl)) (fun _ _ _ h => h) (Or.inl ⟨by rfl, ?_⟩) hHeld ?_ ?_
                      rotate_left; (rintro w' ⟨s0, s1, s2, s3, s4, s5⟩; go_simp; with_reducible rfl); rotate_left; (simp only [Act.put, List.setIfInBounds_toArray, List.set_cons_zero, List.set_cons_succ, i64_w, i32_w]; rfl)
                      refine take_ (i := 5) (N := some 105) (v := ?_) (a' := ?_) #[true, true, true, false, true, true, true, false, false, false, false, false, false, false] rfl rfl (take_ofW HT_.out HW_.out (by kernel_rfl)) (fun _ _ _ h => h) (Or.inl ⟨by rfl, ?_⟩) hHeld ?_ ?_
                      rotate_left; (rintro w' ⟨s0, s1, s2, s3, s4, s5⟩; go_simp; with_reducible rfl); rotate_left; (simp only [Act.put, List.setIfInBounds_toArray, List.set_cons_zero, List.set_cons_succ, i64_w, i32_w]; rfl)
                      refine take_ (i := 7) (N := some 107) (v := ?_) (a' := ?_) #[true, true, true, false, true, true, true, true, false, false, false, false, false, false] rfl rfl (take_ofW HT_.out HW_.out (by kernel_rfl)) (fun _ _ _ h => h) (Or.inl ⟨by rfl, ?_⟩) hHeld ?_ ?_
                      rotate_left; (rintro w' ⟨s0, s1, s2, s3, s4, s5⟩; go_simp; with_reducible rfl); rotate_left; (simp only [Act.put, List.setIfInBounds_toArray, List.set_cons_zero, List.set_cons_succ, i64_w, i32_w]; rfl)
                      refine one_ (i := 3) (N := some 103) #[true, true, true, true, true, true, true, true, false, false, false, false, false, false] rfl rfl (one_of HT_.out (by kernel_rfl)) (by decide) (fun K hK => ?_)
                      refine goes_ Try.func64 (by kernel_rfl) rfl #[.agg #[.int .i64 a0_0, .slice (some ad916) l0_1.length c0_1], .slice Ao91 x10_5.length co91] (by rfl) rfl rfl (by (try simp only [List.map_toArray, List.map_cons, List.map_nil]); first | done | rfl | (simp only [List.length_drop, List.length_take]; rfl)) ?_
                      with_reducible refine (pylonlaw16_rest.calls k5 a0_0 _ _ l0_1 _ _ x10_5 t918 _ ?side1 ?side2 ?side3 ?side4 A64.out).mono ?_
                      (case side1 => repeat (first | exact (Kd.C_below HR0_1.out HB.out) | (with_reducible refine Kd.C_alloc ?_ _) | (with_reducible refine Kd.C_drewN ?_ _) | (with_reducible refine Kd.C_drew ?_)))
                      (case side2 => exact HC0_1.out)
                      (case side3 => repeat (first | exact (Kd.R_reads' HO_10.out).2.2 | (with_reducible refine Kd.C_alloc ?_ _) | (with_reducible refine Kd.C_drewN ?_ _) | (with_reducible refine Kd.C_drew ?_)))
                      (case side4 => exact (Kd.R_reads' HO_10.out).2.1)
                      rintro e w92 ⟨v919, rfl, ho0, hb⟩
                      refine ⟨_, rfl, ?_⟩
                      have n0_ := Aside0.mk (Kd.R_elder' (by (with_reducible repeat (first | apply Kd.R_alloc | apply Kd.R_drewN | apply Kd.R_drew)); exact HO_5.out) (Kd.R_base ho0) hb)
                      have n1_ := Aside0.mk (Kd.R_elder' (by (with_reducible repeat (first | apply Kd.R_alloc | apply Kd.R_drewN | apply Kd.R_drew)); exact HO_7.out) (Kd.R_base ho0) hb)
                      have n2_ := Aside0.mk (Kd.R_elder' (by (with_reducible repeat (first | apply Kd.R_alloc | apply Kd.R_drewN | apply Kd.R_drew)); exact HO_10.out) (Kd.R_base ho0) hb)
                      have n3_ := Aside0.mk (Kd.R_lower (Kd.R_new' (Kd.R_new' (Kd.R_new' (Kd.R_newM (M := fun k_ => (w.heap.size ≤ k_)) ho0 (below_size (by repeat (first | (with_reducible first | exact HB.out | apply below_alloc | apply pw_below_drewN | apply below_drew1 | refine below_set ?_ GE891.out | refine below_set ?_ GE917.out) | exact HB.out))) (fun k_ h_ => h_)) (Kd.R_lt (by (with_reducible repeat (first | apply Kd.R_alloc | apply Kd.R_drewN | apply Kd.R_drew)); exact HO_5.out))) (Kd.R_lt (by (with_reducible repeat (first | apply Kd.R_alloc | apply Kd.R_drewN | apply Kd.R_drew)); exact HO_7.out))) (Kd.R_lt (by (with_reducible repeat (first | apply Kd.R_alloc | apply Kd.R_drewN | apply Kd.R_drew)); exact HO_10.out))) (below_size (by repeat (first | (with_reducible first | exact HB.out | apply below_alloc | apply pw_below_drewN | apply below_drew1 | refine below_set ?_ GE891.out | refine below_set ?_ GE917.out) | exact HB.out))))
                      have n4_ := Aside0.mk (blk_below (g := gb891) (o := .cells #[.int .i64 a0_0, .slice (some ad916) l0_1.length c0_1] 24 (0, 0)) (by (with_reducible repeat (first | refine blk_drewN ?_ _ | refine blk_drew ?_ | refine blk_alloc ?_ _)); exact BK891.out) hb)
                      have n5_ := Aside0.mk (blk_below (g := gb917) (o := .cells #[.int .i64 ((rd_T37 l0_1 (rd t903 x9_3)).f0), .int .i64 ((rd_T37 l0_1 (rd t903 x9_3)).f1), .int .i64 ((rd_T37 l0_1 (rd t903 x9_3)).f2), .int .i64 ((rd_T37 l0_1 (rd t903 x9_3)).f3)] 37 (0, 0)) (by (with_reducible repeat (first | refine blk_drewN ?_ _ | refine blk_drew ?_ | refine blk_alloc ?_ _)); exact BK917.out) hb)
                      have n6_ := Aside0.mk (below_step (by repeat (first | (with_reducible first | exact HB.out | apply below_alloc | apply pw_below_drewN | apply below_drew1 | refine below_set ?_ GE891.out | refine below_set ?_ GE917.out) | exact HB.out)) hb)
                      clear HO_5; clear HO_7; clear HO_10; clear BK891; clear BK917; clear HB
                      have HO_5 := n0_
                      have HO_7 := n1_
                      have HO_10 := n2_
                      have HO920 := n3_
                      have BK891 := n4_
                      have BK917 := n5_
                      have HB := n6_
                      clear n0_ n1_ n2_ n3_ n4_ n5_ n6_
                      (try clear hb)
                      (try clear hb2)
                      (try clear hk)
                      (try clear hi)
                      (try clear ho0)
                      obtain ⟨Ao93, co93, eo93⟩ := Kd.R_slice HO920.out
                      (first | subst eo93 | (injection eo93 with f1_ f2_ f3_; have f4_ := f1_.symm; have f5_ := f3_.symm; clear f1_ f2_ f3_; subst f4_; subst f5_))
                      refine hK.out _ _ ⟨(blk_cell BK891.out 0).trans rfl, (blk_cell BK891.out 1).trans rfl, (blk_cell BK917.out 0).trans rfl, (blk_cell BK917.out 1).trans rfl, (blk_cell BK917.out 2).trans rfl, (blk_cell BK917.out 3).trans rfl⟩ (fun hHeld => ?_)
                      clear hK K
                      refine norm_ (a' := ?_) ?_ ?_
                      rotate_left
                      ·show Act.put _ (some 103) _ = _
                       simp only [Act.put, List.setIfInBounds_toArray, List.set_cons_zero, List.set_cons_succ, i64_w, i32_w]
                       rfl
                      refine one_ (i := 8) (N := some 108) #[true, true, true, true, true, true, true, true, true, false, false, false, false, false] rfl rfl (one_of HT_.out (by kernel_rfl)) (by decide) (fun K hK => ?_)
                      refine goes_ Try.func33 (by kernel_rfl) rfl #[.agg #[.int .i64 a0_0, .slice (some ad916) l0_1.length c0_1], .slice Ao93 t918.length co93, .int .i64 ((rd_T37 l0_1 (rd t903 x9_3)).f0), .int .i64 ((rd_T37 l0_1 (rd t903 x9_3)).f1)] (by rfl) rfl rfl (by (try simp only [List.map_toArray, List.map_cons, List.map_nil]); first | done | rfl | (simp only [List.length_drop, List.length_take]; rfl)) ?_
                      with_reducible refine (island_Connected.calls a0_0 _ _ l0_1 _ _ t918 ((rd_T37 l0_1 (rd t903 x9_3)).f0) ((rd_T37 l0_1 (rd t903 x9_3)).f1) t921 t922 _ ?side1 ?side2 ?side3 ?side4 A65.out).mono ?_
                      (case side1 => repeat (first | exact (Kd.C_below HR0_1.out HB.out) | (with_reducible refine Kd.C_alloc ?_ _) | (with_reducible refine Kd.C_drewN ?_ _) | (with_reducible refine Kd.C_drew ?_)))
                      (case side2 => exact HC0_1.out)
                      (case side3 => repeat (first | exact (Kd.R_reads' HO920.out).2.2 | (with_reducible refine Kd.C_alloc ?_ _) | (with_reducible refine Kd.C_drewN ?_ _) | (with_reducible refine Kd.C_drew ?_)))
                      (case side4 => exact (Kd.R_reads' HO920.out).2.1)
                      rintro e w94 ⟨rfl, hb⟩
                      refine ⟨_, rfl, ?_⟩
                      have n0_ := Aside0.mk (Kd.R_below (by (with_reducible repeat (first | apply Kd.R_alloc | apply Kd.R_drewN | apply Kd.R_drew)); exact HO_5.out) hb)
                      have n1_ := Aside0.mk (Kd.R_below (by (with_reducible repeat (first | apply Kd.R_alloc | apply Kd.R_drewN | apply Kd.R_drew)); exact HO_7.out) hb)
                      have n2_ := Aside0.mk (Kd.R_below (by (with_reducible repeat (first | apply Kd.R_alloc | apply Kd.R_drewN | apply Kd.R_drew)); exact HO_10.out) hb)
                      have n3_ := Aside0.mk (Kd.R_below (by (with_reducible repeat (first | apply Kd.R_alloc | apply Kd.R_drewN | apply Kd.R_drew)); exact HO920.out) hb)
                      have n4_ := Aside0.mk (blk_below (g := gb891) (o := .cells #[.int .i64 a0_0, .slice (some ad916) l0_1.length c0_1] 24 (0, 0)) (by (with_reducible repeat (first | refine blk_drewN ?_ _ | refine blk_drew ?_ | refine blk_alloc ?_ _)); exact BK891.out) hb)
                      have n5_ := Aside0.mk (blk_below (g := gb917) (o := .cells #[.int .i64 ((rd_T37 l0_1 (rd t903 x9_3)).f0), .int .i64 ((rd_T37 l0_1 (rd t903 x9_3)).f1), .int .i64 ((rd_T37 l0_1 (rd t903 x9_3)).f2), .int .i64 ((rd_T37 l0_1 (rd t903 x9_3)).f3)] 37 (0, 0)) (by (with_reducible repeat (first | refine blk_drewN ?_ _ | refine blk_drew ?_ | refine blk_alloc ?_ _)); exact BK917.out) hb)
                      have n6_ := Aside0.mk (below_step (by repeat (first | (with_reducible first | exact HB.out | apply below_alloc | apply pw_below_drewN | apply below_drew1 | refine below_set ?_ GE891.out | refine below_set ?_ GE917.out) | exact HB.out)) hb)
                      clear HO_5; clear HO_7; clear HO_10; clear HO920; clear BK891; clear BK917; clear HB
                      have HO_5 := n0_
                      have HO_7 := n1_
                      have HO_10 := n2_
                      have HO920 := n3_
                      have BK891 := n4_
                      have BK917 := n5_
                      have HB := n6_
                      clear n0_ n1_ n2_ n3_ n4_ n5_ n6_
                      (try clear hb)
                      (try clear hb2)
                      (try clear hk)
                      (try clear hi)
                      refine hK.out _ _ ⟨(blk_cell BK891.out 0).trans rfl, (blk_cell BK891.out 1).trans rfl, (blk_cell BK917.out 0).trans rfl, (blk_cell BK917.out 1).trans rfl, (blk_cell BK917.out 2).trans rfl, (blk_cell BK917.out 3).trans rfl⟩ (fun hHeld => ?_)
                      clear hK K
                      refine norm_ (a' := ?_) ?_ ?_
                      rotate_left
                      ·show Act.put _ (some 108) _ = _
                       simp only [Act.put, List.setIfInBounds_toArray, List.set_cons_zero, List.set_cons_succ, i64_w, i32_w]
                       rfl
                      refine pure_ (i := 9) (N := some 99) (v := ?_) (a' := ?_) #[true, true, true, true, true, true, true, true, true, true, false, false, false, false] rfl rfl (any_of HT_.out (by kernel_rfl)) (fun _ _ _ h => h) (Or.inl ⟨by rfl, ?_⟩) ?_ ?_
                      rotate_left; (intro w'; go_simp; with_reducible rfl); rotate_left; (simp only [Act.put, List.setIfInBounds_toArray, List.set_cons_zero, List.set_cons_succ, i64_w, i32_w]; rfl)
                      refine pure_ (i := 10) (N := some 109) (v := ?_) (a' := ?_) #[true, true, true, true, true, true, true, true, true, true, true, false, false, false] rfl rfl (any_of HT_.out (by kernel_rfl)) (fun _ _ _ h => h) (Or.inl ⟨by rfl, ?_⟩) ?_ ?_
                      rotate_left; (intro w'; go_simp; with_reducible rfl); rotate_left; (simp only [Act.put, List.setIfInBounds_toArray, List.set_cons_zero, List.set_cons_succ, i64_w, i32_w]; rfl)
                      refine pure_ (i := 11) (N := some 110) (v := ?_) (a' := ?_) #[true, true, true, true, true, true, true, true, true, true, true, true, false, false] rfl rfl (any_of HT_.out (by kernel_rfl)) (fun _ _ _ h => h) (Or.inl ⟨by rfl, ?_⟩) ?_ ?_
                      rotate_left; (intro w'; go_simp; with_reducible rfl); rotate_left; (simp only [Act.put, List.setIfInBounds_toArray, List.set_cons_zero, List.set_cons_succ, i64_w, i32_w]; rfl)
                      refine pure_ (i := 12) (N := some 13) (v := ?_) (a' := ?_) #[true, true, true, true, true, true, true, true, true, true, true, true, true, false] rfl rfl (any_of HT_.out (by kernel_rfl)) (fun _ _ _ h => h) (Or.inl ⟨by rfl, ?_⟩) ?_ ?_
                      rotate_left; (intro w'; go_simp; with_reducible rfl); rotate_left; (simp only [Act.put, List.setIfInBounds_toArray, List.set_cons_zero, List.set_cons_succ, i64_w, i32_w]; rfl)
                      refine pure_ (i := 13) (N := some 14) (v := ?_) (a' := ?_) #[true, true, true, true, true, true, true, true, true, true, true, true, true, true] rfl rfl (any_of HT_.out (by kernel_rfl)) (fun _ _ _ h => h) (Or.inl ⟨by rfl, ?_⟩) ?_ ?_
                      rotate_left; (intro w'; go_simp; with_reducible rfl); rotate_left; (simp only [Act.put, List.setIfInBounds_toArray, List.set_cons_zero, List.set_cons_succ, i64_w, i32_w]; rfl)
                      refine done_ (done_of HT_.out (by kernel_rfl)) ?_
                      have p923 : 0 ≤ (x9_3 : Int) := of_decide_eq_true (by first | (with_reducible assumption) | assumption)
                      have q923 : x9_3 < (t903.length : Int) := of_decide_eq_true (by first | (with_reducible assumption) | assumption)
                      obtain ⟨ad923, e923, hx923_0⟩ := Kd.at_int (Kd.R_reads' HO_7.out).2.2 x9_3 p923 q923
                      obtain rfl : ad915 = ad923 := (by injection e923)
                      replace p923 := eq_true p923
                      replace q923 := eq_true q923
                      try go_wp2_with (first | (go_at_call 60; (with_reducible refine (pylonlaw16_has.calls k5 _ _ t899 (rd t903 x9_3) t924 _ ?side1 ?side2 A67.out).mono ?_); (case side1 => repeat (first | exact (Kd.R_reads' HO_5.out).2.2 | (with_reducible refine Kd.C_alloc ?_ _) | (with_reducible refine Kd.C_drewN ?_ _) | (with_reducible refine Kd.C_drew ?_))); (case side2 => exact (Kd.R_reads' HO_5.out).2.1); rintro e w' ⟨rfl, ⟨nd, rfl⟩⟩))
                      go_roundg k5
                      case measure => have := HJ2.out; have := HJ33.out; have := HK3.out; have := HJ41.out; have := HK5.out; omega
                      case rel => exact ⟨(wrap64 (x9_3 + 1)), (by first | rfl | (simp; done) | (simp [*]; done)), H', ⟨by have := HJ2.out; have := HJ33.out; have := HK3.out; have := HJ41.out; have := HK5.out; omega⟩, ⟨by (with_reducible repeat (first | apply Kd.R_alloc | apply Kd.R_drewN | apply Kd.R_drew)); exact Kd.R_mono HO_5.out (fun _ hk => ⟨hk.1.1, hk.1.2.1⟩)⟩, ⟨by (with_reducible repeat (first | apply Kd.R_alloc | apply Kd.R_drewN | apply Kd.R_drew)); exact Kd.R_mono HO_7.out (fun _ hk => ⟨hk.1.1, hk.1.2.1⟩)⟩, ⟨by (with_reducible repeat (first | refine blk_drewN ?_ _ | refine blk_drew ?_ | refine blk_alloc ?_ _)); exact BK891.out⟩, ⟨by repeat (first | (with_reducible first | exact HB.out | apply below_alloc | apply pw_below_drewN | apply below_drew1 | refine below_set ?_ GE891.out | refine below_set ?_ GE917.out) | exact HB.out)⟩⟩
                    ·rw [if_neg c66] at H
                     have c66b0 : (t922 == 0) = false := beq_eq_false_iff_ne.mpr c66
                     have c66b1 : (t922 != 0) = true := bne_iff_ne.mpr c66
                     obtain rfl := Option.some.inj H
                     obtain ⟨Ao95, co95, eo95⟩ := Kd.R_slice HO_5.out
                     subst eo95
                     try go_wp2
                     have n0_ := Aside0.mk (Kd.R_drew HO_5.out)
                     have n1_ := Aside0.mk (Kd.R_drew HO_7.out)
                     have n2_ := Aside0.mk (Kd.R_drew HO_10.out)
                     have n3_ := Aside0.mk (blk_drew BK891.out)
                     have n4_ := Aside0.mk (below_drew1 HB.out)
                     clear HO_5; clear HO_7; clear HO_10; clear BK891; clear HB
                     have HO_5 := n0_
                     have HO_7 := n1_
                     have HO_10 := n2_
                     have BK891 := n3_
                     have HB := n4_
                     clear n0_ n1_ n2_ n3_ n4_
                     have p915 : 0 ≤ (x9_3 : Int) := of_decide_eq_true (by first | (with_reducible assumption) | assumption)
                     have q915 : x9_3 < (t903.length : Int) := of_decide_eq_true (by first | (with_reducible assumption) | assumption)
                     obtain ⟨ad915, e915, hx915_0⟩ := Kd.at_int (Kd.R_reads' HO_7.out).2.2 x9_3 p915 q915
                     cases e915
                     replace p915 := eq_true p915
                     replace q915 := eq_true q915
                     have p916 : 0 ≤ ((rd t903 x9_3) : Int) := of_decide_eq_true (by first | (with_reducible assumption) | assumption)
                     have q916 : (rd t903 x9_3) < (l0_1.length : Int) := of_decide_eq_true (by first | (with_reducible assumption) | assumption)
                     obtain ⟨ad916, e916, hx916_0, hx916_1, hx916_2, hx916_3⟩ := at_T37 HR0_1.out (rd t903 x9_3) p916 q916
                     have hw916_3 := hx916_3
                     have hw916_2 := hx916_2
                     have hw916_1 := hx916_1
                     have hw916_0 := hx916_0
                     cases e916
                     replace hx916_0 := (HB.out.cell (World.block_lt_of_cell? w _ hx916_0)).trans hx916_0
                     replace hx916_1 := (HB.out.cell (World.block_lt_of_cell? w _ hx916_1)).trans hx916_1
                     replace hx916_2 := (HB.out.cell (World.block_lt_of_cell? w _ hx916_2)).trans hx916_2
                     replace hx916_3 := (HB.out.cell (World.block_lt_of_cell? w _ hx916_3)).trans hx916_3
                     replace p916 := eq_true p916
                     replace q916 := eq_true q916
                     refine start_ (n := 10) (S := fun w' => w'.cell? ⟨gb891, 0, none⟩ = some (.int .i64 a0_0) ∧ w'.cell? ⟨gb891, 1, none⟩ = some (.slice (some ad916) l0_1.length c0_1) ∧ w'.cell? (ad915.add (x9_3).toNat) = some (.int .i64 (rd t903 x9_3)) ∧ w'.cell? (ad916.add (((rd t903 x9_3)).toNat * 4)) = some (.int .i64 ((rd_T37 l0_1 (rd t903 x9_3)).f0)) ∧ w'.cell? ⟨(ad916.add (((rd t903 x9_3)).toNat * 4)).block, (ad916.add (((rd t903 x9_3)).toNat * 4)).off + 1, none⟩ = some (.int .i64 ((rd_T37 l0_1 (rd t903 x9_3)).f1)) ∧ w'.cell? ⟨(ad916.add (((rd t903 x9_3)).toNat * 4)).block, (ad916.add (((rd t903 x9_3)).toNat * 4)).off + 2, none⟩ = some (.int .i64 ((rd_T37 l0_1 (rd t903 x9_3)).f2)) ∧ w'.cell? ⟨(ad916.add (((rd t903 x9_3)).toNat * 4)).block, (ad916.add (((rd t903 x9_3)).toNat * 4)).off + 3, none⟩ = some (.int .i64 ((rd_T37 l0_1 (rd t903 x9_3)).f3))) (ds := []) #[false, false, false, false, false, false, false, false, false, false] (by kernel_rfl) rfl rfl ⟨(blk_cell BK891.out 0).trans rfl, (blk_cell BK891.out 1).trans rfl, hx915_0, ((HB.out.cell (World.block_lt_of_cell? w _ hw916_0)).trans hw916_0), ((HB.out.cell (World.block_lt_of_cell? w _ hw916_1)).trans hw916_1), ((HB.out.cell (World.block_lt_of_cell? w _ hw916_2)).trans hw916_2), ((HB.out.cell (World.block_lt_of_cell? w _ hw916_3)).trans hw916_3)⟩ (fun hHeld => ?_); refine with_tabW pylonlaw16_TreeGreedy.tab18 pylonlaw16_TreeGreedy.bits18 (fun HT_ HW_ => ?_)
                     generalize wr.drew = w96 at HO_5 HO_7 HO_10 BK891 HB hx915_0 hx916_0 hx916_1 hx916_2 hx916_3 hHeld ⊢
                     refine pure_ (i := 0) (N := some 91) (v := ?_) (a' := ?_) #[true, false, false, false, false, false, false, false, false, false] rfl rfl (any_of HT_.out (by kernel_rfl)) (fun _ _ _ h => h) (Or.inl ⟨by rfl, ?_⟩) ?_ ?_
                     rotate_left; (intro w'; go_simp; with_reducible rfl); rotate_left; (simp only [Act.put, List.setIfInBounds_toArray, List.set_cons_zero, List.set_cons_succ, i64_w, i32_w]; rfl)
                     refine pure_ (i := 2) (N := some 93) (v := ?_) (a' := ?_) #[true, false, true, false, false, false, false, false, false, false] rfl rfl (any_of HT_.out (by kernel_rfl)) (fun _ _ _ h => h) (Or.inl ⟨by rfl, ?_⟩) ?_ ?_
                     rotate_left; (intro w'; go_simp; with_reducible rfl); rotate_left; (simp only [Act.put, List.setIfInBounds_toArray, List.set_cons_zero, List.set_cons_succ, i64_w, i32_w]; rfl)
                     refine pure_ (i := 3) (N := some 94) (v := ?_) (a' := ?_) #[true, false, true, true, false, false, false, false, false, false] rfl rfl (any_of HT_.out (by kernel_rfl)) (fun _ _ _ h => h) (Or.inl ⟨by rfl, ?_⟩) ?_ ?_
                     rotate_left; (intro w'; go_simp; with_reducible rfl); rotate_left; (simp only [Act.put, List.setIfInBounds_toArray, List.set_cons_zero, List.set_cons_succ, i64_w, i32_w]; rfl)
                     refine pure_ (i := 4) (N := some 95) (v := ?_) (a' := ?_) #[true, false, true, true, true, false, false, false, false, false] rfl rfl (any_of HT_.out (by kernel_rfl)) (fun _ _ _ h => h) (Or.inl ⟨by rfl, ?_⟩) ?_ ?_
                     rotate_left; (intro w'; go_simp; with_reducible rfl); rotate_left; (simp only [Act.put, List.setIfInBounds_toArray, List.set_cons_zero, List.set_cons_succ, i64_w, i32_w]; rfl)
                     refine take_ (i := 1) (N := some 92) (v := ?_) (a' := ?_) #[true, true, true, true, true, false, false, false, false, false] rfl rfl (take_ofW HT_.out HW_.out (by kernel_rfl)) (fun _ _ _ h => h) (Or.inl ⟨by rfl, ?_⟩) hHeld ?_ ?_
                     rotate_left; (rintro w' ⟨s0, s1, s2, s3, s4, s5, s6⟩; go_simp; with_reducible rfl); rotate_left; (simp only [Act.put, List.setIfInBounds_toArray, List.set_cons_zero, List.set_cons_succ, i64_w, i32_w]; rfl)
                     refine take_ (i := 5) (N := some 96) (v := ?_) (a' := ?_) #[true, true, true, true, true, true, false, false, false, false] rfl rfl (take_ofW HT_.out HW_.out (by kernel_rfl)) (fun _ _ _ h => h) (Or.inl ⟨by rfl, ?_⟩) hHeld ?_ ?_
                     rotate_left; (rintro w' ⟨s0, s1, s2, s3, s4, s5, s6⟩; go_simp; with_reducible rfl); rotate_left; (simp only [Act.put, List.setIfInBounds_toArray, List.set_cons_zero, List.set_cons_succ, i64_w, i32_w]; rfl)
                     refine pure_ (i := 6) (N := some 97) (v := ?_) (a' := ?_) #[true, true, true, true, true, true, true, false, false, false] rfl rfl (any_of HT_.out (by kernel_rfl)) (fun _ _ _ h => h) (Or.inl ⟨by rfl, ?_⟩) ?_ ?_
                     rotate_left; (intro w'; go_simp; with_reducible rfl); rotate_left; (simp only [Act.put, List.setIfInBounds_toArray, List.set_cons_zero, List.set_cons_succ, i64_w, i32_w]; rfl)
                     refine take_ (i := 7) (N := some 98) (v := ?_) (a' := ?_) #[true, true, true, true, true, true, true, true, false, false] rfl rfl (take_ofW HT_.out HW_.out (by kernel_rfl)) (fun _ _ _ h => h) (Or.inl ⟨by rfl, ?_⟩) hHeld ?_ ?_
                     rotate_left; (rintro w' ⟨s0, s1, s2, s3, s4, s5, s6⟩; go_simp; with_reducible rfl); rotate_left; (simp only [Act.put, List.setIfInBounds_toArray, List.set_cons_zero, List.set_cons_succ, i64_w, i32_w]; rfl)
                     refine one_ (i := 8) (N := some 12) #[true, true, true, true, true, true, true, true, true, false] rfl rfl (one_of HT_.out (by kernel_rfl)) (by decide) (fun K hK => ?_)
                     refine box_step ?hg (N := 12) ?hd (cs := #[.int .i64 0, .int .i64 0, .int .i64 0, .int .i64 0]) (t := 37) ?hr ?_; (case hd => rfl); (case hg => rfl); (case hr => first | (go_simp; done) | (go_simp; rfl))
                     intro gb917 hg w97 hbox hb
                     have HS2_ := (hb.cell (World.block_lt_of_cell? _ _ (hHeld.2.2.1))).trans (hHeld.2.2.1)
                     have n0_ := Aside0.mk (Kd.R_below (by (with_reducible repeat (first | apply Kd.R_alloc | apply Kd.R_drewN | apply Kd.R_drew)); exact HO_5.out) hb)
                     have n1_ := Aside0.mk (Kd.R_below (by (with_reducible repeat (first | apply Kd.R_alloc | apply Kd.R_drewN | apply Kd.R_drew)); exact HO_7.out) hb)
                     have n2_ := Aside0.mk (Kd.R_below (by (with_reducible repeat (first | apply Kd.R_alloc | apply Kd.R_drewN | apply Kd.R_drew)); exact HO_10.out) hb)
                     have n3_ := Aside0.mk (blk_below (g := gb891) (o := .cells #[.int .i64 a0_0, .slice (some ad916) l0_1.length c0_1] 24 (0, 0)) (by (with_reducible repeat (first | refine blk_drewN ?_ _ | refine blk_drew ?_ | refine blk_alloc ?_ _)); exact BK891.out) hb)
                     have n4_ := Aside0.mk (below_step (by repeat (first | (with_reducible first | exact HB.out | apply below_alloc | apply pw_below_drewN | apply below_drew1 | refine below_set ?_ GE891.out) | exact HB.out)) hb)
                     have n5_ := Aside0.mk (hbox)
                     have n6_ := Aside0.mk ((by rw [hg]; exact (below_size (by repeat (first | (with_reducible first | exact HB.out | apply below_alloc | apply pw_below_drewN | apply below_drew1 | refine below_set ?_ GE891.out) | exact HB.out))) : w.heap.size ≤ gb917))
                     have n7_ := Aside0.mk ((by rw [hg]; exact (below_size (by repeat (first | (with_reducible first | exact HB.out | apply below_alloc | apply pw_below_drewN | apply below_drew1 | refine below_set ?_ GE891.out) | exact HB.out))) : w.heap.size ≤ gb917))
                     have n8_ := Aside0.mk ((by rw [hg]; exact Nat.ne_of_lt (blk_lt (g := gb891) (o := .cells #[.int .i64 a0_0, .slice (some ad916) l0_1.length c0_1] 24 (0, 0)) (by (with_reducible repeat (first | refine blk_drewN ?_ _ | refine blk_drew ?_ | refine blk_alloc ?_ _)); exact BK891.out)) : gb891 ≠ gb917))
                     have n9_ := Aside0.mk ((by rw [hg]; exact Nat.ne_of_gt (blk_lt (g := gb891) (o := .cells #[.int .i64 a0_0, .slice (some ad916) l0_1.length c0_1] 24 (0, 0)) (by (with_reducible repeat (first | refine blk_drewN ?_ _ | refine blk_drew ?_ | refine blk_alloc ?_ _)); exact BK891.out)) : gb917 ≠ gb891))
                     clear HO_5; clear HO_7; clear HO_10; clear BK891; clear HB
                     have HO_5 := n0_
                     have HO_7 := n1_
                     have HO_10 := n2_
                     have BK891 := n3_
                     have HB := n4_
                     have BK917 := n5_
                     have GW917 := n6_
                     have GE917 := n7_
                     have NB891_917 := n8_
                     have NB917_891 := n9_
                     clear n0_ n1_ n2_ n3_ n4_ n5_ n6_ n7_ n8_ n9_; clear hb hbox hg
                     refine hK.out _ _ ⟨(blk_cell BK891.out 0).trans rfl, (blk_cell BK891.out 1).trans rfl, HS2_, ((HB.out.cell (World.block_lt_of_cell? w _ hw916_0)).trans hw916_0), ((HB.out.cell (World.block_lt_of_cell? w _ hw916_1)).trans hw916_1), ((HB.out.cell (World.block_lt_of_cell? w _ hw916_2)).trans hw916_2), ((HB.out.cell (World.block_lt_of_cell? w _ hw916_3)).trans hw916_3)⟩ (fun hHeld => ?_)
                     clear hK K
                     refine norm_ (a' := ?_) ?_ ?_
                     rotate_left
                     ·show Act.put _ (some 12) _ = _
                      simp only [Act.put, List.setIfInBounds_toArray, List.set_cons_zero, List.set_cons_succ, i64_w, i32_w]
                      rfl
                     refine one_ (i := 9) (N := none) #[true, true, true, true, true, true, true, true, true, true] rfl rfl (one_of HT_.out (by kernel_rfl)) (by decide) (fun K hK => ?_)
                     have hs98 : w97.cell? ⟨gb917, 0, none⟩ = some (.int .i64 0) := (blk_cell BK917.out 0).trans rfl
                     have hfs98 := blk_frozen BK917.out 0
                     have hns98_0 := NB891_917.out
                     have hms98_0 := NB917_891.out
                     have hs99 : w97.cell? ⟨gb917, 1, none⟩ = some (.int .i64 0) := (blk_cell BK917.out 1).trans rfl
                     have hfs99 := blk_frozen BK917.out 1
                     have hns99_0 := NB891_917.out
                     have hms99_0 := NB917_891.out
                     have hs100 : w97.cell? ⟨gb917, 2, none⟩ = some (.int .i64 0) := (blk_cell BK917.out 2).trans rfl
                     have hfs100 := blk_frozen BK917.out 2
                     have hns100_0 := NB891_917.out
                     have hms100_0 := NB917_891.out
                     have hs101 : w97.cell? ⟨gb917, 3, none⟩ = some (.int .i64 0) := (blk_cell BK917.out 3).trans rfl
                     have hfs101 := blk_frozen BK917.out 3
                     have hns101_0 := NB891_917.out
                     have hms101_0 := NB917_891.out
                     refine skip_ (w1 := ?_) (by rfl) rfl ?_ ?_
                     rotate_left
                     ·go_simp
                      rfl
                     refine hK.out _ _ ⟨((cell_far (p := ⟨gb917, _, none⟩) NB891_917.out _).trans (((cell_far (p := ⟨gb917, _, none⟩) NB891_917.out _).trans (((cell_far (p := ⟨gb917, _, none⟩) NB891_917.out _).trans (((cell_far (p := ⟨gb917, _, none⟩) NB891_917.out _).trans (hHeld.1)))))))), ((cell_far (p := ⟨gb917, _, none⟩) NB891_917.out _).trans (((cell_far (p := ⟨gb917, _, none⟩) NB891_917.out _).trans (((cell_far (p := ⟨gb917, _, none⟩) NB891_917.out _).trans (((cell_far (p := ⟨gb917, _, none⟩) NB891_917.out _).trans (hHeld.2.1)))))))), ((cell_far (p := ⟨gb917, _, none⟩) (by first | exact Kd.own_blk (Kd.R_ne HO_7.out BK917.out (by decide)) | (rw [add_block]; exact Kd.own_blk (Kd.R_ne HO_7.out BK917.out (by decide))) | (show (Addr.add _ _).block ≠ _; rw [add_block]; exact Kd.own_blk (Kd.R_ne HO_7.out BK917.out (by decide))) | (dsimp only; exact Kd.own_blk (Kd.R_ne HO_7.out BK917.out (by decide)))) _).trans (((cell_far (p := ⟨gb917, _, none⟩) (by first | exact Kd.own_blk (Kd.R_ne HO_7.out BK917.out (by decide)) | (rw [add_block]; exact Kd.own_blk (Kd.R_ne HO_7.out BK917.out (by decide))) | (show (Addr.add _ _).block ≠ _; rw [add_block]; exact Kd.own_blk (Kd.R_ne HO_7.out BK917.out (by decide))) | (dsimp only; exact Kd.own_blk (Kd.R_ne HO_7.out BK917.out (by decide)))) _).trans (((cell_far (p := ⟨gb917, _, none⟩) (by first | exact Kd.own_blk (Kd.R_ne HO_7.out BK917.out (by decide)) | (rw [add_block]; exact Kd.own_blk (Kd.R_ne HO_7.out BK917.out (by decide))) | (show (Addr.add _ _).block ≠ _; rw [add_block]; exact Kd.own_blk (Kd.R_ne HO_7.out BK917.out (by decide))) | (dsimp only; exact Kd.own_blk (Kd.R_ne HO_7.out BK917.out (by decide)))) _).trans (((cell_far (p := ⟨gb917, _, none⟩) (by first | exact Kd.own_blk (Kd.R_ne HO_7.out BK917.out (by decide)) | (rw [add_block]; exact Kd.own_blk (Kd.R_ne HO_7.out BK917.out (by decide))) | (show (Addr.add _ _).block ≠ _; rw [add_block]; exact Kd.own_blk (Kd.R_ne HO_7.out BK917.out (by decide))) | (dsimp only; exact Kd.own_blk (Kd.R_ne HO_7.out BK917.out (by decide)))) _).trans (hHeld.2.2.1)))))))), ((cell_far (p := ⟨gb917, _, none⟩) (by first | exact Nat.ne_of_lt (Nat.lt_of_lt_of_le (by have := World.block_lt_of_cell? _ _ hw916_0; first | rwa [add_block] at this | exact this) GW917.out) | (rw [add_block]; exact Nat.ne_of_lt (Nat.lt_of_lt_of_le (by have := World.block_lt_of_cell? _ _ hw916_0; first | rwa [add_block] at this | exact this) GW917.out)) | (show (Addr.add _ _).block ≠ _; rw [add_block]; exact Nat.ne_of_lt (Nat.lt_of_lt_of_le (by have := World.block_lt_of_cell? _ _ hw916_0; first | rwa [add_block] at this | exact this) GW917.out)) | (dsimp only; exact Nat.ne_of_lt (Nat.lt_of_lt_of_le (by have := World.block_lt_of_cell? _ _ hw916_0; first | rwa [add_block] at this | exact this) GW917.out))) _).trans (((cell_far (p := ⟨gb917, _, none⟩) (by first | exact Nat.ne_of_lt (Nat.lt_of_lt_of_le (by have := World.block_lt_of_cell? _ _ hw916_0; first | rwa [add_block] at this | exact this) GW917.out) | (rw [add_block]; exact Nat.ne_of_lt (Nat.lt_of_lt_of_le (by have := World.block_lt_of_cell? _ _ hw916_0; first | rwa [add_block] at this | exact this) GW917.out)) | (show (Addr.add _ _).block ≠ _; rw [add_block]; exact Nat.ne_of_lt (Nat.lt_of_lt_of_le (by have := World.block_lt_of_cell? _ _ hw916_0; first | rwa [add_block] at this | exact this) GW917.out)) | (dsimp only; exact Nat.ne_of_lt (Nat.lt_of_lt_of_le (by have := World.block_lt_of_cell? _ _ hw916_0; first | rwa [add_block] at this | exact this) GW917.out))) _).trans (((cell_far (p := ⟨gb917, _, none⟩) (by first | exact Nat.ne_of_lt (Nat.lt_of_lt_of_le (by have := World.block_lt_of_cell? _ _ hw916_0; first | rwa [add_block] at this | exact this) GW917.out) | (rw [add_block]; exact Nat.ne_of_lt (Nat.lt_of_lt_of_le (by have := World.block_lt_of_cell? _ _ hw916_0; first | rwa [add_block] at this | exact this) GW917.out)) | (show (Addr.add _ _).block ≠ _; rw [add_block]; exact Nat.ne_of_lt (Nat.lt_of_lt_of_le (by have := World.block_lt_of_cell? _ _ hw916_0; first | rwa [add_block] at this | exact this) GW917.out)) | (dsimp only; exact Nat.ne_of_lt (Nat.lt_of_lt_of_le (by have := World.block_lt_of_cell? _ _ hw916_0; first | rwa [add_block] at this | exact this) GW917.out))) _).trans (((cell_far (p := ⟨gb917, _, none⟩) (by first | exact Nat.ne_of_lt (Nat.lt_of_lt_of_le (by have := World.block_lt_of_cell? _ _ hw916_0; first | rwa [add_block] at this | exact this) GW917.out) | (rw [add_block]; exact Nat.ne_of_lt (Nat.lt_of_lt_of_le (by have := World.block_lt_of_cell? _ _ hw916_0; first | rwa [add_block] at this | exact this) GW917.out)) | (show (Addr.add _ _).block ≠ _; rw [add_block]; exact Nat.ne_of_lt (Nat.lt_of_lt_of_le (by have := World.block_lt_of_cell? _ _ hw916_0; first | rwa [add_block] at this | exact this) GW917.out)) | (dsimp only; exact Nat.ne_of_lt (Nat.lt_of_lt_of_le (by have := World.block_lt_of_cell? _ _ hw916_0; first | rwa [add_block] at this | exact this) GW917.out))) _).trans (hHeld.2.2.2.1)))))))), ((cell_far (p := ⟨gb917, _, none⟩) (by first | exact Nat.ne_of_lt (Nat.lt_of_lt_of_le (by have := World.block_lt_of_cell? _ _ hw916_1; first | rwa [add_block] at this | exact this) GW917.out) | (rw [add_block]; exact Nat.ne_of_lt (Nat.lt_of_lt_of_le (by have := World.block_lt_of_cell? _ _ hw916_1; first | rwa [add_block] at this | exact this) GW917.out)) | (show (Addr.add _ _).block ≠ _; rw [add_block]; exact Nat.ne_of_lt (Nat.lt_of_lt_of_le (by have := World.block_lt_of_cell? _ _ hw916_1; first | rwa [add_block] at this | exact this) GW917.out)) | (dsimp only; exact Nat.ne_of_lt (Nat.lt_of_lt_of_le (by have := World.block_lt_of_cell? _ _ hw916_1; first | rwa [add_block] at this | exact this) GW917.out))) _).trans (((cell_far (p := ⟨gb917, _, none⟩) (by first | exact Nat.ne_of_lt (Nat.lt_of_lt_of_le (by have := World.block_lt_of_cell? _ _ hw916_1; first | rwa [add_block] at this | exact this) GW917.out) | (rw [add_block]; exact Nat.ne_of_lt (Nat.lt_of_lt_of_le (by have := World.block_lt_of_cell? _ _ hw916_1; first | rwa [add_block] at this | exact this) GW917.out)) | (show (Addr.add _ _).block ≠ _; rw [add_block]; exact Nat.ne_of_lt (Nat.lt_of_lt_of_le (by have := World.block_lt_of_cell? _ _ hw916_1; first | rwa [add_block] at this | exact this) GW917.out)) | (dsimp only; exact Nat.ne_of_lt (Nat.lt_of_lt_of_le (by have := World.block_lt_of_cell? _ _ hw916_1; first | rwa [add_block] at this | exact this) GW917.out))) _).trans (((cell_far (p := ⟨gb917, _, none⟩) (by first | exact Nat.ne_of_lt (Nat.lt_of_lt_of_le (by have := World.block_lt_of_cell? _ _ hw916_1; first | rwa [add_block] at this | exact this) GW917.out) | (rw [add_block]; exact Nat.ne_of_lt (Nat.lt_of_lt_of_le (by have := World.block_lt_of_cell? _ _ hw916_1; first | rwa [add_block] at this | exact this) GW917.out)) | (show (Addr.add _ _).block ≠ _; rw [add_block]; exact Nat.ne_of_lt (Nat.lt_of_lt_of_le (by have := World.block_lt_of_cell? _ _ hw916_1; first | rwa [add_block] at this | exact this) GW917.out)) | (dsimp only; exact Nat.ne_of_lt (Nat.lt_of_lt_of_le (by have := World.block_lt_of_cell? _ _ hw916_1; first | rwa [add_block] at this | exact this) GW917.out))) _).trans (((cell_far (p := ⟨gb917, _, none⟩) (by first | exact Nat.ne_of_lt (Nat.lt_of_lt_of_le (by have := World.block_lt_of_cell? _ _ hw916_1; first | rwa [add_block] at this | exact this) GW917.out) | (rw [add_block]; exact Nat.ne_of_lt (Nat.lt_of_lt_of_le (by have := World.block_lt_of_cell? _ _ hw916_1; first | rwa [add_block] at this | exact this) GW917.out)) | (show (Addr.add _ _).block ≠ _; rw [add_block]; exact Nat.ne_of_lt (Nat.lt_of_lt_of_le (by have := World.block_lt_of_cell? _ _ hw916_1; first | rwa [add_block] at this | exact this) GW917.out)) | (dsimp only; exact Nat.ne_of_lt (Nat.lt_of_lt_of_le (by have := World.block_lt_of_cell? _ _ hw916_1; first | rwa [add_block] at this | exact this) GW917.out))) _).trans (hHeld.2.2.2.2.1)))))))), ((cell_far (p := ⟨gb917, _, none⟩) (by first | exact Nat.ne_of_lt (Nat.lt_of_lt_of_le (by have := World.block_lt_of_cell? _ _ hw916_2; first | rwa [add_block] at this | exact this) GW917.out) | (rw [add_block]; exact Nat.ne_of_lt (Nat.lt_of_lt_of_le (by have := World.block_lt_of_cell? _ _ hw916_2; first | rwa [add_block] at this | exact this) GW917.out)) | (show (Addr.add _ _).block ≠ _; rw [add_block]; exact Nat.ne_of_lt (Nat.lt_of_lt_of_le (by have := World.block_lt_of_cell? _ _ hw916_2; first | rwa [add_block] at this | exact this) GW917.out)) | (dsimp only; exact Nat.ne_of_lt (Nat.lt_of_lt_of_le (by have := World.block_lt_of_cell? _ _ hw916_2; first | rwa [add_block] at this | exact this) GW917.out))) _).trans (((cell_far (p := ⟨gb917, _, none⟩) (by first | exact Nat.ne_of_lt (Nat.lt_of_lt_of_le (by have := World.block_lt_of_cell? _ _ hw916_2; first | rwa [add_block] at this | exact this) GW917.out) | (rw [add_block]; exact Nat.ne_of_lt (Nat.lt_of_lt_of_le (by have := World.block_lt_of_cell? _ _ hw916_2; first | rwa [add_block] at this | exact this) GW917.out)) | (show (Addr.add _ _).block ≠ _; rw [add_block]; exact Nat.ne_of_lt (Nat.lt_of_lt_of_le (by have := World.block_lt_of_cell? _ _ hw916_2; first | rwa [add_block] at this | exact this) GW917.out)) | (dsimp only; exact Nat.ne_of_lt (Nat.lt_of_lt_of_le (by have := World.block_lt_of_cell? _ _ hw916_2; first | rwa [add_block] at this | exact this) GW917.out))) _).trans (((cell_far (p := ⟨gb917, _, none⟩) (by first | exact Nat.ne_of_lt (Nat.lt_of_lt_of_le (by have := World.block_lt_of_cell? _ _ hw916_2; first | rwa [add_block] at this | exact this) GW917.out) | (rw [add_block]; exact Nat.ne_of_lt (Nat.lt_of_lt_of_le (by have := World.block_lt_of_cell? _ _ hw916_2; first | rwa [add_block] at this | exact this) GW917.out)) | (show (Addr.add _ _).block ≠ _; rw [add_block]; exact Nat.ne_of_lt (Nat.lt_of_lt_of_le (by have := World.block_lt_of_cell? _ _ hw916_2; first | rwa [add_block] at this | exact this) GW917.out)) | (dsimp only; exact Nat.ne_of_lt (Nat.lt_of_lt_of_le (by have := World.block_lt_of_cell? _ _ hw916_2; first | rwa [add_block] at this | exact this) GW917.out))) _).trans (((cell_far (p := ⟨gb917, _, none⟩) (by first | exact Nat.ne_of_lt (Nat.lt_of_lt_of_le (by have := World.block_lt_of_cell? _ _ hw916_2; first | rwa [add_block] at this | exact this) GW917.out) | (rw [add_block]; exact Nat.ne_of_lt (Nat.lt_of_lt_of_le (by have := World.block_lt_of_cell? _ _ hw916_2; first | rwa [add_block] at this | exact this) GW917.out)) | (show (Addr.add _ _).block ≠ _; rw [add_block]; exact Nat.ne_of_lt (Nat.lt_of_lt_of_le (by have := World.block_lt_of_cell? _ _ hw916_2; first | rwa [add_block] at this | exact this) GW917.out)) | (dsimp only; exact Nat.ne_of_lt (Nat.lt_of_lt_of_le (by have := World.block_lt_of_cell? _ _ hw916_2; first | rwa [add_block] at this | exact this) GW917.out))) _).trans (hHeld.2.2.2.2.2.1)))))))), ((cell_far (p := ⟨gb917, _, none⟩) (by first | exact Nat.ne_of_lt (Nat.lt_of_lt_of_le (by have := World.block_lt_of_cell? _ _ hw916_3; first | rwa [add_block] at this | exact this) GW917.out) | (rw [add_block]; exact Nat.ne_of_lt (Nat.lt_of_lt_of_le (by have := World.block_lt_of_cell? _ _ hw916_3; first | rwa [add_block] at this | exact this) GW917.out)) | (show (Addr.add _ _).block ≠ _; rw [add_block]; exact Nat.ne_of_lt (Nat.lt_of_lt_of_le (by have := World.block_lt_of_cell? _ _ hw916_3; first | rwa [add_block] at this | exact this) GW917.out)) | (dsimp only; exact Nat.ne_of_lt (Nat.lt_of_lt_of_le (by have := World.block_lt_of_cell? _ _ hw916_3; first | rwa [add_block] at this | exact this) GW917.out))) _).trans (((cell_far (p := ⟨gb917, _, none⟩) (by first | exact Nat.ne_of_lt (Nat.lt_of_lt_of_le (by have := World.block_lt_of_cell? _ _ hw916_3; first | rwa [add_block] at this | exact this) GW917.out) | (rw [add_block]; exact Nat.ne_of_lt (Nat.lt_of_lt_of_le (by have := World.block_lt_of_cell? _ _ hw916_3; first | rwa [add_block] at this | exact this) GW917.out)) | (show (Addr.add _ _).block ≠ _; rw [add_block]; exact Nat.ne_of_lt (Nat.lt_of_lt_of_le (by have := World.block_lt_of_cell? _ _ hw916_3; first | rwa [add_block] at this | exact this) GW917.out)) | (dsimp only; exact Nat.ne_of_lt (Nat.lt_of_lt_of_le (by have := World.block_lt_of_cell? _ _ hw916_3; first | rwa [add_block] at this | exact this) GW917.out))) _).trans (((cell_far (p := ⟨gb917, _, none⟩) (by first | exact Nat.ne_of_lt (Nat.lt_of_lt_of_le (by have := World.block_lt_of_cell? _ _ hw916_3; first | rwa [add_block] at this | exact this) GW917.out) | (rw [add_block]; exact Nat.ne_of_lt (Nat.lt_of_lt_of_le (by have := World.block_lt_of_cell? _ _ hw916_3; first | rwa [add_block] at this | exact this) GW917.out)) | (show (Addr.add _ _).block ≠ _; rw [add_block]; exact Nat.ne_of_lt (Nat.lt_of_lt_of_le (by have := World.block_lt_of_cell? _ _ hw916_3; first | rwa [add_block] at this | exact this) GW917.out)) | (dsimp only; exact Nat.ne_of_lt (Nat.lt_of_lt_of_le (by have := World.block_lt_of_cell? _ _ hw916_3; first | rwa [add_block] at this | exact this) GW917.out))) _).trans (((cell_far (p := ⟨gb917, _, none⟩) (by first | exact Nat.ne_of_lt (Nat.lt_of_lt_of_le (by have := World.block_lt_of_cell? _ _ hw916_3; first | rwa [add_block] at this | exact this) GW917.out) | (rw [add_block]; exact Nat.ne_of_lt (Nat.lt_of_lt_of_le (by have := World.block_lt_of_cell? _ _ hw916_3; first | rwa [add_block] at this | exact this) GW917.out)) | (show (Addr.add _ _).block ≠ _; rw [add_block]; exact Nat.ne_of_lt (Nat.lt_of_lt_of_le (by have := World.block_lt_of_cell? _ _ hw916_3; first | rwa [add_block] at this | exact this) GW917.out)) | (dsimp only; exact Nat.ne_of_lt (Nat.lt_of_lt_of_le (by have := World.block_lt_of_cell? _ _ hw916_3; first | rwa [add_block] at this | exact this) GW917.out))) _).trans (hHeld.2.2.2.2.2.2))))))))⟩ (fun hHeld => ?_)
                     clear hK K
                     refine done_ (done_of HT_.out (by kernel_rfl)) ?_
                     try go_wp2
                     have n0_ : Aside0 (Kd.R (Kd.int .i64) 3 ((((w97.setCell ⟨gb917, 0, none⟩ (.int .i64 ((rd_T37 l0_1 (rd t903 x9_3)).f0))).setCell ⟨gb917, 1, none⟩ (.int .i64 ((rd_T37 l0_1 (rd t903 x9_3)).f1))).setCell ⟨gb917, 2, none⟩ (.int .i64 ((rd_T37 l0_1 (rd t903 x9_3)).f2))).setCell ⟨gb917, 3, none⟩ (.int .i64 ((rd_T37 l0_1 (rd t903 x9_3)).f3))) w.heap.size (fun k_ => (w.heap.size ≤ k_) ∧ some k_ ≠ (.slice (some ad915) t903.length co43 : Value).ownBlock ∧ some k_ ≠ (u10 : Value).ownBlock) (.slice Ao95 t899.length co95) t899) := ⟨by (with_reducible repeat (first | apply Kd.R_alloc | apply Kd.R_drewN | apply Kd.R_drew)); exact Kd.R_mono (Kd.R_far (p := ⟨gb917, 3, none⟩) (Kd.R_far (p := ⟨gb917, 2, none⟩) (Kd.R_far (p := ⟨gb917, 1, none⟩) (Kd.R_far (p := ⟨gb917, 0, none⟩) (Kd.R_types HO_5.out BK917.out (by decide)) (fun _ hk => hk.2) (.int .i64 ((rd_T37 l0_1 (rd t903 x9_3)).f0))) (fun _ hk => hk.2) (.int .i64 ((rd_T37 l0_1 (rd t903 x9_3)).f1))) (fun _ hk => hk.2) (.int .i64 ((rd_T37 l0_1 (rd t903 x9_3)).f2))) (fun _ hk => hk.2) (.int .i64 ((rd_T37 l0_1 (rd t903 x9_3)).f3))) (fun _ hk => ⟨hk.1.1, ⟨hk.1.2.1, hk.1.2.2⟩⟩)⟩
                     have n1_ : Aside0 (Kd.R (Kd.int .i64) 3 ((((w97.setCell ⟨gb917, 0, none⟩ (.int .i64 ((rd_T37 l0_1 (rd t903 x9_3)).f0))).setCell ⟨gb917, 1, none⟩ (.int .i64 ((rd_T37 l0_1 (rd t903 x9_3)).f1))).setCell ⟨gb917, 2, none⟩ (.int .i64 ((rd_T37 l0_1 (rd t903 x9_3)).f2))).setCell ⟨gb917, 3, none⟩ (.int .i64 ((rd_T37 l0_1 (rd t903 x9_3)).f3))) w.heap.size (fun k_ => (w.heap.size ≤ k_) ∧ some k_ ≠ (.slice Ao95 t899.length co95 : Value).ownBlock ∧ some k_ ≠ (u10 : Value).ownBlock) (.slice (some ad915) t903.length co43) t903) := ⟨by (with_reducible repeat (first | apply Kd.R_alloc | apply Kd.R_drewN | apply Kd.R_drew)); exact Kd.R_mono (Kd.R_far (p := ⟨gb917, 3, none⟩) (Kd.R_far (p := ⟨gb917, 2, none⟩) (Kd.R_far (p := ⟨gb917, 1, none⟩) (Kd.R_far (p := ⟨gb917, 0, none⟩) (Kd.R_types HO_7.out BK917.out (by decide)) (fun _ hk => hk.2) (.int .i64 ((rd_T37 l0_1 (rd t903 x9_3)).f0))) (fun _ hk => hk.2) (.int .i64 ((rd_T37 l0_1 (rd t903 x9_3)).f1))) (fun _ hk => hk.2) (.int .i64 ((rd_T37 l0_1 (rd t903 x9_3)).f2))) (fun _ hk => hk.2) (.int .i64 ((rd_T37 l0_1 (rd t903 x9_3)).f3))) (fun _ hk => ⟨hk.1.1, ⟨hk.1.2.1, hk.1.2.2⟩⟩)⟩
                     have n2_ : Aside0 (Kd.R (Kd.int .i64) 3 ((((w97.setCell ⟨gb917, 0, none⟩ (.int .i64 ((rd_T37 l0_1 (rd t903 x9_3)).f0))).setCell ⟨gb917, 1, none⟩ (.int .i64 ((rd_T37 l0_1 (rd t903 x9_3)).f1))).setCell ⟨gb917, 2, none⟩ (.int .i64 ((rd_T37 l0_1 (rd t903 x9_3)).f2))).setCell ⟨gb917, 3, none⟩ (.int .i64 ((rd_T37 l0_1 (rd t903 x9_3)).f3))) w.heap.size (fun k_ => (w.heap.size ≤ k_) ∧ some k_ ≠ (.slice Ao95 t899.length co95 : Value).ownBlock ∧ some k_ ≠ (.slice (some ad915) t903.length co43 : Value).ownBlock) u10 x10_5) := ⟨by (with_reducible repeat (first | apply Kd.R_alloc | apply Kd.R_drewN | apply Kd.R_drew)); exact Kd.R_mono (Kd.R_far (p := ⟨gb917, 3, none⟩) (Kd.R_far (p := ⟨gb917, 2, none⟩) (Kd.R_far (p := ⟨gb917, 1, none⟩) (Kd.R_far (p := ⟨gb917, 0, none⟩) (Kd.R_types HO_10.out BK917.out (by decide)) (fun _ hk => hk.2) (.int .i64 ((rd_T37 l0_1 (rd t903 x9_3)).f0))) (fun _ hk => hk.2) (.int .i64 ((rd_T37 l0_1 (rd t903 x9_3)).f1))) (fun _ hk => hk.2) (.int .i64 ((rd_T37 l0_1 (rd t903 x9_3)).f2))) (fun _ hk => hk.2) (.int .i64 ((rd_T37 l0_1 (rd t903 x9_3)).f3))) (fun _ hk => ⟨hk.1.1, ⟨hk.1.2.1, hk.1.2.2⟩⟩)⟩
                     have n3_ : Aside0 (((((w97.setCell ⟨gb917, 0, none⟩ (.int .i64 ((rd_T37 l0_1 (rd t903 x9_3)).f0))).setCell ⟨gb917, 1, none⟩ (.int .i64 ((rd_T37 l0_1 (rd t903 x9_3)).f1))).setCell ⟨gb917, 2, none⟩ (.int .i64 ((rd_T37 l0_1 (rd t903 x9_3)).f2))).setCell ⟨gb917, 3, none⟩ (.int .i64 ((rd_T37 l0_1 (rd t903 x9_3)).f3))).heap[gb891]? = some (.cells #[.int .i64 a0_0, .slice (some ad916) l0_1.length c0_1] 24 (0, 0))) := ⟨by (with_reducible repeat (first | refine blk_drewN ?_ _ | refine blk_drew ?_ | refine blk_alloc ?_ _)); refine blk_far ?_ NB891_917.out _; (with_reducible repeat (first | refine blk_drewN ?_ _ | refine blk_drew ?_ | refine blk_alloc ?_ _)); refine blk_far ?_ NB891_917.out _; (with_reducible repeat (first | refine blk_drewN ?_ _ | refine blk_drew ?_ | refine blk_alloc ?_ _)); refine blk_far ?_ NB891_917.out _; (with_reducible repeat (first | refine blk_drewN ?_ _ | refine blk_drew ?_ | refine blk_alloc ?_ _)); refine blk_far ?_ NB891_917.out _; (with_reducible repeat (first | refine blk_drewN ?_ _ | refine blk_drew ?_ | refine blk_alloc ?_ _)); exact BK891.out⟩
                     have n4_ : Aside0 (((((w97.setCell ⟨gb917, 0, none⟩ (.int .i64 ((rd_T37 l0_1 (rd t903 x9_3)).f0))).setCell ⟨gb917, 1, none⟩ (.int .i64 ((rd_T37 l0_1 (rd t903 x9_3)).f1))).setCell ⟨gb917, 2, none⟩ (.int .i64 ((rd_T37 l0_1 (rd t903 x9_3)).f2))).setCell ⟨gb917, 3, none⟩ (.int .i64 ((rd_T37 l0_1 (rd t903 x9_3)).f3))).heap[gb917]? = some (.cells #[.int .i64 ((rd_T37 l0_1 (rd t903 x9_3)).f0), .int .i64 ((rd_T37 l0_1 (rd t903 x9_3)).f1), .int .i64 ((rd_T37 l0_1 (rd t903 x9_3)).f2), .int .i64 ((rd_T37 l0_1 (rd t903 x9_3)).f3)] 37 (0, 0))) := ⟨by (with_reducible repeat (first | refine blk_drewN ?_ _ | refine blk_drew ?_ | refine blk_alloc ?_ _)); refine blk_put (cs := #[.int .i64 ((rd_T37 l0_1 (rd t903 x9_3)).f0), .int .i64 ((rd_T37 l0_1 (rd t903 x9_3)).f1), .int .i64 ((rd_T37 l0_1 (rd t903 x9_3)).f2), .int .i64 0]) ?_ 3 _ rfl; (with_reducible repeat (first | refine blk_drewN ?_ _ | refine blk_drew ?_ | refine blk_alloc ?_ _)); refine blk_put (cs := #[.int .i64 ((rd_T37 l0_1 (rd t903 x9_3)).f0), .int .i64 ((rd_T37 l0_1 (rd t903 x9_3)).f1), .int .i64 0, .int .i64 0]) ?_ 2 _ rfl; (with_reducible repeat (first | refine blk_drewN ?_ _ | refine blk_drew ?_ | refine blk_alloc ?_ _)); refine blk_put (cs := #[.int .i64 ((rd_T37 l0_1 (rd t903 x9_3)).f0), .int .i64 0, .int .i64 0, .int .i64 0]) ?_ 1 _ rfl; (with_reducible repeat (first | refine blk_drewN ?_ _ | refine blk_drew ?_ | refine blk_alloc ?_ _)); refine blk_put (cs := #[.int .i64 0, .int .i64 0, .int .i64 0, .int .i64 0]) ?_ 0 _ rfl; (with_reducible repeat (first | refine blk_drewN ?_ _ | refine blk_drew ?_ | refine blk_alloc ?_ _)); exact BK917.out⟩
                     have n5_ : Aside0 (Below w.heap.size w ((((w97.setCell ⟨gb917, 0, none⟩ (.int .i64 ((rd_T37 l0_1 (rd t903 x9_3)).f0))).setCell ⟨gb917, 1, none⟩ (.int .i64 ((rd_T37 l0_1 (rd t903 x9_3)).f1))).setCell ⟨gb917, 2, none⟩ (.int .i64 ((rd_T37 l0_1 (rd t903 x9_3)).f2))).setCell ⟨gb917, 3, none⟩ (.int .i64 ((rd_T37 l0_1 (rd t903 x9_3)).f3)))) := ⟨by repeat (first | (with_reducible first | exact HB.out | apply below_alloc | apply pw_below_drewN | apply below_drew1 | refine below_set ?_ GE891.out | refine below_set ?_ GE917.out) | exact HB.out)⟩
                     (try clear HO_5)
                     (try clear HO_7)
                     (try clear HO_10)
                     (try clear BK891)
                     (try clear BK917)
                     (try clear HB)
                     generalize ((((w97.setCell ⟨gb917, 0, none⟩ (.int .i64 ((rd_T37 l0_1 (rd t903 x9_3)).f0))).setCell ⟨gb917, 1, none⟩ (.int .i64 ((rd_T37 l0_1 (rd t903 x9_3)).f1))).setCell ⟨gb917, 2, none⟩ (.int .i64 ((rd_T37 l0_1 (rd t903 x9_3)).f2))).setCell ⟨gb917, 3, none⟩ (.int .i64 ((rd_T37 l0_1 (rd t903 x9_3)).f3))) = w102 at n0_ n1_ n2_ n3_ n4_ n5_ ⊢
                     have HO_5 := n0_
                     have HO_7 := n1_
                     have HO_10 := n2_
                     have BK891 := n3_
                     have BK917 := n4_
                     have HB := n5_
                     clear n0_ n1_ n2_ n3_ n4_ n5_
                     have n0_ := Aside0.mk (Kd.R_drew HO_5.out)
                     have n1_ := Aside0.mk (Kd.R_drew HO_7.out)
                     have n2_ := Aside0.mk (Kd.R_drew HO_10.out)
                     have n3_ := Aside0.mk (blk_drew BK891.out)
                     have n4_ := Aside0.mk (blk_drew BK917.out)
                     have n5_ := Aside0.mk (below_drew1 HB.out)
                     clear HO_5; clear HO_7; clear HO_10; clear BK891; clear BK917; clear HB
                     have HO_5 := n0_
                     have HO_7 := n1_
                     have HO_10 := n2_
                     have BK891 := n3_
                     have BK917 := n4_
                     have HB := n5_
                     clear n0_ n1_ n2_ n3_ n4_ n5_
                     obtain ⟨Ao104, co104, eo104⟩ := Kd.R_slice HO_10.out
                     (first | subst eo104 | (injection eo104 with f1_ f2_ f3_; have f4_ := f1_.symm; have f5_ := f3_.symm; clear f1_ f2_ f3_; subst f4_; subst f5_))
                     refine start_ (n := 14) (S := fun w' => w'.cell? ⟨gb891, 0, none⟩ = some (.int .i64 a0_0) ∧ w'.cell? ⟨gb891, 1, none⟩ = some (.slice (some ad916) l0_1.length c0_1) ∧ w'.cell? ⟨gb917, 0, none⟩ = some (.int .i64 ((rd_T37 l0_1 (rd t903 x9_3)).f0)) ∧ w'.cell? ⟨gb917, 1, none⟩ = some (.int .i64 ((rd_T37 l0_1 (rd t903 x9_3)).f1)) ∧ w'.cell? ⟨gb917, 2, none⟩ = some (.int .i64 ((rd_T37 l0_1 (rd t903 x9_3)).f2)) ∧ w'.cell? ⟨gb917, 3, none⟩ = some (.int .i64 ((rd_T37 l0_1 (rd t903 x9_3)).f3))) (ds := []) #[false, false, false, false, false, false, false, false, false, false, false, false, false, false] (by kernel_rfl) rfl rfl ⟨(blk_cell BK891.out 0).trans rfl, (blk_cell BK891.out 1).trans rfl, (blk_cell BK917.out 0).trans rfl, (blk_cell BK917.out 1).trans rfl, (blk_cell BK917.out 2).trans rfl, (blk_cell BK917.out 3).trans rfl⟩ (fun hHeld => ?_); refine with_tabW pylonlaw16_TreeGreedy.tab19 pylonlaw16_TreeGreedy.bits19 (fun HT_ HW_ => ?_)
                     generalize w102.drew = w103 at HO_5 HO_7 HO_10 BK891 BK917 HB hHeld ⊢
                     refine pure_ (i := 2) (N := some 102) (v := ?_) (a' := ?_) #[false, false, true, false, false, false, false, false, false, false, false, false, false, false] rfl rfl (any_of HT_.out (by kernel_rfl)) (fun _ _ _ h => h) (Or.inl ⟨by rfl, ?_⟩) ?_ ?_
                     rotate_left; (intro w'; go_simp; with_reducible rfl); rotate_left; (simp only [Act.put, List.setIfInBounds_toArray, List.set_cons_zero, List.set_cons_succ, i64_w, i32_w]; rfl)
                     refine pure_ (i := 4) (N := some 104) (v := ?_) (a' := ?_) #[false, false, true, false, true, false, false, false, false, false, false, false, false, false] rfl rfl (any_of HT_.out (by kernel_rfl)) (fun _ _ _ h => h) (Or.inl ⟨by rfl, ?_⟩) ?_ ?_
                     rotate_left; (intro w'; go_simp; with_reducible rfl); rotate_left; (simp only [Act.put, List.setIfInBounds_toArray, List.set_cons_zero, List.set_cons_succ, i64_w, i32_w]; rfl)
                     refine pure_ (i := 6) (N := some 106) (v := ?_) (a' := ?_) #[false, false, true, false, true, false, true, false, false, false, false, false, false, false] rfl rfl (any_of HT_.out (by kernel_rfl)) (fun _ _ _ h => h) (Or.inl ⟨by rfl, ?_⟩) ?_ ?_
                     rotate_left; (intro w'; go_simp; with_reducible rfl); rotate_left; (simp only [Act.put, List.setIfInBounds_toArray, List.set_cons_zero, List.set_cons_succ, i64_w, i32_w]; rfl)
                     refine take_ (i := 0) (N := some 100) (v := ?_) (a' := ?_) #[true, false, true, false, true, false, true, false, false, false, false, false, false, false] rfl rfl (take_ofW HT_.out HW_.out (by kernel_rfl)) (fun _ _ _ h => h) (Or.inl ⟨by rfl, ?_⟩) hHeld ?_ ?_
                     rotate_left; (rintro w' ⟨s0, s1, s2, s3, s4, s5⟩; go_simp; with_reducible rfl); rotate_left; (simp only [Act.put, List.setIfInBounds_toArray, List.set_cons_zero, List.set_cons_succ, i64_w, i32_w]; rfl)
                     refine take_ (i := 1) (N := some 101) (v := ?_) (a' := ?_) #[true, true, true, false, true, false, true, false, false, false, false, false, false, false] rfl rfl (take_ofW HT_.out HW_.out (by kernel_rfl)) (fun _ _ _ h => h) (Or.inl ⟨by rfl, ?_⟩) hHeld ?_ ?_
                     rotate_left; (rintro w' ⟨s0, s1, s2, s3, s4, s5⟩; go_simp; with_reducible rfl); rotate_left; (simp only [Act.put, List.setIfInBounds_toArray, List.set_cons_zero, List.set_cons_succ, i64_w, i32_w]; rfl)
                     refine take_ (i := 5) (N := some 105) (v := ?_) (a' := ?_) #[true, true, true, false, true, true, true, false, false, false, false, false, false, false] rfl rfl (take_ofW HT_.out HW_.out (by kernel_rfl)) (fun _ _ _ h => h) (Or.inl ⟨by rfl, ?_⟩) hHeld ?_ ?_
                     rotate_left; (rintro w' ⟨s0, s1, s2, s3, s4, s5⟩; go_simp; with_reducible rfl); rotate_left; (simp only [Act.put, List.setIfInBounds_toArray, List.set_cons_zero, List.set_cons_succ, i64_w, i32_w]; rfl)
                     refine take_ (i := 7) (N := some 107) (v := ?_) (a' := ?_) #[true, true, true, false, true, true, true, true, false, false, false, false, false, false] rfl rfl (take_ofW HT_.out HW_.out (by kernel_rfl)) (fun _ _ _ h => h) (Or.inl ⟨by rfl, ?_⟩) hHeld ?_ ?_
                     rotate_left; (rintro w' ⟨s0, s1, s2, s3, s4, s5⟩; go_simp; with_reducible rfl); rotate_left; (simp only [Act.put, List.setIfInBounds_toArray, List.set_cons_zero, List.set_cons_succ, i64_w, i32_w]; rfl)
                     refine one_ (i := 3) (N := some 103) #[true, true, true, true, true, true, true, true, false, false, false, false, false, false] rfl rfl (one_of HT_.out (by kernel_rfl)) (by decide) (fun K hK => ?_)
                     refine goes_ Try.func64 (by kernel_rfl) rfl #[.agg #[.int .i64 a0_0, .slice (some ad916) l0_1.length c0_1], .slice Ao104 x10_5.length co104] (by rfl) rfl rfl (by (try simp only [List.map_toArray, List.map_cons, List.map_nil]); first | done | rfl | (simp only [List.length_drop, List.length_take]; rfl)) ?_
                     with_reducible refine (pylonlaw16_rest.calls k5 a0_0 _ _ l0_1 _ _ x10_5 t918 _ ?side1 ?side2 ?side3 ?side4 A64.out).mono ?_
                     (case side1 => repeat (first | exact (Kd.C_below HR0_1.out HB.out) | (with_reducible refine Kd.C_alloc ?_ _) | (with_reducible refine Kd.C_drewN ?_ _) | (with_reducible refine Kd.C_drew ?_)))
                     (case side2 => exact HC0_1.out)
                     (case side3 => repeat (first | exact (Kd.R_reads' HO_10.out).2.2 | (with_reducible refine Kd.C_alloc ?_ _) | (with_reducible refine Kd.C_drewN ?_ _) | (with_reducible refine Kd.C_drew ?_)))
                     (case side4 => exact (Kd.R_reads' HO_10.out).2.1)
                     rintro e w105 ⟨v919, rfl, ho0, hb⟩
                     refine ⟨_, rfl, ?_⟩
                     have n0_ := Aside0.mk (Kd.R_elder' (by (with_reducible repeat (first | apply Kd.R_alloc | apply Kd.R_drewN | apply Kd.R_drew)); exact HO_5.out) (Kd.R_base ho0) hb)
                     have n1_ := Aside0.mk (Kd.R_elder' (by (with_reducible repeat (first | apply Kd.R_alloc | apply Kd.R_drewN | apply Kd.R_drew)); exact HO_7.out) (Kd.R_base ho0) hb)
                     have n2_ := Aside0.mk (Kd.R_elder' (by (with_reducible repeat (first | apply Kd.R_alloc | apply Kd.R_drewN | apply Kd.R_drew)); exact HO_10.out) (Kd.R_base ho0) hb)
                     have n3_ := Aside0.mk (Kd.R_lower (Kd.R_new' (Kd.R_new' (Kd.R_new' (Kd.R_newM (M := fun k_ => (w.heap.size ≤ k_)) ho0 (below_size (by repeat (first | (with_reducible first | exact HB.out | apply below_alloc | apply pw_below_drewN | apply below_drew1 | refine below_set ?_ GE891.out | refine below_set ?_ GE917.out) | exact HB.out))) (fun k_ h_ => h_)) (Kd.R_lt (by (with_reducible repeat (first | apply Kd.R_alloc | apply Kd.R_drewN | apply Kd.R_drew)); exact HO_5.out))) (Kd.R_lt (by (with_reducible repeat (first | apply Kd.R_alloc | apply Kd.R_drewN | apply Kd.R_drew)); exact HO_7.out))) (Kd.R_lt (by (with_reducible repeat (first | apply Kd.R_alloc | apply Kd.R_drewN | apply Kd.R_drew)); exact HO_10.out))) (below_size (by repeat (first | (with_reducible first | exact HB.out | apply below_alloc | apply pw_below_drewN | apply below_drew1 | refine below_set ?_ GE891.out | refine below_set ?_ GE917.out) | exact HB.out))))
                     have n4_ := Aside0.mk (blk_below (g := gb891) (o := .cells #[.int .i64 a0_0, .slice (some ad916) l0_1.length c0_1] 24 (0, 0)) (by (with_reducible repeat (first | refine blk_drewN ?_ _ | refine blk_drew ?_ | refine blk_alloc ?_ _)); exact BK891.out) hb)
                     have n5_ := Aside0.mk (blk_below (g := gb917) (o := .cells #[.int .i64 ((rd_T37 l0_1 (rd t903 x9_3)).f0), .int .i64 ((rd_T37 l0_1 (rd t903 x9_3)).f1), .int .i64 ((rd_T37 l0_1 (rd t903 x9_3)).f2), .int .i64 ((rd_T37 l0_1 (rd t903 x9_3)).f3)] 37 (0, 0)) (by (with_reducible repeat (first | refine blk_drewN ?_ _ | refine blk_drew ?_ | refine blk_alloc ?_ _)); exact BK917.out) hb)
                     have n6_ := Aside0.mk (below_step (by repeat (first | (with_reducible first | exact HB.out | apply below_alloc | apply pw_below_drewN | apply below_drew1 | refine below_set ?_ GE891.out | refine below_set ?_ GE917.out) | exact HB.out)) hb)
                     clear HO_5; clear HO_7; clear HO_10; clear BK891; clear BK917; clear HB
                     have HO_5 := n0_
                     have HO_7 := n1_
                     have HO_10 := n2_
                     have HO920 := n3_
                     have BK891 := n4_
                     have BK917 := n5_
                     have HB := n6_
                     clear n0_ n1_ n2_ n3_ n4_ n5_ n6_
                     (try clear hb)
                     (try clear hb2)
                     (try clear hk)
                     (try clear hi)
                     (try clear ho0)
                     obtain ⟨Ao106, co106, eo106⟩ := Kd.R_slice HO920.out
                     (first | subst eo106 | (injection eo106 with f1_ f2_ f3_; have f4_ := f1_.symm; have f5_ := f3_.symm; clear f1_ f2_ f3_; subst f4_; subst f5_))
                     refine hK.out _ _ ⟨(blk_cell BK891.out 0).trans rfl, (blk_cell BK891.out 1).trans rfl, (blk_cell BK917.out 0).trans rfl, (blk_cell BK917.out 1).trans rfl, (blk_cell BK917.out 2).trans rfl, (blk_cell BK917.out 3).trans rfl⟩ (fun hHeld => ?_)
                     clear hK K
                     refine norm_ (a' := ?_) ?_ ?_
                     rotate_left
                     ·show Act.put _ (some 103) _ = _
                      simp only [Act.put, List.setIfInBounds_toArray, List.set_cons_zero, List.set_cons_succ, i64_w, i32_w]
                      rfl
                     refine one_ (i := 8) (N := some 108) #[true, true, true, true, true, true, true, true, true, false, false, false, false, false] rfl rfl (one_of HT_.out (by kernel_rfl)) (by decide) (fun K hK => ?_)
                     refine goes_ Try.func33 (by kernel_rfl) rfl #[.agg #[.int .i64 a0_0, .slice (some ad916) l0_1.length c0_1], .slice Ao106 t918.length co106, .int .i64 ((rd_T37 l0_1 (rd t903 x9_3)).f0), .int .i64 ((rd_T37 l0_1 (rd t903 x9_3)).f1)] (by rfl) rfl rfl (by (try simp only [List.map_toArray, List.map_cons, List.map_nil]); first | done | rfl | (simp only [List.length_drop, List.length_take]; rfl)) ?_
                     with_reducible refine (island_Connected.calls a0_0 _ _ l0_1 _ _ t918 ((rd_T37 l0_1 (rd t903 x9_3)).f0) ((rd_T37 l0_1 (rd t903 x9_3)).f1) t921 t922 _ ?side1 ?side2 ?side3 ?side4 A65.out).mono ?_
                     (case side1 => repeat (first | exact (Kd.C_below HR0_1.out HB.out) | (with_reducible refine Kd.C_alloc ?_ _) | (with_reducible refine Kd.C_drewN ?_ _) | (with_reducible refine Kd.C_drew ?_)))
                     (case side2 => exact HC0_1.out)
                     (case side3 => repeat (first | exact (Kd.R_reads' HO920.out).2.2 | (with_reducible refine Kd.C_alloc ?_ _) | (with_reducible refine Kd.C_drewN ?_ _) | (with_reducible refine Kd.C_drew ?_)))
                     (case side4 => exact (Kd.R_reads' HO920.out).2.1)
                     rintro e w107 ⟨rfl, hb⟩
                     refine ⟨_, rfl, ?_⟩
                     have n0_ := Aside0.mk (Kd.R_below (by (with_reducible repeat (first | apply Kd.R_alloc | apply Kd.R_drewN | apply Kd.R_drew)); exact HO_5.out) hb)
                     have n1_ := Aside0.mk (Kd.R_below (by (with_reducible repeat (first | apply Kd.R_alloc | apply Kd.R_drewN | apply Kd.R_drew)); exact HO_7.out) hb)
                     have n2_ := Aside0.mk (Kd.R_below (by (with_reducible repeat (first | apply Kd.R_alloc | apply Kd.R_drewN | apply Kd.R_drew)); exact HO_10.out) hb)
                     have n3_ := Aside0.mk (Kd.R_below (by (with_reducible repeat (first | apply Kd.R_alloc | apply Kd.R_drewN | apply Kd.R_drew)); exact HO920.out) hb)
                     have n4_ := Aside0.mk (blk_below (g := gb891) (o := .cells #[.int .i64 a0_0, .slice (some ad916) l0_1.length c0_1] 24 (0, 0)) (by (with_reducible repeat (first | refine blk_drewN ?_ _ | refine blk_drew ?_ | refine blk_alloc ?_ _)); exact BK891.out) hb)
                     have n5_ := Aside0.mk (blk_below (g := gb917) (o := .cells #[.int .i64 ((rd_T37 l0_1 (rd t903 x9_3)).f0), .int .i64 ((rd_T37 l0_1 (rd t903 x9_3)).f1), .int .i64 ((rd_T37 l0_1 (rd t903 x9_3)).f2), .int .i64 ((rd_T37 l0_1 (rd t903 x9_3)).f3)] 37 (0, 0)) (by (with_reducible repeat (first | refine blk_drewN ?_ _ | refine blk_drew ?_ | refine blk_alloc ?_ _)); exact BK917.out) hb)
                     have n6_ := Aside0.mk (below_step (by repeat (first | (with_reducible first | exact HB.out | apply below_alloc | apply pw_below_drewN | apply below_drew1 | refine below_set ?_ GE891.out | refine below_set ?_ GE917.out) | exact HB.out)) hb)
                     clear HO_5; clear HO_7; clear HO_10; clear HO920; clear BK891; clear BK917; clear HB
                     have HO_5 := n0_
                     have HO_7 := n1_
                     have HO_10 := n2_
                     have HO920 := n3_
                     have BK891 := n4_
                     have BK917 := n5_
                     have HB := n6_
                     clear n0_ n1_ n2_ n3_ n4_ n5_ n6_
                     (try clear hb)
                     (try clear hb2)
                     (try clear hk)
                     (try clear hi)
                     refine hK.out _ _ ⟨(blk_cell BK891.out 0).trans rfl, (blk_cell BK891.out 1).trans rfl, (blk_cell BK917.out 0).trans rfl, (blk_cell BK917.out 1).trans rfl, (blk_cell BK917.out 2).trans rfl, (blk_cell BK917.out 3).trans rfl⟩ (fun hHeld => ?_)
                     clear hK K
                     refine norm_ (a' := ?_) ?_ ?_
                     rotate_left
                     ·show Act.put _ (some 108) _ = _
                      simp only [Act.put, List.setIfInBounds_toArray, List.set_cons_zero, List.set_cons_succ, i64_w, i32_w]
                      rfl
                     refine pure_ (i := 9) (N := some 99) (v := ?_) (a' := ?_) #[true, true, true, true, true, true, true, true, true, true, false, false, false, false] rfl rfl (any_of HT_.out (by kernel_rfl)) (fun _ _ _ h => h) (Or.inl ⟨by rfl, ?_⟩) ?_ ?_
                     rotate_left; (intro w'; go_simp; with_reducible rfl); rotate_left; (simp only [Act.put, List.setIfInBounds_toArray, List.set_cons_zero, List.set_cons_succ, i64_w, i32_w]; rfl)
                     refine pure_ (i := 10) (N := some 109) (v := ?_) (a' := ?_) #[true, true, true, true, true, true, true, true, true, true, true, false, false, false] rfl rfl (any_of HT_.out (by kernel_rfl)) (fun _ _ _ h => h) (Or.inl ⟨by rfl, ?_⟩) ?_ ?_
                     rotate_left; (intro w'; go_simp; with_reducible rfl); rotate_left; (simp only [Act.put, List.setIfInBounds_toArray, List.set_cons_zero, List.set_cons_succ, i64_w, i32_w]; rfl)
                     refine pure_ (i := 11) (N := some 110) (v := ?_) (a' := ?_) #[true, true, true, true, true, true, true, true, true, true, true, true, false, false] rfl rfl (any_of HT_.out (by kernel_rfl)) (fun _ _ _ h => h) (Or.inl ⟨by rfl, ?_⟩) ?_ ?_
                     rotate_left; (intro w'; go_simp; with_reducible rfl); rotate_left; (simp only [Act.put, List.setIfInBounds_toArray, List.set_cons_zero, List.set_cons_succ, i64_w, i32_w]; rfl)
                     refine pure_ (i := 12) (N := some 13) (v := ?_) (a' := ?_) #[true, true, true, true, true, true, true, true, true, true, true, true, true, false] rfl rfl (any_of HT_.out (by kernel_rfl)) (fun _ _ _ h => h) (Or.inl ⟨by rfl, ?_⟩) ?_ ?_
                     rotate_left; (intro w'; go_simp; with_reducible rfl); rotate_left; (simp only [Act.put, List.setIfInBounds_toArray, List.set_cons_zero, List.set_cons_succ, i64_w, i32_w]; rfl)
                     refine pure_ (i := 13) (N := some 14) (v := ?_) (a' := ?_) #[true, true, true, true, true, true, true, true, true, true, true, true, true, true] rfl rfl (any_of HT_.out (by kernel_rfl)) (fun _ _ _ h => h) (Or.inl ⟨by rfl, ?_⟩) ?_ ?_
                     rotate_left; (intro w'; go_simp; with_reducible rfl); rotate_left; (simp only [Act.put, List.setIfInBounds_toArray, List.set_cons_zero, List.set_cons_succ, i64_w, i32_w]; rfl)
                     refine done_ (done_of HT_.out (by kernel_rfl)) ?_
                     try go_wp2
                     go_ret
                     exact ⟨by first | rfl | (simp [errW_none, errW_some] <;> rfl) | (simp [*, errW_none, errW_some] <;> rfl), by repeat (first | (with_reducible first | exact HB.out | apply below_alloc | apply pw_below_drewN | apply below_drew1 | refine below_set ?_ GE891.out | refine below_set ?_ GE917.out) | exact HB.out)⟩
                   ·rw [if_neg c63] at H
                    exact absurd H (by simp)
                  ·rw [if_neg c62] at H
                   exact absurd H (by simp)
                 ·rw [if_neg c61] at H
                  exact absurd H (by simp)
                ·rw [if_neg c60] at H
                 exact absurd H (by simp)
         ·rw [if_neg c41] at H
          have c41b0 : decide (x9_3 < (t903.length : Int)) = false := decide_eq_false c41
          clear c41
          obtain rfl := Option.some.inj H
          obtain ⟨Ao108, co108, eo108⟩ := Kd.R_slice HO_7.out
          subst eo108
          go_wp2
          go_ret
          exact ⟨by first | rfl | (simp [errW_none, errW_some] <;> rfl) | (simp [*, errW_none, errW_some] <;> rfl), by repeat (first | (with_reducible first | exact HB.out | apply below_alloc | apply pw_below_drewN | apply below_drew1 | refine below_set ?_ GE891.out) | exact HB.out)⟩

end Go.Proofs.Ytdpgdelimffjpaa.P
